/-
  Texts that lean on one another, laid in one file. No condition.
-/
import Derived.Test.YtaifemkokfoadaaGreatDoorGSB1
import Derived.Shelf.Strings.Builder1
import Derived.Shelf.Strings.Trim
import Derived.Shelf.Small.Utf8
import Derived.Shelf.Small.Bits
import Derived.Shelf.Small.Strs
import Derived.Shelf.Strings.BuilderF
import Derived.Shelf.Strings.BuilderK
import Derived.Shelf.Utf8.RuneCount
import Derived.Shelf.Strconv.Atoi
import Derived.Shelf.Strconv.Itoa0
import Derived.Shelf.Strconv.Itoa1
import Derived.Shelf.LaysM
import Derived.Shelf.Strconv.Itoa2
import Derived.Shelf.Strconv.Itoa3
import Derived.Shelf.Strconv.AtoiErrFast
import Derived.Shelf.Strconv.ParseIntEmpty
import Derived.Shelf.Strconv.AtoiFail
import Derived.Shelf.Strconv.Clone
import Derived.Shelf.Strconv.SyntaxError
import Derived.Shelf.LaysC
import Derived.Shelf.Strconv.ToError
import Derived.Shelf.Strconv.AtoiErr
import Derived.Shelf.Strconv.ErrVar
import Derived.Shelf.Strconv.Lower
import Derived.Shelf.Strconv.ParseUint10
import Derived.Shelf.Strconv.ParseUint10Empty
import Derived.Shelf.Strconv.ParseUint10Any
import Derived.Shelf.Strconv.ParseInt10
import Derived.Shelf.Strconv.AtoiLong
import Derived.Shelf.Strconv.AtoiInnerAll
import Derived.Shelf.Strconv.RangeError
import Derived.Shelf.Strconv.ToErrorRange
import Derived.Shelf.Strconv.AtoiAll
import Derived.Shelf.Strconv.ErrVarAll
import Derived.Shelf.Strconv.ParseUintEmpty
import Derived.Shelf.Strconv.ParseUint10b64
import Derived.Shelf.Strconv.ParseUint10b32
import Derived.Shelf.Strconv.ParseUint10b16
import Derived.Shelf.Strconv.ParseUint10b8
import Derived.Shelf.Strconv.ParseUint10At
import Derived.Shelf.Strconv.ParseInt10At64
import Derived.Shelf.Strconv.ParseInt10At32
import Derived.Shelf.Strconv.ParseInt10At16
import Derived.Shelf.Strconv.ParseInt10At8
import Derived.Shelf.Strconv.ParseInt10All
import Derived.Shelf.Strings.Search1
import Derived.Shelf.Strings.Search2
import Derived.Shelf.Strings.Search3
import Derived.Shelf.Strings.Count
import Derived.Shelf.Strings.Shaped
import Derived.Shelf.GgClosure.StringsIndexFunc
import Derived.Ground.GgwProg
import Derived.Shelf.GgClosure.StringsIndexFuncTop
import Derived.Shelf.GgClosure.StringsRunes
import Derived.Shelf.Strings.Prefix
import Derived.Shelf.Strings.Split
import Derived.Shelf.Strings.Fields
import Derived.Shelf.Strings.SplitShaped
import Derived.Shelf.Unicode.Latin
import Derived.Shelf.Unicode.Decode
import Derived.Shelf.Strings.Runes
import Derived.Shelf.Strings.RuneCount
import Derived.Shelf.Strings.AsciiSet
import Derived.Shelf.Strings.Explode
import Derived.Shelf.Unicode.DecodeSlow
import Derived.Shelf.Unicode.DecodeAny
import Derived.Shelf.Unicode.Is16White
import Derived.Shelf.Unicode.IsSpaceAny
import Derived.Shelf.Unicode.DecodeLast
import Derived.Shelf.Unicode.Is16WhiteD
import Derived.Shelf.Unicode.IsSpaceAnyD
import Derived.Shelf.Strings.FieldsAny
import Derived.Shelf.Strings.FieldsFuncAny
import Derived.Shelf.Unicode.Is16Any
import Derived.Shelf.Unicode.Is32Any
import Derived.Shelf.Unicode.ExclAny
import Derived.Shelf.Strings.FuncGrows
import Derived.Shelf.Strings.FieldsFuncGrows
import Derived.Shelf.Strings.BuilderCap
import Derived.Test.YtaifemkokfoadaaGreatDoorProg
import Derived.Shelf.SlicesQ.IndexFunc
import Derived.Shelf.SlicesQ.Equal
import Derived.Shelf.SlSortCmp.WholeK
import Derived.Ground.SlgfProg
import Derived.Ground.SlgqProg
import Derived.Ground.SlsfProg
import Derived.WalkKit
import Derived.WalkSmall
import Derived.Shelf.Strings.SlTrimAscii
import Derived.Laws.RangeAny
import Derived.Laws.RangeString
import Derived.WalkSpells
import Derived.WideLaws
import Derived.Deep.QuietTactic
import Derived.BigQuiet
import Derived.Outline
import Derived.Lib.Hide
import Derived.IntWalk
import Derived.StillTailTactics
import Derived.StillTactics
import Derived.Deep.RegionHeld3
import Derived.Sort.OwnSortedInts
namespace Go.Proofs.YtaifemkokfoadaaGreatDoor.PX
open Go.RowKit Go.Proofs.zx.zK Go.Proofs.zx.zU Go.Proofs.zx.zN
attribute [local go_sem] qF qG xC xD qY qW qH qI   -- for this text's walks alone
set_option linter.unusedVariables false
set_option linter.unusedSimpArgs false
mutual
def zJ.l0 : Nat → List Int → Int → ByteArray → Bool → Int → List (qJ) → Option (ByteArray × Bool × Int × (List (qw)) × (List (qh)) × (List (xq)))
 | 0, _, _, _, _, _, _ => none
 | k + 1, x0, x4, ZW, Za, Zb, uH => if x4 < 8 then ((yj.f x0 x4).bind fun UK => (if (Int.tmod UK 3) = 0 then (if x4 < 2 then ((yj.f x0 x4).bind fun Xb => (if uH.length < 5864062014805 then (zJ.l0 k x0 (wrap64 (x4 + 1)) ZW Za Zb (uH ++ [(⟨strOfNums (([(wrap64 (97 + x4)) % 256] : List Int)), Int.tmod Xb 3001⟩ : qJ)])) else (none))) else (zJ.l0 k x0 (wrap64 (x4 + 1)) ZW Za Zb uH)) else ((yj.f x0 x4).bind fun Xc => (if uH.length < 5864062014805 then (zJ.l0 k x0 (wrap64 (x4 + 1)) ZW Za Zb (uH ++ [(⟨strOfNums (([(wrap64 (97 + x4)) % 256] : List Int)), Int.tmod Xc 3001⟩ : qJ)])) else (none))))) else (zJ.l1 k x0 (uH.length : Int) 0 ZW Za Zb uH ([] : List (xK)) ([] : List (xY)))
def zJ.l1 : Nat → List Int → Int → Int → ByteArray → Bool → Int → List (qJ) → List (xK) → List (xY) → Option (ByteArray × Bool × Int × (List (qw)) × (List (qh)) × (List (xq)))
 | 0, _, _, _, _, _, _, _, _, _ => none
 | k + 1, x0, x5, x6, ZW, Za, Zb, uH, Qq, Qx => if x6 < x5 then (if 0 ≤ x6 then (if x6 < (uH.length : Int) then ((yj.f x0 (wrap64 (x6 + 8))).bind fun J5 => (if x5 = 0 then (none) else (if 0 ≤ (Int.tmod J5 x5) then (if (Int.tmod J5 x5) < (uH.length : Int) then ((yj.f x0 (wrap64 (x6 + 16))).bind fun wI => (if 0 ≤ (Int.tmod wI x5) then (if (Int.tmod wI x5) < (uH.length : Int) then ((yj.f x0 (wrap64 (x6 + 8))).bind fun YP => (if (Int.tmod YP 4) = 1 then (if Qq.length < 2932031007402 then (zJ.j2 k x0 x5 x6 ((zS uH x6).f0) ((zS uH (Int.tmod wI x5)).f0) ZW Za Zb uH (Qq ++ [(⟨(zS uH x6).f0, (zS uH (Int.tmod J5 x5)).f0, (zS uH (Int.tmod wI x5)).f0⟩ : xK)]) Qx) else (none)) else (zJ.j2 k x0 x5 x6 ((zS uH x6).f0) ((zS uH (Int.tmod wI x5)).f0) ZW Za Zb uH Qq Qx))) else (none)) else (none))) else (none)) else (none)))) else (none)) else (none)) else ((jM.f k ZW Za Zb uH Qq Qx).bind fun Pm => (some (Pm.1, Pm.2.1, Pm.2.2.1, Pm.2.2.2.1, Pm.2.2.2.2.1, Pm.2.2.2.2.2)))
def zJ.j2 : Nat → List Int → Int → Int → ByteArray → ByteArray → ByteArray → Bool → Int → List (qJ) → List (xK) → List (xY) → Option (ByteArray × Bool × Int × (List (qw)) × (List (qh)) × (List (xq)))
 | 0, _, _, _, _, _, _, _, _, _, _, _ => none
 | k + 1, x0, x5, x6, x7, x9, ZW, Za, Zb, uH, Qq, Qx => (yj.f x0 (wrap64 (x6 + 16))).bind fun Yr => (if (wrap64 ((Int.tmod Yr 1001) - 500)) = 0 then (zJ.l1 k x0 x5 (wrap64 (x6 + 1)) ZW Za Zb uH Qq Qx) else ((yj.f x0 (wrap64 (x6 + 24))).bind fun VG => (if (Int.tmod VG 2) = 0 then (if Qx.length < 3518437208883 then (zJ.l1 k x0 x5 (wrap64 (x6 + 1)) ZW Za Zb uH Qq (Qx ++ [(⟨x7, x9, wrap64 ((Int.tmod Yr 1001) - 500)⟩ : xY)])) else (none)) else (zJ.l1 k x0 x5 (wrap64 (x6 + 1)) ZW Za Zb uH Qq Qx))))
end
def zJ.f (k : Nat) (l0 : List Int) : Option (ByteArray × Bool × Int × (List (qw)) × (List (qh)) × (List (xq))) := (yj.f l0 0).bind fun xM => (zJ.l0 k l0 0 (⟨#[71]⟩ : ByteArray) ((Int.tmod xM 2) == 1) 200 ([] : List (qJ)))
def zJ.T7 : Bool × List (List Nat × List Nat) := (true, [([], []), ([0], [0]), ([], []), ([2], [2]), ([3], [3]), ([4], [4]), ([5], [5]), ([], []), ([], []), ([7, 8], [7, 8]), ([9], [9]), ([6, 10], [6, 10]), ([11], [11]), ([1, 12, 9], [1, 12]), ([0, 1, 2, 3, 4, 5, 6, 7, 8, 9, 10, 11, 12, 13], []), ([14, 13, 13, 0, 1, 2, 3, 4, 5, 6, 7, 8, 9, 10, 11, 12, 13], [13, 14])])
def zJ.B7 : List Nat := [0, 1, 0, 4, 12, 28, 60, 0, 0, 384, 896, 2044, 4092, 8191, 16383, 32767]
theorem zJ.zXQ : vB .any (opsOf Tryz.f24 7) = zJ.T7 := by kernel_rfl
theorem zJ.zyt : vU zJ.T7.2 zJ.B7 = true := by kernel_rfl
def zJ.T12 : Bool × List (List Nat × List Nat) := (true, [([], []), ([0], [0]), ([], []), ([1, 2], [1, 2]), ([3], [3]), ([4], [4]), ([], []), ([6], [6]), ([], []), ([], []), ([9], [9]), ([8, 10], [8, 10]), ([], []), ([11, 12], [11, 12]), ([7, 13], [7, 13]), ([14], [14]), ([15], [15]), ([], []), ([17], [17]), ([], []), ([], []), ([20], [20]), ([19, 21, 11], [19, 21]), ([], []), ([22, 23], [22, 23]), ([18, 24], [18, 24]), ([25], [25]), ([26], [26]), ([5, 22, 0, 1, 2, 3, 4, 5], [5]), ([16, 28, 0, 1, 2, 3, 4, 5, 6, 7, 8, 9, 10, 11, 12, 13, 14, 15, 16, 28], [16]), ([27, 29, 0, 1, 2, 3, 4, 5, 6, 7, 8, 9, 10, 11, 12, 13, 14, 15, 16, 17, 18, 19, 20, 21, 22, 23, 24, 25, 26, 27, 28, 29], [27])])
def zJ.B12 : List Nat := [0, 1, 0, 7, 15, 31, 0, 64, 0, 0, 512, 1792, 0, 7936, 16320, 32704, 65472, 0, 131072, 0, 0, 1048576, 3673856, 0, 16256768, 33427200, 66981632, 134090496, 7868223, 276430847, 1073741823]
theorem zJ.zVY : vB .any (opsOf Tryz.f24 12) = zJ.T12 := by kernel_rfl
theorem zJ.zXX : vU zJ.T12.2 zJ.B12 = true := by kernel_rfl
set_option maxHeartbeats 8000000 in
set_option maxRecDepth 100000 in
theorem zJ.calls (k : Nat) (A0 : Option Addr) (c0 : Nat) (l0 : List Int) (r1 : ByteArray) (r2 : Bool) (r3 : Int) (r4 : List (qw)) (r5 : List (qh)) (r6 : List (xq)) (w : World) (hr0 : Kd.C (Kd.int .i64) w A0 l0.length l0) (hc0 : l0.length ≤ c0) (h : zJ.f k l0 = some (r1, r2, r3, r4, r5, r6)) :
  Calls Tryz.prog 24 #[.slice A0 l0.length c0] w fun e w' => ∃ Vl Vm Vn : Value, e = .returned (.agg #[.string r1, .bool r2, .int .i64 r3, Vl, Vm, Vn]) ∧ Kd.R uy 31 w' w.heap.size (fun _ => True) Vl r4 ∧ Kd.R uU 86 w' w.heap.size (fun _ => True) Vm r5 ∧ Kd.R jy 76 w' w.heap.size (fun _ => True) Vn r6 ∧ Below w.heap.size w w' := by
 have bS := Tryz.underlying26
 have zXJ := Tryz.underlying44
 have zWp := Tryz.underlying81
 have zWr := Tryz.underlying83
 have zWs := Tryz.underlying84
 have kF := zy.mk hr0
 have YO := zy.mk hc0
 clear hr0 hc0
 have HB := zy.mk (Below.refl w.heap.size w)
 have H : ((yj.f l0 0).bind fun xM => (zJ.l0 k l0 0 (⟨#[71]⟩ : ByteArray) ((Int.tmod xM 2) == 1) 200 ([] : List (qJ)))) = some (r1, r2, r3, r4, r5, r6) := h
 clear h
 replace H := Option.bind_eq_some_iff.mp H
 obtain ⟨xM, A20, H⟩ := H
 replace H : (zJ.l0 k l0 0 (⟨#[71]⟩ : ByteArray) ((Int.tmod xM 2) == 1) 200 ([] : List (qJ))) = some (r1, r2, r3, r4, r5, r6) := H
 have A2 := zy.mk A20
 clear A20
 have H' := zy.mk H
 clear H
 go_enter Tryz.func24, Tryz.ntmps24
 go_wp2_with (first | ((with_reducible refine xI (N := 2) rfl ?_); refine xR ?hg (N := 2) ?hd (cs := #[.string (⟨#[]⟩ : ByteArray), .bool false, .int .i64 0, .slice none 0 0, .slice none 0 0, .slice none 0 0]) (t := 26) ?hr ?_; (case hd => rfl); (case hg => rfl); (case hr => first | (go_simp; done) | (go_simp; rfl)); intro vV hg w3 xS hb; have zn := zy.mk (yY (yX HB.out) hb); have zA := zy.mk (xS); have zH := zy.mk ((by rw [hg]; exact (zO (yX HB.out)) : w.heap.size ≤ vV)); have zP := zy.mk ((by rw [hg]; exact (zO (yX HB.out)) : w.heap.size ≤ vV)); clear HB; have HB := zn; have y9 := zA; have zhf := zH; have zVW := zP; clear zn zA zH zP; clear hb xS hg) | ((with_reducible refine xI (N := 3) rfl ?_); refine xR ?hg (N := 3) ?hd (cs := #[.string (⟨#[]⟩ : ByteArray), .bool false, .int .i64 0, .slice none 0 0, .slice none 0 0, .slice none 0 0]) (t := 44) ?hr ?_; (case hd => rfl); (case hg => rfl); (case hr => first | (go_simp; done) | (go_simp; rfl)); intro yB hg w4 xS hb; have zn := zy.mk (zf (g := vV) (o := .cells #[.string (⟨#[]⟩ : ByteArray), .bool false, .int .i64 0, .slice none 0 0, .slice none 0 0, .slice none 0 0] 26 (0, 0)) (qX y9.out) hb); have zA := zy.mk (yY (yX HB.out) hb); have zH := zy.mk (xS); have zP := zy.mk ((by rw [hg]; exact (zO (yX HB.out)) : w.heap.size ≤ yB)); have qj := zy.mk ((by rw [hg]; exact (zO (yX HB.out)) : w.heap.size ≤ yB)); have xw := zy.mk ((by rw [hg]; exact Nat.ne_of_lt (uS (g := vV) (o := .cells #[.string (⟨#[]⟩ : ByteArray), .bool false, .int .i64 0, .slice none 0 0, .slice none 0 0, .slice none 0 0] 26 (0, 0)) (qX y9.out)) : vV ≠ yB)); have xO := zy.mk ((by rw [hg]; exact Nat.ne_of_gt (uS (g := vV) (o := .cells #[.string (⟨#[]⟩ : ByteArray), .bool false, .int .i64 0, .slice none 0 0, .slice none 0 0, .slice none 0 0] 26 (0, 0)) (qX y9.out)) : yB ≠ vV)); clear y9; clear HB; have y9 := zn; have HB := zA; have zX := zH; have zhg := zP; have zVa := qj; have YR := xw; have YS := xO; clear zn zA zH zP qj xw xO; clear hb xS hg; have zii := YS.out; have zil := YR.out; have zXV : w4.cell? ⟨yB, 0, none⟩ = some (.string (⟨#[]⟩ : ByteArray)) := (zk zX.out 0).trans rfl; have zXK : w4.cell? ⟨yB, 1, none⟩ = some (.bool false) := (zk zX.out 1).trans rfl; have zXY : w4.cell? ⟨yB, 2, none⟩ = some (.int .i64 0) := (zk zX.out 2).trans rfl; have zXW : w4.cell? ⟨yB, 3, none⟩ = some (.slice none 0 0) := (zk zX.out 3).trans rfl; have zXa : w4.cell? ⟨yB, 4, none⟩ = some (.slice none 0 0) := (zk zX.out 4).trans rfl; have zXb : w4.cell? ⟨yB, 5, none⟩ = some (.slice none 0 0) := (zk zX.out 5).trans rfl; have zXc := zw zX.out 0; have zXd := zw zX.out 1; have zXe := zw zX.out 2; have zXf := zw zX.out 3; have zXg := zw zX.out 4; have zXh := zw zX.out 5) | ((with_reducible refine yI (f := 82) rfl ?_); refine je (some 13) Tryz.func82 #[.slice A0 l0.length c0, .int .i64 0] ?_; (with_reducible refine (yj.calls _ _ l0 0 xM _ ?qd ?qC A2.out).mono ?_); (case qd => exact Kd.zh kF.out (yX HB.out)); (case qC => exact YO.out); rintro e w' ⟨rfl, ⟨nd, rfl⟩⟩; refine ⟨_, rfl, ?_⟩))
 go_loopg [4] k (fun kq v4 w' => ∃ (vK : Int) (zQ : List (qJ)) (Xz : Value), v4 = .int .i64 vK ∧ zy (zJ.l0 kq l0 vK (⟨#[71]⟩ : ByteArray) ((Int.tmod xM 2) == 1) 200 zQ = some (r1, r2, r3, r4, r5, r6)) ∧ zy (kq ≤ k) ∧ zy (Kd.R jC 81 w' w.heap.size (fun _ => True) Xz zQ) ∧ zy (w'.heap[vV]? = some (.cells #[.string (⟨#[]⟩ : ByteArray), .bool false, .int .i64 0, (.slice none 0 0), (.slice none 0 0), (.slice none 0 0)] 26 (0, 0))) ∧ zy (w'.heap[yB]? = some (.cells #[.string (⟨#[71]⟩ : ByteArray), .bool ((Int.tmod xM 2) == 1), .int .i64 200, Xz, (.slice none 0 0), (.slice none 0 0)] 44 (0, 0))) ∧ zy (Below w.heap.size w w'))
 case atStart => exact ⟨(0), (([] : List (qJ))), (.slice none 0 0), (by first | rfl | (simp; done) | (simp [*]; done)), H', ⟨Nat.le_refl _⟩, ⟨by first | exact Kd.xE _ _ _ _ _ | exact Kd.jY _ _ _ _ _ | exact Kd.jW _ _ _ _ _ | exact Kd.jV _ _ _ _ _ | exact Kd.jK _ _ _ _ _⟩, ⟨bY y9.out⟩, ⟨by (with_reducible repeat (first | refine zC ?_ _ | refine zo ?_ | refine zV ?_ _)); refine zD (cs := #[.string (⟨#[71]⟩ : ByteArray), .bool false, .int .i64 200, .slice none 0 0, .slice none 0 0, .slice none 0 0]) ?_ 1 _ rfl; (with_reducible repeat (first | refine zC ?_ _ | refine zo ?_ | refine zV ?_ _)); refine zD (cs := #[.string (⟨#[71]⟩ : ByteArray), .bool false, .int .i64 200, .slice none 0 0, .slice none 0 0, .slice none 0 0]) ?_ 5 _ rfl; (with_reducible repeat (first | refine zC ?_ _ | refine zo ?_ | refine zV ?_ _)); refine zD (cs := #[.string (⟨#[71]⟩ : ByteArray), .bool false, .int .i64 200, .slice none 0 0, .slice none 0 0, .slice none 0 0]) ?_ 4 _ rfl; (with_reducible repeat (first | refine zC ?_ _ | refine zo ?_ | refine zV ?_ _)); refine zD (cs := #[.string (⟨#[71]⟩ : ByteArray), .bool false, .int .i64 200, .slice none 0 0, .slice none 0 0, .slice none 0 0]) ?_ 3 _ rfl; (with_reducible repeat (first | refine zC ?_ _ | refine zo ?_ | refine zV ?_ _)); refine zD (cs := #[.string (⟨#[71]⟩ : ByteArray), .bool false, .int .i64 0, .slice none 0 0, .slice none 0 0, .slice none 0 0]) ?_ 2 _ rfl; (with_reducible repeat (first | refine zC ?_ _ | refine zo ?_ | refine zV ?_ _)); refine zD (cs := #[.string (⟨#[71]⟩ : ByteArray), .bool false, .int .i64 0, .slice none 0 0, .slice none 0 0, .slice none 0 0]) ?_ 1 _ rfl; (with_reducible repeat (first | refine zC ?_ _ | refine zo ?_ | refine zV ?_ _)); refine zD (cs := #[.string (⟨#[]⟩ : ByteArray), .bool false, .int .i64 0, .slice none 0 0, .slice none 0 0, .slice none 0 0]) ?_ 0 _ rfl; (with_reducible repeat (first | refine zC ?_ _ | refine zo ?_ | refine zV ?_ _)); exact zX.out⟩, ⟨yX HB.out⟩⟩
 case round =>
  clear H'
  try clear c2
  try clear p2
  try clear c5
  try clear zXV
  try clear zXK
  try clear zXY
  try clear zXW
  try clear zXa
  try clear zXb
  try clear zXc
  try clear zXd
  try clear zXe
  try clear zXf
  try clear zXg
  try clear zXh
  obtain ⟨vK, zQ, Xz, rfl, HA, vT, zT, y9, zX, HB⟩ := hrel
  cases gk with
  | zero => exact absurd HA.out (by simp [zJ.l0])
  | succ k1 =>
   have H := HA.out
   clear HA
   simp only [zJ.l0] at H
   by_cases c7 : vK < 8
   ·rw [if_pos c7] at H
    have QN : decide (vK < 8) = true := decide_eq_true c7
    clear c7
    replace H := Option.bind_eq_some_iff.mp H
    obtain ⟨UK, A80, H⟩ := H
    replace H : (if (Int.tmod UK 3) = 0 then (if vK < 2 then ((yj.f l0 vK).bind fun Xb => (if zQ.length < 5864062014805 then (zJ.l0 k1 l0 (wrap64 (vK + 1)) (⟨#[71]⟩ : ByteArray) ((Int.tmod xM 2) == 1) 200 (zQ ++ [(⟨strOfNums (([(wrap64 (97 + vK)) % 256] : List Int)), Int.tmod Xb 3001⟩ : qJ)])) else (none))) else (zJ.l0 k1 l0 (wrap64 (vK + 1)) (⟨#[71]⟩ : ByteArray) ((Int.tmod xM 2) == 1) 200 zQ)) else ((yj.f l0 vK).bind fun Xc => (if zQ.length < 5864062014805 then (zJ.l0 k1 l0 (wrap64 (vK + 1)) (⟨#[71]⟩ : ByteArray) ((Int.tmod xM 2) == 1) 200 (zQ ++ [(⟨strOfNums (([(wrap64 (97 + vK)) % 256] : List Int)), Int.tmod Xc 3001⟩ : qJ)])) else (none)))) = some (r1, r2, r3, r4, r5, r6) := H
    have A8 := zy.mk A80
    clear A80
    by_cases c9 : (Int.tmod UK 3) = 0
    ·rw [if_pos c9] at H
     have WV : ((Int.tmod UK 3) == 0) = true := beq_iff_eq.mpr c9
     have zxW : ((Int.tmod UK 3) != 0) = false := bne_eq_false_iff_eq.mpr c9
     clear c9
     by_cases c10 : vK < 2
     ·rw [if_pos c10] at H
      have VU : decide (vK < 2) = true := decide_eq_true c10
      clear c10
      obtain ⟨J6, mQ⟩ : ∃ y_ : List Int, y_ = (([(wrap64 (97 + vK)) % 256] : List Int)) := ⟨_, rfl⟩
      replace H : ((yj.f l0 vK).bind fun Xb => (if zQ.length < 5864062014805 then (zJ.l0 k1 l0 (wrap64 (vK + 1)) (⟨#[71]⟩ : ByteArray) ((Int.tmod xM 2) == 1) 200 (zQ ++ [(⟨strOfNums J6, Int.tmod Xb 3001⟩ : qJ)])) else (none))) = some (r1, r2, r3, r4, r5, r6) := by first | (rw [mQ]; with_reducible exact H) | (have uN := (Option.bind_some _ _).symm.trans H; rw [mQ]; with_reducible exact uN) | (have uN := (Option.bind_some _ _).symm.trans H; with_reducible exact uN) | with_reducible exact H | (rw [mQ]; exact H) | exact H
      have iG := zy.mk mQ
      clear mQ
      replace H := Option.bind_eq_some_iff.mp H
      obtain ⟨Xb, lT, H⟩ := H
      replace H : (if zQ.length < 5864062014805 then (zJ.l0 k1 l0 (wrap64 (vK + 1)) (⟨#[71]⟩ : ByteArray) ((Int.tmod xM 2) == 1) 200 (zQ ++ [(⟨strOfNums J6, Int.tmod Xb 3001⟩ : qJ)])) else (none)) = some (r1, r2, r3, r4, r5, r6) := H
      have A11 := zy.mk lT
      clear lT
      by_cases c12 : zQ.length < 5864062014805
      ·rw [if_pos c12] at H
       have zVb := zy.mk c12
       clear c12
       obtain ⟨zxa, mX⟩ : ∃ y_ : List (qJ), y_ = (zQ ++ [(⟨strOfNums J6, Int.tmod Xb 3001⟩ : qJ)]) := ⟨_, rfl⟩
       replace H : (zJ.l0 k1 l0 (wrap64 (vK + 1)) (⟨#[71]⟩ : ByteArray) ((Int.tmod xM 2) == 1) 200 zxa) = some (r1, r2, r3, r4, r5, r6) := by first | (rw [mX]; with_reducible exact H) | (have uN := (Option.bind_some _ _).symm.trans H; rw [mX]; with_reducible exact uN) | (have uN := (Option.bind_some _ _).symm.trans H; with_reducible exact uN) | with_reducible exact H | (rw [mX]; exact H) | exact H
       have zVc := zy.mk mX
       clear mX
       have H' := zy.mk H
       clear H
       try go_wp2_with (first | ((with_reducible refine yI (f := 82) rfl ?_); refine je (some 23) Tryz.func82 #[.slice A0 l0.length c0, .int .i64 vK] ?_; (with_reducible refine (yj.calls _ _ l0 vK UK _ ?qd ?qC A8.out).mono ?_); (case qd => repeat (first | exact (Kd.zh kF.out HB.out) | (with_reducible refine Kd.yE ?_ _) | (with_reducible refine Kd.yF ?_ _) | (with_reducible refine Kd.y8 ?_))); (case qC => exact YO.out); rintro e w' ⟨rfl, ⟨nd, rfl⟩⟩; refine ⟨_, rfl, ?_⟩; (try (rw [VT wr]; generalize ZT : World.drewN wr _ = wr; have zn : zy (Kd.R jC 81 wr w.heap.size (fun _ => True) Xz zQ) := ⟨by rw [← ZT]; exact (yK zT.out)⟩; have zA : zy (wr.heap[vV]? = some (.cells #[.string (⟨#[]⟩ : ByteArray), .bool false, .int .i64 0, .slice none 0 0, .slice none 0 0, .slice none 0 0] 26 (0, 0))) := ⟨by rw [← ZT]; exact (qX y9.out)⟩; have zH : zy (wr.heap[yB]? = some (.cells #[.string (⟨#[71]⟩ : ByteArray), .bool ((Int.tmod xM 2) == 1), .int .i64 200, Xz, .slice none 0 0, .slice none 0 0] 44 (0, 0))) := ⟨by rw [← ZT]; exact (qX zX.out)⟩; have zP : zy (Below w.heap.size w wr) := ⟨by rw [← ZT]; exact (yX HB.out)⟩; clear zT y9 zX HB ZT; have zT := zn; have y9 := zA; have zX := zH; have HB := zP; clear zn zA zH zP)); obtain ⟨Qb, Qc, zky⟩ := Kd.yx zT.out; subst zky))
       have zn := zy.mk (Kd.yR zT.out)
       have zA := zy.mk (zo y9.out)
       have zH := zy.mk (zo zX.out)
       have zP := zy.mk (yP HB.out)
       clear zT y9 zX HB
       have zT := zn
       have y9 := zA
       have zX := zH
       have HB := zP
       clear zn zA zH zP
       refine jU (n := 16) (S := fun w' => w'.cell? ⟨yB, 0, none⟩ = some (.string (⟨#[71]⟩ : ByteArray)) ∧ w'.cell? ⟨yB, 1, none⟩ = some (.bool ((Int.tmod xM 2) == 1)) ∧ w'.cell? ⟨yB, 2, none⟩ = some (.int .i64 200) ∧ w'.cell? ⟨yB, 3, none⟩ = some (.slice Qb zQ.length Qc) ∧ w'.cell? ⟨yB, 4, none⟩ = some (.slice none 0 0) ∧ w'.cell? ⟨yB, 5, none⟩ = some (.slice none 0 0)) (ds := [15]) #[false, false, false, false, false, false, false, false, false, false, false, false, false, false, false, false] (by kernel_rfl) rfl rfl ⟨(zk zX.out 0).trans rfl, (zk zX.out 1).trans rfl, (zk zX.out 2).trans rfl, (zk zX.out 3).trans rfl, (zk zX.out 4).trans rfl, (zk zX.out 5).trans rfl⟩ (fun hHeld => ?_); refine jN zJ.zXQ zJ.zyt (fun zi vR => ?_)
       generalize wr.drew = mJ at zT y9 zX HB hHeld ⊢
       refine qz 0 (some 30) zi ?_
       refine qz 2 (some 32) zi ?_
       refine qz 3 (some 33) zi ?_
       refine qz 4 (some 34) zi ?_
       refine qz 7 (some 37) zi ?_
       refine qz 8 (some 38) zi ?_
       refine uG 1 (some 31) zi vR hHeld ?_
       refine zyn (σ := Value) 5 #[true, true, true, true, true, true, true, true, true, true, true, false, false, false, false, false] (fun s_ => [(35, s_), (36, .string (strOfNums J6)), (39, .int .i64 Xb), (40, .int .i64 (Int.tmod Xb 3001))]) (fun s_ w' => (w'.cell? ⟨yB, 0, none⟩ = some (.string (⟨#[71]⟩ : ByteArray)) ∧ w'.cell? ⟨yB, 1, none⟩ = some (.bool ((Int.tmod xM 2) == 1)) ∧ w'.cell? ⟨yB, 2, none⟩ = some (.int .i64 200) ∧ w'.cell? ⟨yB, 3, none⟩ = some (.slice Qb zQ.length Qc) ∧ w'.cell? ⟨yB, 4, none⟩ = some (.slice none 0 0) ∧ w'.cell? ⟨yB, 5, none⟩ = some (.slice none 0 0)) ∧ (Kd.R (Kd.int .u8) 5 w' w.heap.size (fun _ => True) s_ J6) ∧ (Kd.R jC 81 w' w.heap.size (fun _ => True) (.slice Qb zQ.length Qc) zQ) ∧ (w'.heap[vV]? = some (.cells #[.string (⟨#[]⟩ : ByteArray), .bool false, .int .i64 0, .slice none 0 0, .slice none 0 0, .slice none 0 0] 26 (0, 0))) ∧ (w'.heap[yB]? = some (.cells #[.string (⟨#[71]⟩ : ByteArray), .bool ((Int.tmod xM 2) == 1), .int .i64 200, .slice Qb zQ.length Qc, .slice none 0 0, .slice none 0 0] 44 (0, 0))) ∧ (Below w.heap.size w w')) ?_ ?_
       rotate_left
       ·intro J7
        refine zxy (i := 5) (j := 9) (Ni := some 35) (Nj := some 39) #[true, true, true, true, true, true, false, true, true, false, false, false, false, false, false, false] #[true, true, true, true, true, false, false, true, true, true, false, false, false, false, false, false] rfl rfl rfl rfl (gH zi.out (by kernel_rfl)) (by decide) (by decide) (fun K hK => ?_) (fun K hK => ?_)
        ·skip
         refine Kd.VR (Kd.int .u8) _ 5 ?hg (N := 35) ?hd (xs := ([(wrap64 (97 + vK)) % 256] : List Int)) (inner := [.int .u8 ((wrap64 (97 + vK)) % 256)]) (ok := fun _ => True) (pK := fun _ => True) ?hr ?hp (fun _ hk => hk) trivial (Below.refl _ _) (Nat.le_refl _) (by simp) ?_; (case hd => rfl); (case hg => rfl); (case hr => first | (go_simp; done) | (go_simp; rfl)); (case hp => exact (xA.one (show Kd.M (Kd.int .u8) _ _ _ ((wrap64 (97 + vK)) % 256) [.int .u8 ((wrap64 (97 + vK)) % 256)] from rfl) (xA.none _ _)))
         intro r9 QF UY hb UW YK
         clear UW YK
         (first | rw [← iG.out] at UY | (simp only [Int.reduceToNat] at UY; rw [← iG.out] at UY))
         have zn := zy.mk (Kd.zR (yK zT.out) hb)
         have zA := zy.mk (Kd.jk UY (zO (yX HB.out)))
         have zH := zy.mk (zf (g := vV) (o := .cells #[.string (⟨#[]⟩ : ByteArray), .bool false, .int .i64 0, .slice none 0 0, .slice none 0 0, .slice none 0 0] 26 (0, 0)) (qX y9.out) hb)
         have zP := zy.mk (zf (g := yB) (o := .cells #[.string (⟨#[71]⟩ : ByteArray), .bool ((Int.tmod xM 2) == 1), .int .i64 200, .slice Qb zQ.length Qc, .slice none 0 0, .slice none 0 0] 44 (0, 0)) (qX zX.out) hb)
         have qj := zy.mk (yY (yX HB.out) hb)
         clear zT y9 zX HB
         have zT := zn
         have Qd := zA
         have y9 := zH
         have zX := zP
         have HB := qj
         clear zn zA zH zP qj hb UY
         refine hK.out _ _ ⟨(zk zX.out 0).trans rfl, (zk zX.out 1).trans rfl, (zk zX.out 2).trans rfl, (zk zX.out 3).trans rfl, (zk zX.out 4).trans rfl, (zk zX.out 5).trans rfl⟩ (fun hHeld => ?_)
         clear hK K
         refine jO (some 35) ?_
         refine zxy (i := 6) (j := 9) (Ni := some 36) (Nj := some 39) #[true, true, true, true, true, true, true, true, true, false, false, false, false, false, false, false] #[true, true, true, true, true, true, false, true, true, true, false, false, false, false, false, false] rfl rfl rfl rfl (gH zi.out (by kernel_rfl)) (by decide) (by decide) (fun K hK => ?_) (fun K hK => ?_)
         ·skip
          have J8 := wS (P := Tryz.prog) Tryz.underlying66 Tryz.underlying5 Tryz.underlying9 (Kd.YZ Qd.out)
          refine QY ?_
          clear J8
          refine hK.out _ _ ⟨(zk zX.out 0).trans rfl, (zk zX.out 1).trans rfl, (zk zX.out 2).trans rfl, (zk zX.out 3).trans rfl, (zk zX.out 4).trans rfl, (zk zX.out 5).trans rfl⟩ (fun hHeld => ?_)
          clear hK K
          refine jO (some 36) ?_
          refine pO 9 (some 39) zi (fun K hK => ?_)
          refine QV Tryz.func82 (by kernel_rfl) rfl #[.slice A0 l0.length c0, .int .i64 vK] (by rfl) rfl rfl (by (try simp only [List.map_toArray, List.map_cons, List.map_nil]); first | done | rfl | (simp only [List.length_drop, List.length_take]; rfl)) ?_
          with_reducible refine (yj.calls _ _ l0 vK Xb _ ?qd ?qC A11.out).mono ?_
          (case qd => repeat (first | exact (Kd.zh kF.out HB.out) | (with_reducible refine Kd.yE ?_ _) | (with_reducible refine Kd.yF ?_ _) | (with_reducible refine Kd.y8 ?_)))
          (case qC => exact YO.out)
          rintro e w' ⟨rfl, ⟨nd, rfl⟩⟩
          refine ⟨_, rfl, ?_⟩
          refine hK.out _ _ ⟨(zk zX.out 0).trans rfl, (zk zX.out 1).trans rfl, (zk zX.out 2).trans rfl, (zk zX.out 3).trans rfl, (zk zX.out 4).trans rfl, (zk zX.out 5).trans rfl⟩ (fun hHeld => ?_)
          clear hK K
          refine jO (some 39) ?_
          refine qz 10 (some 40) zi ?_
          exact wF (by simp only [YI, Act.put, List.setIfInBounds_toArray, List.set_cons_zero, List.set_cons_succ]) (J7 (r9) _ ⟨hHeld, (yK Qd.out), (yK zT.out), (qX y9.out), (qX zX.out), (yX HB.out)⟩)
         ·skip
          refine QV Tryz.func82 (by kernel_rfl) rfl #[.slice A0 l0.length c0, .int .i64 vK] (by rfl) rfl rfl (by (try simp only [List.map_toArray, List.map_cons, List.map_nil]); first | done | rfl | (simp only [List.length_drop, List.length_take]; rfl)) ?_
          with_reducible refine (yj.calls _ _ l0 vK Xb _ ?qd ?qC A11.out).mono ?_
          (case qd => repeat (first | exact (Kd.zh kF.out HB.out) | (with_reducible refine Kd.yE ?_ _) | (with_reducible refine Kd.yF ?_ _) | (with_reducible refine Kd.y8 ?_)))
          (case qC => exact YO.out)
          rintro e w' ⟨rfl, ⟨nd, rfl⟩⟩
          refine ⟨_, rfl, ?_⟩
          refine hK.out _ _ ⟨(zk zX.out 0).trans rfl, (zk zX.out 1).trans rfl, (zk zX.out 2).trans rfl, (zk zX.out 3).trans rfl, (zk zX.out 4).trans rfl, (zk zX.out 5).trans rfl⟩ (fun hHeld => ?_)
          clear hK K
          refine jO (some 39) ?_
          refine qz 10 (some 40) zi ?_
          refine pO 6 (some 36) zi (fun K hK => ?_)
          have J8 := wS (P := Tryz.prog) Tryz.underlying66 Tryz.underlying5 Tryz.underlying9 (Kd.YZ (Kd.qp Qd.out nd))
          refine QY ?_
          clear J8
          refine hK.out _ _ ⟨(zk zX.out 0).trans rfl, (zk zX.out 1).trans rfl, (zk zX.out 2).trans rfl, (zk zX.out 3).trans rfl, (zk zX.out 4).trans rfl, (zk zX.out 5).trans rfl⟩ (fun hHeld => ?_)
          clear hK K
          refine jO (some 36) ?_
          exact wF (by simp only [YI, Act.put, List.setIfInBounds_toArray, List.set_cons_zero, List.set_cons_succ]) (J7 (r9) _ ⟨hHeld, (yK Qd.out), (yK zT.out), (qX y9.out), (qX zX.out), (yX HB.out)⟩)
        ·skip
         refine QV Tryz.func82 (by kernel_rfl) rfl #[.slice A0 l0.length c0, .int .i64 vK] (by rfl) rfl rfl (by (try simp only [List.map_toArray, List.map_cons, List.map_nil]); first | done | rfl | (simp only [List.length_drop, List.length_take]; rfl)) ?_
         with_reducible refine (yj.calls _ _ l0 vK Xb _ ?qd ?qC A11.out).mono ?_
         (case qd => repeat (first | exact (Kd.zh kF.out HB.out) | (with_reducible refine Kd.yE ?_ _) | (with_reducible refine Kd.yF ?_ _) | (with_reducible refine Kd.y8 ?_)))
         (case qC => exact YO.out)
         rintro e w' ⟨rfl, ⟨nd, rfl⟩⟩
         refine ⟨_, rfl, ?_⟩
         refine hK.out _ _ ⟨(zk zX.out 0).trans rfl, (zk zX.out 1).trans rfl, (zk zX.out 2).trans rfl, (zk zX.out 3).trans rfl, (zk zX.out 4).trans rfl, (zk zX.out 5).trans rfl⟩ (fun hHeld => ?_)
         clear hK K
         refine jO (some 39) ?_
         refine qz 10 (some 40) zi ?_
         refine pO 5 (some 35) zi (fun K hK => ?_)
         refine Kd.VR (Kd.int .u8) _ 5 ?hg (N := 35) ?hd (xs := ([(wrap64 (97 + vK)) % 256] : List Int)) (inner := [.int .u8 ((wrap64 (97 + vK)) % 256)]) (ok := fun _ => True) (pK := fun _ => True) ?hr ?hp (fun _ hk => hk) trivial (Below.refl _ _) (Nat.le_refl _) (by simp) ?_; (case hd => rfl); (case hg => rfl); (case hr => first | (go_simp; done) | (go_simp; rfl)); (case hp => exact (xA.one (show Kd.M (Kd.int .u8) _ _ _ ((wrap64 (97 + vK)) % 256) [.int .u8 ((wrap64 (97 + vK)) % 256)] from rfl) (xA.none _ _)))
         intro r9 QF UY hb UW YK
         clear UW YK
         (first | rw [← iG.out] at UY | (simp only [Int.reduceToNat] at UY; rw [← iG.out] at UY))
         have zn := zy.mk (Kd.zR (yK zT.out) hb)
         have zA := zy.mk (Kd.jk UY (zO (yX HB.out)))
         have zH := zy.mk (zf (g := vV) (o := .cells #[.string (⟨#[]⟩ : ByteArray), .bool false, .int .i64 0, .slice none 0 0, .slice none 0 0, .slice none 0 0] 26 (0, 0)) (qX y9.out) hb)
         have zP := zy.mk (zf (g := yB) (o := .cells #[.string (⟨#[71]⟩ : ByteArray), .bool ((Int.tmod xM 2) == 1), .int .i64 200, .slice Qb zQ.length Qc, .slice none 0 0, .slice none 0 0] 44 (0, 0)) (qX zX.out) hb)
         have qj := zy.mk (yY (yX HB.out) hb)
         clear zT y9 zX HB
         have zT := zn
         have Qd := zA
         have y9 := zH
         have zX := zP
         have HB := qj
         clear zn zA zH zP qj hb UY
         refine hK.out _ _ ⟨(zk zX.out 0).trans rfl, (zk zX.out 1).trans rfl, (zk zX.out 2).trans rfl, (zk zX.out 3).trans rfl, (zk zX.out 4).trans rfl, (zk zX.out 5).trans rfl⟩ (fun hHeld => ?_)
         clear hK K
         refine jO (some 35) ?_
         refine pO 6 (some 36) zi (fun K hK => ?_)
         have J8 := wS (P := Tryz.prog) Tryz.underlying66 Tryz.underlying5 Tryz.underlying9 (Kd.YZ Qd.out)
         refine QY ?_
         clear J8
         refine hK.out _ _ ⟨(zk zX.out 0).trans rfl, (zk zX.out 1).trans rfl, (zk zX.out 2).trans rfl, (zk zX.out 3).trans rfl, (zk zX.out 4).trans rfl, (zk zX.out 5).trans rfl⟩ (fun hHeld => ?_)
         clear hK K
         refine jO (some 36) ?_
         exact wF (by simp only [YI, Act.put, List.setIfInBounds_toArray, List.set_cons_zero, List.set_cons_succ]) (J7 (r9) _ ⟨hHeld, (yK Qd.out), (yK zT.out), (qX y9.out), (qX zX.out), (yX HB.out)⟩)
       rintro r9 Yj ⟨hS_, h0_, h1_, h2_, h3_, h4_⟩
       have zn : zy (Kd.R (Kd.int .u8) 5 Yj w.heap.size (fun _ => True) r9 J6) := ⟨h0_⟩
       have zA : zy (Kd.R jC 81 Yj w.heap.size (fun _ => True) (.slice Qb zQ.length Qc) zQ) := ⟨h1_⟩
       have zH : zy (Yj.heap[vV]? = some (.cells #[.string (⟨#[]⟩ : ByteArray), .bool false, .int .i64 0, .slice none 0 0, .slice none 0 0, .slice none 0 0] 26 (0, 0))) := ⟨h2_⟩
       have zP : zy (Yj.heap[yB]? = some (.cells #[.string (⟨#[71]⟩ : ByteArray), .bool ((Int.tmod xM 2) == 1), .int .i64 200, .slice Qb zQ.length Qc, .slice none 0 0, .slice none 0 0] 44 (0, 0))) := ⟨h3_⟩
       have qj : zy (Below w.heap.size w Yj) := ⟨h4_⟩
       clear zT y9 zX HB h0_ h1_ h2_ h3_ h4_
       have Qd := zn
       have zT := zA
       have y9 := zH
       have zX := zP
       have HB := qj
       clear zn zA zH zP qj
       have hHeld : Yj.cell? ⟨yB, 0, none⟩ = some (.string (⟨#[71]⟩ : ByteArray)) ∧ Yj.cell? ⟨yB, 1, none⟩ = some (.bool ((Int.tmod xM 2) == 1)) ∧ Yj.cell? ⟨yB, 2, none⟩ = some (.int .i64 200) ∧ Yj.cell? ⟨yB, 3, none⟩ = some (.slice Qb zQ.length Qc) ∧ Yj.cell? ⟨yB, 4, none⟩ = some (.slice none 0 0) ∧ Yj.cell? ⟨yB, 5, none⟩ = some (.slice none 0 0) := hS_
       refine wF (a' := ?_) ?_ ?_
       rotate_left
       ·simp only [YI, Act.put, List.setIfInBounds_toArray, List.set_cons_zero, List.set_cons_succ]
        rfl
       refine qz 11 (some 41) zi ?_
       refine pO 12 (some 42) zi (fun K hK => ?_)
       refine QY ?_
       refine hK.out _ _ ⟨(zk (zV zX.out _) 0).trans rfl, (zk (zV zX.out _) 1).trans rfl, (zk (zV zX.out _) 2).trans rfl, (zk (zV zX.out _) 3).trans rfl, (zk (zV zX.out _) 4).trans rfl, (zk (zV zX.out _) 5).trans rfl⟩ (fun hHeld => ?_)
       clear hK K
       refine jO (some 42) ?_
       refine pO 13 (some 43) zi (fun K hK => ?_)
       refine Kd.vD jC (w0 := w) w.heap.size (by rfl) (.tmp 31) (.tmp 42) 40 81 (.agg #[(.string ⟨#[]⟩), (.int .i64 0)]) 24 rfl Tryz.underlying40 WQ rfl (by decide) (by omega) (.slice Qb zQ.length Qc) zQ (⟨strOfNums J6, Int.tmod Xb 3001⟩ : qJ) [.string (strOfNums J6), .int .i64 (Int.tmod Xb 3001)] (fun _ => True) (fun _ => False) rfl rfl ?aP (fun _ hk => hk.elim) ?aF ?aO ?aB ?aS ?aL ?_
       (case aP => exact Jh _ _ _ (⟨strOfNums J6, Int.tmod Xb 3001⟩ : qJ))
       (case aB => exact (yX HB.out))
       (case aF => exact (fun _ _ => trivial))
       (case aO => exact (yK zT.out))
       (case aS => exact (zO (yX HB.out)))
       (case aL => have := zVb.out; omega)
       intro zim bg ho hb hg hat
       rw [← zVc.out] at ho
       have zn := zy.mk (qx (g := vV) (o := .cells #[.string (⟨#[]⟩ : ByteArray), .bool false, .int .i64 0, .slice none 0 0, .slice none 0 0, .slice none 0 0] 26 (0, 0)) (qX y9.out) hg (Kd.uX zT.out y9.out (by decide)))
       have zA := zy.mk (qx (g := yB) (o := .cells #[.string (⟨#[71]⟩ : ByteArray), .bool ((Int.tmod xM 2) == 1), .int .i64 200, .slice Qb zQ.length Qc, .slice none 0 0, .slice none 0 0] 44 (0, 0)) (qX zX.out) hg (Kd.uX zT.out zX.out (by decide)))
       have zH := zy.mk (Kd.vN (yK Qd.out) (Kd.vM (yK zT.out)) (by decide) hg)
       have zP := zy.mk (hb)
       have qj := zy.mk (ho)
       clear y9 zX Qd HB zT
       have y9 := zn
       have zX := zA
       have Qd := zH
       have HB := zP
       have zyu := qj
       clear zn zA zH zP qj ho hb hg hat
       obtain ⟨zkw, zkZ, zxb⟩ := Kd.yx zyu.out
       (first | subst zxb | (injection zxb with YT Ua YU; have Ub := YT.symm; have Uc := YU.symm; clear YT Ua YU; subst Ub; subst Uc))
       refine hK.out _ _ ⟨(zk zX.out 0).trans rfl, (zk zX.out 1).trans rfl, (zk zX.out 2).trans rfl, (zk zX.out 3).trans rfl, (zk zX.out 4).trans rfl, (zk zX.out 5).trans rfl⟩ (fun hHeld => ?_)
       clear hK K
       refine jO (some 43) ?_
       refine qz 14 (some 44) zi ?_
       refine kD (i := 15) (N := none) #[true, true, true, true, true, true, true, true, true, true, true, true, true, true, true, true] rfl rfl (vG zi.out (by kernel_rfl)) (by decide) (fun K hK => ?_)
       have zin : bg.cell? ⟨yB, 3, none⟩ = some (.slice Qb zQ.length Qc) := (zk zX.out 3).trans rfl
       have zhh := zw zX.out 3
       have zdb := YR.out
       have zdc := YS.out
       refine Zy (w1 := ?_) (by rfl) rfl ?_ ?_
       rotate_left
       ·go_simp
        rfl
       refine hK.out _ _ ?_
       clear hK K
       refine vO (xH zi.out (by kernel_rfl)) ?_
       try go_wp2
       go_roundg k1
       case measure => have := vT.out; omega
       case rel => exact ⟨(wrap64 (vK + 1)), (zxa), (.slice zkw zxa.length zkZ), (by first | rfl | (simp; done) | (simp [*]; done)), H', ⟨by have := vT.out; omega⟩, ⟨by (with_reducible repeat (first | apply Kd.qE | apply Kd.qp | apply Kd.yR)); exact Kd.yN (Kd.qy (p := ⟨yB, 3, none⟩) (Kd.vQ zyu.out zX.out (by decide)) (fun _ hk => hk.2) (.slice zkw zxa.length zkZ)) (fun _ hk => trivial)⟩, ⟨bY y9.out⟩, ⟨by (with_reducible repeat (first | refine zC ?_ _ | refine zo ?_ | refine zV ?_ _)); refine zD (cs := #[.string (⟨#[71]⟩ : ByteArray), .bool ((Int.tmod xM 2) == 1), .int .i64 200, .slice Qb zQ.length Qc, .slice none 0 0, .slice none 0 0]) ?_ 3 _ rfl; (with_reducible repeat (first | refine zC ?_ _ | refine zo ?_ | refine zV ?_ _)); exact zX.out⟩, ⟨yX HB.out⟩⟩
      ·rw [if_neg c12] at H
       exact absurd H (by simp)
     ·rw [if_neg c10] at H
      have VU : decide (vK < 2) = false := decide_eq_false c10
      clear c10
      have H' := zy.mk H
      clear H
      go_wp2_with (first | ((with_reducible refine yI (f := 82) rfl ?_); refine je (some 23) Tryz.func82 #[.slice A0 l0.length c0, .int .i64 vK] ?_; (with_reducible refine (yj.calls _ _ l0 vK UK _ ?qd ?qC A8.out).mono ?_); (case qd => repeat (first | exact (Kd.zh kF.out HB.out) | (with_reducible refine Kd.yE ?_ _) | (with_reducible refine Kd.yF ?_ _) | (with_reducible refine Kd.y8 ?_))); (case qC => exact YO.out); rintro e w' ⟨rfl, ⟨nd, rfl⟩⟩; refine ⟨_, rfl, ?_⟩))
      go_roundg k1
      case measure => have := vT.out; omega
      case rel => exact ⟨(wrap64 (vK + 1)), (zQ), (Xz), (by first | rfl | (simp; done) | (simp [*]; done)), H', ⟨by have := vT.out; omega⟩, ⟨yK zT.out⟩, ⟨qX y9.out⟩, ⟨qX zX.out⟩, ⟨yX HB.out⟩⟩
    ·rw [if_neg c9] at H
     have WV : ((Int.tmod UK 3) == 0) = false := beq_eq_false_iff_ne.mpr c9
     have zxW : ((Int.tmod UK 3) != 0) = true := bne_iff_ne.mpr c9
     obtain ⟨J9, mV⟩ : ∃ y_ : List Int, y_ = (([(wrap64 (97 + vK)) % 256] : List Int)) := ⟨_, rfl⟩
     replace H : ((yj.f l0 vK).bind fun Xc => (if zQ.length < 5864062014805 then (zJ.l0 k1 l0 (wrap64 (vK + 1)) (⟨#[71]⟩ : ByteArray) ((Int.tmod xM 2) == 1) 200 (zQ ++ [(⟨strOfNums J9, Int.tmod Xc 3001⟩ : qJ)])) else (none))) = some (r1, r2, r3, r4, r5, r6) := by first | (rw [mV]; with_reducible exact H) | (have uN := (Option.bind_some _ _).symm.trans H; rw [mV]; with_reducible exact uN) | (have uN := (Option.bind_some _ _).symm.trans H; with_reducible exact uN) | with_reducible exact H | (rw [mV]; exact H) | exact H
     have iH := zy.mk mV
     clear mV
     replace H := Option.bind_eq_some_iff.mp H
     obtain ⟨Xc, zXi, H⟩ := H
     replace H : (if zQ.length < 5864062014805 then (zJ.l0 k1 l0 (wrap64 (vK + 1)) (⟨#[71]⟩ : ByteArray) ((Int.tmod xM 2) == 1) 200 (zQ ++ [(⟨strOfNums J9, Int.tmod Xc 3001⟩ : qJ)])) else (none)) = some (r1, r2, r3, r4, r5, r6) := H
     have A22 := zy.mk zXi
     clear zXi
     by_cases c23 : zQ.length < 5864062014805
     ·rw [if_pos c23] at H
      have zVd := zy.mk c23
      clear c23
      obtain ⟨zxc, mK⟩ : ∃ y_ : List (qJ), y_ = (zQ ++ [(⟨strOfNums J9, Int.tmod Xc 3001⟩ : qJ)]) := ⟨_, rfl⟩
      replace H : (zJ.l0 k1 l0 (wrap64 (vK + 1)) (⟨#[71]⟩ : ByteArray) ((Int.tmod xM 2) == 1) 200 zxc) = some (r1, r2, r3, r4, r5, r6) := by first | (rw [mK]; with_reducible exact H) | (have uN := (Option.bind_some _ _).symm.trans H; rw [mK]; with_reducible exact uN) | (have uN := (Option.bind_some _ _).symm.trans H; with_reducible exact uN) | with_reducible exact H | (rw [mK]; exact H) | exact H
      have zVe := zy.mk mK
      clear mK
      have H' := zy.mk H
      clear H
      try go_wp2_with (first | ((with_reducible refine yI (f := 82) rfl ?_); refine je (some 23) Tryz.func82 #[.slice A0 l0.length c0, .int .i64 vK] ?_; (with_reducible refine (yj.calls _ _ l0 vK UK _ ?qd ?qC A8.out).mono ?_); (case qd => repeat (first | exact (Kd.zh kF.out HB.out) | (with_reducible refine Kd.yE ?_ _) | (with_reducible refine Kd.yF ?_ _) | (with_reducible refine Kd.y8 ?_))); (case qC => exact YO.out); rintro e w' ⟨rfl, ⟨nd, rfl⟩⟩; refine ⟨_, rfl, ?_⟩; (try (rw [VT wr]; generalize ZT : World.drewN wr _ = wr; have zn : zy (Kd.R jC 81 wr w.heap.size (fun _ => True) Xz zQ) := ⟨by rw [← ZT]; exact (yK zT.out)⟩; have zA : zy (wr.heap[vV]? = some (.cells #[.string (⟨#[]⟩ : ByteArray), .bool false, .int .i64 0, .slice none 0 0, .slice none 0 0, .slice none 0 0] 26 (0, 0))) := ⟨by rw [← ZT]; exact (qX y9.out)⟩; have zH : zy (wr.heap[yB]? = some (.cells #[.string (⟨#[71]⟩ : ByteArray), .bool ((Int.tmod xM 2) == 1), .int .i64 200, Xz, .slice none 0 0, .slice none 0 0] 44 (0, 0))) := ⟨by rw [← ZT]; exact (qX zX.out)⟩; have zP : zy (Below w.heap.size w wr) := ⟨by rw [← ZT]; exact (yX HB.out)⟩; clear zT y9 zX HB ZT; have zT := zn; have y9 := zA; have zX := zH; have HB := zP; clear zn zA zH zP)); obtain ⟨QO, QS, zWt⟩ := Kd.yx zT.out; subst zWt))
      have zn := zy.mk (Kd.yR zT.out)
      have zA := zy.mk (zo y9.out)
      have zH := zy.mk (zo zX.out)
      have zP := zy.mk (yP HB.out)
      clear zT y9 zX HB
      have zT := zn
      have y9 := zA
      have zX := zH
      have HB := zP
      clear zn zA zH zP
      refine jU (n := 16) (S := fun w' => w'.cell? ⟨yB, 0, none⟩ = some (.string (⟨#[71]⟩ : ByteArray)) ∧ w'.cell? ⟨yB, 1, none⟩ = some (.bool ((Int.tmod xM 2) == 1)) ∧ w'.cell? ⟨yB, 2, none⟩ = some (.int .i64 200) ∧ w'.cell? ⟨yB, 3, none⟩ = some (.slice QO zQ.length QS) ∧ w'.cell? ⟨yB, 4, none⟩ = some (.slice none 0 0) ∧ w'.cell? ⟨yB, 5, none⟩ = some (.slice none 0 0)) (ds := [15]) #[false, false, false, false, false, false, false, false, false, false, false, false, false, false, false, false] (by kernel_rfl) rfl rfl ⟨(zk zX.out 0).trans rfl, (zk zX.out 1).trans rfl, (zk zX.out 2).trans rfl, (zk zX.out 3).trans rfl, (zk zX.out 4).trans rfl, (zk zX.out 5).trans rfl⟩ (fun hHeld => ?_); refine jN zJ.zXQ zJ.zyt (fun zi vR => ?_)
      generalize wr.drew = w25 at zT y9 zX HB hHeld ⊢
      refine qz 0 (some 30) zi ?_
      refine qz 2 (some 32) zi ?_
      refine qz 3 (some 33) zi ?_
      refine qz 4 (some 34) zi ?_
      refine qz 7 (some 37) zi ?_
      refine qz 8 (some 38) zi ?_
      refine uG 1 (some 31) zi vR hHeld ?_
      refine zyn (σ := Value) 5 #[true, true, true, true, true, true, true, true, true, true, true, false, false, false, false, false] (fun s_ => [(35, s_), (36, .string (strOfNums J9)), (39, .int .i64 Xc), (40, .int .i64 (Int.tmod Xc 3001))]) (fun s_ w' => (w'.cell? ⟨yB, 0, none⟩ = some (.string (⟨#[71]⟩ : ByteArray)) ∧ w'.cell? ⟨yB, 1, none⟩ = some (.bool ((Int.tmod xM 2) == 1)) ∧ w'.cell? ⟨yB, 2, none⟩ = some (.int .i64 200) ∧ w'.cell? ⟨yB, 3, none⟩ = some (.slice QO zQ.length QS) ∧ w'.cell? ⟨yB, 4, none⟩ = some (.slice none 0 0) ∧ w'.cell? ⟨yB, 5, none⟩ = some (.slice none 0 0)) ∧ (Kd.R (Kd.int .u8) 5 w' w.heap.size (fun _ => True) s_ J9) ∧ (Kd.R jC 81 w' w.heap.size (fun _ => True) (.slice QO zQ.length QS) zQ) ∧ (w'.heap[vV]? = some (.cells #[.string (⟨#[]⟩ : ByteArray), .bool false, .int .i64 0, .slice none 0 0, .slice none 0 0, .slice none 0 0] 26 (0, 0))) ∧ (w'.heap[yB]? = some (.cells #[.string (⟨#[71]⟩ : ByteArray), .bool ((Int.tmod xM 2) == 1), .int .i64 200, .slice QO zQ.length QS, .slice none 0 0, .slice none 0 0] 44 (0, 0))) ∧ (Below w.heap.size w w')) ?_ ?_
      rotate_left
      ·intro J7
       refine zxy (i := 5) (j := 9) (Ni := some 35) (Nj := some 39) #[true, true, true, true, true, true, false, true, true, false, false, false, false, false, false, false] #[true, true, true, true, true, false, false, true, true, true, false, false, false, false, false, false] rfl rfl rfl rfl (gH zi.out (by kernel_rfl)) (by decide) (by decide) (fun K hK => ?_) (fun K hK => ?_)
       ·skip
        refine Kd.VR (Kd.int .u8) _ 5 ?hg (N := 35) ?hd (xs := ([(wrap64 (97 + vK)) % 256] : List Int)) (inner := [.int .u8 ((wrap64 (97 + vK)) % 256)]) (ok := fun _ => True) (pK := fun _ => True) ?hr ?hp (fun _ hk => hk) trivial (Below.refl _ _) (Nat.le_refl _) (by simp) ?_; (case hd => rfl); (case hg => rfl); (case hr => first | (go_simp; done) | (go_simp; rfl)); (case hp => exact (xA.one (show Kd.M (Kd.int .u8) _ _ _ ((wrap64 (97 + vK)) % 256) [.int .u8 ((wrap64 (97 + vK)) % 256)] from rfl) (xA.none _ _)))
        intro sj w26 Ud hb UW YK
        clear UW YK
        (first | rw [← iH.out] at Ud | (simp only [Int.reduceToNat] at Ud; rw [← iH.out] at Ud))
        have zn := zy.mk (Kd.zR (yK zT.out) hb)
        have zA := zy.mk (Kd.jk Ud (zO (yX HB.out)))
        have zH := zy.mk (zf (g := vV) (o := .cells #[.string (⟨#[]⟩ : ByteArray), .bool false, .int .i64 0, .slice none 0 0, .slice none 0 0, .slice none 0 0] 26 (0, 0)) (qX y9.out) hb)
        have zP := zy.mk (zf (g := yB) (o := .cells #[.string (⟨#[71]⟩ : ByteArray), .bool ((Int.tmod xM 2) == 1), .int .i64 200, .slice QO zQ.length QS, .slice none 0 0, .slice none 0 0] 44 (0, 0)) (qX zX.out) hb)
        have qj := zy.mk (yY (yX HB.out) hb)
        clear zT y9 zX HB
        have zT := zn
        have Qe := zA
        have y9 := zH
        have zX := zP
        have HB := qj
        clear zn zA zH zP qj hb Ud
        refine hK.out _ _ ⟨(zk zX.out 0).trans rfl, (zk zX.out 1).trans rfl, (zk zX.out 2).trans rfl, (zk zX.out 3).trans rfl, (zk zX.out 4).trans rfl, (zk zX.out 5).trans rfl⟩ (fun hHeld => ?_)
        clear hK K
        refine jO (some 35) ?_
        refine zxy (i := 6) (j := 9) (Ni := some 36) (Nj := some 39) #[true, true, true, true, true, true, true, true, true, false, false, false, false, false, false, false] #[true, true, true, true, true, true, false, true, true, true, false, false, false, false, false, false] rfl rfl rfl rfl (gH zi.out (by kernel_rfl)) (by decide) (by decide) (fun K hK => ?_) (fun K hK => ?_)
        ·skip
         have Kz := wS (P := Tryz.prog) Tryz.underlying66 Tryz.underlying5 Tryz.underlying9 (Kd.YZ Qe.out)
         refine QY ?_
         clear Kz
         refine hK.out _ _ ⟨(zk zX.out 0).trans rfl, (zk zX.out 1).trans rfl, (zk zX.out 2).trans rfl, (zk zX.out 3).trans rfl, (zk zX.out 4).trans rfl, (zk zX.out 5).trans rfl⟩ (fun hHeld => ?_)
         clear hK K
         refine jO (some 36) ?_
         refine pO 9 (some 39) zi (fun K hK => ?_)
         refine QV Tryz.func82 (by kernel_rfl) rfl #[.slice A0 l0.length c0, .int .i64 vK] (by rfl) rfl rfl (by (try simp only [List.map_toArray, List.map_cons, List.map_nil]); first | done | rfl | (simp only [List.length_drop, List.length_take]; rfl)) ?_
         with_reducible refine (yj.calls _ _ l0 vK Xc _ ?qd ?qC A22.out).mono ?_
         (case qd => repeat (first | exact (Kd.zh kF.out HB.out) | (with_reducible refine Kd.yE ?_ _) | (with_reducible refine Kd.yF ?_ _) | (with_reducible refine Kd.y8 ?_)))
         (case qC => exact YO.out)
         rintro e w' ⟨rfl, ⟨nd, rfl⟩⟩
         refine ⟨_, rfl, ?_⟩
         refine hK.out _ _ ⟨(zk zX.out 0).trans rfl, (zk zX.out 1).trans rfl, (zk zX.out 2).trans rfl, (zk zX.out 3).trans rfl, (zk zX.out 4).trans rfl, (zk zX.out 5).trans rfl⟩ (fun hHeld => ?_)
         clear hK K
         refine jO (some 39) ?_
         refine qz 10 (some 40) zi ?_
         exact wF (by simp only [YI, Act.put, List.setIfInBounds_toArray, List.set_cons_zero, List.set_cons_succ]) (J7 (sj) _ ⟨hHeld, (yK Qe.out), (yK zT.out), (qX y9.out), (qX zX.out), (yX HB.out)⟩)
        ·skip
         refine QV Tryz.func82 (by kernel_rfl) rfl #[.slice A0 l0.length c0, .int .i64 vK] (by rfl) rfl rfl (by (try simp only [List.map_toArray, List.map_cons, List.map_nil]); first | done | rfl | (simp only [List.length_drop, List.length_take]; rfl)) ?_
         with_reducible refine (yj.calls _ _ l0 vK Xc _ ?qd ?qC A22.out).mono ?_
         (case qd => repeat (first | exact (Kd.zh kF.out HB.out) | (with_reducible refine Kd.yE ?_ _) | (with_reducible refine Kd.yF ?_ _) | (with_reducible refine Kd.y8 ?_)))
         (case qC => exact YO.out)
         rintro e w' ⟨rfl, ⟨nd, rfl⟩⟩
         refine ⟨_, rfl, ?_⟩
         refine hK.out _ _ ⟨(zk zX.out 0).trans rfl, (zk zX.out 1).trans rfl, (zk zX.out 2).trans rfl, (zk zX.out 3).trans rfl, (zk zX.out 4).trans rfl, (zk zX.out 5).trans rfl⟩ (fun hHeld => ?_)
         clear hK K
         refine jO (some 39) ?_
         refine qz 10 (some 40) zi ?_
         refine pO 6 (some 36) zi (fun K hK => ?_)
         have Kz := wS (P := Tryz.prog) Tryz.underlying66 Tryz.underlying5 Tryz.underlying9 (Kd.YZ (Kd.qp Qe.out nd))
         refine QY ?_
         clear Kz
         refine hK.out _ _ ⟨(zk zX.out 0).trans rfl, (zk zX.out 1).trans rfl, (zk zX.out 2).trans rfl, (zk zX.out 3).trans rfl, (zk zX.out 4).trans rfl, (zk zX.out 5).trans rfl⟩ (fun hHeld => ?_)
         clear hK K
         refine jO (some 36) ?_
         exact wF (by simp only [YI, Act.put, List.setIfInBounds_toArray, List.set_cons_zero, List.set_cons_succ]) (J7 (sj) _ ⟨hHeld, (yK Qe.out), (yK zT.out), (qX y9.out), (qX zX.out), (yX HB.out)⟩)
       ·skip
        refine QV Tryz.func82 (by kernel_rfl) rfl #[.slice A0 l0.length c0, .int .i64 vK] (by rfl) rfl rfl (by (try simp only [List.map_toArray, List.map_cons, List.map_nil]); first | done | rfl | (simp only [List.length_drop, List.length_take]; rfl)) ?_
        with_reducible refine (yj.calls _ _ l0 vK Xc _ ?qd ?qC A22.out).mono ?_
        (case qd => repeat (first | exact (Kd.zh kF.out HB.out) | (with_reducible refine Kd.yE ?_ _) | (with_reducible refine Kd.yF ?_ _) | (with_reducible refine Kd.y8 ?_)))
        (case qC => exact YO.out)
        rintro e w' ⟨rfl, ⟨nd, rfl⟩⟩
        refine ⟨_, rfl, ?_⟩
        refine hK.out _ _ ⟨(zk zX.out 0).trans rfl, (zk zX.out 1).trans rfl, (zk zX.out 2).trans rfl, (zk zX.out 3).trans rfl, (zk zX.out 4).trans rfl, (zk zX.out 5).trans rfl⟩ (fun hHeld => ?_)
        clear hK K
        refine jO (some 39) ?_
        refine qz 10 (some 40) zi ?_
        refine pO 5 (some 35) zi (fun K hK => ?_)
        refine Kd.VR (Kd.int .u8) _ 5 ?hg (N := 35) ?hd (xs := ([(wrap64 (97 + vK)) % 256] : List Int)) (inner := [.int .u8 ((wrap64 (97 + vK)) % 256)]) (ok := fun _ => True) (pK := fun _ => True) ?hr ?hp (fun _ hk => hk) trivial (Below.refl _ _) (Nat.le_refl _) (by simp) ?_; (case hd => rfl); (case hg => rfl); (case hr => first | (go_simp; done) | (go_simp; rfl)); (case hp => exact (xA.one (show Kd.M (Kd.int .u8) _ _ _ ((wrap64 (97 + vK)) % 256) [.int .u8 ((wrap64 (97 + vK)) % 256)] from rfl) (xA.none _ _)))
        intro sj w26 Ud hb UW YK
        clear UW YK
        (first | rw [← iH.out] at Ud | (simp only [Int.reduceToNat] at Ud; rw [← iH.out] at Ud))
        have zn := zy.mk (Kd.zR (yK zT.out) hb)
        have zA := zy.mk (Kd.jk Ud (zO (yX HB.out)))
        have zH := zy.mk (zf (g := vV) (o := .cells #[.string (⟨#[]⟩ : ByteArray), .bool false, .int .i64 0, .slice none 0 0, .slice none 0 0, .slice none 0 0] 26 (0, 0)) (qX y9.out) hb)
        have zP := zy.mk (zf (g := yB) (o := .cells #[.string (⟨#[71]⟩ : ByteArray), .bool ((Int.tmod xM 2) == 1), .int .i64 200, .slice QO zQ.length QS, .slice none 0 0, .slice none 0 0] 44 (0, 0)) (qX zX.out) hb)
        have qj := zy.mk (yY (yX HB.out) hb)
        clear zT y9 zX HB
        have zT := zn
        have Qe := zA
        have y9 := zH
        have zX := zP
        have HB := qj
        clear zn zA zH zP qj hb Ud
        refine hK.out _ _ ⟨(zk zX.out 0).trans rfl, (zk zX.out 1).trans rfl, (zk zX.out 2).trans rfl, (zk zX.out 3).trans rfl, (zk zX.out 4).trans rfl, (zk zX.out 5).trans rfl⟩ (fun hHeld => ?_)
        clear hK K
        refine jO (some 35) ?_
        refine pO 6 (some 36) zi (fun K hK => ?_)
        have Kz := wS (P := Tryz.prog) Tryz.underlying66 Tryz.underlying5 Tryz.underlying9 (Kd.YZ Qe.out)
        refine QY ?_
        clear Kz
        refine hK.out _ _ ⟨(zk zX.out 0).trans rfl, (zk zX.out 1).trans rfl, (zk zX.out 2).trans rfl, (zk zX.out 3).trans rfl, (zk zX.out 4).trans rfl, (zk zX.out 5).trans rfl⟩ (fun hHeld => ?_)
        clear hK K
        refine jO (some 36) ?_
        exact wF (by simp only [YI, Act.put, List.setIfInBounds_toArray, List.set_cons_zero, List.set_cons_succ]) (J7 (sj) _ ⟨hHeld, (yK Qe.out), (yK zT.out), (qX y9.out), (qX zX.out), (yX HB.out)⟩)
      rintro sj WK ⟨hS_, h0_, h1_, h2_, h3_, h4_⟩
      have zn : zy (Kd.R (Kd.int .u8) 5 WK w.heap.size (fun _ => True) sj J9) := ⟨h0_⟩
      have zA : zy (Kd.R jC 81 WK w.heap.size (fun _ => True) (.slice QO zQ.length QS) zQ) := ⟨h1_⟩
      have zH : zy (WK.heap[vV]? = some (.cells #[.string (⟨#[]⟩ : ByteArray), .bool false, .int .i64 0, .slice none 0 0, .slice none 0 0, .slice none 0 0] 26 (0, 0))) := ⟨h2_⟩
      have zP : zy (WK.heap[yB]? = some (.cells #[.string (⟨#[71]⟩ : ByteArray), .bool ((Int.tmod xM 2) == 1), .int .i64 200, .slice QO zQ.length QS, .slice none 0 0, .slice none 0 0] 44 (0, 0))) := ⟨h3_⟩
      have qj : zy (Below w.heap.size w WK) := ⟨h4_⟩
      clear zT y9 zX HB h0_ h1_ h2_ h3_ h4_
      have Qe := zn
      have zT := zA
      have y9 := zH
      have zX := zP
      have HB := qj
      clear zn zA zH zP qj
      have hHeld : WK.cell? ⟨yB, 0, none⟩ = some (.string (⟨#[71]⟩ : ByteArray)) ∧ WK.cell? ⟨yB, 1, none⟩ = some (.bool ((Int.tmod xM 2) == 1)) ∧ WK.cell? ⟨yB, 2, none⟩ = some (.int .i64 200) ∧ WK.cell? ⟨yB, 3, none⟩ = some (.slice QO zQ.length QS) ∧ WK.cell? ⟨yB, 4, none⟩ = some (.slice none 0 0) ∧ WK.cell? ⟨yB, 5, none⟩ = some (.slice none 0 0) := hS_
      refine wF (a' := ?_) ?_ ?_
      rotate_left
      ·simp only [YI, Act.put, List.setIfInBounds_toArray, List.set_cons_zero, List.set_cons_succ]
       rfl
      refine qz 11 (some 41) zi ?_
      refine pO 12 (some 42) zi (fun K hK => ?_)
      refine QY ?_
      refine hK.out _ _ ⟨(zk (zV zX.out _) 0).trans rfl, (zk (zV zX.out _) 1).trans rfl, (zk (zV zX.out _) 2).trans rfl, (zk (zV zX.out _) 3).trans rfl, (zk (zV zX.out _) 4).trans rfl, (zk (zV zX.out _) 5).trans rfl⟩ (fun hHeld => ?_)
      clear hK K
      refine jO (some 42) ?_
      refine pO 13 (some 43) zi (fun K hK => ?_)
      refine Kd.vD jC (w0 := w) w.heap.size (by rfl) (.tmp 31) (.tmp 42) 40 81 (.agg #[(.string ⟨#[]⟩), (.int .i64 0)]) 24 rfl Tryz.underlying40 WQ rfl (by decide) (by omega) (.slice QO zQ.length QS) zQ (⟨strOfNums J9, Int.tmod Xc 3001⟩ : qJ) [.string (strOfNums J9), .int .i64 (Int.tmod Xc 3001)] (fun _ => True) (fun _ => False) rfl rfl ?aP (fun _ hk => hk.elim) ?aF ?aO ?aB ?aS ?aL ?_
      (case aP => exact Jh _ _ _ (⟨strOfNums J9, Int.tmod Xc 3001⟩ : qJ))
      (case aB => exact (yX HB.out))
      (case aF => exact (fun _ _ => trivial))
      (case aO => exact (yK zT.out))
      (case aS => exact (zO (yX HB.out)))
      (case aL => have := zVd.out; omega)
      intro zio w30 ho hb hg hat
      rw [← zVe.out] at ho
      have zn := zy.mk (qx (g := vV) (o := .cells #[.string (⟨#[]⟩ : ByteArray), .bool false, .int .i64 0, .slice none 0 0, .slice none 0 0, .slice none 0 0] 26 (0, 0)) (qX y9.out) hg (Kd.uX zT.out y9.out (by decide)))
      have zA := zy.mk (qx (g := yB) (o := .cells #[.string (⟨#[71]⟩ : ByteArray), .bool ((Int.tmod xM 2) == 1), .int .i64 200, .slice QO zQ.length QS, .slice none 0 0, .slice none 0 0] 44 (0, 0)) (qX zX.out) hg (Kd.uX zT.out zX.out (by decide)))
      have zH := zy.mk (Kd.vN (yK Qe.out) (Kd.vM (yK zT.out)) (by decide) hg)
      have zP := zy.mk (hb)
      have qj := zy.mk (ho)
      clear y9 zX Qe HB zT
      have y9 := zn
      have zX := zA
      have Qe := zH
      have HB := zP
      have zyA := qj
      clear zn zA zH zP qj ho hb hg hat
      obtain ⟨zXl, zXm, zXn⟩ := Kd.yx zyA.out
      (first | subst zXn | (injection zXn with YT Ua YU; have Ub := YT.symm; have Uc := YU.symm; clear YT Ua YU; subst Ub; subst Uc))
      refine hK.out _ _ ⟨(zk zX.out 0).trans rfl, (zk zX.out 1).trans rfl, (zk zX.out 2).trans rfl, (zk zX.out 3).trans rfl, (zk zX.out 4).trans rfl, (zk zX.out 5).trans rfl⟩ (fun hHeld => ?_)
      clear hK K
      refine jO (some 43) ?_
      refine qz 14 (some 44) zi ?_
      refine kD (i := 15) (N := none) #[true, true, true, true, true, true, true, true, true, true, true, true, true, true, true, true] rfl rfl (vG zi.out (by kernel_rfl)) (by decide) (fun K hK => ?_)
      have zir : w30.cell? ⟨yB, 3, none⟩ = some (.slice QO zQ.length QS) := (zk zX.out 3).trans rfl
      have zhi := zw zX.out 3
      have zdd := YR.out
      have zde := YS.out
      refine Zy (w1 := ?_) (by rfl) rfl ?_ ?_
      rotate_left
      ·go_simp
       rfl
      refine hK.out _ _ ?_
      clear hK K
      refine vO (xH zi.out (by kernel_rfl)) ?_
      try go_wp2
      go_roundg k1
      case measure => have := vT.out; omega
      case rel => exact ⟨(wrap64 (vK + 1)), (zxc), (.slice zXl zxc.length zXm), (by first | rfl | (simp; done) | (simp [*]; done)), H', ⟨by have := vT.out; omega⟩, ⟨by (with_reducible repeat (first | apply Kd.qE | apply Kd.qp | apply Kd.yR)); exact Kd.yN (Kd.qy (p := ⟨yB, 3, none⟩) (Kd.vQ zyA.out zX.out (by decide)) (fun _ hk => hk.2) (.slice zXl zxc.length zXm)) (fun _ hk => trivial)⟩, ⟨bY y9.out⟩, ⟨by (with_reducible repeat (first | refine zC ?_ _ | refine zo ?_ | refine zV ?_ _)); refine zD (cs := #[.string (⟨#[71]⟩ : ByteArray), .bool ((Int.tmod xM 2) == 1), .int .i64 200, .slice QO zQ.length QS, .slice none 0 0, .slice none 0 0]) ?_ 3 _ rfl; (with_reducible repeat (first | refine zC ?_ _ | refine zo ?_ | refine zV ?_ _)); exact zX.out⟩, ⟨yX HB.out⟩⟩
     ·rw [if_neg c23] at H
      exact absurd H (by simp)
   ·rw [if_neg c7] at H
    have QN : decide (vK < 8) = false := decide_eq_false c7
    clear c7
    have H' := zy.mk H
    clear H
    have zVf := YS.out
    have zVg := YR.out
    have sw : wr.cell? ⟨yB, 0, none⟩ = some (.string (⟨#[71]⟩ : ByteArray)) := (zk zX.out 0).trans rfl
    have sZ : wr.cell? ⟨yB, 1, none⟩ = some (.bool ((Int.tmod xM 2) == 1)) := (zk zX.out 1).trans rfl
    have sQ : wr.cell? ⟨yB, 2, none⟩ = some (.int .i64 200) := (zk zX.out 2).trans rfl
    have sJ : wr.cell? ⟨yB, 3, none⟩ = some (Xz) := (zk zX.out 3).trans rfl
    have sV : wr.cell? ⟨yB, 4, none⟩ = some (.slice none 0 0) := (zk zX.out 4).trans rfl
    have sK : wr.cell? ⟨yB, 5, none⟩ = some (.slice none 0 0) := (zk zX.out 5).trans rfl
    have sW := zw zX.out 0
    have su := zw zX.out 1
    have sD := zw zX.out 2
    have sF := zw zX.out 3
    have sG := zw zX.out 4
    have sH := zw zX.out 5
    obtain ⟨lU, ZU, zWu⟩ := Kd.yx zT.out
    subst zWu
    go_wp2
    go_loopg [6] k1 (fun kq v6 w' => ∃ (xg : Int) (vH : List (xK)) (xL : List (xY)) (uD : Value) (jJ : Value), v6 = .int .i64 xg ∧ zy (zJ.l1 kq l0 (zQ.length : Int) xg (⟨#[71]⟩ : ByteArray) ((Int.tmod xM 2) == 1) 200 zQ vH xL = some (r1, r2, r3, r4, r5, r6)) ∧ zy (kq ≤ k1) ∧ zy (Kd.R jC 81 w' w.heap.size (fun _ => True) (.slice lU zQ.length ZU) zQ) ∧ zy (Kd.R kR 83 w' w.heap.size (fun _ => True) uD vH) ∧ zy (Kd.R kE 84 w' w.heap.size (fun _ => True) jJ xL) ∧ zy (w'.heap[vV]? = some (.cells #[.string (⟨#[]⟩ : ByteArray), .bool false, .int .i64 0, (.slice none 0 0), (.slice none 0 0), (.slice none 0 0)] 26 (0, 0))) ∧ zy (w'.heap[yB]? = some (.cells #[.string (⟨#[71]⟩ : ByteArray), .bool ((Int.tmod xM 2) == 1), .int .i64 200, (.slice lU zQ.length ZU), uD, jJ] 44 (0, 0))) ∧ zy (Below w.heap.size w w'))
    case atStart => exact ⟨(0), (([] : List (xK))), (([] : List (xY))), (.slice none 0 0), (.slice none 0 0), (by first | rfl | (simp; done) | (simp [*]; done)), H', ⟨Nat.le_refl _⟩, ⟨yK zT.out⟩, ⟨by first | exact Kd.xE _ _ _ _ _ | exact Kd.jY _ _ _ _ _ | exact Kd.jW _ _ _ _ _ | exact Kd.jV _ _ _ _ _ | exact Kd.jK _ _ _ _ _⟩, ⟨by first | exact Kd.xE _ _ _ _ _ | exact Kd.jY _ _ _ _ _ | exact Kd.jW _ _ _ _ _ | exact Kd.jV _ _ _ _ _ | exact Kd.jK _ _ _ _ _⟩, ⟨qX y9.out⟩, ⟨qX zX.out⟩, ⟨yX HB.out⟩⟩
    case round =>
     clear H'
     try clear c1
     try clear zWA
     try clear c2
     try clear p2
     try clear zWB
     try clear c3
     try clear p6
     try clear c7
     try clear QN
     try clear c8
     try clear c9
     try clear WV
     try clear zxW
     try clear c10
     try clear VU
     try clear c12
     try clear J8
     try clear c23
     try clear Kz
     try clear c33
     try clear sw
     try clear sZ
     try clear sQ
     try clear sJ
     try clear sV
     try clear sK
     try clear sW
     try clear su
     try clear sD
     try clear sF
     try clear sG
     try clear sH
     obtain ⟨xg, vH, xL, uD, jJ, rfl, HA, KN, zT, vk, vw, y9, zX, HB⟩ := hrel
     cases gk with
     | zero => exact absurd HA.out (by simp [zJ.l1])
     | succ k2 =>
      have H := HA.out
      clear HA
      simp only [zJ.l1] at H
      by_cases l6 : xg < (zQ.length : Int)
      ·rw [if_pos l6] at H
       have zyB : decide (xg < (zQ.length : Int)) = true := decide_eq_true l6
       clear l6
       by_cases c37 : 0 ≤ xg
       ·rw [if_pos c37] at H
        have zVh : decide (0 ≤ xg) = true := decide_eq_true c37
        clear c37
        by_cases WY : xg < (zQ.length : Int)
        ·rw [if_pos WY] at H
         have zVi : decide (xg < (zQ.length : Int)) = true := decide_eq_true WY
         clear WY
         replace H := Option.bind_eq_some_iff.mp H
         obtain ⟨J5, zXo, H⟩ := H
         replace H : (if (zQ.length : Int) = 0 then (none) else (if 0 ≤ (Int.tmod J5 (zQ.length : Int)) then (if (Int.tmod J5 (zQ.length : Int)) < (zQ.length : Int) then ((yj.f l0 (wrap64 (xg + 16))).bind fun wI => (if 0 ≤ (Int.tmod wI (zQ.length : Int)) then (if (Int.tmod wI (zQ.length : Int)) < (zQ.length : Int) then ((yj.f l0 (wrap64 (xg + 8))).bind fun YP => (if (Int.tmod YP 4) = 1 then (if vH.length < 2932031007402 then (zJ.j2 k2 l0 (zQ.length : Int) xg ((zS zQ xg).f0) ((zS zQ (Int.tmod wI (zQ.length : Int))).f0) (⟨#[71]⟩ : ByteArray) ((Int.tmod xM 2) == 1) 200 zQ (vH ++ [(⟨(zS zQ xg).f0, (zS zQ (Int.tmod J5 (zQ.length : Int))).f0, (zS zQ (Int.tmod wI (zQ.length : Int))).f0⟩ : xK)]) xL) else (none)) else (zJ.j2 k2 l0 (zQ.length : Int) xg ((zS zQ xg).f0) ((zS zQ (Int.tmod wI (zQ.length : Int))).f0) (⟨#[71]⟩ : ByteArray) ((Int.tmod xM 2) == 1) 200 zQ vH xL))) else (none)) else (none))) else (none)) else (none))) = some (r1, r2, r3, r4, r5, r6) := H
         have A39 := zy.mk zXo
         clear zXo
         by_cases c40 : (zQ.length : Int) = 0
         ·rw [if_pos c40] at H
          exact absurd H (by simp)
         ·rw [if_neg c40] at H
          have zVl : ((zQ.length : Int) == 0) = false := beq_eq_false_iff_ne.mpr c40
          have zVm : ((zQ.length : Int) != 0) = true := bne_iff_ne.mpr c40
          have zVn : ¬ (zQ = []) := fun h_ => c40 (by rw [h_]; rfl)
          obtain ⟨ZJ, zxd⟩ : ∃ j_ : Int, (Int.tmod J5 (zQ.length : Int)) = j_ := ⟨_, rfl⟩
          replace H : (if 0 ≤ (ZJ) then (if (ZJ) < (zQ.length : Int) then ((yj.f l0 (wrap64 (xg + 16))).bind fun wI => (if 0 ≤ (Int.tmod wI (zQ.length : Int)) then (if (Int.tmod wI (zQ.length : Int)) < (zQ.length : Int) then ((yj.f l0 (wrap64 (xg + 8))).bind fun YP => (if (Int.tmod YP 4) = 1 then (if vH.length < 2932031007402 then (zJ.j2 k2 l0 (zQ.length : Int) xg ((zS zQ xg).f0) ((zS zQ (Int.tmod wI (zQ.length : Int))).f0) (⟨#[71]⟩ : ByteArray) ((Int.tmod xM 2) == 1) 200 zQ (vH ++ [(⟨(zS zQ xg).f0, (zS zQ (ZJ)).f0, (zS zQ (Int.tmod wI (zQ.length : Int))).f0⟩ : xK)]) xL) else (none)) else (zJ.j2 k2 l0 (zQ.length : Int) xg ((zS zQ xg).f0) ((zS zQ (Int.tmod wI (zQ.length : Int))).f0) (⟨#[71]⟩ : ByteArray) ((Int.tmod xM 2) == 1) 200 zQ vH xL))) else (none)) else (none))) else (none)) else (none)) = some (r1, r2, r3, r4, r5, r6) := by first | (rw [zxd] at H; exact H) | (simp only [zxd] at H ⊢; exact H)
          (try rw [zxd] at A39)
          by_cases c42 : 0 ≤ (ZJ)
          ·rw [if_pos c42] at H
           have zVo : decide (0 ≤ (ZJ)) = true := decide_eq_true c42
           clear c42
           by_cases c43 : (ZJ) < (zQ.length : Int)
           ·rw [if_pos c43] at H
            have zVp : decide ((ZJ) < (zQ.length : Int)) = true := decide_eq_true c43
            clear c43
            replace H := Option.bind_eq_some_iff.mp H
            obtain ⟨wI, zXp, H⟩ := H
            replace H : (if 0 ≤ (Int.tmod wI (zQ.length : Int)) then (if (Int.tmod wI (zQ.length : Int)) < (zQ.length : Int) then ((yj.f l0 (wrap64 (xg + 8))).bind fun YP => (if (Int.tmod YP 4) = 1 then (if vH.length < 2932031007402 then (zJ.j2 k2 l0 (zQ.length : Int) xg ((zS zQ xg).f0) ((zS zQ (Int.tmod wI (zQ.length : Int))).f0) (⟨#[71]⟩ : ByteArray) ((Int.tmod xM 2) == 1) 200 zQ (vH ++ [(⟨(zS zQ xg).f0, (zS zQ (ZJ)).f0, (zS zQ (Int.tmod wI (zQ.length : Int))).f0⟩ : xK)]) xL) else (none)) else (zJ.j2 k2 l0 (zQ.length : Int) xg ((zS zQ xg).f0) ((zS zQ (Int.tmod wI (zQ.length : Int))).f0) (⟨#[71]⟩ : ByteArray) ((Int.tmod xM 2) == 1) 200 zQ vH xL))) else (none)) else (none)) = some (r1, r2, r3, r4, r5, r6) := H
            have A44 := zy.mk zXp
            clear zXp
            obtain ⟨j6, iI⟩ : ∃ j_ : Int, (Int.tmod wI (zQ.length : Int)) = j_ := ⟨_, rfl⟩
            replace H : (if 0 ≤ (j6) then (if (j6) < (zQ.length : Int) then ((yj.f l0 (wrap64 (xg + 8))).bind fun YP => (if (Int.tmod YP 4) = 1 then (if vH.length < 2932031007402 then (zJ.j2 k2 l0 (zQ.length : Int) xg ((zS zQ xg).f0) ((zS zQ (j6)).f0) (⟨#[71]⟩ : ByteArray) ((Int.tmod xM 2) == 1) 200 zQ (vH ++ [(⟨(zS zQ xg).f0, (zS zQ (ZJ)).f0, (zS zQ (j6)).f0⟩ : xK)]) xL) else (none)) else (zJ.j2 k2 l0 (zQ.length : Int) xg ((zS zQ xg).f0) ((zS zQ (j6)).f0) (⟨#[71]⟩ : ByteArray) ((Int.tmod xM 2) == 1) 200 zQ vH xL))) else (none)) else (none)) = some (r1, r2, r3, r4, r5, r6) := by first | (rw [iI] at H; exact H) | (simp only [iI] at H ⊢; exact H)
            (try rw [iI] at A39)
            (try rw [iI] at A44)
            by_cases c46 : 0 ≤ (j6)
            ·rw [if_pos c46] at H
             have zVr : decide (0 ≤ (j6)) = true := decide_eq_true c46
             clear c46
             by_cases c47 : (j6) < (zQ.length : Int)
             ·rw [if_pos c47] at H
              have zVs : decide ((j6) < (zQ.length : Int)) = true := decide_eq_true c47
              clear c47
              replace H := Option.bind_eq_some_iff.mp H
              obtain ⟨YP, zXr, H⟩ := H
              replace H : (if (Int.tmod YP 4) = 1 then (if vH.length < 2932031007402 then (zJ.j2 k2 l0 (zQ.length : Int) xg ((zS zQ xg).f0) ((zS zQ (j6)).f0) (⟨#[71]⟩ : ByteArray) ((Int.tmod xM 2) == 1) 200 zQ (vH ++ [(⟨(zS zQ xg).f0, (zS zQ (ZJ)).f0, (zS zQ (j6)).f0⟩ : xK)]) xL) else (none)) else (zJ.j2 k2 l0 (zQ.length : Int) xg ((zS zQ xg).f0) ((zS zQ (j6)).f0) (⟨#[71]⟩ : ByteArray) ((Int.tmod xM 2) == 1) 200 zQ vH xL)) = some (r1, r2, r3, r4, r5, r6) := H
              have A48 := zy.mk zXr
              clear zXr
              have zkQ := zy.mk H
              clear H
              try go_wp2
              have zn := zy.mk (Kd.yR zT.out)
              have zA := zy.mk (Kd.yR vk.out)
              have zH := zy.mk (Kd.yR vw.out)
              have zP := zy.mk (zo y9.out)
              have qj := zy.mk (zo zX.out)
              have xw := zy.mk (yP HB.out)
              clear zT vk vw y9 zX HB
              have zT := zn
              have vk := zA
              have vw := zH
              have y9 := zP
              have zX := qj
              have HB := xw
              clear zn zA zH zP qj xw
              have zxe : 0 ≤ (xg : Int) := of_decide_eq_true (by first | (with_reducible assumption) | assumption)
              have zxf : xg < (zQ.length : Int) := of_decide_eq_true (by first | (with_reducible assumption) | assumption)
              obtain ⟨jP, zWC, sI, sM⟩ := YL (Kd.yh zT.out).2.2 xg zxe zxf
              cases zWC
              replace zxe := eq_true zxe
              replace zxf := eq_true zxf
              have zxg : 0 ≤ ((ZJ) : Int) := of_decide_eq_true (by first | (with_reducible assumption) | assumption)
              have zxh : (ZJ) < (zQ.length : Int) := of_decide_eq_true (by first | (with_reducible assumption) | assumption)
              obtain ⟨zVt, zWD, sN, sO⟩ := YL (Kd.yh zT.out).2.2 (ZJ) zxg zxh
              obtain rfl : jP = zVt := (by injection zWD)
              replace zxg := eq_true zxg
              replace zxh := eq_true zxh
              have zxi : 0 ≤ ((j6) : Int) := of_decide_eq_true (by first | (with_reducible assumption) | assumption)
              have zxl : (j6) < (zQ.length : Int) := of_decide_eq_true (by first | (with_reducible assumption) | assumption)
              obtain ⟨zVu, zWE, sP, sS⟩ := YL (Kd.yh zT.out).2.2 (j6) zxi zxl
              obtain rfl : jP = zVu := (by injection zWE)
              replace zxi := eq_true zxi
              replace zxl := eq_true zxl
              refine jU (n := 31) (S := fun w' => w'.cell? ⟨yB, 0, none⟩ = some (.string (⟨#[71]⟩ : ByteArray)) ∧ w'.cell? ⟨yB, 1, none⟩ = some (.bool ((Int.tmod xM 2) == 1)) ∧ w'.cell? ⟨yB, 2, none⟩ = some (.int .i64 200) ∧ w'.cell? ⟨yB, 3, none⟩ = some (.slice (some jP) zQ.length ZU) ∧ w'.cell? ⟨yB, 4, none⟩ = some (uD) ∧ w'.cell? ⟨yB, 5, none⟩ = some (jJ) ∧ w'.cell? (jP.add ((xg).toNat * 2)) = some (.string ((zS zQ xg).f0)) ∧ w'.cell? ⟨(jP.add ((xg).toNat * 2)).block, (jP.add ((xg).toNat * 2)).off + 1, none⟩ = some (.int .i64 ((zS zQ xg).f1)) ∧ w'.cell? (jP.add (((ZJ)).toNat * 2)) = some (.string ((zS zQ (ZJ)).f0)) ∧ w'.cell? ⟨(jP.add (((ZJ)).toNat * 2)).block, (jP.add (((ZJ)).toNat * 2)).off + 1, none⟩ = some (.int .i64 ((zS zQ (ZJ)).f1)) ∧ w'.cell? (jP.add (((j6)).toNat * 2)) = some (.string ((zS zQ (j6)).f0)) ∧ w'.cell? ⟨(jP.add (((j6)).toNat * 2)).block, (jP.add (((j6)).toNat * 2)).off + 1, none⟩ = some (.int .i64 ((zS zQ (j6)).f1))) (ds := []) #[false, false, false, false, false, false, false, false, false, false, false, false, false, false, false, false, false, false, false, false, false, false, false, false, false, false, false, false, false, false, false] (by kernel_rfl) rfl rfl ⟨(zk zX.out 0).trans rfl, (zk zX.out 1).trans rfl, (zk zX.out 2).trans rfl, (zk zX.out 3).trans rfl, (zk zX.out 4).trans rfl, (zk zX.out 5).trans rfl, sI, sM, sN, sO, sP, sS⟩ (fun hHeld => ?_); refine jN zJ.zVY zJ.zXX (fun zi vR => ?_)
              generalize wr.drew = w50 at zT vk vw y9 zX HB sI sM sN sO sP sS hHeld ⊢
              refine qz 0 (some 53) zi ?_
              refine qz 2 (some 55) zi ?_
              refine qz 6 (some 59) zi ?_
              refine qz 8 (some 61) zi ?_
              refine qz 9 (some 62) zi ?_
              refine qz 10 (some 63) zi ?_
              refine qz 12 (some 65) zi ?_
              refine qz 17 (some 70) zi ?_
              refine qz 19 (some 72) zi ?_
              refine qz 20 (some 73) zi ?_
              refine qz 21 (some 74) zi ?_
              refine qz 23 (some 76) zi ?_
              refine uG 1 (some 54) zi vR hHeld ?_
              refine qz 3 (some 56) zi ?_
              refine qz 4 (some 57) zi ?_
              refine uG 5 (some 58) zi vR hHeld ?_
              refine uG 7 (some 60) zi vR hHeld ?_
              refine uG 18 (some 71) zi vR hHeld ?_
              refine pO 11 (some 64) zi (fun K hK => ?_)
              refine QV Tryz.func82 (by kernel_rfl) rfl #[.slice A0 l0.length c0, .int .i64 (wrap64 (xg + 8))] (by rfl) rfl rfl (by (try simp only [List.map_toArray, List.map_cons, List.map_nil]); first | done | rfl | (simp only [List.length_drop, List.length_take]; rfl)) ?_
              with_reducible refine (yj.calls _ _ l0 (wrap64 (xg + 8)) J5 _ ?qd ?qC A39.out).mono ?_
              (case qd => repeat (first | exact (Kd.zh kF.out HB.out) | (with_reducible refine Kd.yE ?_ _) | (with_reducible refine Kd.yF ?_ _) | (with_reducible refine Kd.y8 ?_)))
              (case qC => exact YO.out)
              rintro e w' ⟨rfl, ⟨nd, rfl⟩⟩
              refine ⟨_, rfl, ?_⟩
              refine hK.out _ _ ⟨(zk zX.out 0).trans rfl, (zk zX.out 1).trans rfl, (zk zX.out 2).trans rfl, (zk zX.out 3).trans rfl, (zk zX.out 4).trans rfl, (zk zX.out 5).trans rfl, hHeld.2.2.2.2.2.2.1, hHeld.2.2.2.2.2.2.2.1, hHeld.2.2.2.2.2.2.2.2.1, hHeld.2.2.2.2.2.2.2.2.2.1, hHeld.2.2.2.2.2.2.2.2.2.2.1, hHeld.2.2.2.2.2.2.2.2.2.2.2⟩ (fun hHeld => ?_)
              clear hK K
              refine jO (some 64) ?_
              refine qz 13 (some 66) zi ?_
              refine qz 14 (some 67) zi ?_
              refine qz 15 (some 68) zi ?_
              refine uG 16 (some 69) zi vR hHeld ?_
              refine pO 22 (some 75) zi (fun K hK => ?_)
              refine QV Tryz.func82 (by kernel_rfl) rfl #[.slice A0 l0.length c0, .int .i64 (wrap64 (xg + 16))] (by rfl) rfl rfl (by (try simp only [List.map_toArray, List.map_cons, List.map_nil]); first | done | rfl | (simp only [List.length_drop, List.length_take]; rfl)) ?_
              with_reducible refine (yj.calls _ _ l0 (wrap64 (xg + 16)) wI _ ?qd ?qC A44.out).mono ?_
              (case qd => repeat (first | exact (Kd.zh kF.out (yX HB.out)) | (with_reducible refine Kd.yE ?_ _) | (with_reducible refine Kd.yF ?_ _) | (with_reducible refine Kd.y8 ?_)))
              (case qC => exact YO.out)
              rintro e w' ⟨rfl, ⟨nd, rfl⟩⟩
              refine ⟨_, rfl, ?_⟩
              refine hK.out _ _ ⟨(zk zX.out 0).trans rfl, (zk zX.out 1).trans rfl, (zk zX.out 2).trans rfl, (zk zX.out 3).trans rfl, (zk zX.out 4).trans rfl, (zk zX.out 5).trans rfl, hHeld.2.2.2.2.2.2.1, hHeld.2.2.2.2.2.2.2.1, hHeld.2.2.2.2.2.2.2.2.1, hHeld.2.2.2.2.2.2.2.2.2.1, hHeld.2.2.2.2.2.2.2.2.2.2.1, hHeld.2.2.2.2.2.2.2.2.2.2.2⟩ (fun hHeld => ?_)
              clear hK K
              refine jO (some 75) ?_
              refine qz 24 (some 77) zi ?_
              refine qz 25 (some 78) zi ?_
              refine qz 26 (some 79) zi ?_
              refine qz 28 (some 7) zi ?_
              refine qz 29 (some 8) zi ?_
              refine uG 27 (some 80) zi vR hHeld ?_
              refine qz 30 (some 9) zi ?_
              refine vO (xH zi.out (by kernel_rfl)) ?_
              go_upto_if 86 with (first | ((with_reducible refine yI (f := 82) rfl ?_); refine je (some 84) Tryz.func82 #[.slice A0 l0.length c0, .int .i64 (wrap64 (xg + 8))] ?_; (with_reducible refine (yj.calls _ _ l0 (wrap64 (xg + 8)) YP _ ?qd ?qC A48.out).mono ?_); (case qd => repeat (first | exact (Kd.zh kF.out (yX HB.out)) | (with_reducible refine Kd.yE ?_ _) | (with_reducible refine Kd.yF ?_ _) | (with_reducible refine Kd.y8 ?_))); (case qC => exact YO.out); rintro e w' ⟨rfl, ⟨nd, rfl⟩⟩; refine ⟨_, rfl, ?_⟩))
              (try simp only [Act.put, List.setIfInBounds_toArray, List.set_cons_zero, List.set_cons_succ])
              go_cut [] (fun wc => ∃ (kq : Nat) (jr : List (xK)) (uD : Value), zy (zJ.j2 kq l0 (zQ.length : Int) xg ((zS zQ xg).f0) ((zS zQ (j6)).f0) (⟨#[71]⟩ : ByteArray) ((Int.tmod xM 2) == 1) 200 zQ jr xL = some (r1, r2, r3, r4, r5, r6)) ∧ zy (kq ≤ k2) ∧ zy (Kd.R jC 81 wc w.heap.size (fun _ => True) (.slice (some jP) zQ.length ZU) zQ) ∧ zy (Kd.R kR 83 wc w.heap.size (fun _ => True) uD jr) ∧ zy (Kd.R kE 84 wc w.heap.size (fun _ => True) jJ xL) ∧ zy (wc.heap[vV]? = some (.cells #[.string (⟨#[]⟩ : ByteArray), .bool false, .int .i64 0, (.slice none 0 0), (.slice none 0 0), (.slice none 0 0)] 26 (0, 0))) ∧ zy (wc.heap[yB]? = some (.cells #[.string (⟨#[71]⟩ : ByteArray), .bool ((Int.tmod xM 2) == 1), .int .i64 200, (.slice (some jP) zQ.length ZU), uD, jJ] 44 (0, 0))) ∧ zy (Below w.heap.size w wc))
              case first =>
               have H := zkQ.out
               clear zkQ
               by_cases c51 : (Int.tmod YP 4) = 1
               ·rw [if_pos c51] at H
                have Pn : ((Int.tmod YP 4) == 1) = true := beq_iff_eq.mpr c51
                have zyC : ((Int.tmod YP 4) != 1) = false := bne_eq_false_iff_eq.mpr c51
                clear c51
                (first | rw [Pn] | (simp only [wJ, wV]; rw [Pn]) | skip)
                by_cases c52 : vH.length < 2932031007402
                ·rw [if_pos c52] at H
                 have zVA := zy.mk c52
                 clear c52
                 obtain ⟨sU, mY⟩ : ∃ y_ : List (xK), y_ = (vH ++ [(⟨(zS zQ xg).f0, (zS zQ (ZJ)).f0, (zS zQ (j6)).f0⟩ : xK)]) := ⟨_, rfl⟩
                 replace H : (zJ.j2 k2 l0 (zQ.length : Int) xg ((zS zQ xg).f0) ((zS zQ (j6)).f0) (⟨#[71]⟩ : ByteArray) ((Int.tmod xM 2) == 1) 200 zQ sU xL) = some (r1, r2, r3, r4, r5, r6) := by first | (rw [mY]; with_reducible exact H) | (have uN := (Option.bind_some _ _).symm.trans H; rw [mY]; with_reducible exact uN) | (have uN := (Option.bind_some _ _).symm.trans H; with_reducible exact uN) | with_reducible exact H | (rw [mY]; exact H) | exact H
                 have zVB := zy.mk mY
                 clear mY
                 have H' := zy.mk H
                 clear H
                 have zhl := YS.out
                 have zhm := YR.out
                 have zw6 : w50.cell? ⟨yB, 0, none⟩ = some (.string (⟨#[71]⟩ : ByteArray)) := (zk zX.out 0).trans rfl
                 have zw7 : w50.cell? ⟨yB, 1, none⟩ = some (.bool ((Int.tmod xM 2) == 1)) := (zk zX.out 1).trans rfl
                 have zw8 : w50.cell? ⟨yB, 2, none⟩ = some (.int .i64 200) := (zk zX.out 2).trans rfl
                 have zw9 : w50.cell? ⟨yB, 3, none⟩ = some (.slice (some jP) zQ.length ZU) := (zk zX.out 3).trans rfl
                 have zZz : w50.cell? ⟨yB, 4, none⟩ = some (uD) := (zk zX.out 4).trans rfl
                 have zZq : w50.cell? ⟨yB, 5, none⟩ = some (jJ) := (zk zX.out 5).trans rfl
                 have zZx := zw zX.out 0
                 have zZj := zw zX.out 1
                 have zZv := zw zX.out 2
                 have zZk := zw zX.out 3
                 have zZy := zw zX.out 4
                 have zZw := zw zX.out 5
                 go_wp2_with (first | ((with_reducible refine QK (b := .append) (xs := #[.tmp 88, .tmp 93]) rfl ?_); at_builtin; refine Kd.JU kR (w0 := w) w.heap.size rfl (.tmp 88) (.tmp 93) 41 83 (.agg #[(.string ⟨#[]⟩), (.string ⟨#[]⟩), (.string ⟨#[]⟩)]) 48 rfl Tryz.underlying41 lD rfl (by decide) (by omega) uD vH (⟨(zS zQ xg).f0, (zS zQ (ZJ)).f0, (zS zQ (j6)).f0⟩ : xK) [.string ((zS zQ xg).f0), .string ((zS zQ (ZJ)).f0), .string ((zS zQ (j6)).f0)] (fun _ => True) (fun _ => False) rfl rfl ?aP (fun _ hk => hk.elim) ?aF ?aO ?aB ?aS ?aL ?_; (case aP => exact rO _ _ _ (⟨(zS zQ xg).f0, (zS zQ (ZJ)).f0, (zS zQ (j6)).f0⟩ : xK)); (case aB => exact (yX HB.out)); (case aF => exact (fun _ _ => trivial)); (case aO => exact (yK vk.out)); (case aS => exact (zO (yX HB.out))); (case aL => have := zVA.out; omega); intro zis l7 ho hb hg hat; rw [← zVB.out] at ho; have zn := zy.mk (Kd.vN (yK zT.out) (Kd.vM (yK vk.out)) (by decide) hg); have zA := zy.mk (Kd.vN (yK vw.out) (Kd.vM (yK vk.out)) (by decide) hg); have zH := zy.mk (qx (g := vV) (o := .cells #[.string (⟨#[]⟩ : ByteArray), .bool false, .int .i64 0, .slice none 0 0, .slice none 0 0, .slice none 0 0] 26 (0, 0)) (qX y9.out) hg (Kd.uX vk.out y9.out (by decide))); have zP := zy.mk (qx (g := yB) (o := .cells #[.string (⟨#[71]⟩ : ByteArray), .bool ((Int.tmod xM 2) == 1), .int .i64 200, .slice (some jP) zQ.length ZU, uD, jJ] 44 (0, 0)) (qX zX.out) hg (Kd.uX vk.out zX.out (by decide))); have qj := zy.mk (hb); have xw := zy.mk (ho); clear zT; clear vw; clear y9; clear zX; clear HB; clear vk; have zT := zn; have vw := zA; have y9 := zH; have zX := zP; have HB := qj; have zyD := xw; clear zn zA zH zP qj xw; clear ho hb hg hat; obtain ⟨zxm, zxn, zWF⟩ := Kd.yx zyD.out; subst zWF; have zZZ : l7.cell? ⟨yB, 0, none⟩ = some (.string (⟨#[71]⟩ : ByteArray)) := (zk zX.out 0).trans rfl; have zZQ : l7.cell? ⟨yB, 1, none⟩ = some (.bool ((Int.tmod xM 2) == 1)) := (zk zX.out 1).trans rfl; have zZX : l7.cell? ⟨yB, 2, none⟩ = some (.int .i64 200) := (zk zX.out 2).trans rfl; have zZJ : l7.cell? ⟨yB, 3, none⟩ = some (.slice (some jP) zQ.length ZU) := (zk zX.out 3).trans rfl; have zZV : l7.cell? ⟨yB, 4, none⟩ = some (uD) := (zk zX.out 4).trans rfl; have zZK : l7.cell? ⟨yB, 5, none⟩ = some (jJ) := (zk zX.out 5).trans rfl; have zZY := zw zX.out 0; have zZW := zw zX.out 1; have zZa := zw zX.out 2; have zZb := zw zX.out 3; have zZc := zw zX.out 4; have zZd := zw zX.out 5))
                 go_meet
                 case rel => exact ⟨_, (sU), (.slice zxm sU.length zxn), H', ⟨by have := vT.out; have := KN.out; first | omega | exact Nat.le_refl _⟩, ⟨by (with_reducible repeat (first | apply Kd.qE | apply Kd.qp | apply Kd.yR)); exact Kd.yN (Kd.qy (p := ⟨yB, 4, none⟩) (Kd.vQ zT.out zX.out (by decide)) (fun _ hk => hk.2) (.slice zxm sU.length zxn)) (fun _ hk => trivial)⟩, ⟨by (with_reducible repeat (first | apply Kd.qE | apply Kd.qp | apply Kd.yR)); exact Kd.yN (Kd.qy (p := ⟨yB, 4, none⟩) (Kd.vQ zyD.out zX.out (by decide)) (fun _ hk => hk.2) (.slice zxm sU.length zxn)) (fun _ hk => trivial)⟩, ⟨by (with_reducible repeat (first | apply Kd.qE | apply Kd.qp | apply Kd.yR)); exact Kd.yN (Kd.qy (p := ⟨yB, 4, none⟩) (Kd.vQ vw.out zX.out (by decide)) (fun _ hk => hk.2) (.slice zxm sU.length zxn)) (fun _ hk => trivial)⟩, ⟨bY y9.out⟩, ⟨by (with_reducible repeat (first | refine zC ?_ _ | refine zo ?_ | refine zV ?_ _)); refine zD (cs := #[.string (⟨#[71]⟩ : ByteArray), .bool ((Int.tmod xM 2) == 1), .int .i64 200, .slice (some jP) zQ.length ZU, uD, jJ]) ?_ 4 _ rfl; (with_reducible repeat (first | refine zC ?_ _ | refine zo ?_ | refine zV ?_ _)); exact zX.out⟩, ⟨yX HB.out⟩⟩
                ·rw [if_neg c52] at H
                 exact absurd H (by simp)
               ·rw [if_neg c51] at H
                have Pn : ((Int.tmod YP 4) == 1) = false := beq_eq_false_iff_ne.mpr c51
                have zyC : ((Int.tmod YP 4) != 1) = true := bne_iff_ne.mpr c51
                (first | rw [Pn] | (simp only [wJ, wV]; rw [Pn]) | skip)
                have H' := zy.mk H
                clear H
                go_wp2
                go_meet
                case rel => exact ⟨_, (vH), (uD), H', ⟨by have := vT.out; have := KN.out; first | omega | exact Nat.le_refl _⟩, ⟨yK zT.out⟩, ⟨yK vk.out⟩, ⟨yK vw.out⟩, ⟨qX y9.out⟩, ⟨qX zX.out⟩, ⟨yX HB.out⟩⟩
              case rest =>
               clear zkQ
               try clear c1
               try clear zWA
               try clear c2
               try clear p2
               try clear zWB
               try clear c3
               try clear c4
               try clear c5
               try clear p5
               try clear q5
               try clear hx5
               try clear p6
               try clear c7
               try clear QN
               try clear c8
               try clear c9
               try clear WV
               try clear zxW
               try clear c10
               try clear VU
               try clear c12
               try clear J8
               try clear c23
               try clear Kz
               try clear c33
               try clear l6
               try clear zyB
               try clear c37
               try clear zVh
               try clear WY
               try clear zVi
               try clear c40
               try clear zVl
               try clear zVm
               try clear zVn
               try clear c42
               try clear zVo
               try clear c43
               try clear zVp
               try clear c46
               try clear zVr
               try clear c47
               try clear zVs
               try clear p50
               try clear q50
               try clear zXs
               try clear c51
               try clear Pn
               try clear zyC
               try clear c52
               try clear c53
               try clear sw
               try clear sZ
               try clear sQ
               try clear sJ
               try clear sV
               try clear sK
               try clear zw6
               try clear zw7
               try clear zw8
               try clear zw9
               try clear zZz
               try clear zZq
               try clear zZZ
               try clear zZQ
               try clear zZX
               try clear zZJ
               try clear zZV
               try clear zZK
               try clear sW
               try clear su
               try clear sD
               try clear sF
               try clear sG
               try clear sH
               try clear zZx
               try clear zZj
               try clear zZv
               try clear zZk
               try clear zZy
               try clear zZw
               try clear zZY
               try clear zZW
               try clear zZa
               try clear zZb
               try clear zZc
               try clear zZd
               try clear sI
               try clear sM
               try clear sN
               try clear sO
               try clear sP
               try clear sS
               try clear p2
               try clear zxe
               try clear zxg
               try clear zxi
               try clear p6
               try clear zxf
               try clear zxh
               try clear zxl
               obtain ⟨kq, jr, uD, HA, tq, zT, vk, vw, y9, zX, HB⟩ := hcut
               cases kq with
               | zero => exact absurd HA.out (by simp [zJ.j2])
               | succ Kq =>
                have H := HA.out
                clear HA
                simp only [zJ.j2] at H
                replace H := Option.bind_eq_some_iff.mp H
                obtain ⟨Yr, zXt, H⟩ := H
                replace H : (if (wrap64 ((Int.tmod Yr 1001) - 500)) = 0 then (zJ.l1 Kq l0 (zQ.length : Int) (wrap64 (xg + 1)) (⟨#[71]⟩ : ByteArray) ((Int.tmod xM 2) == 1) 200 zQ jr xL) else ((yj.f l0 (wrap64 (xg + 24))).bind fun VG => (if (Int.tmod VG 2) = 0 then (if xL.length < 3518437208883 then (zJ.l1 Kq l0 (zQ.length : Int) (wrap64 (xg + 1)) (⟨#[71]⟩ : ByteArray) ((Int.tmod xM 2) == 1) 200 zQ jr (xL ++ [(⟨((zS zQ xg).f0), ((zS zQ (j6)).f0), wrap64 ((Int.tmod Yr 1001) - 500)⟩ : xY)])) else (none)) else (zJ.l1 Kq l0 (zQ.length : Int) (wrap64 (xg + 1)) (⟨#[71]⟩ : ByteArray) ((Int.tmod xM 2) == 1) 200 zQ jr xL)))) = some (r1, r2, r3, r4, r5, r6) := H
                have A58 := zy.mk zXt
                clear zXt
                by_cases c59 : (wrap64 ((Int.tmod Yr 1001) - 500)) = 0
                ·rw [if_pos c59] at H
                 have zVC : ((wrap64 ((Int.tmod Yr 1001) - 500)) == 0) = true := beq_iff_eq.mpr c59
                 have zVD : ((wrap64 ((Int.tmod Yr 1001) - 500)) != 0) = false := bne_eq_false_iff_eq.mpr c59
                 clear c59
                 have H' := zy.mk H
                 clear H
                 go_wp2_with (first | ((with_reducible refine yI (f := 82) rfl ?_); refine je (some 99) Tryz.func82 #[.slice A0 l0.length c0, .int .i64 (wrap64 (xg + 16))] ?_; (with_reducible refine (yj.calls _ _ l0 (wrap64 (xg + 16)) Yr _ ?qd ?qC A58.out).mono ?_); (case qd => repeat (first | exact (Kd.zh kF.out HB.out) | (with_reducible refine Kd.yE ?_ _) | (with_reducible refine Kd.yF ?_ _) | (with_reducible refine Kd.y8 ?_))); (case qC => exact YO.out); rintro e w' ⟨rfl, ⟨nd, rfl⟩⟩; refine ⟨_, rfl, ?_⟩))
                 go_roundg Kq
                 case measure => have := vT.out; have := KN.out; have := tq.out; omega
                 case rel => exact ⟨(wrap64 (xg + 1)), (jr), (xL), (uD), (jJ), (by first | rfl | (simp; done) | (simp [*]; done)), H', ⟨by have := vT.out; have := KN.out; have := tq.out; omega⟩, ⟨yK zT.out⟩, ⟨yK vk.out⟩, ⟨yK vw.out⟩, ⟨qX y9.out⟩, ⟨qX zX.out⟩, ⟨yX HB.out⟩⟩
                ·rw [if_neg c59] at H
                 have zVC : ((wrap64 ((Int.tmod Yr 1001) - 500)) == 0) = false := beq_eq_false_iff_ne.mpr c59
                 have zVD : ((wrap64 ((Int.tmod Yr 1001) - 500)) != 0) = true := bne_iff_ne.mpr c59
                 replace H := Option.bind_eq_some_iff.mp H
                 obtain ⟨VG, zXu, H⟩ := H
                 replace H : (if (Int.tmod VG 2) = 0 then (if xL.length < 3518437208883 then (zJ.l1 Kq l0 (zQ.length : Int) (wrap64 (xg + 1)) (⟨#[71]⟩ : ByteArray) ((Int.tmod xM 2) == 1) 200 zQ jr (xL ++ [(⟨((zS zQ xg).f0), ((zS zQ (j6)).f0), wrap64 ((Int.tmod Yr 1001) - 500)⟩ : xY)])) else (none)) else (zJ.l1 Kq l0 (zQ.length : Int) (wrap64 (xg + 1)) (⟨#[71]⟩ : ByteArray) ((Int.tmod xM 2) == 1) 200 zQ jr xL)) = some (r1, r2, r3, r4, r5, r6) := H
                 have fE := zy.mk zXu
                 clear zXu
                 by_cases Jo : (Int.tmod VG 2) = 0
                 ·rw [if_pos Jo] at H
                  have zxo : ((Int.tmod VG 2) == 0) = true := beq_iff_eq.mpr Jo
                  have zxp : ((Int.tmod VG 2) != 0) = false := bne_eq_false_iff_eq.mpr Jo
                  clear Jo
                  by_cases c62 : xL.length < 3518437208883
                  ·rw [if_pos c62] at H
                   have zVE := zy.mk c62
                   clear c62
                   obtain ⟨tZ, mW⟩ : ∃ y_ : List (xY), y_ = (xL ++ [(⟨((zS zQ xg).f0), ((zS zQ (j6)).f0), wrap64 ((Int.tmod Yr 1001) - 500)⟩ : xY)]) := ⟨_, rfl⟩
                   replace H : (zJ.l1 Kq l0 (zQ.length : Int) (wrap64 (xg + 1)) (⟨#[71]⟩ : ByteArray) ((Int.tmod xM 2) == 1) 200 zQ jr tZ) = some (r1, r2, r3, r4, r5, r6) := by first | (rw [mW]; with_reducible exact H) | (have uN := (Option.bind_some _ _).symm.trans H; rw [mW]; with_reducible exact uN) | (have uN := (Option.bind_some _ _).symm.trans H; with_reducible exact uN) | with_reducible exact H | (rw [mW]; exact H) | exact H
                   have zVF := zy.mk mW
                   clear mW
                   have H' := zy.mk H
                   clear H
                   go_wp2_with (first | ((with_reducible refine yI (f := 82) rfl ?_); refine je (some 99) Tryz.func82 #[.slice A0 l0.length c0, .int .i64 (wrap64 (xg + 16))] ?_; (with_reducible refine (yj.calls _ _ l0 (wrap64 (xg + 16)) Yr _ ?qd ?qC A58.out).mono ?_); (case qd => repeat (first | exact (Kd.zh kF.out HB.out) | (with_reducible refine Kd.yE ?_ _) | (with_reducible refine Kd.yF ?_ _) | (with_reducible refine Kd.y8 ?_))); (case qC => exact YO.out); rintro e w' ⟨rfl, ⟨nd, rfl⟩⟩; refine ⟨_, rfl, ?_⟩; (try (rw [VT wc]; generalize ZT : World.drewN wc _ = wc; have zn : zy (Kd.R jC 81 wc w.heap.size (fun _ => True) (.slice (some jP) zQ.length ZU) zQ) := ⟨by rw [← ZT]; exact (yK zT.out)⟩; have zA : zy (Kd.R kR 83 wc w.heap.size (fun _ => True) uD jr) := ⟨by rw [← ZT]; exact (yK vk.out)⟩; have zH : zy (Kd.R kE 84 wc w.heap.size (fun _ => True) jJ xL) := ⟨by rw [← ZT]; exact (yK vw.out)⟩; have zP : zy (wc.heap[vV]? = some (.cells #[.string (⟨#[]⟩ : ByteArray), .bool false, .int .i64 0, .slice none 0 0, .slice none 0 0, .slice none 0 0] 26 (0, 0))) := ⟨by rw [← ZT]; exact (qX y9.out)⟩; have qj : zy (wc.heap[yB]? = some (.cells #[.string (⟨#[71]⟩ : ByteArray), .bool ((Int.tmod xM 2) == 1), .int .i64 200, .slice (some jP) zQ.length ZU, uD, jJ] 44 (0, 0))) := ⟨by rw [← ZT]; exact (qX zX.out)⟩; have xw : zy (Below w.heap.size w wc) := ⟨by rw [← ZT]; exact (yX HB.out)⟩; clear zT vk vw y9 zX HB ZT; have zT := zn; have vk := zA; have vw := zH; have y9 := zP; have zX := qj; have HB := xw; clear zn zA zH zP qj xw))) | (go_at_call 82; (with_reducible refine (yj.calls _ _ l0 (wrap64 (xg + 24)) VG _ ?qd ?qC fE.out).mono ?_); (case qd => repeat (first | exact (Kd.zh kF.out HB.out) | (with_reducible refine Kd.yE ?_ _) | (with_reducible refine Kd.yF ?_ _) | (with_reducible refine Kd.y8 ?_))); (case qC => exact YO.out); rintro e w' ⟨rfl, ⟨nd, rfl⟩⟩; (try (rw [VT wc]; generalize ZT : World.drewN wc _ = wc; have zn : zy (Kd.R jC 81 wc w.heap.size (fun _ => True) (.slice (some jP) zQ.length ZU) zQ) := ⟨by rw [← ZT]; exact (yK zT.out)⟩; have zA : zy (Kd.R kR 83 wc w.heap.size (fun _ => True) uD jr) := ⟨by rw [← ZT]; exact (yK vk.out)⟩; have zH : zy (Kd.R kE 84 wc w.heap.size (fun _ => True) jJ xL) := ⟨by rw [← ZT]; exact (yK vw.out)⟩; have zP : zy (wc.heap[vV]? = some (.cells #[.string (⟨#[]⟩ : ByteArray), .bool false, .int .i64 0, .slice none 0 0, .slice none 0 0, .slice none 0 0] 26 (0, 0))) := ⟨by rw [← ZT]; exact (qX y9.out)⟩; have qj : zy (wc.heap[yB]? = some (.cells #[.string (⟨#[71]⟩ : ByteArray), .bool ((Int.tmod xM 2) == 1), .int .i64 200, .slice (some jP) zQ.length ZU, uD, jJ] 44 (0, 0))) := ⟨by rw [← ZT]; exact (qX zX.out)⟩; have xw : zy (Below w.heap.size w wc) := ⟨by rw [← ZT]; exact (yX HB.out)⟩; clear zT vk vw y9 zX HB ZT; have zT := zn; have vk := zA; have vw := zH; have y9 := zP; have zX := qj; have HB := xw; clear zn zA zH zP qj xw)); have zhn := YS.out; have zho := YR.out; have zdf : wc.cell? ⟨yB, 0, none⟩ = some (.string (⟨#[71]⟩ : ByteArray)) := (zk zX.out 0).trans rfl; have zdg : wc.cell? ⟨yB, 1, none⟩ = some (.bool ((Int.tmod xM 2) == 1)) := (zk zX.out 1).trans rfl; have zdh : wc.cell? ⟨yB, 2, none⟩ = some (.int .i64 200) := (zk zX.out 2).trans rfl; have zdi : wc.cell? ⟨yB, 3, none⟩ = some (.slice (some jP) zQ.length ZU) := (zk zX.out 3).trans rfl; have zdl : wc.cell? ⟨yB, 4, none⟩ = some (uD) := (zk zX.out 4).trans rfl; have zdm : wc.cell? ⟨yB, 5, none⟩ = some (jJ) := (zk zX.out 5).trans rfl; have zdn := zw zX.out 0; have zdo := zw zX.out 1; have zdp := zw zX.out 2; have zdr := zw zX.out 3; have zds := zw zX.out 4; have zdu := zw zX.out 5) | ((with_reducible refine QK (b := .append) (xs := #[.tmp 113, .tmp 118]) rfl ?_); at_builtin; refine Kd.JU kE (w0 := w) w.heap.size rfl (.tmp 113) (.tmp 118) 42 84 (.agg #[(.string ⟨#[]⟩), (.string ⟨#[]⟩), (.int .i64 0)]) 40 rfl Tryz.underlying42 gT rfl (by decide) (by omega) jJ xL (⟨((zS zQ xg).f0), ((zS zQ (j6)).f0), wrap64 ((Int.tmod Yr 1001) - 500)⟩ : xY) [.string ((zS zQ xg).f0), .string ((zS zQ (j6)).f0), .int .i64 (wrap64 ((Int.tmod Yr 1001) - 500))] (fun _ => True) (fun _ => False) rfl rfl ?aP (fun _ hk => hk.elim) ?aF ?aO ?aB ?aS ?aL ?_; (case aP => exact Pb _ _ _ (⟨((zS zQ xg).f0), ((zS zQ (j6)).f0), wrap64 ((Int.tmod Yr 1001) - 500)⟩ : xY)); (case aB => exact (yX HB.out)); (case aF => exact (fun _ _ => trivial)); (case aO => exact (yK vw.out)); (case aS => exact (zO (yX HB.out))); (case aL => have := zVE.out; omega); intro zit w65 ho hb hg hat; rw [← zVF.out] at ho; have zn := zy.mk (Kd.vN (yK zT.out) (Kd.vM (yK vw.out)) (by decide) hg); have zA := zy.mk (Kd.vN (yK vk.out) (Kd.vM (yK vw.out)) (by decide) hg); have zH := zy.mk (qx (g := vV) (o := .cells #[.string (⟨#[]⟩ : ByteArray), .bool false, .int .i64 0, .slice none 0 0, .slice none 0 0, .slice none 0 0] 26 (0, 0)) (qX y9.out) hg (Kd.uX vw.out y9.out (by decide))); have zP := zy.mk (qx (g := yB) (o := .cells #[.string (⟨#[71]⟩ : ByteArray), .bool ((Int.tmod xM 2) == 1), .int .i64 200, .slice (some jP) zQ.length ZU, uD, jJ] 44 (0, 0)) (qX zX.out) hg (Kd.uX vw.out zX.out (by decide))); have qj := zy.mk (hb); have xw := zy.mk (ho); clear zT; clear vk; clear y9; clear zX; clear HB; clear vw; have zT := zn; have vk := zA; have y9 := zH; have zX := zP; have HB := qj; have zyE := xw; clear zn zA zH zP qj xw; clear ho hb hg hat; obtain ⟨l8, l9, zkX⟩ := Kd.yx zyE.out; subst zkX; have zdA : w65.cell? ⟨yB, 0, none⟩ = some (.string (⟨#[71]⟩ : ByteArray)) := (zk zX.out 0).trans rfl; have zdB : w65.cell? ⟨yB, 1, none⟩ = some (.bool ((Int.tmod xM 2) == 1)) := (zk zX.out 1).trans rfl; have zdC : w65.cell? ⟨yB, 2, none⟩ = some (.int .i64 200) := (zk zX.out 2).trans rfl; have zdD : w65.cell? ⟨yB, 3, none⟩ = some (.slice (some jP) zQ.length ZU) := (zk zX.out 3).trans rfl; have zdE : w65.cell? ⟨yB, 4, none⟩ = some (uD) := (zk zX.out 4).trans rfl; have zdF : w65.cell? ⟨yB, 5, none⟩ = some (jJ) := (zk zX.out 5).trans rfl; have zdG := zw zX.out 0; have zdH := zw zX.out 1; have zdI := zw zX.out 2; have zdL := zw zX.out 3; have zdM := zw zX.out 4; have zdN := zw zX.out 5))
                   go_roundg Kq
                   case measure => have := vT.out; have := KN.out; have := tq.out; omega
                   case rel => exact ⟨(wrap64 (xg + 1)), (jr), (tZ), (uD), (.slice l8 tZ.length l9), (by first | rfl | (simp; done) | (simp [*]; done)), H', ⟨by have := vT.out; have := KN.out; have := tq.out; omega⟩, ⟨by (with_reducible repeat (first | apply Kd.qE | apply Kd.qp | apply Kd.yR)); exact Kd.yN (Kd.qy (p := ⟨yB, 5, none⟩) (Kd.vQ zT.out zX.out (by decide)) (fun _ hk => hk.2) (.slice l8 tZ.length l9)) (fun _ hk => trivial)⟩, ⟨by (with_reducible repeat (first | apply Kd.qE | apply Kd.qp | apply Kd.yR)); exact Kd.yN (Kd.qy (p := ⟨yB, 5, none⟩) (Kd.vQ vk.out zX.out (by decide)) (fun _ hk => hk.2) (.slice l8 tZ.length l9)) (fun _ hk => trivial)⟩, ⟨by (with_reducible repeat (first | apply Kd.qE | apply Kd.qp | apply Kd.yR)); exact Kd.yN (Kd.qy (p := ⟨yB, 5, none⟩) (Kd.vQ zyE.out zX.out (by decide)) (fun _ hk => hk.2) (.slice l8 tZ.length l9)) (fun _ hk => trivial)⟩, ⟨bY y9.out⟩, ⟨by (with_reducible repeat (first | refine zC ?_ _ | refine zo ?_ | refine zV ?_ _)); refine zD (cs := #[.string (⟨#[71]⟩ : ByteArray), .bool ((Int.tmod xM 2) == 1), .int .i64 200, .slice (some jP) zQ.length ZU, uD, jJ]) ?_ 5 _ rfl; (with_reducible repeat (first | refine zC ?_ _ | refine zo ?_ | refine zV ?_ _)); exact zX.out⟩, ⟨yX HB.out⟩⟩
                  ·rw [if_neg c62] at H
                   exact absurd H (by simp)
                 ·rw [if_neg Jo] at H
                  have zxo : ((Int.tmod VG 2) == 0) = false := beq_eq_false_iff_ne.mpr Jo
                  have zxp : ((Int.tmod VG 2) != 0) = true := bne_iff_ne.mpr Jo
                  have H' := zy.mk H
                  clear H
                  go_wp2_with (first | ((with_reducible refine yI (f := 82) rfl ?_); refine je (some 99) Tryz.func82 #[.slice A0 l0.length c0, .int .i64 (wrap64 (xg + 16))] ?_; (with_reducible refine (yj.calls _ _ l0 (wrap64 (xg + 16)) Yr _ ?qd ?qC A58.out).mono ?_); (case qd => repeat (first | exact (Kd.zh kF.out HB.out) | (with_reducible refine Kd.yE ?_ _) | (with_reducible refine Kd.yF ?_ _) | (with_reducible refine Kd.y8 ?_))); (case qC => exact YO.out); rintro e w' ⟨rfl, ⟨nd, rfl⟩⟩; refine ⟨_, rfl, ?_⟩) | (go_at_call 82; (with_reducible refine (yj.calls _ _ l0 (wrap64 (xg + 24)) VG _ ?qd ?qC fE.out).mono ?_); (case qd => repeat (first | exact (Kd.zh kF.out (yX HB.out)) | (with_reducible refine Kd.yE ?_ _) | (with_reducible refine Kd.yF ?_ _) | (with_reducible refine Kd.y8 ?_))); (case qC => exact YO.out); rintro e w' ⟨rfl, ⟨nd, rfl⟩⟩))
                  go_roundg Kq
                  case measure => have := vT.out; have := KN.out; have := tq.out; omega
                  case rel => exact ⟨(wrap64 (xg + 1)), (jr), (xL), (uD), (jJ), (by first | rfl | (simp; done) | (simp [*]; done)), H', ⟨by have := vT.out; have := KN.out; have := tq.out; omega⟩, ⟨yK zT.out⟩, ⟨yK vk.out⟩, ⟨yK vw.out⟩, ⟨qX y9.out⟩, ⟨qX zX.out⟩, ⟨yX HB.out⟩⟩
             ·rw [if_neg c47] at H
              exact absurd H (by simp)
            ·rw [if_neg c46] at H
             exact absurd H (by simp)
           ·rw [if_neg c43] at H
            exact absurd H (by simp)
          ·rw [if_neg c42] at H
           exact absurd H (by simp)
        ·rw [if_neg WY] at H
         exact absurd H (by simp)
       ·rw [if_neg c37] at H
        exact absurd H (by simp)
      ·rw [if_neg l6] at H
       have zyB : decide (xg < (zQ.length : Int)) = false := decide_eq_false l6
       clear l6
       replace H := Option.bind_eq_some_iff.mp H
       obtain ⟨⟨Ue, Jk, Kj, WW, bT, tQ⟩, zXA, H⟩ := H
       replace H : (some (Ue, Jk, Kj, WW, bT, tQ)) = some (r1, r2, r3, r4, r5, r6) := H
       have A68 := zy.mk zXA
       clear zXA
       simp only [Option.some.injEq, Prod.mk.injEq] at H
       obtain ⟨rfl, rfl, rfl, rfl, rfl, rfl⟩ := H
       have zhp := YS.out
       have zhr := YR.out
       have zdO : wr.cell? ⟨yB, 0, none⟩ = some (.string (⟨#[71]⟩ : ByteArray)) := (zk zX.out 0).trans rfl
       have zdP : wr.cell? ⟨yB, 1, none⟩ = some (.bool ((Int.tmod xM 2) == 1)) := (zk zX.out 1).trans rfl
       have zdR : wr.cell? ⟨yB, 2, none⟩ = some (.int .i64 200) := (zk zX.out 2).trans rfl
       have zdS : wr.cell? ⟨yB, 3, none⟩ = some (.slice lU zQ.length ZU) := (zk zX.out 3).trans rfl
       have zdT : wr.cell? ⟨yB, 4, none⟩ = some (uD) := (zk zX.out 4).trans rfl
       have zdU : wr.cell? ⟨yB, 5, none⟩ = some (jJ) := (zk zX.out 5).trans rfl
       have zd0 := zw zX.out 0
       have zd1 := zw zX.out 1
       have zd2 := zw zX.out 2
       have zd3 := zw zX.out 3
       have zd4 := zw zX.out 4
       have zd5 := zw zX.out 5
       obtain ⟨zXB, zXC, zWG⟩ := Kd.yx vk.out
       subst zWG
       obtain ⟨zkJ, zkV, zkK⟩ := Kd.yx vw.out
       subst zkK
       go_wp2_with (first | ((with_reducible refine yI (f := 19) rfl ?_); refine je (some 122) Tryz.func19 #[.agg #[.string (⟨#[71]⟩ : ByteArray), .bool ((Int.tmod xM 2) == 1), .int .i64 200, .slice lU zQ.length ZU, .slice zXB vH.length zXC, .slice zkJ xL.length zkV]] ?_; (with_reducible refine (jM.calls k2 (⟨#[71]⟩ : ByteArray) ((Int.tmod xM 2) == 1) 200 _ _ zQ _ _ vH _ _ xL Ue Jk Kj WW bT tQ _ ?qd ?qC ?uJ ?uV ?jE ?jF A68.out).mono ?_); (case qd => repeat (first | exact (Kd.yh zT.out).2.2 | (with_reducible refine Kd.yE ?_ _) | (with_reducible refine Kd.yF ?_ _) | (with_reducible refine Kd.y8 ?_))); (case qC => exact (Kd.yh zT.out).2.1); (case uJ => repeat (first | exact (Kd.yh vk.out).2.2 | (with_reducible refine Kd.yE ?_ _) | (with_reducible refine Kd.yF ?_ _) | (with_reducible refine Kd.y8 ?_))); (case uV => exact (Kd.yh vk.out).2.1); (case jE => repeat (first | exact (Kd.yh vw.out).2.2 | (with_reducible refine Kd.yE ?_ _) | (with_reducible refine Kd.yF ?_ _) | (with_reducible refine Kd.y8 ?_))); (case jF => exact (Kd.yh vw.out).2.1); rintro e fF ⟨ziu, ziA, ziB, rfl, ho0, ho1, ho2, hb⟩; refine ⟨_, rfl, ?_⟩; have zn := zy.mk (Kd.zR (yK zT.out) hb); have zA := zy.mk (Kd.zR (yK vk.out) hb); have zH := zy.mk (Kd.zR (yK vw.out) hb); have zP := zy.mk (Kd.jk ho0 (zO (yX HB.out))); have qj := zy.mk (Kd.jk ho1 (zO (yX HB.out))); have xw := zy.mk (Kd.jk ho2 (zO (yX HB.out))); have xO := zy.mk (zf (g := vV) (o := .cells #[.string (⟨#[]⟩ : ByteArray), .bool false, .int .i64 0, .slice none 0 0, .slice none 0 0, .slice none 0 0] 26 (0, 0)) (qX y9.out) hb); have ug := zy.mk (zf (g := yB) (o := .cells #[.string (⟨#[71]⟩ : ByteArray), .bool ((Int.tmod xM 2) == 1), .int .i64 200, .slice lU zQ.length ZU, .slice zXB vH.length zXC, .slice zkJ xL.length zkV] 44 (0, 0)) (qX zX.out) hb); have n8_ := zy.mk (yY (yX HB.out) hb); clear zT; clear vk; clear vw; clear y9; clear zX; clear HB; have zT := zn; have vk := zA; have vw := zH; have zyF := zP; have zyG := qj; have zyH := xw; have y9 := xO; have zX := ug; have HB := n8_; clear zn zA zH zP qj xw xO ug n8_; (try clear hb); (try clear hb2); (try clear hk); (try clear hi); (try clear ho0); (try clear ho1); (try clear ho2); have zd6 : fF.cell? ⟨vV, 0, none⟩ = some (.string (⟨#[]⟩ : ByteArray)) := (zk y9.out 0).trans rfl; have zd7 : fF.cell? ⟨vV, 1, none⟩ = some (.bool false) := (zk y9.out 1).trans rfl; have zd8 : fF.cell? ⟨vV, 2, none⟩ = some (.int .i64 0) := (zk y9.out 2).trans rfl; have zd9 : fF.cell? ⟨vV, 3, none⟩ = some (.slice none 0 0) := (zk y9.out 3).trans rfl; have zez : fF.cell? ⟨vV, 4, none⟩ = some (.slice none 0 0) := (zk y9.out 4).trans rfl; have zeq : fF.cell? ⟨vV, 5, none⟩ = some (.slice none 0 0) := (zk y9.out 5).trans rfl; have zex := zw y9.out 0; have zej := zw y9.out 1; have zev := zw y9.out 2; have zek := zw y9.out 3; have zey := zw y9.out 4; have zew := zw y9.out 5; obtain ⟨tJ, tV, zWH⟩ := Kd.yx zyF.out; subst zWH; obtain ⟨tK, tY, zxr⟩ := Kd.yx zyG.out; subst zxr; obtain ⟨zxs, zxt, zWI⟩ := Kd.yx zyH.out; subst zWI))
       refine bodyPost_ret (results_cell_row rfl _ _ vV 26 #[.string Ue, .bool Jk, .int .i64 Kj, .slice tJ WW.length tV, .slice tK bT.length tY, .slice zxs tQ.length zxt] (0, 0) _ rfl (by (with_reducible repeat (first | refine zC ?_ _ | refine zo ?_ | refine zV ?_ _)); refine zD (cs := #[.string Ue, .bool Jk, .int .i64 Kj, .slice tJ WW.length tV, .slice tK bT.length tY, .slice none 0 0]) ?_ 5 _ rfl; (with_reducible repeat (first | refine zC ?_ _ | refine zo ?_ | refine zV ?_ _)); refine zD (cs := #[.string Ue, .bool Jk, .int .i64 Kj, .slice tJ WW.length tV, .slice none 0 0, .slice none 0 0]) ?_ 4 _ rfl; (with_reducible repeat (first | refine zC ?_ _ | refine zo ?_ | refine zV ?_ _)); refine zD (cs := #[.string Ue, .bool Jk, .int .i64 Kj, .slice none 0 0, .slice none 0 0, .slice none 0 0]) ?_ 3 _ rfl; (with_reducible repeat (first | refine zC ?_ _ | refine zo ?_ | refine zV ?_ _)); refine zD (cs := #[.string Ue, .bool Jk, .int .i64 0, .slice none 0 0, .slice none 0 0, .slice none 0 0]) ?_ 2 _ rfl; (with_reducible repeat (first | refine zC ?_ _ | refine zo ?_ | refine zV ?_ _)); refine zD (cs := #[.string Ue, .bool false, .int .i64 0, .slice none 0 0, .slice none 0 0, .slice none 0 0]) ?_ 1 _ rfl; (with_reducible repeat (first | refine zC ?_ _ | refine zo ?_ | refine zV ?_ _)); refine zD (cs := #[.string (⟨#[]⟩ : ByteArray), .bool false, .int .i64 0, .slice none 0 0, .slice none 0 0, .slice none 0 0]) ?_ 0 _ rfl; (with_reducible repeat (first | refine zC ?_ _ | refine zo ?_ | refine zV ?_ _)); exact y9.out) Tryz.underlying26 rfl (by kernel_rfl)) rfl ?_
       exact ⟨_, _, _, by first | rfl | (simp [yZ, yQ] <;> rfl) | (simp [*, yZ, yQ] <;> rfl), by (with_reducible repeat (first | apply Kd.qE | apply Kd.qp | apply Kd.yR)); exact Kd.yN (Kd.qy (p := ⟨vV, 5, none⟩) (Kd.qy (p := ⟨vV, 4, none⟩) (Kd.qy (p := ⟨vV, 3, none⟩) (Kd.qy (p := ⟨vV, 2, none⟩) (Kd.qy (p := ⟨vV, 1, none⟩) (Kd.qy (p := ⟨vV, 0, none⟩) (Kd.vQ zyF.out y9.out (by decide)) (fun _ hk => hk.2) (.string Ue)) (fun _ hk => hk.2) (.bool Jk)) (fun _ hk => hk.2) (.int .i64 Kj)) (fun _ hk => hk.2) (.slice tJ WW.length tV)) (fun _ hk => hk.2) (.slice tK bT.length tY)) (fun _ hk => hk.2) (.slice zxs tQ.length zxt)) (fun _ hk => trivial), by (with_reducible repeat (first | apply Kd.qE | apply Kd.qp | apply Kd.yR)); exact Kd.yN (Kd.qy (p := ⟨vV, 5, none⟩) (Kd.qy (p := ⟨vV, 4, none⟩) (Kd.qy (p := ⟨vV, 3, none⟩) (Kd.qy (p := ⟨vV, 2, none⟩) (Kd.qy (p := ⟨vV, 1, none⟩) (Kd.qy (p := ⟨vV, 0, none⟩) (Kd.vQ zyG.out y9.out (by decide)) (fun _ hk => hk.2) (.string Ue)) (fun _ hk => hk.2) (.bool Jk)) (fun _ hk => hk.2) (.int .i64 Kj)) (fun _ hk => hk.2) (.slice tJ WW.length tV)) (fun _ hk => hk.2) (.slice tK bT.length tY)) (fun _ hk => hk.2) (.slice zxs tQ.length zxt)) (fun _ hk => trivial), by (with_reducible repeat (first | apply Kd.qE | apply Kd.qp | apply Kd.yR)); exact Kd.yN (Kd.qy (p := ⟨vV, 5, none⟩) (Kd.qy (p := ⟨vV, 4, none⟩) (Kd.qy (p := ⟨vV, 3, none⟩) (Kd.qy (p := ⟨vV, 2, none⟩) (Kd.qy (p := ⟨vV, 1, none⟩) (Kd.qy (p := ⟨vV, 0, none⟩) (Kd.vQ zyH.out y9.out (by decide)) (fun _ hk => hk.2) (.string Ue)) (fun _ hk => hk.2) (.bool Jk)) (fun _ hk => hk.2) (.int .i64 Kj)) (fun _ hk => hk.2) (.slice tJ WW.length tV)) (fun _ hk => hk.2) (.slice tK bT.length tY)) (fun _ hk => hk.2) (.slice zxs tQ.length zxt)) (fun _ hk => trivial), by repeat (first | (with_reducible first | exact HB.out | apply yt | apply zM | apply yP | refine qo ?_ zVW.out | refine qo ?_ zVa.out) | exact HB.out)⟩
end Go.Proofs.YtaifemkokfoadaaGreatDoor.PX
namespace Go.Proofs.YtaifemkokfoadaaGreatDoor.PX
open Go.RowKit Go.Proofs.zx.zK Go.Proofs.zx.zU Go.Proofs.zx.zN
attribute [local go_sem] qF qG xC xD qY qW qH qI   -- for this text's walks alone
set_option linter.unusedVariables false
set_option linter.unusedSimpArgs false
end Go.Proofs.YtaifemkokfoadaaGreatDoor.PX
namespace Go.Proofs.YtaifemkokfoadaaGreatDoor.PX
open Go.RowKit Go.Proofs.zx.zK Go.Proofs.zx.zU Go.Proofs.zx.zN
attribute [local go_sem] qF qG xC xD qY qW qH qI   -- for this text's walks alone
set_option linter.unusedVariables false
set_option linter.unusedSimpArgs false
end Go.Proofs.YtaifemkokfoadaaGreatDoor.PX
namespace Go.Proofs.YtaifemkokfoadaaGreatDoor.PX
open Go.RowKit Go.Proofs.zx.zK Go.Proofs.zx.zU Go.Proofs.zx.zN
attribute [local go_sem] qF qG xC xD qY qW qH qI   -- for this text's walks alone
set_option linter.unusedVariables false
set_option linter.unusedSimpArgs false
end Go.Proofs.YtaifemkokfoadaaGreatDoor.PX
namespace Go.Proofs.YtaifemkokfoadaaGreatDoor.PX
open Go.RowKit Go.Proofs.zx.zK Go.Proofs.zx.zU Go.Proofs.zx.zN
attribute [local go_sem] qF qG xC xD qY qW qH qI   -- for this text's walks alone
set_option linter.unusedVariables false
set_option linter.unusedSimpArgs false
end Go.Proofs.YtaifemkokfoadaaGreatDoor.PX
namespace Go.Proofs.YtaifemkokfoadaaGreatDoor.PX
open Go.RowKit Go.Proofs.zx.zK Go.Proofs.zx.zU Go.Proofs.zx.zN
attribute [local go_sem] qF qG xC xD qY qW qH qI   -- for this text's walks alone
set_option linter.unusedVariables false
set_option linter.unusedSimpArgs false
namespace SQ
abbrev BA := ByteArray
end SQ
open SQ
end Go.Proofs.YtaifemkokfoadaaGreatDoor.PX
namespace Go.Proofs.YtaifemkokfoadaaGreatDoor.PX
open Go.RowKit Go.Proofs.zx.zK Go.Proofs.zx.zU Go.Proofs.zx.zN
attribute [local go_sem] qF qG xC xD qY qW qH qI   -- for this text's walks alone
set_option linter.unusedVariables false
set_option linter.unusedSimpArgs false
end Go.Proofs.YtaifemkokfoadaaGreatDoor.PX
namespace Go.Proofs
open Go.Shelf
def Tryz.lays169_ren : Go.Shelf.Ren := ⟨fun | 169 => 85 | n => n, fun | 70 => 127 | 9 => 9 | 0 => 0 | 72 => 129 | 37 => 66 | 127 => 155 | 3 => 3 | 5 => 5 | n => n, fun | n => n⟩
theorem Tryz.lays169 : Go.Proofs.Lays.n169 Tryz.prog Tryz.lays169_ren := {
 mixed := by kernel_rfl
 f169 := Tryz.func85.trans (congrArg some (by kernel_rfl))
 t0 := Tryz.underlying0
 a0 := Tryz.isAgg0
 z0 := Tryz.sizeOf0
 v0 := Tryz.zeroValue0
 t3 := Tryz.underlying3
 a3 := Tryz.isAgg3
 z3 := Tryz.sizeOf3
 v3 := Tryz.zeroValue3
 t9 := Tryz.underlying9
 a9 := Tryz.isAgg9
 z9 := Tryz.sizeOf9
 v9 := Tryz.zeroValue9
 t37 := Tryz.underlying66
 a37 := Tryz.isAgg66
 z37 := Tryz.sizeOf66
 v37 := Tryz.zeroValue66
 t70 := Tryz.underlying127
 a70 := Tryz.isAgg127
 z70 := Tryz.sizeOf127
 v70 := Tryz.zeroValue127
 t72 := Tryz.underlying129
 a72 := Tryz.isAgg129
 z72 := Tryz.sizeOf129
 v72 := Tryz.zeroValue129
 t127 := Tryz.underlying155
 a127 := Tryz.isAgg155
 z127 := Tryz.sizeOf155
 v127 := Tryz.zeroValue155 }
theorem Tryz.Builder_Extra_169 : Builder.Extra Tryz.prog Tryz.lays169_ren := {
 sizeBuilder := by kernel_rfl
 liesBuilder := by kernel_rfl
 t5 := Tryz.underlying5
 a5 := Tryz.isAgg5
 z5 := Tryz.sizeOf5
 v5 := Tryz.zeroValue5
 infoByte := by kernel_rfl
 cellsByte := by kernel_rfl
 sizeByte := by kernel_rfl
 neB5 := by decide }
open Go.RowKit in
theorem Tryz.Builder_String_any (B b : Nat) (l : List UInt8) (w : World) (h : Lib.IsBuilder 129 5 B b (Lib.byteCells l) w) (hBw : B ≤ w.heap.size) :
  Calls Tryz.prog 85 #[.pointer (some ⟨b, 0, none⟩)] w fun e w' => e = .returned (.string ⟨l.toArray⟩) ∧ Below B w w' := Any.Builder_String_any Tryz.lays169 Tryz.Builder_Extra_169 B b l w h hBw
def Tryz.lays160_ren : Go.Shelf.Ren := ⟨fun | 160 => 97 | 232 => 127 | 231 => 126 | 227 => 128 | 234 => 130 | 233 => 129 | 236 => 132 | 235 => 131 | 228 => 159 | 271 => 162 | 151 => 161 | 197 => 160 | 120 => 178 | 152 => 177 | 260 => 176 | 137 => 92 | 119 => 189 | 224 => 180 | 225 => 179 | 217 => 122 | 266 => 151 | n => n, fun | 9 => 9 | 4 => 4 | 3 => 3 | 5 => 5 | 117 => 168 | 116 => 167 | 0 => 0 | 124 => 171 | 21 => 21 | 105 => 205 | 46 => 29 | 119 => 140 | 139 => 240 | 138 => 239 | n => n, fun | 3 => 5 | 4 => 6 | n => n⟩
theorem Tryz.lays160 : Go.Proofs.Lays.n160 Tryz.prog Tryz.lays160_ren := {
 mixed := by kernel_rfl
 f119 := Tryz.func189.trans (congrArg some (by kernel_rfl))
 f120 := Tryz.func178.trans (congrArg some (by kernel_rfl))
 f137 := Tryz.func92.trans (congrArg some (by kernel_rfl))
 f151 := Tryz.func161.trans (congrArg some (by kernel_rfl))
 f152 := Tryz.func177.trans (congrArg some (by kernel_rfl))
 f160 := Tryz.func97.trans (congrArg some (by kernel_rfl))
 f197 := Tryz.func160.trans (congrArg some (by kernel_rfl))
 f217 := Tryz.func122.trans (congrArg some (by kernel_rfl))
 f224 := Tryz.func180.trans (congrArg some (by kernel_rfl))
 f225 := Tryz.func179.trans (congrArg some (by kernel_rfl))
 f227 := Tryz.func128.trans (congrArg some (by kernel_rfl))
 f228 := Tryz.func159.trans (congrArg some (by kernel_rfl))
 f231 := Tryz.func126.trans (congrArg some (by kernel_rfl))
 f232 := Tryz.func127.trans (congrArg some (by kernel_rfl))
 f233 := Tryz.func129.trans (congrArg some (by kernel_rfl))
 f234 := Tryz.func130.trans (congrArg some (by kernel_rfl))
 f235 := Tryz.func131.trans (congrArg some (by kernel_rfl))
 f236 := Tryz.func132.trans (congrArg some (by kernel_rfl))
 f260 := Tryz.func176.trans (congrArg some (by kernel_rfl))
 f266 := Tryz.func151.trans (congrArg some (by kernel_rfl))
 f271 := Tryz.func162.trans (congrArg some (by kernel_rfl))
 t0 := Tryz.underlying0
 a0 := Tryz.isAgg0
 z0 := Tryz.sizeOf0
 v0 := Tryz.zeroValue0
 t3 := Tryz.underlying3
 a3 := Tryz.isAgg3
 z3 := Tryz.sizeOf3
 v3 := Tryz.zeroValue3
 t4 := Tryz.underlying4
 a4 := Tryz.isAgg4
 z4 := Tryz.sizeOf4
 v4 := Tryz.zeroValue4
 t5 := Tryz.underlying5
 a5 := Tryz.isAgg5
 z5 := Tryz.sizeOf5
 v5 := Tryz.zeroValue5
 t9 := Tryz.underlying9
 a9 := Tryz.isAgg9
 z9 := Tryz.sizeOf9
 v9 := Tryz.zeroValue9
 t21 := Tryz.underlying21
 a21 := Tryz.isAgg21
 z21 := Tryz.sizeOf21
 v21 := Tryz.zeroValue21
 t46 := Tryz.underlying29
 a46 := Tryz.isAgg29
 z46 := Tryz.sizeOf29
 v46 := Tryz.zeroValue29
 t105 := Tryz.underlying205
 a105 := Tryz.isAgg205
 z105 := Tryz.sizeOf205
 v105 := Tryz.zeroValue205
 t116 := Tryz.underlying167
 a116 := Tryz.isAgg167
 z116 := Tryz.sizeOf167
 t117 := Tryz.underlying168
 a117 := Tryz.isAgg168
 z117 := Tryz.sizeOf168
 v117 := Tryz.zeroValue168
 t119 := Tryz.underlying140
 a119 := Tryz.isAgg140
 z119 := Tryz.sizeOf140
 t124 := Tryz.underlying171
 a124 := Tryz.isAgg171
 z124 := Tryz.sizeOf171
 v124 := Tryz.zeroValue171
 t138 := Tryz.underlying239
 a138 := Tryz.isAgg239
 z138 := Tryz.sizeOf239
 v138 := Tryz.zeroValue239
 t139 := Tryz.underlying240
 a139 := Tryz.isAgg240
 z139 := Tryz.sizeOf240
 v139 := Tryz.zeroValue240
 g3 := by kernel_rfl
 g4 := by kernel_rfl }
def Tryz.lays137_ren : Go.Shelf.Ren := ⟨fun | 137 => 92 | 217 => 122 | 266 => 151 | n => n, fun | 9 => 9 | 5 => 5 | 3 => 3 | n => n, fun | n => n⟩
theorem Tryz.lays137 : Go.Proofs.Lays.n137 Tryz.prog Tryz.lays137_ren := {
 mixed := by kernel_rfl
 f137 := Tryz.func92.trans (congrArg some (by kernel_rfl))
 f217 := Tryz.func122.trans (congrArg some (by kernel_rfl))
 f266 := Tryz.func151.trans (congrArg some (by kernel_rfl))
 t3 := Tryz.underlying3
 a3 := Tryz.isAgg3
 z3 := Tryz.sizeOf3
 v3 := Tryz.zeroValue3
 t5 := Tryz.underlying5
 a5 := Tryz.isAgg5
 z5 := Tryz.sizeOf5
 v5 := Tryz.zeroValue5
 t9 := Tryz.underlying9
 a9 := Tryz.isAgg9
 z9 := Tryz.sizeOf9
 v9 := Tryz.zeroValue9 }
open Go.RowKit in
theorem Tryz.strings_IndexByte (s : ByteArray) (c : Int) (w : World) :
  Calls Tryz.prog 92 #[.string s, .int .u8 c] w fun e w' => e = .returned (.int .i64 (Lib.indexByte s.data.toList c.toNat.toUInt8)) ∧ w' = w := Any.strings_IndexByte Tryz.lays137 s c w
def Tryz.laysM171_ren : Go.Shelf.Ren := ⟨fun | 171 => 119 | 243 => 140 | 246 => 167 | 283 => 182 | 284 => 183 | 285 => 184 | 286 => 185 | 129 => 150 | 317 => 191 | 318 => 192 | 319 => 193 | 320 => 194 | 337 => 195 | 338 => 196 | n => n, fun | 3 => 3 | 9 => 9 | 2 => 2 | 4 => 4 | 171 => 227 | 0 => 0 | 53 => 186 | 37 => 66 | 5 => 5 | 173 => 229 | 212 => 244 | 51 => 161 | 20 => 20 | 213 => 245 | 46 => 29 | 232 => 246 | 233 => 247 | n => n, fun | 17 => 7 | 18 => 8 | 19 => 9 | n => n⟩
theorem Tryz.laysM171 : Go.Proofs.LaysM.n171 Tryz.prog Tryz.laysM171_ren := {
 mixed := by kernel_rfl
 f129 := Tryz.func150.trans (congrArg some (by kernel_rfl))
 f171 := Tryz.func119.trans (congrArg some (by kernel_rfl))
 f243 := Tryz.func140.trans (congrArg some (by kernel_rfl))
 f246 := Tryz.func167.trans (congrArg some (by kernel_rfl))
 f283 := Tryz.func182.trans (congrArg some (by kernel_rfl))
 f284 := Tryz.func183.trans (congrArg some (by kernel_rfl))
 f285 := Tryz.func184.trans (congrArg some (by kernel_rfl))
 f286 := Tryz.func185.trans (congrArg some (by kernel_rfl))
 f317 := Tryz.func191.trans (congrArg some (by kernel_rfl))
 f318 := Tryz.func192.trans (congrArg some (by kernel_rfl))
 f319 := Tryz.func193.trans (congrArg some (by kernel_rfl))
 f320 := Tryz.func194.trans (congrArg some (by kernel_rfl))
 f337 := Tryz.func195.trans (congrArg some (by kernel_rfl))
 f338 := Tryz.func196.trans (congrArg some (by kernel_rfl))
 t0 := Tryz.underlying0
 a0 := Tryz.isAgg0
 z0 := Tryz.sizeOf0
 v0 := Tryz.zeroValue0
 t2 := Tryz.underlying2
 a2 := Tryz.isAgg2
 z2 := Tryz.sizeOf2
 v2 := Tryz.zeroValue2
 t3 := Tryz.underlying3
 a3 := Tryz.isAgg3
 z3 := Tryz.sizeOf3
 v3 := Tryz.zeroValue3
 t4 := Tryz.underlying4
 a4 := Tryz.isAgg4
 z4 := Tryz.sizeOf4
 v4 := Tryz.zeroValue4
 t5 := Tryz.underlying5
 a5 := Tryz.isAgg5
 z5 := Tryz.sizeOf5
 v5 := Tryz.zeroValue5
 t9 := Tryz.underlying9
 a9 := Tryz.isAgg9
 z9 := Tryz.sizeOf9
 v9 := Tryz.zeroValue9
 t20 := Tryz.underlying20
 a20 := Tryz.isAgg20
 z20 := Tryz.sizeOf20
 v20 := Tryz.zeroValue20
 t37 := Tryz.underlying66
 a37 := Tryz.isAgg66
 z37 := Tryz.sizeOf66
 v37 := Tryz.zeroValue66
 t46 := Tryz.underlying29
 a46 := Tryz.isAgg29
 z46 := Tryz.sizeOf29
 v46 := Tryz.zeroValue29
 t51 := Tryz.underlying161
 a51 := Tryz.isAgg161
 z51 := Tryz.sizeOf161
 v51 := Tryz.zeroValue161
 t53 := Tryz.underlying186
 a53 := Tryz.isAgg186
 z53 := Tryz.sizeOf186
 v53 := Tryz.zeroValue186
 t171 := Tryz.underlying227
 a171 := Tryz.isAgg227
 z171 := Tryz.sizeOf227
 v171 := Tryz.zeroValue227
 t173 := Tryz.underlying229
 a173 := Tryz.isAgg229
 z173 := Tryz.sizeOf229
 v173 := Tryz.zeroValue229
 t212 := Tryz.underlying244
 a212 := Tryz.isAgg244
 z212 := Tryz.sizeOf244
 v212 := Tryz.zeroValue244
 t213 := Tryz.underlying245
 a213 := Tryz.isAgg245
 z213 := Tryz.sizeOf245
 t232 := Tryz.underlying246
 a232 := Tryz.isAgg246
 z232 := Tryz.sizeOf246
 v232 := Tryz.zeroValue246
 t233 := Tryz.underlying247
 a233 := Tryz.isAgg247
 z233 := Tryz.sizeOf247
 v233 := Tryz.zeroValue247
 g17 := by kernel_rfl
 g18 := by kernel_rfl
 g19 := by kernel_rfl
 i0 := by kernel_rfl
 i2 := by kernel_rfl
 i3 := by kernel_rfl
 i4 := by kernel_rfl
 i5 := by kernel_rfl
 i9 := by kernel_rfl
 i20 := by kernel_rfl
 i37 := by kernel_rfl
 i46 := by kernel_rfl
 i51 := by kernel_rfl
 i53 := by kernel_rfl
 i171 := by kernel_rfl
 i173 := by kernel_rfl
 i212 := by kernel_rfl
 i232 := by kernel_rfl
 i233 := by kernel_rfl
 m17 := by kernel_rfl
 m18 := by kernel_rfl
 m19 := by kernel_rfl }
open Go.RowKit Go.Sort Go.Lib in
theorem Tryz.strconv_Itoa (n : Int) (h0 : -9223372036854775808 ≤ n) (h1 : n ≤ 9223372036854775807) (w : World) (htab : Lib.TabIs Tryz.prog w "internal/strconv.uint64pow10" .u64 Lib.pow10Tab) :
  Calls Tryz.prog 119 #[.int .i64 n] w fun e w' => e = .returned (.string ⟨(Lib.itoa n).toArray⟩) ∧ ∃ k os, w' = grow (w.drewN k) os := Any.strconv_Itoa Tryz.laysM171 n h0 h1 w htab
def Tryz.laysC172_ren : Go.Shelf.Ren := ⟨fun | 172 => 95 | 244 => 124 | 245 => 125 | 247 => 154 | 279 => 155 | 280 => 156 | 281 => 157 | 282 => 158 | 287 => 173 | 316 => 174 | 171 => 119 | 205 => 175 | 321 => 187 | 322 => 188 | 243 => 140 | 246 => 167 | 283 => 182 | 284 => 183 | 285 => 184 | 286 => 185 | 129 => 150 | 317 => 191 | 318 => 192 | 319 => 193 | 320 => 194 | 337 => 195 | 338 => 196 | n => n, fun | 9 => 9 | 3 => 3 | 75 => 131 | 76 => 132 | 4 => 4 | 5 => 5 | 167 => 198 | 37 => 66 | 0 => 0 | 85 => 199 | 2 => 2 | 168 => 201 | 53 => 186 | 175 => 219 | 46 => 29 | 210 => 223 | 127 => 155 | 145 => 237 | 143 => 235 | 21 => 21 | 171 => 227 | 173 => 229 | 212 => 244 | 51 => 161 | 20 => 20 | 213 => 245 | 232 => 246 | 233 => 247 | 80 => 135 | n => n, fun | 15 => 3 | 16 => 4 | 17 => 7 | 18 => 8 | 19 => 9 | n => n⟩
theorem Tryz.laysC172 : Go.Proofs.LaysC.n172 Tryz.prog Tryz.laysC172_ren := {
 mixed := by kernel_rfl
 f129 := Tryz.func150.trans (congrArg some (by kernel_rfl))
 f171 := Tryz.func119.trans (congrArg some (by kernel_rfl))
 f172 := Tryz.func95.trans (congrArg some (by kernel_rfl))
 f205 := Tryz.func175.trans (congrArg some (by kernel_rfl))
 f243 := Tryz.func140.trans (congrArg some (by kernel_rfl))
 f244 := Tryz.func124.trans (congrArg some (by kernel_rfl))
 f245 := Tryz.func125.trans (congrArg some (by kernel_rfl))
 f246 := Tryz.func167.trans (congrArg some (by kernel_rfl))
 f247 := Tryz.func154.trans (congrArg some (by kernel_rfl))
 f279 := Tryz.func155.trans (congrArg some (by kernel_rfl))
 f280 := Tryz.func156.trans (congrArg some (by kernel_rfl))
 f281 := Tryz.func157.trans (congrArg some (by kernel_rfl))
 f282 := Tryz.func158.trans (congrArg some (by kernel_rfl))
 f283 := Tryz.func182.trans (congrArg some (by kernel_rfl))
 f284 := Tryz.func183.trans (congrArg some (by kernel_rfl))
 f285 := Tryz.func184.trans (congrArg some (by kernel_rfl))
 f286 := Tryz.func185.trans (congrArg some (by kernel_rfl))
 f287 := Tryz.func173.trans (congrArg some (by kernel_rfl))
 f316 := Tryz.func174.trans (congrArg some (by kernel_rfl))
 f317 := Tryz.func191.trans (congrArg some (by kernel_rfl))
 f318 := Tryz.func192.trans (congrArg some (by kernel_rfl))
 f319 := Tryz.func193.trans (congrArg some (by kernel_rfl))
 f320 := Tryz.func194.trans (congrArg some (by kernel_rfl))
 f321 := Tryz.func187.trans (congrArg some (by kernel_rfl))
 f322 := Tryz.func188.trans (congrArg some (by kernel_rfl))
 f337 := Tryz.func195.trans (congrArg some (by kernel_rfl))
 f338 := Tryz.func196.trans (congrArg some (by kernel_rfl))
 t0 := Tryz.underlying0
 a0 := Tryz.isAgg0
 z0 := Tryz.sizeOf0
 v0 := Tryz.zeroValue0
 t2 := Tryz.underlying2
 a2 := Tryz.isAgg2
 z2 := Tryz.sizeOf2
 v2 := Tryz.zeroValue2
 t3 := Tryz.underlying3
 a3 := Tryz.isAgg3
 z3 := Tryz.sizeOf3
 v3 := Tryz.zeroValue3
 t4 := Tryz.underlying4
 a4 := Tryz.isAgg4
 z4 := Tryz.sizeOf4
 v4 := Tryz.zeroValue4
 t5 := Tryz.underlying5
 a5 := Tryz.isAgg5
 z5 := Tryz.sizeOf5
 v5 := Tryz.zeroValue5
 t9 := Tryz.underlying9
 a9 := Tryz.isAgg9
 z9 := Tryz.sizeOf9
 v9 := Tryz.zeroValue9
 t20 := Tryz.underlying20
 a20 := Tryz.isAgg20
 z20 := Tryz.sizeOf20
 v20 := Tryz.zeroValue20
 t21 := Tryz.underlying21
 a21 := Tryz.isAgg21
 z21 := Tryz.sizeOf21
 v21 := Tryz.zeroValue21
 t37 := Tryz.underlying66
 a37 := Tryz.isAgg66
 z37 := Tryz.sizeOf66
 v37 := Tryz.zeroValue66
 t46 := Tryz.underlying29
 a46 := Tryz.isAgg29
 z46 := Tryz.sizeOf29
 v46 := Tryz.zeroValue29
 t51 := Tryz.underlying161
 a51 := Tryz.isAgg161
 z51 := Tryz.sizeOf161
 v51 := Tryz.zeroValue161
 t53 := Tryz.underlying186
 a53 := Tryz.isAgg186
 z53 := Tryz.sizeOf186
 v53 := Tryz.zeroValue186
 t75 := Tryz.underlying131
 a75 := Tryz.isAgg131
 z75 := Tryz.sizeOf131
 v75 := Tryz.zeroValue131
 t76 := Tryz.underlying132
 a76 := Tryz.isAgg132
 z76 := Tryz.sizeOf132
 v76 := Tryz.zeroValue132
 t85 := Tryz.underlying199
 a85 := Tryz.isAgg199
 z85 := Tryz.sizeOf199
 v85 := Tryz.zeroValue199
 t127 := Tryz.underlying155
 a127 := Tryz.isAgg155
 z127 := Tryz.sizeOf155
 v127 := Tryz.zeroValue155
 t143 := Tryz.underlying235
 a143 := Tryz.isAgg235
 z143 := Tryz.sizeOf235
 v143 := Tryz.zeroValue235
 t145 := Tryz.underlying237
 a145 := Tryz.isAgg237
 z145 := Tryz.sizeOf237
 v145 := Tryz.zeroValue237
 t167 := Tryz.underlying198
 a167 := Tryz.isAgg198
 z167 := Tryz.sizeOf198
 v167 := Tryz.zeroValue198
 t168 := Tryz.underlying201
 a168 := Tryz.isAgg201
 z168 := Tryz.sizeOf201
 v168 := Tryz.zeroValue201
 t171 := Tryz.underlying227
 a171 := Tryz.isAgg227
 z171 := Tryz.sizeOf227
 v171 := Tryz.zeroValue227
 t173 := Tryz.underlying229
 a173 := Tryz.isAgg229
 z173 := Tryz.sizeOf229
 v173 := Tryz.zeroValue229
 t175 := Tryz.underlying219
 a175 := Tryz.isAgg219
 z175 := Tryz.sizeOf219
 v175 := Tryz.zeroValue219
 t210 := Tryz.underlying223
 a210 := Tryz.isAgg223
 z210 := Tryz.sizeOf223
 v210 := Tryz.zeroValue223
 t212 := Tryz.underlying244
 a212 := Tryz.isAgg244
 z212 := Tryz.sizeOf244
 v212 := Tryz.zeroValue244
 t213 := Tryz.underlying245
 a213 := Tryz.isAgg245
 z213 := Tryz.sizeOf245
 t232 := Tryz.underlying246
 a232 := Tryz.isAgg246
 z232 := Tryz.sizeOf246
 v232 := Tryz.zeroValue246
 t233 := Tryz.underlying247
 a233 := Tryz.isAgg247
 z233 := Tryz.sizeOf247
 v233 := Tryz.zeroValue247
 g15 := by kernel_rfl
 g16 := by kernel_rfl
 g17 := by kernel_rfl
 g18 := by kernel_rfl
 g19 := by kernel_rfl
 t80 := Tryz.underlying135
 a80 := Tryz.isAgg135
 z80 := Tryz.sizeOf135
 v80 := Tryz.zeroValue135
 i0 := by kernel_rfl
 i2 := by kernel_rfl
 i3 := by kernel_rfl
 i4 := by kernel_rfl
 i5 := by kernel_rfl
 i9 := by kernel_rfl
 i20 := by kernel_rfl
 i21 := by kernel_rfl
 i37 := by kernel_rfl
 i46 := by kernel_rfl
 i51 := by kernel_rfl
 i53 := by kernel_rfl
 i75 := by kernel_rfl
 i76 := by kernel_rfl
 i80 := by kernel_rfl
 i85 := by kernel_rfl
 i127 := by kernel_rfl
 i143 := by kernel_rfl
 i145 := by kernel_rfl
 i167 := by kernel_rfl
 i168 := by kernel_rfl
 i171 := by kernel_rfl
 i173 := by kernel_rfl
 i175 := by kernel_rfl
 i210 := by kernel_rfl
 i212 := by kernel_rfl
 i232 := by kernel_rfl
 i233 := by kernel_rfl
 m15 := by kernel_rfl
 m16 := by kernel_rfl
 m17 := by kernel_rfl
 m18 := by kernel_rfl
 m19 := by kernel_rfl
 c0 := by kernel_rfl
 c2 := by kernel_rfl
 c3 := by kernel_rfl
 c4 := by kernel_rfl
 c5 := by kernel_rfl
 c9 := by kernel_rfl
 c20 := by kernel_rfl
 c21 := by kernel_rfl
 c37 := by kernel_rfl
 c46 := by kernel_rfl
 c51 := by kernel_rfl
 c53 := by kernel_rfl
 c75 := by kernel_rfl
 c76 := by kernel_rfl
 c80 := by kernel_rfl
 c85 := by kernel_rfl
 c127 := by kernel_rfl
 c143 := by kernel_rfl
 c145 := by kernel_rfl
 c167 := by kernel_rfl
 c168 := by kernel_rfl
 c171 := by kernel_rfl
 c173 := by kernel_rfl
 c175 := by kernel_rfl
 c210 := by kernel_rfl
 c212 := by kernel_rfl
 c213 := by kernel_rfl
 c232 := by kernel_rfl
 c233 := by kernel_rfl }
open Go.RowKit in
theorem Tryz.strconv_Atoi_ok (s : ByteArray) (hmax : s.size ≤ 9223372036854775806) (v : Int) (h : Lib.atoiAll s.data.toList = .ok v) (w : World) :
  Calls Tryz.prog 95 #[.string s] w fun e w' => e = .returned (.tuple #[.int .i64 v, .nilIface]) ∧ (w' = w ∨ ∃ t, w' = Lib.bytesWorld w 5 t) := Any.strconv_Atoi_ok Tryz.laysC172 s hmax v h w
open Go.RowKit in
theorem Tryz.strconv_Atoi_syntax_var (s : ByteArray) (hlim : s.size ≤ 281474976710656) (h : Lib.atoiAll s.data.toList = Lib.atoiAll []) (tp : TypeId) (p : Value) (w : World) (hvar : w.var? Tryz.prog "strconv.ErrSyntax" = some #[.iface tp p]) :
  Calls Tryz.prog 95 #[.string s] w fun e w' => ∃ N, e = .returned (.tuple #[.int .i64 0, .iface 201 (.pointer (some ⟨N, 0, none⟩))]) ∧ w.heap.size ≤ N ∧ w'.heap[N]? = some (.cells #[.string ⟨#[65, 116, 111, 105]⟩, .string s, .iface tp p] 223 (0, 0)) ∧ Below w.heap.size w w' := Any.strconv_Atoi_syntax_var Tryz.laysC172 s hlim h tp p w hvar
open Go.RowKit in
theorem Tryz.strconv_Atoi_range_var (s : ByteArray) (hlim : s.size ≤ 281474976710656) (h : Lib.atoiAll s.data.toList = .range) (tp : TypeId) (p : Value) (w : World) (hvar : w.var? Tryz.prog "strconv.ErrRange" = some #[.iface tp p]) :
  Calls Tryz.prog 95 #[.string s] w fun e w' => ∃ N, e = .returned (.tuple #[.int .i64 (Lib.atoiSat s.data.toList), .iface 201 (.pointer (some ⟨N, 0, none⟩))]) ∧ w.heap.size ≤ N ∧ w'.heap[N]? = some (.cells #[.string ⟨#[65, 116, 111, 105]⟩, .string s, .iface tp p] 223 (0, 0)) ∧ Below w.heap.size w w' := Any.strconv_Atoi_range_var Tryz.laysC172 s hlim h tp p w hvar
def Tryz.laysGw17_ren : Go.Shelf.Ren := ⟨fun | 17 => 99 | 15 => 133 | 20 => 163 | n => n, fun | 9 => 9 | 23 => 142 | 4 => 4 | 3 => 3 | 0 => 0 | 21 => 21 | n => n, fun | n => n⟩
theorem Tryz.laysGw17 : Go.Proofs.LaysGw.n17 Tryz.prog Tryz.laysGw17_ren := {
 mixed := by kernel_rfl
 f15 := Tryz.func133.trans (congrArg some (by kernel_rfl))
 f17 := Tryz.func99.trans (congrArg some (by kernel_rfl))
 f20 := Tryz.func163.trans (congrArg some (by kernel_rfl))
 t0 := Tryz.underlying0
 a0 := Tryz.isAgg0
 z0 := Tryz.sizeOf0
 v0 := Tryz.zeroValue0
 i0 := by kernel_rfl
 t3 := Tryz.underlying3
 a3 := Tryz.isAgg3
 z3 := Tryz.sizeOf3
 v3 := Tryz.zeroValue3
 i3 := by kernel_rfl
 t4 := Tryz.underlying4
 a4 := Tryz.isAgg4
 z4 := Tryz.sizeOf4
 v4 := Tryz.zeroValue4
 i4 := by kernel_rfl
 t9 := Tryz.underlying9
 a9 := Tryz.isAgg9
 z9 := Tryz.sizeOf9
 v9 := Tryz.zeroValue9
 i9 := by kernel_rfl
 t21 := Tryz.underlying21
 a21 := Tryz.isAgg21
 z21 := Tryz.sizeOf21
 v21 := Tryz.zeroValue21
 i21 := by kernel_rfl
 t23 := Tryz.underlying142
 a23 := Tryz.isAgg142
 z23 := Tryz.sizeOf142
 v23 := Tryz.zeroValue142
 i23 := by kernel_rfl }
open Go.RowKit Go.Lib in
theorem Tryz.strings_ContainsFunc (g : Nat) (lb : Array Value) (eg : ∀ args w, (callFunc g args).run Tryz.prog w = .ok (.enter g args) w) (p : Nat → Bool) (s : ByteArray) (w : World) (hp : PredAt Tryz.prog g lb encR p w) :
  Calls Tryz.prog 99 #[.string s, .func (.func g) #[] lb] w fun e w' => e = .returned (.bool (decide (0 ≤ Lib.idxFunc p true s))) ∧ Below w.heap.size w w' := Any.strings_ContainsFunc Tryz.laysGw17 g lb eg p s w hp
def Tryz.lays102_ren : Go.Shelf.Ren := ⟨fun | 102 => 78 | 209 => 117 | 207 => 138 | n => n, fun | 9 => 9 | 4 => 4 | 3 => 3 | n => n, fun | n => n⟩
theorem Tryz.lays102 : Go.Proofs.Lays.n102 Tryz.prog Tryz.lays102_ren := {
 mixed := by kernel_rfl
 f102 := Tryz.func78.trans (congrArg some (by kernel_rfl))
 f207 := Tryz.func138.trans (congrArg some (by kernel_rfl))
 f209 := Tryz.func117.trans (congrArg some (by kernel_rfl))
 t3 := Tryz.underlying3
 a3 := Tryz.isAgg3
 z3 := Tryz.sizeOf3
 v3 := Tryz.zeroValue3
 t4 := Tryz.underlying4
 a4 := Tryz.isAgg4
 z4 := Tryz.sizeOf4
 v4 := Tryz.zeroValue4
 t9 := Tryz.underlying9
 a9 := Tryz.isAgg9
 z9 := Tryz.sizeOf9
 v9 := Tryz.zeroValue9 }
open Go.RowKit Go.Lib in
theorem Tryz.strings_TrimSuffix (s p : ByteArray) (w : World) (hs : s.size ≤ 9223372036854775807) :
  Calls Tryz.prog 78 #[.string s, .string p] w fun e w' => e = .returned (.string ⟨(Lib.trimSuffix s.data.toList p.data.toList).toArray⟩) ∧ w' = w := Any.strings_TrimSuffix Tryz.lays102 s p w hs
def Tryz.lays146_ren : Go.Shelf.Ren := ⟨fun | 146 => 77 | 221 => 116 | 268 => 135 | 138 => 136 | 143 => 137 | 195 => 164 | 197 => 160 | 218 => 165 | 219 => 166 | 260 => 176 | 217 => 122 | 225 => 179 | 224 => 180 | 267 => 181 | 266 => 151 | 314 => 190 | n => n, fun | 9 => 9 | 31 => 77 | 3 => 3 | 4 => 4 | 0 => 0 | 105 => 205 | 21 => 21 | 5 => 5 | 46 => 29 | 119 => 140 | 139 => 240 | 138 => 239 | 146 => 241 | 51 => 161 | n => n, fun | 1 => 2 | 3 => 5 | 4 => 6 | n => n⟩
theorem Tryz.lays146 : Go.Proofs.Lays.n146 Tryz.prog Tryz.lays146_ren := {
 mixed := by kernel_rfl
 f138 := Tryz.func136.trans (congrArg some (by kernel_rfl))
 f143 := Tryz.func137.trans (congrArg some (by kernel_rfl))
 f146 := Tryz.func77.trans (congrArg some (by kernel_rfl))
 f195 := Tryz.func164.trans (congrArg some (by kernel_rfl))
 f197 := Tryz.func160.trans (congrArg some (by kernel_rfl))
 f217 := Tryz.func122.trans (congrArg some (by kernel_rfl))
 f218 := Tryz.func165.trans (congrArg some (by kernel_rfl))
 f219 := Tryz.func166.trans (congrArg some (by kernel_rfl))
 f221 := Tryz.func116.trans (congrArg some (by kernel_rfl))
 f224 := Tryz.func180.trans (congrArg some (by kernel_rfl))
 f225 := Tryz.func179.trans (congrArg some (by kernel_rfl))
 f260 := Tryz.func176.trans (congrArg some (by kernel_rfl))
 f266 := Tryz.func151.trans (congrArg some (by kernel_rfl))
 f267 := Tryz.func181.trans (congrArg some (by kernel_rfl))
 f268 := Tryz.func135.trans (congrArg some (by kernel_rfl))
 f314 := Tryz.func190.trans (congrArg some (by kernel_rfl))
 t0 := Tryz.underlying0
 a0 := Tryz.isAgg0
 z0 := Tryz.sizeOf0
 v0 := Tryz.zeroValue0
 t3 := Tryz.underlying3
 a3 := Tryz.isAgg3
 z3 := Tryz.sizeOf3
 v3 := Tryz.zeroValue3
 t4 := Tryz.underlying4
 a4 := Tryz.isAgg4
 z4 := Tryz.sizeOf4
 v4 := Tryz.zeroValue4
 t5 := Tryz.underlying5
 a5 := Tryz.isAgg5
 z5 := Tryz.sizeOf5
 v5 := Tryz.zeroValue5
 t9 := Tryz.underlying9
 a9 := Tryz.isAgg9
 z9 := Tryz.sizeOf9
 v9 := Tryz.zeroValue9
 t21 := Tryz.underlying21
 a21 := Tryz.isAgg21
 z21 := Tryz.sizeOf21
 v21 := Tryz.zeroValue21
 t31 := Tryz.underlying77
 a31 := Tryz.isAgg77
 z31 := Tryz.sizeOf77
 v31 := Tryz.zeroValue77
 t46 := Tryz.underlying29
 a46 := Tryz.isAgg29
 z46 := Tryz.sizeOf29
 v46 := Tryz.zeroValue29
 t51 := Tryz.underlying161
 a51 := Tryz.isAgg161
 z51 := Tryz.sizeOf161
 v51 := Tryz.zeroValue161
 t105 := Tryz.underlying205
 a105 := Tryz.isAgg205
 z105 := Tryz.sizeOf205
 v105 := Tryz.zeroValue205
 t119 := Tryz.underlying140
 a119 := Tryz.isAgg140
 z119 := Tryz.sizeOf140
 t138 := Tryz.underlying239
 a138 := Tryz.isAgg239
 z138 := Tryz.sizeOf239
 v138 := Tryz.zeroValue239
 t139 := Tryz.underlying240
 a139 := Tryz.isAgg240
 z139 := Tryz.sizeOf240
 v139 := Tryz.zeroValue240
 t146 := Tryz.underlying241
 a146 := Tryz.isAgg241
 z146 := Tryz.sizeOf241
 v146 := Tryz.zeroValue241
 g1 := by kernel_rfl
 g3 := by kernel_rfl
 g4 := by kernel_rfl }
open Go.RowKit Go.Lib in
theorem Tryz.strings_Split (s sep : ByteArray) (m : Int) (w : World) (hs : s.size < 4294967281) (hm : w.cell? ⟨2, 0, none⟩ = some (.int .i64 m)) (h1 : 1 ≤ sep.size) :
  Calls Tryz.prog 77 #[.string s, .string sep] w fun e w' =>
   e = .returned (.slice (some ⟨w.heap.size, 0, none⟩) (Lib.countB s sep + 1) (Lib.countB s sep + 1)) ∧ w' = w.alloc (.cells ((Lib.splitB sep 0 (Lib.countB s sep) s).map Value.string).toArray 9) := Any.strings_Split Tryz.lays146 (by kernel_rfl) s sep m w hs hm h1
def Tryz.lays157_ren : Go.Shelf.Ren := ⟨fun | 157 => 35 | 229 => 93 | 199 => 94 | 261 => 123 | 311 => 152 | 312 => 153 | n => n, fun | 9 => 9 | 31 => 77 | 3 => 3 | 5 => 5 | 4 => 4 | 119 => 140 | 0 => 0 | 40 => 142 | 152 => 158 | 21 => 21 | 154 => 160 | 51 => 161 | 141 => 163 | 196 => 190 | 193 => 187 | 198 => 193 | 49 => 191 | 194 => 188 | 201 => 196 | 226 => 217 | 46 => 29 | 227 => 218 | n => n, fun | 0 => 0 | 6 => 1 | n => n⟩
theorem Tryz.lays157 : Go.Proofs.Lays.n157 Tryz.prog Tryz.lays157_ren := {
 mixed := by kernel_rfl
 f157 := Tryz.func35.trans (congrArg some (by kernel_rfl))
 f199 := Tryz.func94.trans (congrArg some (by kernel_rfl))
 f229 := Tryz.func93.trans (congrArg some (by kernel_rfl))
 f261 := Tryz.func123.trans (congrArg some (by kernel_rfl))
 f311 := Tryz.func152.trans (congrArg some (by kernel_rfl))
 f312 := Tryz.func153.trans (congrArg some (by kernel_rfl))
 t0 := Tryz.underlying0
 a0 := Tryz.isAgg0
 z0 := Tryz.sizeOf0
 v0 := Tryz.zeroValue0
 t3 := Tryz.underlying3
 a3 := Tryz.isAgg3
 z3 := Tryz.sizeOf3
 v3 := Tryz.zeroValue3
 t4 := Tryz.underlying4
 a4 := Tryz.isAgg4
 z4 := Tryz.sizeOf4
 v4 := Tryz.zeroValue4
 t5 := Tryz.underlying5
 a5 := Tryz.isAgg5
 z5 := Tryz.sizeOf5
 v5 := Tryz.zeroValue5
 t9 := Tryz.underlying9
 a9 := Tryz.isAgg9
 z9 := Tryz.sizeOf9
 v9 := Tryz.zeroValue9
 t21 := Tryz.underlying21
 a21 := Tryz.isAgg21
 z21 := Tryz.sizeOf21
 v21 := Tryz.zeroValue21
 t31 := Tryz.underlying77
 a31 := Tryz.isAgg77
 z31 := Tryz.sizeOf77
 v31 := Tryz.zeroValue77
 t40 := Tryz.underlying142
 a40 := Tryz.isAgg142
 z40 := Tryz.sizeOf142
 v40 := Tryz.zeroValue142
 t46 := Tryz.underlying29
 a46 := Tryz.isAgg29
 z46 := Tryz.sizeOf29
 v46 := Tryz.zeroValue29
 t49 := Tryz.underlying191
 a49 := Tryz.isAgg191
 z49 := Tryz.sizeOf191
 v49 := Tryz.zeroValue191
 t51 := Tryz.underlying161
 a51 := Tryz.isAgg161
 z51 := Tryz.sizeOf161
 v51 := Tryz.zeroValue161
 t119 := Tryz.underlying140
 a119 := Tryz.isAgg140
 z119 := Tryz.sizeOf140
 t141 := Tryz.underlying163
 a141 := Tryz.isAgg163
 z141 := Tryz.sizeOf163
 v141 := Tryz.zeroValue163
 t152 := Tryz.underlying158
 a152 := Tryz.isAgg158
 z152 := Tryz.sizeOf158
 v152 := Tryz.zeroValue158
 t154 := Tryz.underlying160
 a154 := Tryz.isAgg160
 z154 := Tryz.sizeOf160
 v154 := Tryz.zeroValue160
 t193 := Tryz.underlying187
 a193 := Tryz.isAgg187
 z193 := Tryz.sizeOf187
 v193 := Tryz.zeroValue187
 t194 := Tryz.underlying188
 a194 := Tryz.isAgg188
 z194 := Tryz.sizeOf188
 v194 := Tryz.zeroValue188
 t196 := Tryz.underlying190
 a196 := Tryz.isAgg190
 z196 := Tryz.sizeOf190
 v196 := Tryz.zeroValue190
 t198 := Tryz.underlying193
 a198 := Tryz.isAgg193
 z198 := Tryz.sizeOf193
 v198 := Tryz.zeroValue193
 t201 := Tryz.underlying196
 a201 := Tryz.isAgg196
 z201 := Tryz.sizeOf196
 v201 := Tryz.zeroValue196
 t226 := Tryz.underlying217
 a226 := Tryz.isAgg217
 z226 := Tryz.sizeOf217
 v226 := Tryz.zeroValue217
 t227 := Tryz.underlying218
 a227 := Tryz.isAgg218
 z227 := Tryz.sizeOf218
 v227 := Tryz.zeroValue218
 g0 := by kernel_rfl
 g6 := by kernel_rfl }
open Go.RowKit Go.Lib in
theorem Tryz.strings_Fields (s : ByteArray) (w : World) (hs : s.size < 4294967281) (hascii : ∀ (j : Nat) b, s.data.toList[j]? = some b → b.toNat < 128) (htab : Lib.TabIs Tryz.prog w "strings.asciiSpace" .u8 Lib.asciiSpaceTab) :
  Calls Tryz.prog 35 #[.string s] w fun e w' =>
   e = .returned (.slice (some ⟨w.heap.size, 0, none⟩) (Lib.fields s.data.toList).length (Lib.fields s.data.toList).length) ∧ w' = w.alloc (.cells ((Lib.fields s.data.toList).map fun l => Value.string ⟨l.toArray⟩).toArray 9) := Any.strings_Fields Tryz.lays157 (by kernel_rfl) (by kernel_rfl) s w hs hascii htab
def Tryz.hasG_ren : Go.Shelf.Ren := ⟨fun | 8 => 42 | 6 => 98 | n => n, fun | 22 => 22 | 23 => 31 | 25 => 89 | 4 => 4 | 3 => 3 | 0 => 0 | n => n, fun | n => n⟩
theorem Tryz.hasG : Go.Proofs.SlLaysH0.n8 Tryz.prog Tryz.hasG_ren := {
 mixed := by kernel_rfl
 f6 := ⟨Tryz.f98.name, by decide, Tryz.func98.trans (congrArg some (by kernel_rfl))⟩
 f8 := ⟨Tryz.f42.name, by decide, Tryz.func42.trans (congrArg some (by kernel_rfl))⟩
 t0 := Tryz.underlying0
 a0 := Tryz.isAgg0
 z0 := Tryz.sizeOf0
 v0 := Tryz.zeroValue0
 t3 := Tryz.underlying3
 a3 := Tryz.isAgg3
 z3 := Tryz.sizeOf3
 v3 := Tryz.zeroValue3
 t4 := Tryz.underlying4
 a4 := Tryz.isAgg4
 z4 := Tryz.sizeOf4
 v4 := Tryz.zeroValue4
 t22 := Tryz.underlying22
 a22 := Tryz.isAgg22
 z22 := Tryz.sizeOf22
 v22 := Tryz.zeroValue22
 t25 := Tryz.underlying89
 a25 := Tryz.isAgg89
 z25 := Tryz.sizeOf89
 v25 := Tryz.zeroValue89 }
def Tryz.hasL_ren : Go.Shelf.Ren := ⟨fun | 8 => 48 | 6 => 102 | n => n, fun | 22 => 23 | 23 => 86 | 25 => 95 | 4 => 4 | 3 => 3 | 0 => 0 | n => n, fun | n => n⟩
theorem Tryz.hasL : Go.Proofs.SlLaysH0.n8 Tryz.prog Tryz.hasL_ren := {
 mixed := by kernel_rfl
 f6 := ⟨Tryz.f102.name, by decide, Tryz.func102.trans (congrArg some (by kernel_rfl))⟩
 f8 := ⟨Tryz.f48.name, by decide, Tryz.func48.trans (congrArg some (by kernel_rfl))⟩
 t0 := Tryz.underlying0
 a0 := Tryz.isAgg0
 z0 := Tryz.sizeOf0
 v0 := Tryz.zeroValue0
 t3 := Tryz.underlying3
 a3 := Tryz.isAgg3
 z3 := Tryz.sizeOf3
 v3 := Tryz.zeroValue3
 t4 := Tryz.underlying4
 a4 := Tryz.isAgg4
 z4 := Tryz.sizeOf4
 v4 := Tryz.zeroValue4
 t22 := Tryz.underlying23
 a22 := Tryz.isAgg23
 z22 := Tryz.sizeOf23
 v22 := Tryz.zeroValue23
 t25 := Tryz.underlying95
 a25 := Tryz.isAgg95
 z25 := Tryz.sizeOf95
 v25 := Tryz.zeroValue95 }
def Tryz.hasK_ren : Go.Shelf.Ren := ⟨fun | 8 => 55 | 6 => 103 | n => n, fun | 22 => 24 | 23 => 76 | 25 => 99 | 4 => 4 | 3 => 3 | 0 => 0 | n => n, fun | n => n⟩
theorem Tryz.hasK : Go.Proofs.SlLaysH0.n8 Tryz.prog Tryz.hasK_ren := {
 mixed := by kernel_rfl
 f6 := ⟨Tryz.f103.name, by decide, Tryz.func103.trans (congrArg some (by kernel_rfl))⟩
 f8 := ⟨Tryz.f55.name, by decide, Tryz.func55.trans (congrArg some (by kernel_rfl))⟩
 t0 := Tryz.underlying0
 a0 := Tryz.isAgg0
 z0 := Tryz.sizeOf0
 v0 := Tryz.zeroValue0
 t3 := Tryz.underlying3
 a3 := Tryz.isAgg3
 z3 := Tryz.sizeOf3
 v3 := Tryz.zeroValue3
 t4 := Tryz.underlying4
 a4 := Tryz.isAgg4
 z4 := Tryz.sizeOf4
 v4 := Tryz.zeroValue4
 t22 := Tryz.underlying24
 a22 := Tryz.isAgg24
 z22 := Tryz.sizeOf24
 v22 := Tryz.zeroValue24
 t25 := Tryz.underlying99
 a25 := Tryz.isAgg99
 z25 := Tryz.sizeOf99
 v25 := Tryz.zeroValue99 }
def Tryz.sortG_ren : Go.Shelf.Ren := ⟨fun | 6 => 89 | 15 => 121 | 14 => 120 | 28 => 149 | 29 => 150 | 20 => 141 | 21 => 142 | 22 => 143 | 23 => 144 | 24 => 145 | 25 => 146 | 26 => 147 | 27 => 148 | 46 => 168 | 47 => 169 | 48 => 170 | 49 => 171 | 50 => 172 | 57 => 186 | n => n, fun | 22 => 22 | 24 => 31 | 25 => 92 | 3 => 3 | 39 => 29 | 0 => 0 | 53 => 161 | 55 => 186 | 4 => 4 | 46 => 179 | 45 => 178 | 50 => 69 | 5 => 5 | 9 => 9 | 66 => 211 | 70 => 215 | 76 => 231 | 77 => 232 | n => n, fun | n => n⟩
theorem Tryz.sortG : Go.Proofs.SlLaysF0.n6 Tryz.prog Tryz.sortG_ren := {
 mixed := by kernel_rfl
 f6 := ⟨Tryz.f89.name, by decide, Tryz.func89.trans (congrArg some (by kernel_rfl))⟩
 f14 := ⟨Tryz.f120.name, by decide, Tryz.func120.trans (congrArg some (by kernel_rfl))⟩
 f15 := Tryz.func121.trans (congrArg some (by kernel_rfl))
 f20 := ⟨Tryz.f141.name, by decide, Tryz.func141.trans (congrArg some (by kernel_rfl))⟩
 f21 := ⟨Tryz.f142.name, by decide, Tryz.func142.trans (congrArg some (by kernel_rfl))⟩
 f22 := ⟨Tryz.f143.name, by decide, Tryz.func143.trans (congrArg some (by kernel_rfl))⟩
 f23 := ⟨Tryz.f144.name, by decide, Tryz.func144.trans (congrArg some (by kernel_rfl))⟩
 f24 := ⟨Tryz.f145.name, by decide, Tryz.func145.trans (congrArg some (by kernel_rfl))⟩
 f25 := ⟨Tryz.f146.name, by decide, Tryz.func146.trans (congrArg some (by kernel_rfl))⟩
 f26 := ⟨Tryz.f147.name, by decide, Tryz.func147.trans (congrArg some (by kernel_rfl))⟩
 f27 := ⟨Tryz.f148.name, by decide, Tryz.func148.trans (congrArg some (by kernel_rfl))⟩
 f28 := Tryz.func149.trans (congrArg some (by kernel_rfl))
 f29 := Tryz.func150.trans (congrArg some (by kernel_rfl))
 f46 := ⟨Tryz.f168.name, by decide, Tryz.func168.trans (congrArg some (by kernel_rfl))⟩
 f47 := Tryz.func169.trans (congrArg some (by kernel_rfl))
 f48 := Tryz.func170.trans (congrArg some (by kernel_rfl))
 f49 := ⟨Tryz.f171.name, by decide, Tryz.func171.trans (congrArg some (by kernel_rfl))⟩
 f50 := ⟨Tryz.f172.name, by decide, Tryz.func172.trans (congrArg some (by kernel_rfl))⟩
 f57 := ⟨Tryz.f186.name, by decide, Tryz.func186.trans (congrArg some (by kernel_rfl))⟩
 t0 := Tryz.underlying0
 a0 := Tryz.isAgg0
 z0 := Tryz.sizeOf0
 v0 := Tryz.zeroValue0
 t3 := Tryz.underlying3
 a3 := Tryz.isAgg3
 z3 := Tryz.sizeOf3
 v3 := Tryz.zeroValue3
 t4 := Tryz.underlying4
 a4 := Tryz.isAgg4
 z4 := Tryz.sizeOf4
 v4 := Tryz.zeroValue4
 t5 := Tryz.underlying5
 a5 := Tryz.isAgg5
 z5 := Tryz.sizeOf5
 v5 := Tryz.zeroValue5
 t9 := Tryz.underlying9
 a9 := Tryz.isAgg9
 z9 := Tryz.sizeOf9
 v9 := Tryz.zeroValue9
 t22 := Tryz.underlying22
 a22 := Tryz.isAgg22
 z22 := Tryz.sizeOf22
 v22 := Tryz.zeroValue22
 t25 := Tryz.underlying92
 a25 := Tryz.isAgg92
 z25 := Tryz.sizeOf92
 v25 := Tryz.zeroValue92
 t39 := Tryz.underlying29
 a39 := Tryz.isAgg29
 z39 := Tryz.sizeOf29
 v39 := Tryz.zeroValue29
 t45 := Tryz.underlying178
 a45 := Tryz.isAgg178
 z45 := Tryz.sizeOf178
 v45 := Tryz.zeroValue178
 t46 := Tryz.underlying179
 a46 := Tryz.isAgg179
 z46 := Tryz.sizeOf179
 v46 := Tryz.zeroValue179
 t50 := Tryz.underlying69
 a50 := Tryz.isAgg69
 z50 := Tryz.sizeOf69
 v50 := Tryz.zeroValue69
 t53 := Tryz.underlying161
 a53 := Tryz.isAgg161
 z53 := Tryz.sizeOf161
 v53 := Tryz.zeroValue161
 t55 := Tryz.underlying186
 a55 := Tryz.isAgg186
 z55 := Tryz.sizeOf186
 v55 := Tryz.zeroValue186
 t66 := Tryz.underlying211
 a66 := Tryz.isAgg211
 z66 := Tryz.sizeOf211
 v66 := Tryz.zeroValue211
 t70 := Tryz.underlying215
 a70 := Tryz.isAgg215
 z70 := Tryz.sizeOf215
 v70 := Tryz.zeroValue215
 t76 := Tryz.underlying231
 a76 := Tryz.isAgg231
 z76 := Tryz.sizeOf231
 v76 := Tryz.zeroValue231
 t77 := Tryz.underlying232
 a77 := Tryz.isAgg232
 z77 := Tryz.sizeOf232
 v77 := Tryz.zeroValue232 }
def Tryz.lays166_ren : Go.Shelf.Ren := ⟨fun | 166 => 83 | 240 => 118 | 276 => 139 | n => n, fun | 0 => 0 | 3 => 3 | 4 => 4 | 5 => 5 | 9 => 9 | 20 => 20 | 37 => 66 | 70 => 127 | 72 => 129 | 75 => 131 | 80 => 135 | 164 => 175 | n => n, fun n => n⟩
theorem Tryz.lays166 : Go.Proofs.Lays.n166 Tryz.prog Tryz.lays166_ren := {
 mixed := by kernel_rfl
 f166 := Tryz.func83.trans (congrArg some (by kernel_rfl))
 f240 := Tryz.func118.trans (congrArg some (by kernel_rfl))
 f276 := Tryz.func139.trans (congrArg some (by kernel_rfl))
 t0 := Tryz.underlying0
 a0 := Tryz.isAgg0
 z0 := Tryz.sizeOf0
 v0 := Tryz.zeroValue0
 t3 := Tryz.underlying3
 a3 := Tryz.isAgg3
 z3 := Tryz.sizeOf3
 v3 := Tryz.zeroValue3
 t4 := Tryz.underlying4
 a4 := Tryz.isAgg4
 z4 := Tryz.sizeOf4
 v4 := Tryz.zeroValue4
 t9 := Tryz.underlying9
 a9 := Tryz.isAgg9
 z9 := Tryz.sizeOf9
 v9 := Tryz.zeroValue9
 t20 := Tryz.underlying20
 a20 := Tryz.isAgg20
 z20 := Tryz.sizeOf20
 v20 := Tryz.zeroValue20
 t37 := Tryz.underlying66
 a37 := Tryz.isAgg66
 z37 := Tryz.sizeOf66
 v37 := Tryz.zeroValue66
 t70 := Tryz.underlying127
 a70 := Tryz.isAgg127
 z70 := Tryz.sizeOf127
 v70 := Tryz.zeroValue127
 t72 := Tryz.underlying129
 a72 := Tryz.isAgg129
 z72 := Tryz.sizeOf129
 v72 := Tryz.zeroValue129
 t75 := Tryz.underlying131
 a75 := Tryz.isAgg131
 z75 := Tryz.sizeOf131
 v75 := Tryz.zeroValue131
 t164 := Tryz.underlying175
 a164 := Tryz.isAgg175
 z164 := Tryz.sizeOf175
 v164 := Tryz.zeroValue175 }
theorem Tryz.Builder_Extra_166 : Builder.Extra Tryz.prog Tryz.lays166_ren := {
 sizeBuilder := by kernel_rfl
 liesBuilder := by kernel_rfl
 t5 := Tryz.underlying5
 a5 := Tryz.isAgg5
 z5 := Tryz.sizeOf5
 v5 := Tryz.zeroValue5
 infoByte := by kernel_rfl
 cellsByte := by kernel_rfl
 sizeByte := by kernel_rfl
 neB5 := by decide }
open Go.RowKit in
theorem Tryz.Builder_WriteString (B b : Nat) (bs : List Value) (s : ByteArray) (w : World) (h : Lib.IsBuilder 129 5 B b bs w) (hlen : bs.length + s.size ≤ 140737488355328) (hBw : B ≤ w.heap.size) :
  Calls Tryz.prog 83 #[.pointer (some ⟨b, 0, none⟩), .string s] w fun e w' => e = .returned (.tuple #[.int .i64 s.size, .nilIface]) ∧ (Lib.BuilderAt 129 5 B b (.pointer (some ⟨b, 0, none⟩)) (bs ++ Lib.strCells s) w' ∧ Below B w w') := Any.Builder_WriteString Tryz.lays166 Tryz.Builder_Extra_166 B b bs s w h hlen hBw
end Go.Proofs
namespace Go.Proofs.YtaifemkokfoadaaGreatDoor
open Go.RowKit
structure GW (w : World) : Prop where
 tab : Lib.TabIs Tryz.prog w "internal/strconv.uint64pow10" .u64 Lib.pow10Tab
 zXD : ∃ tp p, w.var? Tryz.prog "strconv.ErrSyntax" = some #[.iface tp p]
 rng : ∃ tp p, w.var? Tryz.prog "strconv.ErrRange" = some #[.iface tp p]
 spc : Lib.TabIs Tryz.prog w "strings.asciiSpace" .u8 Lib.asciiSpaceTab
 mx : ∃ m, w.cell? ⟨2, 0, none⟩ = some (.int .i64 m)
 inside : 10 < w.heap.size
theorem GW.under {w w' : World} (h : GW w) (hb : Below w.heap.size w w') : GW w' := by
 obtain ⟨t1, p1, e1⟩ := h.zXD
 obtain ⟨t2, p2, e2⟩ := h.rng
 obtain ⟨m, e3⟩ := h.mx
 have hi := h.inside
 exact ⟨var?_below hb (by kernel_rfl) (by omega : 7 < w.heap.size) h.tab, ⟨t1, p1, var?_below hb (by kernel_rfl) (by omega : 3 < w.heap.size) e1⟩, ⟨t2, p2, var?_below hb (by kernel_rfl) (by omega : 4 < w.heap.size) e2⟩,
  var?_below hb (by kernel_rfl) (by omega : 0 < w.heap.size) h.spc,
  ⟨m, (hb.cell (p := ⟨2, 0, none⟩) (by show 2 < w.heap.size; omega)).trans e3⟩, Nat.lt_of_lt_of_le hi hb.size⟩
theorem zvk (w : World) (k : Nat) (os : Array Obj) : Below w.heap.size w (Sort.grow (w.drewN k) os) := by
 refine ⟨rfl, rfl, rfl, by simp [Sort.grow, World.drewN], fun i hi => ?_⟩
 show ((w.drewN k).heap ++ os)[i]? = _
 rw [Array.getElem?_append_left (by simpa [World.drewN] using hi)]
 rfl
theorem zkY (n : Int) (w : World) (h0 : -9223372036854775808 ≤ n) (h1 : n ≤ 9223372036854775807) (ht : GW w) :
  Calls Tryz.prog 119 #[.int .i64 n] w fun e w' => e = .returned (.string (bar (Lib.itoa n))) ∧ Below w.heap.size w w' :=
 (Tryz.strconv_Itoa n h0 h1 w ht.tab).mono fun e w' ⟨h1, k, os, h2⟩ => ⟨h1, by rw [h2]; exact zvk w k os⟩
end Go.Proofs.YtaifemkokfoadaaGreatDoor
namespace Go.Proofs.YtaifemkokfoadaaGreatDoor
open Go.RowKit
def Po (l : List UInt8) : Int := match Lib.atoiAll l with | .ok v => v | .range => Lib.atoiSat l | _ => 0
def Kv (l : List UInt8) : Bool := match Lib.atoiAll l with | .ok _ => true | _ => false
theorem zkW (s : ByteArray) (w : World) (hs : s.size ≤ 140737488355328) (hG : GW w) :
  Calls Tryz.prog 95 #[.string s] w fun e w' => ∃ ev, e = .returned (.tuple #[.int .i64 (Po s.data.toList), ev]) ∧ (Kv s.data.toList = true → ev = .nilIface) ∧ (Kv s.data.toList = false → ∃ te pe, ev = .iface te pe) ∧ Below w.heap.size w w' := by
 unfold Po Kv
 cases h : Lib.atoiAll s.data.toList with
 | ok v =>
  refine (Tryz.strconv_Atoi_ok s (by omega) v h w).mono fun e w' ⟨h1, h2⟩ => ⟨.nilIface, h1, fun _ => rfl, (fun h => nomatch h), ?_⟩
  rcases h2 with rfl | ⟨t, rfl⟩
  ·exact Below.refl _ _
  ·exact Lib.bytesWorld_below _ _ _
 | range =>
  obtain ⟨tp, p, hv⟩ := hG.rng
  exact (Tryz.strconv_Atoi_range_var s (by omega) h tp p w hv).mono fun e w' ⟨N, h1, _, _, h2⟩ => ⟨_, h1, (fun h => nomatch h), fun _ => ⟨_, _, rfl⟩, h2⟩
 | _ =>
  obtain ⟨tp, p, hv⟩ := hG.zXD
  exact (Tryz.strconv_Atoi_syntax_var s (by omega) h tp p w hv).mono fun e w' ⟨N, h1, _, _, h2⟩ => ⟨_, h1, (fun h => nomatch h), fun _ => ⟨_, _, rfl⟩, h2⟩
end Go.Proofs.YtaifemkokfoadaaGreatDoor
namespace Go.Proofs.YtaifemkokfoadaaGreatDoor
open Go.RowKit Go.Shelf
def okB (b : UInt8) : Bool := decide (33 ≤ b.toNat) && decide (b.toNat ≤ 126)
def kS (l : List UInt8) : Bool := decide (1 ≤ l.length) && (decide (l.length ≤ 10) && l.all okB)
def kG (b : UInt8) : Bool := (decide (97 ≤ b.toNat) && decide (b.toNat ≤ 122)) || (decide (65 ≤ b.toNat) && decide (b.toNat ≤ 90))
def YW (b : UInt8) : Bool := decide (48 ≤ b.toNat) && decide (b.toNat ≤ 57)
def kT (l : List UInt8) : Bool := decide (1 ≤ l.length) && (decide (l.length ≤ 10) && (l.all (fun b => kG b || YW b) && (l.head?.map kG).getD false))
def Xd (r : Nat) : Bool := decide (r < 33) || decide (126 < r)
theorem zXE (s : ByteArray) : ∀ (f pos : Nat), s.size ≤ pos + f → pos ≤ s.size → (0 ≤ Lib.idxFuncFrom Xd true s f pos ↔ ¬ ((s.data.toList.drop pos).all okB = true)) := by
 intro f
 induction f with
 | zero =>
  intro pos h1 h2
  rw [Lib.idxFuncFrom_end _ _ _ _ _ (by omega), List.drop_eq_nil_of_le (by simp; omega)]
  simp
 | succ f ih =>
  intro pos h1 h2
  by_cases hp : pos < s.size
  ·have hd : s.data.toList.drop pos = s[pos] :: s.data.toList.drop (pos + 1) := by
    rw [List.drop_eq_getElem_cons (by simpa using hp)]; rfl
   rw [hd, List.all_cons]
   unfold Lib.idxFuncFrom
   rw [if_pos hp]
   by_cases ha : s[pos].toNat < 128
   ·rw [decode_ascii s pos hp ha]
    simp only
    by_cases hb : okB s[pos] = true
    ·have hn : Xd s[pos].toNat = false := by
      unfold okB at hb; unfold Xd; simp at hb ⊢; omega
     rw [hn, if_neg (by simp), ih (pos + 1) (by omega) (by omega), hb]
     simp
    ·have hn : Xd s[pos].toNat = true := by
      unfold okB at hb; unfold Xd; simp at hb ⊢; omega
     rw [hn, if_pos rfl]
     simp [hb]
   ·have hh := decode_high s pos hp (by omega)
    have hn : Xd (Utf8.decode s pos).1 = true := by unfold Xd; simp; omega
    have hb : okB s[pos] = false := by unfold okB; simp; omega
    rw [hn, if_pos rfl, hb]
    simp
  ·rw [Lib.idxFuncFrom_end _ _ _ _ _ hp, List.drop_eq_nil_of_le (by simp; omega)]
   simp
theorem zxu (w : World) : PredAt Tryz.prog 100 #[] encR Xd w := fun W r _ => by
 unfold FnGives
 show Calls Tryz.prog 100 #[.int .i32 r] W _
 by_cases h1 : r < 33
 ·have e1 : Xd r = true := by unfold Xd; simp [h1]
  have d1 : decide ((r : Int) < 33) = true := by simp; omega
  rw [e1]; clear e1 h1
  go_enter Tryz.func100, Tryz.ntmps100
  go_wp2
  go_ret
  exact ⟨rfl, 0, rfl⟩
 ·have d1 : decide ((r : Int) < 33) = false := by simp; omega
  by_cases h2 : 126 < r
  ·have e1 : Xd r = true := by unfold Xd; simp [h2]
   have d2 : decide ((126 : Int) < (r : Int)) = true := by simp; omega
   rw [e1]; clear e1 h1 h2
   go_enter Tryz.func100, Tryz.ntmps100
   go_wp2
   go_ret
   exact ⟨rfl, 0, rfl⟩
  ·have e1 : Xd r = false := by unfold Xd; simp; omega
   have d2 : decide ((126 : Int) < (r : Int)) = false := by simp; omega
   rw [e1]; clear e1 h1 h2
   go_enter Tryz.func100, Tryz.ntmps100
   go_wp2
   go_ret
   exact ⟨rfl, 0, rfl⟩
set_option maxRecDepth 100000 in
theorem zvy (s : ByteArray) (w : World) :
  Calls Tryz.prog 44 #[.string s] w fun e w' => e = .returned (.bool (kS s.data.toList)) ∧ Below w.heap.size w w' := by
 have hl : s.data.toList.length = s.size := Array.length_toList
 have hc := Tryz.strings_ContainsFunc 100 #[] (enters_of Tryz.func100 (by kernel_rfl) rfl) Xd s w (zxu w)
 have hv : decide (0 ≤ Lib.idxFunc Xd true s) = !(s.data.toList.all okB) := by
  have := zXE s s.size 0 (by omega) (by omega)
  rw [List.drop_zero] at this
  unfold Lib.idxFunc
  cases h : s.data.toList.all okB with
  | true => rw [h] at this; simp at this; simp; omega
  | false => rw [h] at this; simp at this; simp [this]
 rw [hv] at hc
 unfold kS
 rw [hl]
 generalize s.data.toList.all okB = b at hc ⊢
 clear hl hv
 by_cases h1 : 1 ≤ s.size
 ·have d1 : decide (1 ≤ s.size) = true := decide_eq_true h1
  have g1 : decide ((1 : Int) ≤ (s.size : Int)) = true := by simp; omega
  by_cases h2 : s.size ≤ 10
  ·have d2 : decide (s.size ≤ 10) = true := decide_eq_true h2
   have g2 : decide ((s.size : Int) ≤ 10) = true := by simp; omega
   rw [d1, d2]
   clear d1 d2
   cases b with
   | true =>
    go_enter Tryz.func44, Tryz.ntmps44
    go_wp2_with (go_at_call 99; refine hc.mono ?_; rintro e w1 ⟨rfl, hb1⟩)
    go_ret
    exact ⟨rfl, hb1⟩
   | false =>
    go_enter Tryz.func44, Tryz.ntmps44
    go_wp2_with (go_at_call 99; refine hc.mono ?_; rintro e w1 ⟨rfl, hb1⟩)
    go_ret
    exact ⟨rfl, hb1⟩
  ·have d2 : decide (s.size ≤ 10) = false := decide_eq_false h2
   have g2 : decide ((s.size : Int) ≤ 10) = false := by simp; omega
   rw [d1, d2]
   clear d1 d2 hc
   go_enter Tryz.func44, Tryz.ntmps44
   go_wp2
   go_ret
   exact ⟨rfl, Below.refl _ _⟩
 ·have d1 : decide (1 ≤ s.size) = false := decide_eq_false h1
  have g1 : decide ((1 : Int) ≤ (s.size : Int)) = false := by simp; omega
  rw [d1]
  clear d1 hc
  go_enter Tryz.func44, Tryz.ntmps44
  go_wp2
  go_ret
  exact ⟨rfl, Below.refl _ _⟩
theorem fG {P : UInt8 → Prop} (h : ∀ n : Fin 256, P (UInt8.ofNat n.val)) (c : UInt8) : P c := by
 have := h ⟨c.toNat, c.toNat_lt⟩
 rwa [UInt8.ofNat_toNat] at this
theorem zvw (c : UInt8) : decide (0 ≤ Lib.indexByte (⟨#[97, 98, 99, 100, 101, 102, 103, 104, 105, 106, 107, 108, 109, 110, 111, 112, 113, 114, 115, 116, 117, 118, 119, 120, 121, 122, 65, 66, 67, 68, 69, 70, 71, 72, 73, 74, 75, 76, 77, 78, 79, 80, 81, 82, 83, 84, 85, 86, 87, 88, 89, 90]⟩ : ByteArray).data.toList c) = kG c :=
 fG (P := fun c => decide (0 ≤ Lib.indexByte (⟨#[97, 98, 99, 100, 101, 102, 103, 104, 105, 106, 107, 108, 109, 110, 111, 112, 113, 114, 115, 116, 117, 118, 119, 120, 121, 122, 65, 66, 67, 68, 69, 70, 71, 72, 73, 74, 75, 76, 77, 78, 79, 80, 81, 82, 83, 84, 85, 86, 87, 88, 89, 90]⟩ : ByteArray).data.toList c) = kG c) (by decide +kernel) c
theorem zxA (c : UInt8) : ((⟨#[97, 98, 99, 100, 101, 102, 103, 104, 105, 106, 107, 108, 109, 110, 111, 112, 113, 114, 115, 116, 117, 118, 119, 120, 121, 122, 65, 66, 67, 68, 69, 70, 71, 72, 73, 74, 75, 76, 77, 78, 79, 80, 81, 82, 83, 84, 85, 86, 87, 88, 89, 90, 48, 49, 50, 51, 52, 53, 54, 55, 56, 57]⟩ : ByteArray).data.toList.contains c) = (kG c || YW c) :=
 fG (P := fun c => ((⟨#[97, 98, 99, 100, 101, 102, 103, 104, 105, 106, 107, 108, 109, 110, 111, 112, 113, 114, 115, 116, 117, 118, 119, 120, 121, 122, 65, 66, 67, 68, 69, 70, 71, 72, 73, 74, 75, 76, 77, 78, 79, 80, 81, 82, 83, 84, 85, 86, 87, 88, 89, 90, 48, 49, 50, 51, 52, 53, 54, 55, 56, 57]⟩ : ByteArray).data.toList.contains c) = (kG c || YW c)) (by decide +kernel) c
theorem dropWhile_nil {α : Type} (p : α → Bool) (l : List α) : (l.dropWhile p).isEmpty = l.all p := by
 induction l with
 | nil => rfl
 | cons a l ih =>
  rw [List.dropWhile_cons, List.all_cons]
  cases h : p a with
  | true => simpa using ih
  | false => rfl
theorem bJ {α : Type} (p : α → Bool) (l : List α) (h : (l.dropWhile p).all p = true) : l.all p = true := by
 induction l with
 | nil => rfl
 | cons a l ih =>
  rw [List.dropWhile_cons] at h
  cases hp : p a with
  | true => rw [hp] at h; rw [List.all_cons, hp, ih (by simpa using h)]; rfl
  | false => rw [hp] at h; simp [hp] at h
theorem zvZ (l cs : List UInt8) : (Lib.trimS l cs).isEmpty = l.all (cs.contains ·) := by
 unfold Lib.trimS Lib.trimLeftS
 rw [dropWhile_nil]
 unfold Lib.trimRightS
 rw [List.all_reverse]
 cases h : (List.dropWhile (fun x => cs.contains x) l.reverse).all (fun x => cs.contains x) with
 | true =>
  have := bJ _ _ h
  rw [List.all_reverse] at this
  exact this.symm
 | false =>
  cases h2 : l.all (fun x => cs.contains x) with
  | false => rfl
  | true =>
   have h3 : (List.dropWhile (fun x => cs.contains x) l.reverse).isEmpty = true := by rw [dropWhile_nil, List.all_reverse]; exact h2
   rw [List.isEmpty_iff.1 h3] at h
   exact absurd h (by simp)
set_option maxRecDepth 100000 in
theorem zvQ (s : ByteArray) (w : World) (hs : s.size ≤ 9223372036854775807) :
  Calls Tryz.prog 97 #[.string s, .string ⟨#[97, 98, 99, 100, 101, 102, 103, 104, 105, 106, 107, 108, 109, 110, 111, 112, 113, 114, 115, 116, 117, 118, 119, 120, 121, 122, 65, 66, 67, 68, 69, 70, 71, 72, 73, 74, 75, 76, 77, 78, 79, 80, 81, 82, 83, 84, 85, 86, 87, 88, 89, 90, 48, 49, 50, 51, 52, 53, 54, 55, 56, 57]⟩] w fun e w' => ∃ r : ByteArray, e = .returned (.string r) ∧ r.toList.isEmpty = s.data.toList.all (fun b => kG b || YW b) ∧ Below w.heap.size w w' := by
 refine (Any.strings_Trim_laid Tryz.lays160 (by kernel_rfl) s ⟨#[97, 98, 99, 100, 101, 102, 103, 104, 105, 106, 107, 108, 109, 110, 111, 112, 113, 114, 115, 116, 117, 118, 119, 120, 121, 122, 65, 66, 67, 68, 69, 70, 71, 72, 73, 74, 75, 76, 77, 78, 79, 80, 81, 82, 83, 84, 85, 86, 87, 88, 89, 90, 48, 49, 50, 51, 52, 53, 54, 55, 56, 57]⟩ w hs (by decide) (ascii_of_all (by decide +kernel))).mono fun e w' ⟨h1, h2⟩ => ⟨_, h1, ?_, h2⟩
 rw [ByteArray.toList_eq]
 show (Lib.trimS s.data.toList _).isEmpty = _
 rw [zvZ]
 congr 1
 funext b
 exact zxA b
set_option maxRecDepth 100000 in
set_option maxHeartbeats 1000000 in
theorem iE (s : ByteArray) (w : World) :
  Calls Tryz.prog 41 #[.string s] w fun e w' => e = .returned (.bool (kT s.data.toList)) ∧ Below w.heap.size w w' := by
 have hl : s.data.toList.length = s.size := Array.length_toList
 have ht0 := fun h : s.size ≤ 10 => zvQ s w (by omega)
 unfold kT
 rw [hl]
 clear hl
 by_cases h1 : 1 ≤ s.size
 ·have d1 : decide (1 ≤ s.size) = true := decide_eq_true h1
  have g1 : decide ((1 : Int) ≤ (s.size : Int)) = true := by simp; omega
  by_cases h2 : s.size ≤ 10
  ·have ht := ht0 h2
   clear ht0
   have d2 : decide (s.size ≤ 10) = true := decide_eq_true h2
   have g2 : decide ((s.size : Int) ≤ 10) = true := by simp; omega
   rw [d1, d2]
   have hh : (s.data.toList.head?.map kG).getD false = kG s[0] := by
    have : s.data.toList.head? = some s[0] := by
     rw [List.head?_eq_getElem?, List.getElem?_eq_getElem (by simp; omega)]; rfl
    rw [this]; rfl
   rw [hh]
   clear d1 d2 hh
   generalize s.data.toList.all (fun b => kG b || YW b) = al at ht ⊢
   have hi := fun W => Tryz.strings_IndexByte ⟨#[97, 98, 99, 100, 101, 102, 103, 104, 105, 106, 107, 108, 109, 110, 111, 112, 113, 114, 115, 116, 117, 118, 119, 120, 121, 122, 65, 66, 67, 68, 69, 70, 71, 72, 73, 74, 75, 76, 77, 78, 79, 80, 81, 82, 83, 84, 85, 86, 87, 88, 89, 90]⟩ (s[0].toNat : Int) W
   have hc8 : ((s[0].toNat : Int).toNat.toUInt8) = s[0] := by rw [Int.toNat_natCast]; exact UInt8.ofNat_toNat
   rw [hc8] at hi
   have hx := zvw s[0]
   generalize Lib.indexByte (⟨#[97, 98, 99, 100, 101, 102, 103, 104, 105, 106, 107, 108, 109, 110, 111, 112, 113, 114, 115, 116, 117, 118, 119, 120, 121, 122, 65, 66, 67, 68, 69, 70, 71, 72, 73, 74, 75, 76, 77, 78, 79, 80, 81, 82, 83, 84, 85, 86, 87, 88, 89, 90]⟩ : ByteArray).data.toList s[0] = ix at hi hx
   have HX := Lib.hid hx
   clear hx hc8
   cases al with
   | false =>
    go_enter Tryz.func41, Tryz.ntmps41
    go_wp2_with (go_at_call 97; refine ht.mono ?_; rintro e w1 ⟨r, rfl, hr, hb1⟩)
    all_goals first | (exfalso; simp_all; done) | skip
    go_ret
    exact ⟨rfl, hb1⟩
   | true =>
    cases hb : kG s[0] with
    | true =>
     rw [hb] at HX
     have g3 : decide (0 ≤ ix) = true := HX.out
     go_enter Tryz.func41, Tryz.ntmps41
     go_wp2_with (first | (go_at_call 97; refine ht.mono ?_; rintro e w1 ⟨r, rfl, hr, hb1⟩) | (go_at_call 92; refine (hi _).mono ?_; rintro e w2 ⟨rfl, rfl⟩))
     all_goals first | (exfalso; simp_all; done) | skip
     go_ret
     exact ⟨rfl, hb1⟩
    | false =>
     rw [hb] at HX
     have g3 : decide (0 ≤ ix) = false := HX.out
     go_enter Tryz.func41, Tryz.ntmps41
     go_wp2_with (first | (go_at_call 97; refine ht.mono ?_; rintro e w1 ⟨r, rfl, hr, hb1⟩) | (go_at_call 92; refine (hi _).mono ?_; rintro e w2 ⟨rfl, rfl⟩))
     all_goals first | (exfalso; simp_all; done) | skip
     go_ret
     exact ⟨rfl, hb1⟩
  ·have d2 : decide (s.size ≤ 10) = false := decide_eq_false h2
   have g2 : decide ((s.size : Int) ≤ 10) = false := by simp; omega
   rw [d1, d2]
   clear d1 d2 ht0
   go_enter Tryz.func41, Tryz.ntmps41
   go_wp2
   go_ret
   exact ⟨rfl, Below.refl _ _⟩
 ·have d1 : decide (1 ≤ s.size) = false := decide_eq_false h1
  have g1 : decide ((1 : Int) ≤ (s.size : Int)) = false := by simp; omega
  rw [d1]
  clear d1 ht0
  go_enter Tryz.func41, Tryz.ntmps41
  go_wp2
  go_ret
  exact ⟨rfl, Below.refl _ _⟩
end Go.Proofs.YtaifemkokfoadaaGreatDoor
namespace Go.Proofs.YtaifemkokfoadaaGreatDoor.PX
open Go.RowKit Go.Proofs.zx.zK Go.Proofs.zx.zU Go.Proofs.zx.zN
attribute [local go_sem] qF qG xC xD qY qW qH qI   -- for this text's walks alone
set_option linter.unusedVariables false
set_option linter.unusedSimpArgs false
def Xq.f  : Option ((List (qh))) := some (([(⟨(⟨#[102]⟩ : ByteArray), (⟨#[102]⟩ : ByteArray), (⟨#[102, 102]⟩ : ByteArray)⟩ : qh), (⟨(⟨#[102]⟩ : ByteArray), (⟨#[105]⟩ : ByteArray), (⟨#[102, 105]⟩ : ByteArray)⟩ : qh), (⟨(⟨#[102]⟩ : ByteArray), (⟨#[108]⟩ : ByteArray), (⟨#[102, 108]⟩ : ByteArray)⟩ : qh)] : List (qh)))
set_option maxHeartbeats 8000000 in
set_option maxRecDepth 100000 in
theorem Xq.calls  (r : List (qh)) (w : World) (h : Xq.f  = some r) :
  Calls Tryz.prog 31 #[] w fun e w' => ∃ fH : Value, e = .returned (fH) ∧ Kd.R uU 86 w' w.heap.size (fun _ => True) fH r ∧ Below w.heap.size w w' := by
 have zWL := Tryz.underlying86
 have HB := zy.mk (Below.refl w.heap.size w)
 have H : (some (([(⟨(⟨#[102]⟩ : ByteArray), (⟨#[102]⟩ : ByteArray), (⟨#[102, 102]⟩ : ByteArray)⟩ : qh), (⟨(⟨#[102]⟩ : ByteArray), (⟨#[105]⟩ : ByteArray), (⟨#[102, 105]⟩ : ByteArray)⟩ : qh), (⟨(⟨#[102]⟩ : ByteArray), (⟨#[108]⟩ : ByteArray), (⟨#[102, 108]⟩ : ByteArray)⟩ : qh)] : List (qh)))) = some r := h
 clear h
 obtain ⟨zWM, mg⟩ : ∃ y_ : List (qh), y_ = (([(⟨(⟨#[102]⟩ : ByteArray), (⟨#[102]⟩ : ByteArray), (⟨#[102, 102]⟩ : ByteArray)⟩ : qh), (⟨(⟨#[102]⟩ : ByteArray), (⟨#[105]⟩ : ByteArray), (⟨#[102, 105]⟩ : ByteArray)⟩ : qh), (⟨(⟨#[102]⟩ : ByteArray), (⟨#[108]⟩ : ByteArray), (⟨#[102, 108]⟩ : ByteArray)⟩ : qh)] : List (qh))) := ⟨_, rfl⟩
 replace H : (some zWM) = some r := by first | (rw [mg]; with_reducible exact H) | (have uN := (Option.bind_some _ _).symm.trans H; rw [mg]; with_reducible exact uN) | (have uN := (Option.bind_some _ _).symm.trans H; with_reducible exact uN) | with_reducible exact H | (rw [mg]; exact H) | exact H
 have zyI := zy.mk mg
 clear mg
 obtain rfl := Option.some.inj H
 go_enter Tryz.func31, Tryz.ntmps31
 go_wp2_with (first | ((with_reducible refine xI (N := 4) rfl ?_); refine Kd.J2 uU _ 86 ?hg (N := 4) ?hd (xs := ([(⟨(⟨#[102]⟩ : ByteArray), (⟨#[102]⟩ : ByteArray), (⟨#[102, 102]⟩ : ByteArray)⟩ : qh), (⟨(⟨#[102]⟩ : ByteArray), (⟨#[105]⟩ : ByteArray), (⟨#[102, 105]⟩ : ByteArray)⟩ : qh), (⟨(⟨#[102]⟩ : ByteArray), (⟨#[108]⟩ : ByteArray), (⟨#[102, 108]⟩ : ByteArray)⟩ : qh)] : List (qh))) (inner := [.string (⟨#[102]⟩ : ByteArray), .string (⟨#[102]⟩ : ByteArray), .string (⟨#[102, 102]⟩ : ByteArray), .string (⟨#[102]⟩ : ByteArray), .string (⟨#[105]⟩ : ByteArray), .string (⟨#[102, 105]⟩ : ByteArray), .string (⟨#[102]⟩ : ByteArray), .string (⟨#[108]⟩ : ByteArray), .string (⟨#[102, 108]⟩ : ByteArray)]) (ok := fun _ => True) (pK := fun _ => True) ?hr ?hp (fun _ hk => hk) trivial (Below.refl _ _) (Nat.le_refl _) (by simp) ?_; (case hd => rfl); (case hg => rfl); (case hr => first | (go_simp; done) | (go_simp; rfl)); (case hp => exact (xA.c3 (show Kd.M uU _ _ _ (⟨(⟨#[102]⟩ : ByteArray), (⟨#[102]⟩ : ByteArray), (⟨#[102, 102]⟩ : ByteArray)⟩ : qh) [.string (⟨#[102]⟩ : ByteArray), .string (⟨#[102]⟩ : ByteArray), .string (⟨#[102, 102]⟩ : ByteArray)] from (Jm _ _ _ (⟨(⟨#[102]⟩ : ByteArray), (⟨#[102]⟩ : ByteArray), (⟨#[102, 102]⟩ : ByteArray)⟩ : qh) )) (xA.c3 (show Kd.M uU _ _ _ (⟨(⟨#[102]⟩ : ByteArray), (⟨#[105]⟩ : ByteArray), (⟨#[102, 105]⟩ : ByteArray)⟩ : qh) [.string (⟨#[102]⟩ : ByteArray), .string (⟨#[105]⟩ : ByteArray), .string (⟨#[102, 105]⟩ : ByteArray)] from (Jm _ _ _ (⟨(⟨#[102]⟩ : ByteArray), (⟨#[105]⟩ : ByteArray), (⟨#[102, 105]⟩ : ByteArray)⟩ : qh) )) (xA.c3 (show Kd.M uU _ _ _ (⟨(⟨#[102]⟩ : ByteArray), (⟨#[108]⟩ : ByteArray), (⟨#[102, 108]⟩ : ByteArray)⟩ : qh) [.string (⟨#[102]⟩ : ByteArray), .string (⟨#[108]⟩ : ByteArray), .string (⟨#[102, 108]⟩ : ByteArray)] from (Jm _ _ _ (⟨(⟨#[102]⟩ : ByteArray), (⟨#[108]⟩ : ByteArray), (⟨#[102, 108]⟩ : ByteArray)⟩ : qh) )) (xA.none _ _))))); intro ziC w1 ho2 hb UW YK; clear UW YK; (first | rw [← zyI.out] at ho2 | (simp only [Int.reduceToNat] at ho2; rw [← zyI.out] at ho2)); have zn := zy.mk (Kd.jk ho2 (zO (yX HB.out))); have zA := zy.mk (yY (yX HB.out) hb); clear HB; have zVG := zn; have HB := zA; clear zn zA; clear hb ho2))
 go_ret
 exact ⟨_, by first | rfl | (simp [yZ, yQ] <;> rfl) | (simp [*, yZ, yQ] <;> rfl), by (with_reducible repeat (first | apply Kd.qE | apply Kd.qp | apply Kd.yR)); exact zVG.out, by repeat (first | (with_reducible first | exact HB.out | apply yt | apply zM | apply yP) | exact HB.out)⟩
def cmp_isNaN_string.f (a0 : ByteArray) : Option (Bool) := some (a0.toList != a0.toList)
set_option maxHeartbeats 8000000 in
set_option maxRecDepth 100000 in
theorem cmp_isNaN_string.calls (a0 : ByteArray) (r : Bool) (w : World) (h : cmp_isNaN_string.f a0 = some r) :
  Calls Tryz.prog 101 #[.string a0] w fun e w' => e = .returned (.bool r) ∧ z8 w w' := by
 have H : (some (a0.toList != a0.toList)) = some r := h
 clear h
 obtain rfl := Option.some.inj H
 go_enter Tryz.func101, Tryz.ntmps101
 go_wp2
 go_ret
 exact ⟨by first | rfl | (simp; done) | (simp [*]; done), by repeat (first | exact z8.refl _ | apply z8.step)⟩
def uh.f (a0 : ByteArray) (a1 : ByteArray) : Option (Int) := (cmp_isNaN_string.f a0).bind fun bU => ((cmp_isNaN_string.f a1).bind fun XO => (if bU = true then (if XO = true then (some 0) else (some (-1))) else (if XO = true then (some 1) else (if (Op.bytesLess a0.toList a1.toList) = true then (some (-1)) else (if (Op.bytesLess a1.toList a0.toList) = true then (some 1) else (some 0))))))
set_option maxHeartbeats 8000000 in
set_option maxRecDepth 100000 in
theorem uh.calls (a0 : ByteArray) (a1 : ByteArray) (r : Int) (w : World) (h : uh.f a0 a1 = some r) :
  Calls Tryz.prog 47 #[.string a0, .string a1] w fun e w' => e = .returned (.int .i64 r) ∧ z8 w w' := by
 have H : ((cmp_isNaN_string.f a0).bind fun bU => ((cmp_isNaN_string.f a1).bind fun XO => (if bU = true then (if XO = true then (some 0) else (some (-1))) else (if XO = true then (some 1) else (if (Op.bytesLess a0.toList a1.toList) = true then (some (-1)) else (if (Op.bytesLess a1.toList a0.toList) = true then (some 1) else (some 0))))))) = some r := h
 clear h
 replace H := Option.bind_eq_some_iff.mp H
 obtain ⟨bU, fI, H⟩ := H
 replace H : ((cmp_isNaN_string.f a1).bind fun XO => (if bU = true then (if XO = true then (some 0) else (some (-1))) else (if XO = true then (some 1) else (if (Op.bytesLess a0.toList a1.toList) = true then (some (-1)) else (if (Op.bytesLess a1.toList a0.toList) = true then (some 1) else (some 0)))))) = some r := H
 have A3 := zy.mk fI
 clear fI
 replace H := Option.bind_eq_some_iff.mp H
 obtain ⟨XO, Wd, H⟩ := H
 replace H : (if bU = true then (if XO = true then (some 0) else (some (-1))) else (if XO = true then (some 1) else (if (Op.bytesLess a0.toList a1.toList) = true then (some (-1)) else (if (Op.bytesLess a1.toList a0.toList) = true then (some 1) else (some 0))))) = some r := H
 have A4 := zy.mk Wd
 clear Wd
 by_cases c5 : bU = true
 ·subst c5
  have H1 : (if XO = true then (some 0) else (some (-1))) = some r := by rw [if_pos rfl] at H; exact H
  clear H
  have H := H1
  clear H1
  by_cases c6 : XO = true
  ·subst c6
   have H1 : (some 0) = some r := by rw [if_pos rfl] at H; exact H
   clear H
   have H := H1
   clear H1
   obtain rfl := Option.some.inj H
   go_enter Tryz.func47, Tryz.ntmps47
   go_wp2_with (first | ((with_reducible refine yI (f := 101) rfl ?_); refine je (some 8) Tryz.func101 #[.string a0] ?_; (with_reducible refine (cmp_isNaN_string.calls a0 true _ A3.out).mono ?_); rintro e w' ⟨rfl, ⟨nd, rfl⟩⟩; refine ⟨_, rfl, ?_⟩) | ((with_reducible refine yI (f := 101) rfl ?_); refine je (some 10) Tryz.func101 #[.string a1] ?_; (with_reducible refine (cmp_isNaN_string.calls a1 true _ A4.out).mono ?_); rintro e w' ⟨rfl, ⟨nd, rfl⟩⟩; refine ⟨_, rfl, ?_⟩))
   go_ret
   exact ⟨by first | rfl | (simp; done) | (simp [*]; done), by repeat (first | exact z8.refl _ | apply z8.step)⟩
  ·replace c6 := Bool.eq_false_iff.mpr c6
   subst c6
   have H1 : (some (-1)) = some r := by rw [if_neg (show ¬ (false = true) by decide)] at H; exact H
   clear H
   have H := H1
   clear H1
   obtain rfl := Option.some.inj H
   go_enter Tryz.func47, Tryz.ntmps47
   go_wp2_with (first | ((with_reducible refine yI (f := 101) rfl ?_); refine je (some 8) Tryz.func101 #[.string a0] ?_; (with_reducible refine (cmp_isNaN_string.calls a0 true _ A3.out).mono ?_); rintro e w' ⟨rfl, ⟨nd, rfl⟩⟩; refine ⟨_, rfl, ?_⟩) | ((with_reducible refine yI (f := 101) rfl ?_); refine je (some 10) Tryz.func101 #[.string a1] ?_; (with_reducible refine (cmp_isNaN_string.calls a1 false _ A4.out).mono ?_); rintro e w' ⟨rfl, ⟨nd, rfl⟩⟩; refine ⟨_, rfl, ?_⟩))
   go_ret
   exact ⟨by first | rfl | (simp; done) | (simp [*]; done), by repeat (first | exact z8.refl _ | apply z8.step)⟩
 ·replace c5 := Bool.eq_false_iff.mpr c5
  subst c5
  have H1 : (if XO = true then (some 1) else (if (Op.bytesLess a0.toList a1.toList) = true then (some (-1)) else (if (Op.bytesLess a1.toList a0.toList) = true then (some 1) else (some 0)))) = some r := by rw [if_neg (show ¬ (false = true) by decide)] at H; exact H
  clear H
  have H := H1
  clear H1
  by_cases c7 : XO = true
  ·subst c7
   have H1 : (some 1) = some r := by rw [if_pos rfl] at H; exact H
   clear H
   have H := H1
   clear H1
   obtain rfl := Option.some.inj H
   go_enter Tryz.func47, Tryz.ntmps47
   go_wp2_with (first | ((with_reducible refine yI (f := 101) rfl ?_); refine je (some 8) Tryz.func101 #[.string a0] ?_; (with_reducible refine (cmp_isNaN_string.calls a0 false _ A3.out).mono ?_); rintro e w' ⟨rfl, ⟨nd, rfl⟩⟩; refine ⟨_, rfl, ?_⟩) | ((with_reducible refine yI (f := 101) rfl ?_); refine je (some 10) Tryz.func101 #[.string a1] ?_; (with_reducible refine (cmp_isNaN_string.calls a1 true _ A4.out).mono ?_); rintro e w' ⟨rfl, ⟨nd, rfl⟩⟩; refine ⟨_, rfl, ?_⟩))
   go_ret
   exact ⟨by first | rfl | (simp; done) | (simp [*]; done), by repeat (first | exact z8.refl _ | apply z8.step)⟩
  ·replace c7 := Bool.eq_false_iff.mpr c7
   subst c7
   have H1 : (if (Op.bytesLess a0.toList a1.toList) = true then (some (-1)) else (if (Op.bytesLess a1.toList a0.toList) = true then (some 1) else (some 0))) = some r := by rw [if_neg (show ¬ (false = true) by decide)] at H; exact H
   clear H
   have H := H1
   clear H1
   by_cases c8 : (Op.bytesLess a0.toList a1.toList) = true
   ·rw [if_pos c8] at H
    have Y0 : (Op.bytesLess a0.toList a1.toList) = true := c8
    have zWN : (!(Op.bytesLess a1.toList a0.toList || a1.toList == a0.toList)) = true := (Uz _ _).trans (c8)
    have zWO : (a0.toList == a1.toList) = false := zxQ (c8)
    have zWP : (a1.toList == a0.toList) = false := lM (c8)
    have ziD : Op.bytesLess a1.toList a0.toList = false := rR (c8)
    clear c8
    obtain rfl := Option.some.inj H
    go_enter Tryz.func47, Tryz.ntmps47
    go_wp2_with (first | ((with_reducible refine yI (f := 101) rfl ?_); refine je (some 8) Tryz.func101 #[.string a0] ?_; (with_reducible refine (cmp_isNaN_string.calls a0 false _ A3.out).mono ?_); rintro e w' ⟨rfl, ⟨nd, rfl⟩⟩; refine ⟨_, rfl, ?_⟩) | ((with_reducible refine yI (f := 101) rfl ?_); refine je (some 10) Tryz.func101 #[.string a1] ?_; (with_reducible refine (cmp_isNaN_string.calls a1 false _ A4.out).mono ?_); rintro e w' ⟨rfl, ⟨nd, rfl⟩⟩; refine ⟨_, rfl, ?_⟩))
    go_ret
    exact ⟨by first | rfl | (simp; done) | (simp [*]; done), by repeat (first | exact z8.refl _ | apply z8.step)⟩
   ·rw [if_neg c8] at H
    have Y0 : (Op.bytesLess a0.toList a1.toList) = false := by simpa using c8
    have zWN : (!(Op.bytesLess a1.toList a0.toList || a1.toList == a0.toList)) = false := (Uz _ _).trans (by simpa using c8)
    try have zWO : (a0.toList == a1.toList) = true := Pf (x := a0.toList) (y := a1.toList) (by assumption) (by assumption)
    try have zWP : (a1.toList == a0.toList) = true := Pf (x := a1.toList) (y := a0.toList) (by assumption) (by assumption)
    clear c8
    by_cases c9 : (Op.bytesLess a1.toList a0.toList) = true
    ·rw [if_pos c9] at H
     have WV : (Op.bytesLess a1.toList a0.toList) = true := c9
     have zWR : (!(Op.bytesLess a0.toList a1.toList || a0.toList == a1.toList)) = true := (Uz _ _).trans (c9)
     have zWS : (a1.toList == a0.toList) = false := zxQ (c9)
     have zWT : (a0.toList == a1.toList) = false := lM (c9)
     have ziE : Op.bytesLess a0.toList a1.toList = false := rR (c9)
     clear c9
     obtain rfl := Option.some.inj H
     go_enter Tryz.func47, Tryz.ntmps47
     go_wp2_with (first | ((with_reducible refine yI (f := 101) rfl ?_); refine je (some 8) Tryz.func101 #[.string a0] ?_; (with_reducible refine (cmp_isNaN_string.calls a0 false _ A3.out).mono ?_); rintro e w' ⟨rfl, ⟨nd, rfl⟩⟩; refine ⟨_, rfl, ?_⟩) | ((with_reducible refine yI (f := 101) rfl ?_); refine je (some 10) Tryz.func101 #[.string a1] ?_; (with_reducible refine (cmp_isNaN_string.calls a1 false _ A4.out).mono ?_); rintro e w' ⟨rfl, ⟨nd, rfl⟩⟩; refine ⟨_, rfl, ?_⟩))
     go_ret
     exact ⟨by first | rfl | (simp; done) | (simp [*]; done), by repeat (first | exact z8.refl _ | apply z8.step)⟩
    ·rw [if_neg c9] at H
     have WV : (Op.bytesLess a1.toList a0.toList) = false := by simpa using c9
     have zWR : (!(Op.bytesLess a0.toList a1.toList || a0.toList == a1.toList)) = false := (Uz _ _).trans (by simpa using c9)
     try have zWS : (a1.toList == a0.toList) = true := Pf (x := a1.toList) (y := a0.toList) (by assumption) (by assumption)
     try have zWT : (a0.toList == a1.toList) = true := Pf (x := a0.toList) (y := a1.toList) (by assumption) (by assumption)
     clear c9
     obtain rfl := Option.some.inj H
     go_enter Tryz.func47, Tryz.ntmps47
     go_wp2_with (first | ((with_reducible refine yI (f := 101) rfl ?_); refine je (some 8) Tryz.func101 #[.string a0] ?_; (with_reducible refine (cmp_isNaN_string.calls a0 false _ A3.out).mono ?_); rintro e w' ⟨rfl, ⟨nd, rfl⟩⟩; refine ⟨_, rfl, ?_⟩) | ((with_reducible refine yI (f := 101) rfl ?_); refine je (some 10) Tryz.func101 #[.string a1] ?_; (with_reducible refine (cmp_isNaN_string.calls a1 false _ A4.out).mono ?_); rintro e w' ⟨rfl, ⟨nd, rfl⟩⟩; refine ⟨_, rfl, ?_⟩))
     go_ret
     exact ⟨by first | rfl | (simp; done) | (simp [*]; done), by repeat (first | exact z8.refl _ | apply z8.step)⟩
end Go.Proofs.YtaifemkokfoadaaGreatDoor.PX
namespace Go.Proofs.YtaifemkokfoadaaGreatDoor
open Go.RowKit Go.Shelf Go.Proofs.zx.zK Go.Proofs.zx.zN Go.Proofs.YtaifemkokfoadaaGreatDoor.PX
def vL (a b : ByteArray) : Int := if Op.bytesLess a.toList b.toList = true then -1 else if Op.bytesLess b.toList a.toList = true then 1 else 0
theorem Qj (a b : ByteArray) : uh.f a b = some (vL a b) := by
 have e1 : cmp_isNaN_string.f a = some false := by unfold cmp_isNaN_string.f; simp
 have e2 : cmp_isNaN_string.f b = some false := by unfold cmp_isNaN_string.f; simp
 unfold uh.f vL
 rw [e1, e2]
 simp only [Option.bind_some, Bool.false_eq_true, if_false]
 by_cases h1 : Op.bytesLess a.toList b.toList = true
 ·rw [if_pos h1, if_pos h1]
 ·rw [if_neg h1, if_neg h1]
  by_cases h2 : Op.bytesLess b.toList a.toList = true
  ·rw [if_pos h2, if_pos h2]
  ·rw [if_neg h2, if_neg h2]
theorem bn (a b : ByteArray) (w : World) : Calls Tryz.prog 47 #[.string a, .string b] w fun e w' => e = .returned (.int .i64 (vL a b)) ∧ Below w.heap.size w w' :=
 (uh.calls a b _ w (Qj a b)).mono fun e w' ⟨h1, n, h2⟩ => ⟨h1, by rw [h2]; exact ⟨rfl, rfl, rfl, Nat.le_refl _, fun _ _ => rfl⟩⟩
def Vs (l : List qw) (n : ByteArray) (i j : Nat) : Nat :=
 if h : i < j then
  if vL (qV l (((i + j) / 2 : Nat) : Int)).f0 n < 0 then Vs l n ((i + j) / 2 + 1) j else Vs l n i ((i + j) / 2)
 else i
termination_by j - i
def Zw (l : List qw) (n : ByteArray) : Int × Bool :=
 let i := Vs l n 0 l.length
 ((i : Int), decide (i < l.length) && decide (vL (qV l (i : Int)).f0 n = 0))
set_option maxRecDepth 100000 in
theorem bA (a : ByteArray) (v : Int) (n : ByteArray) (w : World) :
  Calls Tryz.prog 87 #[.agg #[.string a, .int .i64 v], .string n] w fun e w' => e = .returned (.int .i64 (vL a n)) ∧ Below w.heap.size w w' := by
 have hb0 : Below w.heap.size w (w.alloc (.cells #[.string a, .int .i64 v] 31)) := (Below.refl _ w).alloc (Nat.le_refl _) _
 have hc := bn a n (w.alloc (.cells #[.string a, .int .i64 v] 31))
 generalize vL a n = r at hc ⊢
 go_enter Tryz.func87, Tryz.ntmps87
 go_wp2_with (go_at_call 47; refine hc.mono ?_; rintro e w2 ⟨rfl, hb2⟩)
 go_ret
 exact ⟨rfl, hb0.trans (hb2.mono (by simp))⟩
set_option maxRecDepth 100000 in
set_option maxHeartbeats 1000000 in
theorem zxB (A0 : Option Addr) (c0 : Nat) (l : List qw) (n : ByteArray) (w : World) (hr : Kd.C uy w A0 l.length l) (hl : l.length ≤ 1000000000) :
  Calls Tryz.prog 86 #[.slice A0 l.length c0, .string n, .func (.func 87) #[] #[]] w fun e w' => e = .returned (.tuple #[.int .i64 (Zw l n).1, .bool (Zw l n).2]) ∧ Below w.heap.size w w' := by
 have hfv : Zw l n = ((Vs l n 0 l.length : Int), decide (Vs l n 0 l.length < l.length) && decide (vL (qV l (Vs l n 0 l.length : Int)).f0 n = 0)) := rfl
 generalize Zw l n = V at hfv ⊢
 have HFV := Lib.hid hfv
 clear hfv
 go_enter Tryz.func86, Tryz.ntmps86
 go_wp2
 go_loopw [9, 10] (fun x y wr => ∃ i j : Nat, x = .int .i64 i ∧ y = .int .i64 j ∧ i ≤ j ∧ j ≤ l.length ∧ Hid (Vs l n i j = Vs l n 0 l.length) ∧ Below w.heap.size w wr) (fun x y _ => ((intOf y) - (intOf x)).toNat)
 case atStart => exact ⟨0, l.length, rfl, rfl, Nat.zero_le _, Nat.le_refl _, Lib.hid rfl, Below.refl _ _⟩
 case round =>
  obtain ⟨i, j, rfl, rfl, hij, hj, HB, hb⟩ := hrel
  by_cases hlt : i < j
  ·have hm : (i + j) / 2 < l.length := by omega
   have hst := HB.out
   rw [Vs, dif_pos hlt] at hst
   have hC := Kd.zh hr hb
   obtain ⟨ad, e, h0, h1⟩ := YM hC (((i + j) / 2 : Nat) : Int) (by omega) (by omega)
   cases e
   rw [Int.toNat_natCast] at h0 h1
   generalize qV l (((i + j) / 2 : Nat) : Int) = g at h0 h1 hst
   have hcm := bA g.f0 g.f1 n wr
   generalize vL g.f0 n = r at hcm hst
   have HS := Lib.hid hst
   have e1 : IntKind.i64.wrap ((i : Int) + (j : Int)) = (i : Int) + (j : Int) := IntWalk.i64_in _ (by omega)
   clear hst HB hC hr
   by_cases hr0 : r < 0
   ·have d1 : decide (r < 0) = true := decide_eq_true hr0
    rw [if_pos hr0] at HS
    clear hr0
    go_wp2_with fail
    refine hcm.mono ?_; rintro e w2 ⟨rfl, hb2⟩
    go_wp2
    go_roundw
    case rel => exact ⟨(i + j) / 2 + 1, j, by go_num, rfl, by omega, hj, HS, hb.trans (hb2.mono hb.size)⟩
    case measure => simp [intOf]; omega
   ·have d1 : decide (r < 0) = false := decide_eq_false hr0
    rw [if_neg hr0] at HS
    clear hr0
    go_wp2_with fail
    refine hcm.mono ?_; rintro e w2 ⟨rfl, hb2⟩
    go_wp2
    go_roundw
    case rel => exact ⟨i, (i + j) / 2, rfl, by go_num, by omega, by omega, HS, hb.trans (hb2.mono hb.size)⟩
    case measure => simp [intOf]; omega
  ·obtain rfl : i = j := by omega
   have hst := HB.out
   rw [Vs, dif_neg (by omega)] at hst
   by_cases hi : i < l.length
   ·have hC := Kd.zh hr hb
    obtain ⟨ad, e, h0, h1⟩ := YM hC (i : Int) (by omega) (by omega)
    cases e
    rw [Int.toNat_natCast] at h0 h1
    have hval : V = ((i : Int), decide (i < l.length) && decide (vL (qV l (i : Int)).f0 n = 0)) := by rw [HFV.out, ← hst]
    rw [decide_eq_true hi, Bool.true_and] at hval
    generalize qV l (i : Int) = g at h0 h1 hval
    have hcm := bA g.f0 g.f1 n wr
    have hd : (vL g.f0 n == 0) = decide (vL g.f0 n = 0) := rfl
    generalize vL g.f0 n = r at hcm hd hval
    have HV := Lib.hid hval
    have q2 : (i : Int) < (l.length : Int) := by omega
    clear hst HB hC hr hval
    cases hz : decide (r = 0) with
    | true =>
     rw [hz] at hd HV
     clear hz
     go_wp2_with fail
     refine hcm.mono ?_; rintro e w2 ⟨rfl, hb2⟩
     go_wp2
     go_ret2
     exact ⟨by rw [HV.out]; rfl, hb.trans (hb2.mono hb.size)⟩
    | false =>
     rw [hz] at hd HV
     clear hz
     go_wp2_with fail
     refine hcm.mono ?_; rintro e w2 ⟨rfl, hb2⟩
     go_wp2
     go_ret2
     exact ⟨by rw [HV.out]; rfl, hb.trans (hb2.mono hb.size)⟩
   ·have q1 : decide (i < l.length) = false := decide_eq_false hi
    have hval : V = ((i : Int), false) := by rw [HFV.out, ← hst, q1, Bool.false_and]
    have HV := Lib.hid hval
    have q2 : ¬ (i : Int) < (l.length : Int) := by omega
    have q3 : decide ((i : Int) < (l.length : Int)) = false := decide_eq_false q2
    clear hst HB hr hval q1
    go_wp2
    go_ret2
    exact ⟨by rw [HV.out]; rfl, hb⟩
def jR.f (_ : ByteArray) (_ : Bool) (_ : Int) (yw : List qw) (_ : List qh) (_ : List xq) (a1 : ByteArray) : Option (Int × Bool) := if yw.length ≤ 1000000000 then some (Zw yw a1) else none
set_option maxRecDepth 100000 in
theorem jR.calls (yU : ByteArray) (yS : Bool) (y7 : Int) (qU : Option Addr) (q9 : Nat) (yw : List qw) (xZ : Option Addr) (xQ : Nat) (yA : List qh) (xX : Option Addr) (xJ : Nat) (yu : List xq) (a1 : ByteArray) (r1 : Int) (r2 : Bool) (w : World) (wU : Kd.C uy w qU yw.length yw) (_ : yw.length ≤ q9) (_ : Kd.C uU w xZ yA.length yA) (_ : yA.length ≤ xQ) (_ : Kd.C jy w xX yu.length yu) (_ : yu.length ≤ xJ) (_ : GW w) (h : jR.f yU yS y7 yw yA yu a1 = some (r1, r2)) :
  Calls Tryz.prog 27 #[.agg #[.string yU, .bool yS, .int .i64 y7, .slice qU yw.length q9, .slice xZ yA.length xQ, .slice xX yu.length xJ], .string a1] w fun e w' => e = .returned (.tuple #[.int .i64 r1, .bool r2]) ∧ Below w.heap.size w w' := by
 unfold jR.f at h
 split at h
 ·rename_i hl
  have he := Option.some.inj h
  have hb0 : Below w.heap.size w (w.alloc (.cells #[.string yU, .bool yS, .int .i64 y7, .slice qU yw.length q9, .slice xZ yA.length xQ, .slice xX yu.length xJ] 26)) := (Below.refl _ w).alloc (Nat.le_refl _) _
  have hs := zxB qU q9 yw a1 _ (Kd.zh wU hb0) hl
  rw [he] at hs
  clear he h hl wU
  go_enter Tryz.func27, Tryz.ntmps27
  go_wp2_with fail
  refine hs.mono ?_; rintro e w2 ⟨rfl, hb2⟩
  go_wp2
  go_ret2
  exact ⟨rfl, hb0.trans (hb2.mono (by simp))⟩
 ·cases h
end Go.Proofs.YtaifemkokfoadaaGreatDoor
namespace Go.Proofs.YtaifemkokfoadaaGreatDoor.PX
open Go.RowKit Go.Proofs.zx.zK Go.Proofs.zx.zU Go.Proofs.zx.zN
attribute [local go_sem] qF qG xC xD qY qW qH qI   -- for this text's walks alone
set_option linter.unusedVariables false
set_option linter.unusedSimpArgs false
def jc.l0 : Nat → Int → List Int → Int → Int → Option (Int)
 | 0, _, _, _, _ => none
 | k + 1, x3, x6, x7, x8 => if x8 < x7 then (if 0 ≤ x8 then (if x8 < (x6.length : Int) then (if (rd x6 x8) = x3 then (jc.l0 k x3 x6 x7 (wrap64 (x8 + 1))) else (some (rd x6 x8))) else (none)) else (none)) else (some x3)
def jc.f (k : Nat) (l0 : List Int) : Option (Int) := jc.l0 k 0 l0 (l0.length : Int) 0
set_option maxHeartbeats 8000000 in
set_option maxRecDepth 100000 in
theorem jc.calls (k : Nat) (A0 : Option Addr) (c0 : Nat) (l0 : List Int) (r : Int) (w : World) (hr0 : Kd.C (Kd.int .i64) w A0 l0.length l0) (hc0 : l0.length ≤ c0) (h : jc.f k l0 = some r) :
  Calls Tryz.prog 53 #[.slice A0 l0.length c0] w fun e w' => e = .returned (.int .i64 r) ∧ z8 w w' := by
 have kF := zy.mk hr0
 have YO := zy.mk hc0
 clear hr0 hc0
 have H : (jc.l0 k 0 l0 (l0.length : Int) 0) = some r := h
 clear h
 have H' := zy.mk H
 clear H
 go_enter Tryz.func53, Tryz.ntmps53
 go_wp2
 go_loopg [8] k (fun kq v8 w' => ∃ (ZV : Int), v8 = .int .i64 ZV ∧ zy (jc.l0 kq 0 l0 (l0.length : Int) ZV = some r) ∧ zy (kq ≤ k) ∧ z8 w w')
 case atStart => exact ⟨(0), (by first | rfl | (simp; done) | (simp [*]; done)), H', ⟨Nat.le_refl _⟩, by repeat (first | exact z8.refl _ | apply z8.step)⟩
 case round =>
  clear H'
  obtain ⟨ZV, rfl, HA, vT, ⟨m1, rfl⟩⟩ := hrel
  cases gk with
  | zero => exact absurd HA.out (by simp [jc.l0])
  | succ k1 =>
   have H := HA.out
   clear HA
   simp only [jc.l0] at H
   by_cases c2 : ZV < (l0.length : Int)
   ·rw [if_pos c2] at H
    have Wh : decide (ZV < (l0.length : Int)) = true := decide_eq_true c2
    clear c2
    by_cases c3 : 0 ≤ ZV
    ·rw [if_pos c3] at H
     have kC : decide (0 ≤ ZV) = true := decide_eq_true c3
     clear c3
     by_cases c4 : ZV < (l0.length : Int)
     ·rw [if_pos c4] at H
      have ZC : decide (ZV < (l0.length : Int)) = true := decide_eq_true c4
      clear c4
      by_cases c5 : (rd l0 ZV) = 0
      ·rw [if_pos c5] at H
       have Ya : ((rd l0 ZV) == 0) = true := beq_iff_eq.mpr c5
       have tu : ((rd l0 ZV) != 0) = false := bne_eq_false_iff_eq.mpr c5
       clear c5
       have H' := zy.mk H
       clear H
       have cZ : 0 ≤ (ZV : Int) := of_decide_eq_true (by first | (with_reducible assumption) | assumption)
       have cK : ZV < (l0.length : Int) := of_decide_eq_true (by first | (with_reducible assumption) | assumption)
       obtain ⟨zVH, zka, zZe⟩ := Kd.lK kF.out ZV cZ cK
       cases zka
       replace cZ := eq_true cZ
       replace cK := eq_true cK
       go_wp2
       go_roundg k1
       case measure => have := vT.out; omega
       case rel => exact ⟨(wrap64 (ZV + 1)), (by first | rfl | (simp; done) | (simp [*]; done)), H', ⟨by have := vT.out; omega⟩, by repeat (first | exact z8.refl _ | apply z8.step)⟩
      ·rw [if_neg c5] at H
       have Ya : ((rd l0 ZV) == 0) = false := beq_eq_false_iff_ne.mpr c5
       have tu : ((rd l0 ZV) != 0) = true := bne_iff_ne.mpr c5
       obtain rfl := Option.some.inj H
       have cZ : 0 ≤ (ZV : Int) := of_decide_eq_true (by first | (with_reducible assumption) | assumption)
       have cK : ZV < (l0.length : Int) := of_decide_eq_true (by first | (with_reducible assumption) | assumption)
       obtain ⟨zVH, zka, zZe⟩ := Kd.lK kF.out ZV cZ cK
       cases zka
       replace cZ := eq_true cZ
       replace cK := eq_true cK
       go_wp2
       go_ret
       exact ⟨by first | rfl | (simp; done) | (simp [*]; done), by repeat (first | exact z8.refl _ | apply z8.step)⟩
     ·rw [if_neg c4] at H
      exact absurd H (by simp)
    ·rw [if_neg c3] at H
     exact absurd H (by simp)
   ·rw [if_neg c2] at H
    have Wh : decide (ZV < (l0.length : Int)) = false := decide_eq_false c2
    clear c2
    obtain rfl := Option.some.inj H
    go_wp2
    go_ret
    exact ⟨by first | rfl | (simp; done) | (simp [*]; done), by repeat (first | exact z8.refl _ | apply z8.step)⟩
end Go.Proofs.YtaifemkokfoadaaGreatDoor.PX
namespace Go.Proofs.YtaifemkokfoadaaGreatDoor
open Go.RowKit Go.Shelf Go.Proofs.zx.zK Go.Proofs.zx.zN Go.Proofs.YtaifemkokfoadaaGreatDoor.PX
def wZ (c : Nat → Nat → Int) (n : Nat) : Bool := (List.range (n - 1)).all fun i => decide (c i (i + 1) < 0)
theorem Wi {c : Nat → Nat → Int} {n : Nat} (h : ∀ i, i + 1 < n → c i (i + 1) < 0) : wZ c n = true := by
 unfold wZ
 rw [List.all_eq_true]
 intro i hi
 have := List.mem_range.1 hi
 simpa using h i (by omega)
theorem Kk {c : Nat → Nat → Int} {n i : Nat} (hi : i + 1 < n) (h : ¬ c i (i + 1) < 0) : wZ c n = false := by
 unfold wZ
 rw [List.all_eq_false]
 exact ⟨i, List.mem_range.2 (by omega), by simpa using h⟩
def Xe (x y : qw) : Int := vL x.f0 y.f0
def Jp (a b : Int) : Int := if a = 0 then b else a
def cmpL (x y : qh) : Int := Jp (vL x.f0 y.f0) (vL x.f1 y.f1)
def QT (x y : xq) : Int := Jp (vL x.f0 y.f0) (vL x.f1 y.f1)
set_option maxRecDepth 100000 in
theorem zkb (x y : qw) (w : World) :
  Calls Tryz.prog 46 #[.agg #[.string x.f0, .int .i64 x.f1], .agg #[.string y.f0, .int .i64 y.f1]] w fun e w' => e = .returned (.int .i64 (Xe x y)) ∧ Below w.heap.size w w' := by
 unfold Xe
 have hb0 : Below w.heap.size w ((w.alloc (.cells #[.string x.f0, .int .i64 x.f1] 31)).alloc (.cells #[.string y.f0, .int .i64 y.f1] 31)) := ((Below.refl _ w).alloc (Nat.le_refl _) _).alloc (by simp) _
 have hc := bn x.f0 y.f0 ((w.alloc (.cells #[.string x.f0, .int .i64 x.f1] 31)).alloc (.cells #[.string y.f0, .int .i64 y.f1] 31))
 generalize vL x.f0 y.f0 = r at hc ⊢
 go_enter Tryz.func46, Tryz.ntmps46
 go_wp2_with (go_at_call 47; refine hc.mono ?_; rintro e w2 ⟨rfl, hb2⟩)
 go_ret
 exact ⟨rfl, hb0.trans (hb2.mono (by simp; omega))⟩
def zVI (l : List qw) (w : World) (x : Value) (wr : World) : Prop :=
 ∃ k : Nat, x = .int .i64 k ∧ 1 ≤ k ∧ k ≤ l.length + 1 ∧ (∀ i, i + 1 < k → i + 1 < l.length → Xe (qV l (i : Int)) (qV l ((i + 1 : Nat) : Int)) < 0) ∧ Below w.heap.size w wr
set_option maxRecDepth 100000 in
set_option maxHeartbeats 1000000 in
theorem zkc (A0 : Option Addr) (c0 : Nat) (l : List qw) (w : World) (hr : Kd.C uy w A0 l.length l) (hl : l.length ≤ 1000000000) :
  Calls Tryz.prog 45 #[.slice A0 l.length c0, .func (.func 46) #[] #[]] w fun e w' => e = .returned (.bool (wZ (fun i j => Xe (qV l (i : Int)) (qV l (j : Int))) l.length)) ∧ Below w.heap.size w w' := by
 generalize hV : wZ (fun i j => Xe (qV l (i : Int)) (qV l (j : Int))) l.length = V
 have HV := Lib.hid hV
 clear hV
 go_enter Tryz.func45, Tryz.ntmps45
 go_wp2
 go_loopw [5] (fun x wr => zVI l w x wr) (fun x _ => l.length + 1 - (intOf x).toNat)
 case atStart => exact ⟨1, rfl, by omega, by omega, (fun i h => by omega), Below.refl _ _⟩
 case round =>
  obtain ⟨k, rfl, hk1, hk, hA, hb⟩ := hrel
  have HA := Lib.hid hA
  clear hA
  by_cases hlt : k < l.length
  ·obtain ⟨m, rfl⟩ : ∃ m, k = m + 1 := ⟨k - 1, by omega⟩
   have hC := Kd.zh hr hb
   obtain ⟨ad, e, HH0⟩ := YM hC (m : Int) (by omega) (by omega)
   obtain ⟨fM, e2, HH1⟩ := YM hC ((m + 1 : Nat) : Int) (by omega) (by omega)
   cases e
   cases e2
   obtain ⟨h0, h1⟩ := HH0
   obtain ⟨h2, h3⟩ := HH1
   rw [Int.toNat_natCast] at h0 h1 h2 h3
   have hstep : ∀ i, i + 1 = m + 1 → Xe (qV l (i : Int)) (qV l ((i + 1 : Nat) : Int)) = Xe (qV l (m : Int)) (qV l ((m + 1 : Nat) : Int)) := fun i hi => by obtain rfl : i = m := (by omega); rfl
   have hbad : ¬ Xe (qV l (m : Int)) (qV l ((m + 1 : Nat) : Int)) < 0 → V = false := fun h => by rw [← HV.out]; exact Kk (i := m) (by omega) h
   have hcm := fun W => zkb (qV l (m : Int)) (qV l ((m + 1 : Nat) : Int)) W
   generalize qV l (m : Int) = x at h0 h1 hstep hcm hbad
   generalize qV l ((m + 1 : Nat) : Int) = y at h2 h3 hstep hcm hbad
   generalize Xe x y = r at hcm hstep hbad
   have HS := Lib.hid hstep
   have HB := Lib.hid hbad
   have e1 : IntKind.i64.wrap (((m : Int) + 1) - 1) = (m : Int) := by rw [Int.add_sub_cancel]; exact IntWalk.i64_in _ (by omega)
   have q1 : (m : Int) < (l.length : Int) := by omega
   have q2 : (m : Int) + 1 < (l.length : Int) := by omega
   have q3 : ((m : Int) + 1).toNat = m + 1 := by omega
   have q4 : (0 : Int) ≤ (m : Int) + 1 := by omega
   clear hC hr hstep hbad
   have e0 : IntKind.i64.wrap (m : Int) = (m : Int) := IntWalk.i64_in _ (by omega)
   have q5 : (0 : Int) ≤ (m : Int) := by omega
   by_cases hr0 : r < 0
   ·have d1 : decide (0 ≤ r) = false := by simp; omega
    have HR := Lib.hid hr0
    clear hr0
    go_wp2_with fail
    go_region_held3 (fun W => W.cell? (ad.add (m * 2)) = some (.string x.f0) ∧ W.cell? ⟨(ad.add (m * 2)).block, (ad.add (m * 2)).off + 1, none⟩ = some (.int .i64 x.f1) ∧ W.cell? (ad.add ((m + 1) * 2)) = some (.string y.f0) ∧ W.cell? ⟨(ad.add ((m + 1) * 2)).block, (ad.add ((m + 1) * 2)).off + 1, none⟩ = some (.int .i64 y.f1)) (first | go_keep | exact ⟨(hb2.cell (World.block_lt_of_cell? wr _ h0)).trans h0, (hb2.cell (World.block_lt_of_cell? wr _ h1)).trans h1, (hb2.cell (World.block_lt_of_cell? wr _ h2)).trans h2, (hb2.cell (World.block_lt_of_cell? wr _ h3)).trans h3⟩) ((go_at_call 46; refine (hcm _).mono ?_; rintro e w2 ⟨rfl, hb2⟩))
    clear e0 e1
    have hb3 : Below w.heap.size w w2 := (hb.drew).trans (hb2.mono hb.size)
    clear hb2
    go_wp2
    refine ⟨⟨m + 1 + 1, by go_num, by omega, by omega, (fun i h1 h2 => ?_), hb3⟩, by simp [intOf]; omega⟩
    by_cases e : i + 1 = m + 1
    ·rw [HS.out i e]; exact HR.out
    ·exact HA.out i (by omega) h2
   ·have d1 : decide (0 ≤ r) = true := by simp; omega
    have hv : V = false := HB.out hr0
    have uT := Lib.hid hv
    clear hr0 hv
    go_wp2_with fail
    go_region_held3 (fun W => W.cell? (ad.add (m * 2)) = some (.string x.f0) ∧ W.cell? ⟨(ad.add (m * 2)).block, (ad.add (m * 2)).off + 1, none⟩ = some (.int .i64 x.f1) ∧ W.cell? (ad.add ((m + 1) * 2)) = some (.string y.f0) ∧ W.cell? ⟨(ad.add ((m + 1) * 2)).block, (ad.add ((m + 1) * 2)).off + 1, none⟩ = some (.int .i64 y.f1)) (first | go_keep | exact ⟨(hb2.cell (World.block_lt_of_cell? wr _ h0)).trans h0, (hb2.cell (World.block_lt_of_cell? wr _ h1)).trans h1, (hb2.cell (World.block_lt_of_cell? wr _ h2)).trans h2, (hb2.cell (World.block_lt_of_cell? wr _ h3)).trans h3⟩) ((go_at_call 46; refine (hcm _).mono ?_; rintro e w2 ⟨rfl, hb2⟩))
    clear e0 e1
    have hb3 : Below w.heap.size w w2 := (hb.drew).trans (hb2.mono hb.size)
    clear hb2
    go_wp2
    go_ret
    exact ⟨by rw [uT.out]; rfl, hb3⟩
  ·have hv : V = true := by rw [← HV.out]; exact Wi (fun i hi => HA.out i (by omega) hi)
   have uT := Lib.hid hv
   have q1 : decide ((k : Int) < (l.length : Int)) = false := decide_eq_false (by omega)
   clear hv hr
   go_wp2
   go_ret
   exact ⟨by rw [uT.out]; rfl, hb⟩
theorem zxC {w w' : World} (h : z8 w w') : Below w.heap.size w w' := by
 obtain ⟨n, rfl⟩ := h
 exact ⟨rfl, rfl, rfl, Nat.le_refl _, fun _ _ => rfl⟩
theorem zXF (a b : Int) : Ev (fun k => jc.f k [a, b]) (Jp a b) := by
 unfold jc.f Jp
 have e1 : wrap64 (0 + 1) = 1 := by rw [YA (by omega) (by omega)]; rfl
 have e2 : wrap64 (1 + 1) = 2 := by rw [YA (by omega) (by omega)]; rfl
 have hl : (([a, b] : List Int).length : Int) = 2 := rfl
 refine Ev.step (fun k => by rw [jc.l0]) ?_
 rw [hl]
 refine zL (by omega) (zL (by omega) (zL (by omega) ?_))
 rw [show rd [a, b] 0 = a from rfl, e1]
 by_cases h1 : a = 0
 ·refine zL h1 ?_
  rw [if_pos h1]
  refine Ev.step (fun k => by rw [jc.l0]) ?_
  rw [hl]
  refine zL (by omega) (zL (by omega) (zL (by omega) ?_))
  rw [show rd [a, b] 1 = b from rfl, e2]
  by_cases h2 : b = 0
  ·refine zL h2 ?_
   rw [h2]
   refine Ev.step (fun k => by rw [jc.l0]) ?_
   exact qN (by omega) (Ev.now _)
  ·exact qN h2 (Ev.now _)
 ·refine qN h1 ?_
  rw [if_neg h1]; exact Ev.now _
theorem zkd (B : Nat) (a b : Int) (w : World) (h0 : w.cell? ⟨B, 0, none⟩ = some (.int .i64 a)) (h1 : w.cell? ⟨B, 1, none⟩ = some (.int .i64 b)) : Kd.C (Kd.int .i64) w (some ⟨B, 0, none⟩) 2 [a, b] := by
 have hs : (Kd.int .i64).sz = 1 := rfl
 refine ⟨rfl, by decide, fun _ => ⟨_, rfl, fun j p hj => ?_⟩⟩
 rcases j with _ | _ | j
 ·cases hj
  exact ⟨[.int .i64 a], rfl, rfl, fun i u hi => by rcases i with _ | i; cases hi; simpa [Addr.add_lit] using h0; simp at hi⟩
 ·cases hj
  exact ⟨[.int .i64 b], rfl, rfl, fun i u hi => by rcases i with _ | i; cases hi; simpa [Addr.add_lit, hs] using h1; simp at hi⟩
 ·simp at hj
theorem zvX (a b : Int) (B : Nat) (w : World) (h0 : w.cell? ⟨B, 0, none⟩ = some (.int .i64 a)) (h1 : w.cell? ⟨B, 1, none⟩ = some (.int .i64 b)) :
  Calls Tryz.prog 53 #[.slice (some ⟨B, 0, none⟩) 2 2] w fun e w' => e = .returned (.int .i64 (Jp a b)) ∧ Below w.heap.size w w' := by
 obtain ⟨k, hk⟩ := (zXF a b).rounds
 exact (jc.calls k (some ⟨B, 0, none⟩) 2 [a, b] _ w (zkd B a b w h0 h1) (Nat.le_refl _) hk).mono fun e w' h => ⟨h.1, zxC h.2⟩
theorem zWU (W : World) (a b : Value) (t : TypeId) : (W.alloc (.cells #[a, b] t)).cell? ⟨W.heap.size, 0, none⟩ = some a := by simp
theorem zXG (W : World) (a b : Value) (t : TypeId) : (W.alloc (.cells #[a, b] t)).cell? ⟨W.heap.size, 1, none⟩ = some b := by simp
theorem zXH (W : World) (n : Nat) (a b : Value) (t : TypeId) : ((W.drewN n).alloc (.cells #[a, b] t)).cell? ⟨W.heap.size, 0, none⟩ = some a := zWU (W.drewN n) a b t
theorem zXI (W : World) (n : Nat) (a b : Value) (t : TypeId) : ((W.drewN n).alloc (.cells #[a, b] t)).cell? ⟨W.heap.size, 1, none⟩ = some b := zXG (W.drewN n) a b t
theorem Qv {W w2 : World} {n : Nat} {o : Obj} {B i : Nat} {v : Value} (h : Below ((W.drewN n).alloc o).heap.size ((W.drewN n).alloc o) w2) (hc : W.cell? ⟨B, i, none⟩ = some v) : w2.cell? ⟨B, i, none⟩ = some v := by
 have hb : Below W.heap.size W ((W.drewN n).alloc o) := Below.trans (⟨rfl, rfl, rfl, Nat.le_refl _, fun _ _ => rfl⟩ : Below W.heap.size W (W.drewN n)) ((Below.refl _ (W.drewN n)).alloc (Nat.le_refl _) o)
 have hl := World.block_lt_of_cell? W _ hc
 exact (h.cell (p := ⟨B, i, none⟩) (Nat.lt_of_lt_of_le hl hb.size)).trans ((hb.cell (p := ⟨B, i, none⟩) hl).trans hc)
theorem fO {W w2 : World} {n : Nat} {o : Obj} (h : Below ((W.drewN n).alloc o).heap.size ((W.drewN n).alloc o) w2) : Below W.heap.size W w2 := by
 have hb : Below W.heap.size W ((W.drewN n).alloc o) := Below.trans (⟨rfl, rfl, rfl, Nat.le_refl _, fun _ _ => rfl⟩ : Below W.heap.size W (W.drewN n)) ((Below.refl _ (W.drewN n)).alloc (Nat.le_refl _) o)
 exact hb.trans (h.mono hb.size)
set_option maxRecDepth 100000 in
set_option maxHeartbeats 1000000 in
theorem zke (x y : qh) (w : World) :
  Calls Tryz.prog 52 #[.agg #[.string x.f0, .string x.f1, .string x.f2], .agg #[.string y.f0, .string y.f1, .string y.f2]] w fun e w' => e = .returned (.int .i64 (cmpL x y)) ∧ Below w.heap.size w w' := by
 unfold cmpL
 have hb0 : Below w.heap.size w ((w.alloc (.cells #[.string x.f0, .string x.f1, .string x.f2] 86)).alloc (.cells #[.string y.f0, .string y.f1, .string y.f2] 86)) := ((Below.refl _ w).alloc (Nat.le_refl _) _).alloc (by simp) _
 have hz : ((w.alloc (.cells #[.string x.f0, .string x.f1, .string x.f2] 86)).alloc (.cells #[.string y.f0, .string y.f1, .string y.f2] 86)).heap.size = w.heap.size + 2 := by simp
 have c0 : ((w.alloc (.cells #[.string x.f0, .string x.f1, .string x.f2] 86)).alloc (.cells #[.string y.f0, .string y.f1, .string y.f2] 86)).cell? ⟨w.heap.size, 0, none⟩ = some (.string x.f0) := by simp
 have c1 : ((w.alloc (.cells #[.string x.f0, .string x.f1, .string x.f2] 86)).alloc (.cells #[.string y.f0, .string y.f1, .string y.f2] 86)).cell? ⟨w.heap.size, 1, none⟩ = some (.string x.f1) := by simp
 have c2 : ((w.alloc (.cells #[.string x.f0, .string x.f1, .string x.f2] 86)).alloc (.cells #[.string y.f0, .string y.f1, .string y.f2] 86)).cell? ⟨w.heap.size + 1, 0, none⟩ = some (.string y.f0) := by simp
 have c3 : ((w.alloc (.cells #[.string x.f0, .string x.f1, .string x.f2] 86)).alloc (.cells #[.string y.f0, .string y.f1, .string y.f2] 86)).cell? ⟨w.heap.size + 1, 1, none⟩ = some (.string y.f1) := by simp
 have hc1 := fun W => uh.calls x.f0 y.f0 _ W (Qj x.f0 y.f0)
 have hc2 := fun W => uh.calls x.f1 y.f1 _ W (Qj x.f1 y.f1)
 generalize vL x.f0 y.f0 = r1 at hc1 ⊢
 generalize vL x.f1 y.f1 = r2 at hc2 ⊢
 have hor := fun B W h0 h1 => zvX r1 r2 B W h0 h1
 generalize Jp r1 r2 = R at hor ⊢
 go_enter Tryz.func52, Tryz.ntmps52
 go_wp2_with fail
 generalize ((w.alloc (.cells #[.string x.f0, .string x.f1, .string x.f2] 86)).alloc (.cells #[.string y.f0, .string y.f1, .string y.f2] 86)) = W0 at hb0 hz c0 c1 c2 c3 ⊢
 have hz1 := Nat.le_of_eq hz
 have hz2 := Nat.le_of_eq hz.symm
 clear hz
 go_region_held3 (fun W => W.cell? ⟨w.heap.size, 0, none⟩ = some (.string x.f0) ∧ W.cell? ⟨w.heap.size, 1, none⟩ = some (.string x.f1) ∧ W.cell? ⟨w.heap.size + 1, 0, none⟩ = some (.string y.f0) ∧ W.cell? ⟨w.heap.size + 1, 1, none⟩ = some (.string y.f1))
  (first | go_keep | exact ⟨Qv hb2 c0, Qv hb2 c1, Qv hb2 c2, Qv hb2 c3⟩)
  (first | (go_at_call 47; ((with_reducible refine (hc1 _).mono ?_); rintro e w2 ⟨rfl, nd, rfl⟩)) | (go_at_call 47; ((with_reducible refine (hc2 _).mono ?_); rintro e w2 ⟨rfl, nd, rfl⟩)) | (go_at_call 53; ((refine (hor _ _ (zXH _ _ _ _ _) (zXI _ _ _ _ _)).mono ?_); rintro e w2 ⟨rfl, hb2⟩)))
 all_goals
  have hb3 := hb0.trans ((fO hb2).mono hb0.size)
  clear hb2 c0 c1 c2 c3
  go_wp2
  go_ret
  exact ⟨rfl, hb3⟩
set_option maxRecDepth 100000 in
set_option maxHeartbeats 1000000 in
theorem zkf (x y : xq) (w : World) :
  Calls Tryz.prog 57 #[.agg #[.string x.f0, .string x.f1, .int .i64 x.f2], .agg #[.string y.f0, .string y.f1, .int .i64 y.f2]] w fun e w' => e = .returned (.int .i64 (QT x y)) ∧ Below w.heap.size w w' := by
 unfold QT
 have hb0 : Below w.heap.size w ((w.alloc (.cells #[.string x.f0, .string x.f1, .int .i64 x.f2] 76)).alloc (.cells #[.string y.f0, .string y.f1, .int .i64 y.f2] 76)) := ((Below.refl _ w).alloc (Nat.le_refl _) _).alloc (by simp) _
 have hz : ((w.alloc (.cells #[.string x.f0, .string x.f1, .int .i64 x.f2] 76)).alloc (.cells #[.string y.f0, .string y.f1, .int .i64 y.f2] 76)).heap.size = w.heap.size + 2 := by simp
 have c0 : ((w.alloc (.cells #[.string x.f0, .string x.f1, .int .i64 x.f2] 76)).alloc (.cells #[.string y.f0, .string y.f1, .int .i64 y.f2] 76)).cell? ⟨w.heap.size, 0, none⟩ = some (.string x.f0) := by simp
 have c1 : ((w.alloc (.cells #[.string x.f0, .string x.f1, .int .i64 x.f2] 76)).alloc (.cells #[.string y.f0, .string y.f1, .int .i64 y.f2] 76)).cell? ⟨w.heap.size, 1, none⟩ = some (.string x.f1) := by simp
 have c2 : ((w.alloc (.cells #[.string x.f0, .string x.f1, .int .i64 x.f2] 76)).alloc (.cells #[.string y.f0, .string y.f1, .int .i64 y.f2] 76)).cell? ⟨w.heap.size + 1, 0, none⟩ = some (.string y.f0) := by simp
 have c3 : ((w.alloc (.cells #[.string x.f0, .string x.f1, .int .i64 x.f2] 76)).alloc (.cells #[.string y.f0, .string y.f1, .int .i64 y.f2] 76)).cell? ⟨w.heap.size + 1, 1, none⟩ = some (.string y.f1) := by simp
 have hc1 := fun W => uh.calls x.f0 y.f0 _ W (Qj x.f0 y.f0)
 have hc2 := fun W => uh.calls x.f1 y.f1 _ W (Qj x.f1 y.f1)
 generalize vL x.f0 y.f0 = r1 at hc1 ⊢
 generalize vL x.f1 y.f1 = r2 at hc2 ⊢
 have hor := fun B W h0 h1 => zvX r1 r2 B W h0 h1
 generalize Jp r1 r2 = R at hor ⊢
 go_enter Tryz.func57, Tryz.ntmps57
 go_wp2_with fail
 generalize ((w.alloc (.cells #[.string x.f0, .string x.f1, .int .i64 x.f2] 76)).alloc (.cells #[.string y.f0, .string y.f1, .int .i64 y.f2] 76)) = W0 at hb0 hz c0 c1 c2 c3 ⊢
 have hz1 := Nat.le_of_eq hz
 have hz2 := Nat.le_of_eq hz.symm
 clear hz
 go_region_held3 (fun W => W.cell? ⟨w.heap.size, 0, none⟩ = some (.string x.f0) ∧ W.cell? ⟨w.heap.size, 1, none⟩ = some (.string x.f1) ∧ W.cell? ⟨w.heap.size + 1, 0, none⟩ = some (.string y.f0) ∧ W.cell? ⟨w.heap.size + 1, 1, none⟩ = some (.string y.f1))
  (first | go_keep | exact ⟨Qv hb2 c0, Qv hb2 c1, Qv hb2 c2, Qv hb2 c3⟩)
  (first | (go_at_call 47; ((with_reducible refine (hc1 _).mono ?_); rintro e w2 ⟨rfl, nd, rfl⟩)) | (go_at_call 47; ((with_reducible refine (hc2 _).mono ?_); rintro e w2 ⟨rfl, nd, rfl⟩)) | (go_at_call 53; ((refine (hor _ _ (zXH _ _ _ _ _) (zXI _ _ _ _ _)).mono ?_); rintro e w2 ⟨rfl, hb2⟩)))
 all_goals
  have hb3 := hb0.trans ((fO hb2).mono hb0.size)
  clear hb2 c0 c1 c2 c3
  go_wp2
  go_ret
  exact ⟨rfl, hb3⟩
def zVL (l : List qh) (w : World) (x : Value) (wr : World) : Prop :=
 ∃ k : Nat, x = .int .i64 k ∧ 1 ≤ k ∧ k ≤ l.length + 1 ∧ (∀ i, i + 1 < k → i + 1 < l.length → cmpL (qO l (i : Int)) (qO l ((i + 1 : Nat) : Int)) < 0) ∧ Below w.heap.size w wr
set_option maxRecDepth 100000 in
set_option maxHeartbeats 1000000 in
theorem zkg (A0 : Option Addr) (c0 : Nat) (l : List qh) (w : World) (hr : Kd.C uU w A0 l.length l) (hl : l.length ≤ 1000000000) :
  Calls Tryz.prog 51 #[.slice A0 l.length c0, .func (.func 52) #[] #[]] w fun e w' => e = .returned (.bool (wZ (fun i j => cmpL (qO l (i : Int)) (qO l (j : Int))) l.length)) ∧ Below w.heap.size w w' := by
 generalize hV : wZ (fun i j => cmpL (qO l (i : Int)) (qO l (j : Int))) l.length = V
 have HV := Lib.hid hV
 clear hV
 go_enter Tryz.func51, Tryz.ntmps51
 go_wp2
 go_loopw [5] (fun x wr => zVL l w x wr) (fun x _ => l.length + 1 - (intOf x).toNat)
 case atStart => exact ⟨1, rfl, by omega, by omega, (fun i h => by omega), Below.refl _ _⟩
 case round =>
  obtain ⟨k, rfl, hk1, hk, hA, hb⟩ := hrel
  have HA := Lib.hid hA
  clear hA
  by_cases hlt : k < l.length
  ·obtain ⟨m, rfl⟩ : ∃ m, k = m + 1 := ⟨k - 1, by omega⟩
   have hC := Kd.zh hr hb
   obtain ⟨ad, e, HH0⟩ := Vh hC (m : Int) (by omega) (by omega)
   obtain ⟨fM, e2, HH1⟩ := Vh hC ((m + 1 : Nat) : Int) (by omega) (by omega)
   cases e
   cases e2
   obtain ⟨h0, h1, h2⟩ := HH0
   obtain ⟨h3, h4, h5⟩ := HH1
   rw [Int.toNat_natCast] at h0 h1 h2 h3 h4 h5
   have hstep : ∀ i, i + 1 = m + 1 → cmpL (qO l (i : Int)) (qO l ((i + 1 : Nat) : Int)) = cmpL (qO l (m : Int)) (qO l ((m + 1 : Nat) : Int)) := fun i hi => by obtain rfl : i = m := (by omega); rfl
   have hbad : ¬ cmpL (qO l (m : Int)) (qO l ((m + 1 : Nat) : Int)) < 0 → V = false := fun h => by rw [← HV.out]; exact Kk (i := m) (by omega) h
   have hcm := fun W => zke (qO l (m : Int)) (qO l ((m + 1 : Nat) : Int)) W
   generalize qO l (m : Int) = x at h0 h1 h2 hstep hcm hbad
   generalize qO l ((m + 1 : Nat) : Int) = y at h3 h4 h5 hstep hcm hbad
   generalize cmpL x y = r at hcm hstep hbad
   have HS := Lib.hid hstep
   have HB := Lib.hid hbad
   have e1 : IntKind.i64.wrap (((m : Int) + 1) - 1) = (m : Int) := by rw [Int.add_sub_cancel]; exact IntWalk.i64_in _ (by omega)
   have q1 : (m : Int) < (l.length : Int) := by omega
   have q2 : (m : Int) + 1 < (l.length : Int) := by omega
   have q3 : ((m : Int) + 1).toNat = m + 1 := by omega
   have q4 : (0 : Int) ≤ (m : Int) + 1 := by omega
   clear hC hr hstep hbad
   have e0 : IntKind.i64.wrap (m : Int) = (m : Int) := IntWalk.i64_in _ (by omega)
   have q5 : (0 : Int) ≤ (m : Int) := by omega
   by_cases hr0 : r < 0
   ·have d1 : decide (0 ≤ r) = false := by simp; omega
    have HR := Lib.hid hr0
    clear hr0
    go_wp2_with fail
    go_region_held3 (fun W => W.cell? (ad.add (m * 3)) = some (.string x.f0) ∧ W.cell? ⟨(ad.add (m * 3)).block, (ad.add (m * 3)).off + 1, none⟩ = some (.string x.f1) ∧ W.cell? ⟨(ad.add (m * 3)).block, (ad.add (m * 3)).off + 2, none⟩ = some (.string x.f2) ∧ W.cell? (ad.add ((m + 1) * 3)) = some (.string y.f0) ∧ W.cell? ⟨(ad.add ((m + 1) * 3)).block, (ad.add ((m + 1) * 3)).off + 1, none⟩ = some (.string y.f1) ∧ W.cell? ⟨(ad.add ((m + 1) * 3)).block, (ad.add ((m + 1) * 3)).off + 2, none⟩ = some (.string y.f2)) (first | go_keep | exact ⟨(hb2.cell (World.block_lt_of_cell? wr _ h0)).trans h0, (hb2.cell (World.block_lt_of_cell? wr _ h1)).trans h1, (hb2.cell (World.block_lt_of_cell? wr _ h2)).trans h2, (hb2.cell (World.block_lt_of_cell? wr _ h3)).trans h3, (hb2.cell (World.block_lt_of_cell? wr _ h4)).trans h4, (hb2.cell (World.block_lt_of_cell? wr _ h5)).trans h5⟩) ((go_at_call 52; refine (hcm _).mono ?_; rintro e w2 ⟨rfl, hb2⟩))
    clear e0 e1
    have hb3 : Below w.heap.size w w2 := (hb.drew).trans (hb2.mono hb.size)
    clear hb2
    go_wp2
    refine ⟨⟨m + 1 + 1, by go_num, by omega, by omega, (fun i h1 h2 => ?_), hb3⟩, by simp [intOf]; omega⟩
    by_cases e : i + 1 = m + 1
    ·rw [HS.out i e]; exact HR.out
    ·exact HA.out i (by omega) h2
   ·have d1 : decide (0 ≤ r) = true := by simp; omega
    have hv : V = false := HB.out hr0
    have uT := Lib.hid hv
    clear hr0 hv
    go_wp2_with fail
    go_region_held3 (fun W => W.cell? (ad.add (m * 3)) = some (.string x.f0) ∧ W.cell? ⟨(ad.add (m * 3)).block, (ad.add (m * 3)).off + 1, none⟩ = some (.string x.f1) ∧ W.cell? ⟨(ad.add (m * 3)).block, (ad.add (m * 3)).off + 2, none⟩ = some (.string x.f2) ∧ W.cell? (ad.add ((m + 1) * 3)) = some (.string y.f0) ∧ W.cell? ⟨(ad.add ((m + 1) * 3)).block, (ad.add ((m + 1) * 3)).off + 1, none⟩ = some (.string y.f1) ∧ W.cell? ⟨(ad.add ((m + 1) * 3)).block, (ad.add ((m + 1) * 3)).off + 2, none⟩ = some (.string y.f2)) (first | go_keep | exact ⟨(hb2.cell (World.block_lt_of_cell? wr _ h0)).trans h0, (hb2.cell (World.block_lt_of_cell? wr _ h1)).trans h1, (hb2.cell (World.block_lt_of_cell? wr _ h2)).trans h2, (hb2.cell (World.block_lt_of_cell? wr _ h3)).trans h3, (hb2.cell (World.block_lt_of_cell? wr _ h4)).trans h4, (hb2.cell (World.block_lt_of_cell? wr _ h5)).trans h5⟩) ((go_at_call 52; refine (hcm _).mono ?_; rintro e w2 ⟨rfl, hb2⟩))
    clear e0 e1
    have hb3 : Below w.heap.size w w2 := (hb.drew).trans (hb2.mono hb.size)
    clear hb2
    go_wp2
    go_ret
    exact ⟨by rw [uT.out]; rfl, hb3⟩
  ·have hv : V = true := by rw [← HV.out]; exact Wi (fun i hi => HA.out i (by omega) hi)
   have uT := Lib.hid hv
   have q1 : decide ((k : Int) < (l.length : Int)) = false := decide_eq_false (by omega)
   clear hv hr
   go_wp2
   go_ret
   exact ⟨by rw [uT.out]; rfl, hb⟩
def zVM (l : List xq) (w : World) (x : Value) (wr : World) : Prop :=
 ∃ k : Nat, x = .int .i64 k ∧ 1 ≤ k ∧ k ≤ l.length + 1 ∧ (∀ i, i + 1 < k → i + 1 < l.length → QT (xk l (i : Int)) (xk l ((i + 1 : Nat) : Int)) < 0) ∧ Below w.heap.size w wr
set_option maxRecDepth 100000 in
set_option maxHeartbeats 1000000 in
theorem zkh (A0 : Option Addr) (c0 : Nat) (l : List xq) (w : World) (hr : Kd.C jy w A0 l.length l) (hl : l.length ≤ 1000000000) :
  Calls Tryz.prog 56 #[.slice A0 l.length c0, .func (.func 57) #[] #[]] w fun e w' => e = .returned (.bool (wZ (fun i j => QT (xk l (i : Int)) (xk l (j : Int))) l.length)) ∧ Below w.heap.size w w' := by
 generalize hV : wZ (fun i j => QT (xk l (i : Int)) (xk l (j : Int))) l.length = V
 have HV := Lib.hid hV
 clear hV
 go_enter Tryz.func56, Tryz.ntmps56
 go_wp2
 go_loopw [5] (fun x wr => zVM l w x wr) (fun x _ => l.length + 1 - (intOf x).toNat)
 case atStart => exact ⟨1, rfl, by omega, by omega, (fun i h => by omega), Below.refl _ _⟩
 case round =>
  obtain ⟨k, rfl, hk1, hk, hA, hb⟩ := hrel
  have HA := Lib.hid hA
  clear hA
  by_cases hlt : k < l.length
  ·obtain ⟨m, rfl⟩ : ∃ m, k = m + 1 := ⟨k - 1, by omega⟩
   have hC := Kd.zh hr hb
   obtain ⟨ad, e, HH0⟩ := Vi hC (m : Int) (by omega) (by omega)
   obtain ⟨fM, e2, HH1⟩ := Vi hC ((m + 1 : Nat) : Int) (by omega) (by omega)
   cases e
   cases e2
   obtain ⟨h0, h1, h2⟩ := HH0
   obtain ⟨h3, h4, h5⟩ := HH1
   rw [Int.toNat_natCast] at h0 h1 h2 h3 h4 h5
   have hstep : ∀ i, i + 1 = m + 1 → QT (xk l (i : Int)) (xk l ((i + 1 : Nat) : Int)) = QT (xk l (m : Int)) (xk l ((m + 1 : Nat) : Int)) := fun i hi => by obtain rfl : i = m := (by omega); rfl
   have hbad : ¬ QT (xk l (m : Int)) (xk l ((m + 1 : Nat) : Int)) < 0 → V = false := fun h => by rw [← HV.out]; exact Kk (i := m) (by omega) h
   have hcm := fun W => zkf (xk l (m : Int)) (xk l ((m + 1 : Nat) : Int)) W
   generalize xk l (m : Int) = x at h0 h1 h2 hstep hcm hbad
   generalize xk l ((m + 1 : Nat) : Int) = y at h3 h4 h5 hstep hcm hbad
   generalize QT x y = r at hcm hstep hbad
   have HS := Lib.hid hstep
   have HB := Lib.hid hbad
   have e1 : IntKind.i64.wrap (((m : Int) + 1) - 1) = (m : Int) := by rw [Int.add_sub_cancel]; exact IntWalk.i64_in _ (by omega)
   have q1 : (m : Int) < (l.length : Int) := by omega
   have q2 : (m : Int) + 1 < (l.length : Int) := by omega
   have q3 : ((m : Int) + 1).toNat = m + 1 := by omega
   have q4 : (0 : Int) ≤ (m : Int) + 1 := by omega
   clear hC hr hstep hbad
   have e0 : IntKind.i64.wrap (m : Int) = (m : Int) := IntWalk.i64_in _ (by omega)
   have q5 : (0 : Int) ≤ (m : Int) := by omega
   by_cases hr0 : r < 0
   ·have d1 : decide (0 ≤ r) = false := by simp; omega
    have HR := Lib.hid hr0
    clear hr0
    go_wp2_with fail
    go_region_held3 (fun W => W.cell? (ad.add (m * 3)) = some (.string x.f0) ∧ W.cell? ⟨(ad.add (m * 3)).block, (ad.add (m * 3)).off + 1, none⟩ = some (.string x.f1) ∧ W.cell? ⟨(ad.add (m * 3)).block, (ad.add (m * 3)).off + 2, none⟩ = some (.int .i64 x.f2) ∧ W.cell? (ad.add ((m + 1) * 3)) = some (.string y.f0) ∧ W.cell? ⟨(ad.add ((m + 1) * 3)).block, (ad.add ((m + 1) * 3)).off + 1, none⟩ = some (.string y.f1) ∧ W.cell? ⟨(ad.add ((m + 1) * 3)).block, (ad.add ((m + 1) * 3)).off + 2, none⟩ = some (.int .i64 y.f2)) (first | go_keep | exact ⟨(hb2.cell (World.block_lt_of_cell? wr _ h0)).trans h0, (hb2.cell (World.block_lt_of_cell? wr _ h1)).trans h1, (hb2.cell (World.block_lt_of_cell? wr _ h2)).trans h2, (hb2.cell (World.block_lt_of_cell? wr _ h3)).trans h3, (hb2.cell (World.block_lt_of_cell? wr _ h4)).trans h4, (hb2.cell (World.block_lt_of_cell? wr _ h5)).trans h5⟩) ((go_at_call 57; refine (hcm _).mono ?_; rintro e w2 ⟨rfl, hb2⟩))
    clear e0 e1
    have hb3 : Below w.heap.size w w2 := (hb.drew).trans (hb2.mono hb.size)
    clear hb2
    go_wp2
    refine ⟨⟨m + 1 + 1, by go_num, by omega, by omega, (fun i h1 h2 => ?_), hb3⟩, by simp [intOf]; omega⟩
    by_cases e : i + 1 = m + 1
    ·rw [HS.out i e]; exact HR.out
    ·exact HA.out i (by omega) h2
   ·have d1 : decide (0 ≤ r) = true := by simp; omega
    have hv : V = false := HB.out hr0
    have uT := Lib.hid hv
    clear hr0 hv
    go_wp2_with fail
    go_region_held3 (fun W => W.cell? (ad.add (m * 3)) = some (.string x.f0) ∧ W.cell? ⟨(ad.add (m * 3)).block, (ad.add (m * 3)).off + 1, none⟩ = some (.string x.f1) ∧ W.cell? ⟨(ad.add (m * 3)).block, (ad.add (m * 3)).off + 2, none⟩ = some (.int .i64 x.f2) ∧ W.cell? (ad.add ((m + 1) * 3)) = some (.string y.f0) ∧ W.cell? ⟨(ad.add ((m + 1) * 3)).block, (ad.add ((m + 1) * 3)).off + 1, none⟩ = some (.string y.f1) ∧ W.cell? ⟨(ad.add ((m + 1) * 3)).block, (ad.add ((m + 1) * 3)).off + 2, none⟩ = some (.int .i64 y.f2)) (first | go_keep | exact ⟨(hb2.cell (World.block_lt_of_cell? wr _ h0)).trans h0, (hb2.cell (World.block_lt_of_cell? wr _ h1)).trans h1, (hb2.cell (World.block_lt_of_cell? wr _ h2)).trans h2, (hb2.cell (World.block_lt_of_cell? wr _ h3)).trans h3, (hb2.cell (World.block_lt_of_cell? wr _ h4)).trans h4, (hb2.cell (World.block_lt_of_cell? wr _ h5)).trans h5⟩) ((go_at_call 57; refine (hcm _).mono ?_; rintro e w2 ⟨rfl, hb2⟩))
    clear e0 e1
    have hb3 : Below w.heap.size w w2 := (hb.drew).trans (hb2.mono hb.size)
    clear hb2
    go_wp2
    go_ret
    exact ⟨by rw [uT.out]; rfl, hb3⟩
  ·have hv : V = true := by rw [← HV.out]; exact Wi (fun i hi => HA.out i (by omega) hi)
   have uT := Lib.hid hv
   have q1 : decide ((k : Int) < (l.length : Int)) = false := decide_eq_false (by omega)
   clear hv hr
   go_wp2
   go_ret
   exact ⟨by rw [uT.out]; rfl, hb⟩
end Go.Proofs.YtaifemkokfoadaaGreatDoor
namespace Go.Proofs.YtaifemkokfoadaaGreatDoor.PX
open Go.RowKit Go.Proofs.zx.zK Go.Proofs.zx.zU Go.Proofs.zx.zN
attribute [local go_sem] qF qG xC xD qY qW qH qI   -- for this text's walks alone
set_option linter.unusedVariables false
set_option linter.unusedSimpArgs false
def kJ.l0 : Nat → List ByteArray → Int → Int → ByteArray → Bool → Int → List (qw) → List (qh) → List (xq) → Option (Bool)
 | 0, _, _, _, _, _, _, _, _, _ => none
 | k + 1, x9, x10, x11, zzU, zz0, zz1, zz2, zz3, zz4 => if x11 < x10 then (if 0 ≤ x11 then (if x11 < (x9.length : Int) then ((jR.f zzU zz0 zz1 zz2 zz3 zz4 (yG ByteArray.empty x9 x11)).bind fun zVN => (if zVN.2 = true then (kJ.l0 k x9 x10 (wrap64 (x11 + 1)) zzU zz0 zz1 zz2 zz3 zz4) else (some false))) else (none)) else (none)) else (some true)
def kJ.f (k : Nat) (yU : ByteArray) (yS : Bool) (y7 : Int) (yw : List (qw)) (yA : List (qh)) (yu : List (xq)) (l1 : List ByteArray) : Option (Bool) := kJ.l0 k l1 (l1.length : Int) 0 yU yS y7 yw yA yu
set_option maxHeartbeats 8000000 in
set_option maxRecDepth 100000 in
theorem kJ.calls (k : Nat) (yU : ByteArray) (yS : Bool) (y7 : Int) (qU : Option Addr) (q9 : Nat) (yw : List (qw)) (xZ : Option Addr) (xQ : Nat) (yA : List (qh)) (xX : Option Addr) (xJ : Nat) (yu : List (xq)) (A1 : Option Addr) (c1 : Nat) (l1 : List ByteArray) (r : Bool) (w : World) (wU : Kd.C uy w qU yw.length yw) (ZI : yw.length ≤ q9) (ZL : Kd.C uU w xZ yA.length yA) (ZM : yA.length ≤ xQ) (ZN : Kd.C jy w xX yu.length yu) (ZO : yu.length ≤ xJ) (hr1 : Kd.C Kd.string w A1 l1.length l1) (hc1 : l1.length ≤ c1) (hG : GW w) (h : kJ.f k yU yS y7 yw yA yu l1 = some r) :
  Calls Tryz.prog 50 #[.agg #[.string yU, .bool yS, .int .i64 y7, .slice qU yw.length q9, .slice xZ yA.length xQ, .slice xX yu.length xJ], .slice A1 l1.length c1] w fun e w' => e = .returned (.bool r) ∧ Below w.heap.size w w' := by
 have bS := Tryz.underlying26
 have HG := zy.mk hG
 clear hG
 have ZQ := zy.mk wU
 have Yb := zy.mk ZI
 clear wU ZI
 have YB := zy.mk ZL
 have YC := zy.mk ZM
 clear ZL ZM
 have Xx := zy.mk ZN
 have Xj := zy.mk ZO
 clear ZN ZO
 have HR1 := zy.mk hr1
 have HC1 := zy.mk hc1
 clear hr1 hc1
 have HB := zy.mk (Below.refl w.heap.size w)
 have H : (kJ.l0 k l1 (l1.length : Int) 0 yU yS y7 yw yA yu) = some r := h
 clear h
 have H' := zy.mk H
 clear H
 go_enter Tryz.func50, Tryz.ntmps50
 go_wp2_with (first | ((with_reducible refine xI (N := 2) rfl ?_); refine xR ?hg (N := 2) ?hd (cs := #[.string yU, .bool yS, .int .i64 y7, .slice qU yw.length q9, .slice xZ yA.length xQ, .slice xX yu.length xJ]) (t := 26) ?hr ?_; (case hd => rfl); (case hg => rfl); (case hr => first | (go_simp; done) | (go_simp; rfl)); intro Zh hg w3 xS hb; have zn := zy.mk (yY (yX HB.out) hb); have zA := zy.mk (xS); have zH := zy.mk ((by rw [hg]; exact (zO (yX HB.out)) : w.heap.size ≤ Zh)); have zP := zy.mk ((by rw [hg]; exact (zO (yX HB.out)) : w.heap.size ≤ Zh)); clear HB; have HB := zn; have u6 := zA; have zhs := zH; have zyL := zP; clear zn zA zH zP; clear hb xS hg))
 go_loopg [11] k (fun kq v11 w' => ∃ (kH : Int), v11 = .int .i64 kH ∧ zy (kJ.l0 kq l1 (l1.length : Int) kH yU yS y7 yw yA yu = some r) ∧ zy (kq ≤ k) ∧ zy (w'.heap[Zh]? = some (.cells #[.string yU, .bool yS, .int .i64 y7, (.slice qU yw.length q9), (.slice xZ yA.length xQ), (.slice xX yu.length xJ)] 26 (0, 0))) ∧ zy (Below w.heap.size w w'))
 case atStart => exact ⟨(0), (by first | rfl | (simp; done) | (simp [*]; done)), H', ⟨Nat.le_refl _⟩, ⟨qX u6.out⟩, ⟨yX HB.out⟩⟩
 case round =>
  clear H'
  try clear c1
  try clear p2
  obtain ⟨kH, rfl, HA, vT, u6, HB⟩ := hrel
  cases gk with
  | zero => exact absurd HA.out (by simp [kJ.l0])
  | succ k1 =>
   have H := HA.out
   clear HA
   simp only [kJ.l0] at H
   by_cases c4 : kH < (l1.length : Int)
   ·rw [if_pos c4] at H
    have ZC : decide (kH < (l1.length : Int)) = true := decide_eq_true c4
    clear c4
    by_cases c5 : 0 ≤ kH
    ·rw [if_pos c5] at H
     have Ya : decide (0 ≤ kH) = true := decide_eq_true c5
     clear c5
     by_cases c6 : kH < (l1.length : Int)
     ·rw [if_pos c6] at H
      have Xf : decide (kH < (l1.length : Int)) = true := decide_eq_true c6
      clear c6
      replace H := Option.bind_eq_some_iff.mp H
      obtain ⟨⟨zXL, zXM⟩, A70, H⟩ := H
      replace H : (if zXM = true then (kJ.l0 k1 l1 (l1.length : Int) (wrap64 (kH + 1)) yU yS y7 yw yA yu) else (some false)) = some r := H
      have A7 := zy.mk A70
      clear A70
      by_cases c8 : zXM = true
      ·subst c8
       have H1 : (kJ.l0 k1 l1 (l1.length : Int) (wrap64 (kH + 1)) yU yS y7 yw yA yu) = some r := by rw [if_pos rfl] at H; exact H
       clear H
       have H := H1
       clear H1
       have H' := zy.mk H
       clear H
       have cB : 0 ≤ (kH : Int) := of_decide_eq_true (by first | (with_reducible assumption) | assumption)
       have cO : kH < (l1.length : Int) := of_decide_eq_true (by first | (with_reducible assumption) | assumption)
       obtain ⟨zVO, zki, QU⟩ := Kd.xG HR1.out kH cB cO
       cases zki
       replace QU := (HB.out.cell (World.block_lt_of_cell? w _ QU)).trans QU
       replace cB := eq_true cB
       replace cO := eq_true cO
       have zXN : wr.cell? ⟨Zh, 0, none⟩ = some (.string yU) := (zk u6.out 0).trans rfl
       have zXO : wr.cell? ⟨Zh, 1, none⟩ = some (.bool yS) := (zk u6.out 1).trans rfl
       have zXP : wr.cell? ⟨Zh, 2, none⟩ = some (.int .i64 y7) := (zk u6.out 2).trans rfl
       have zXR : wr.cell? ⟨Zh, 3, none⟩ = some (.slice qU yw.length q9) := (zk u6.out 3).trans rfl
       have zXS : wr.cell? ⟨Zh, 4, none⟩ = some (.slice xZ yA.length xQ) := (zk u6.out 4).trans rfl
       have zXT : wr.cell? ⟨Zh, 5, none⟩ = some (.slice xX yu.length xJ) := (zk u6.out 5).trans rfl
       have zXU := zw u6.out 0
       have zX0 := zw u6.out 1
       have zX1 := zw u6.out 2
       have zX2 := zw u6.out 3
       have zX3 := zw u6.out 4
       have zX4 := zw u6.out 5
       go_wp2_with (first | ((with_reducible refine yI (f := 27) rfl ?_); refine je (some 18) Tryz.func27 #[.agg #[.string yU, .bool yS, .int .i64 y7, .slice qU yw.length q9, .slice xZ yA.length xQ, .slice xX yu.length xJ], .string (yG ByteArray.empty l1 kH)] ?_; (with_reducible refine (jR.calls yU yS y7 _ _ yw _ _ yA _ _ yu (yG ByteArray.empty l1 kH) zXL true _ ?qd ?qC ?uJ ?uV ?jE ?jF ?pz A7.out).mono ?_); (case qd => repeat (first | exact (Kd.zh ZQ.out HB.out) | (with_reducible refine Kd.yE ?_ _) | (with_reducible refine Kd.yF ?_ _) | (with_reducible refine Kd.y8 ?_))); (case qC => exact Yb.out); (case uJ => repeat (first | exact (Kd.zh YB.out HB.out) | (with_reducible refine Kd.yE ?_ _) | (with_reducible refine Kd.yF ?_ _) | (with_reducible refine Kd.y8 ?_))); (case uV => exact YC.out); (case jE => repeat (first | exact (Kd.zh Xx.out HB.out) | (with_reducible refine Kd.yE ?_ _) | (with_reducible refine Kd.yF ?_ _) | (with_reducible refine Kd.y8 ?_))); (case jF => exact Xj.out); (case pz => exact GW.under HG.out (yX HB.out)); rintro e KO ⟨rfl, hb⟩; refine ⟨_, rfl, ?_⟩; have zn := zy.mk (zf (g := Zh) (o := .cells #[.string yU, .bool yS, .int .i64 y7, .slice qU yw.length q9, .slice xZ yA.length xQ, .slice xX yu.length xJ] 26 (0, 0)) (qX u6.out) hb); have zA := zy.mk (yY (yX HB.out) hb); clear u6; clear HB; have u6 := zn; have HB := zA; clear zn zA; (try clear hb); (try clear hb2); (try clear hk); (try clear hi)))
       go_roundg k1
       case measure => have := vT.out; omega
       case rel => exact ⟨(wrap64 (kH + 1)), (by first | rfl | (simp; done) | (simp [*]; done)), H', ⟨by have := vT.out; omega⟩, ⟨qX u6.out⟩, ⟨yX HB.out⟩⟩
      ·replace c8 := Bool.eq_false_iff.mpr c8
       subst c8
       have H1 : (some false) = some r := by rw [if_neg (show ¬ (false = true) by decide)] at H; exact H
       clear H
       have H := H1
       clear H1
       obtain rfl := Option.some.inj H
       have cB : 0 ≤ (kH : Int) := of_decide_eq_true (by first | (with_reducible assumption) | assumption)
       have cO : kH < (l1.length : Int) := of_decide_eq_true (by first | (with_reducible assumption) | assumption)
       obtain ⟨zVO, zki, QU⟩ := Kd.xG HR1.out kH cB cO
       cases zki
       replace QU := (HB.out.cell (World.block_lt_of_cell? w _ QU)).trans QU
       replace cB := eq_true cB
       replace cO := eq_true cO
       have zeZ : wr.cell? ⟨Zh, 0, none⟩ = some (.string yU) := (zk u6.out 0).trans rfl
       have zeQ : wr.cell? ⟨Zh, 1, none⟩ = some (.bool yS) := (zk u6.out 1).trans rfl
       have zeX : wr.cell? ⟨Zh, 2, none⟩ = some (.int .i64 y7) := (zk u6.out 2).trans rfl
       have zeJ : wr.cell? ⟨Zh, 3, none⟩ = some (.slice qU yw.length q9) := (zk u6.out 3).trans rfl
       have zeV : wr.cell? ⟨Zh, 4, none⟩ = some (.slice xZ yA.length xQ) := (zk u6.out 4).trans rfl
       have zeK : wr.cell? ⟨Zh, 5, none⟩ = some (.slice xX yu.length xJ) := (zk u6.out 5).trans rfl
       have zeY := zw u6.out 0
       have zeW := zw u6.out 1
       have zea := zw u6.out 2
       have zeb := zw u6.out 3
       have zec := zw u6.out 4
       have zed := zw u6.out 5
       go_wp2_with (first | ((with_reducible refine yI (f := 27) rfl ?_); refine je (some 18) Tryz.func27 #[.agg #[.string yU, .bool yS, .int .i64 y7, .slice qU yw.length q9, .slice xZ yA.length xQ, .slice xX yu.length xJ], .string (yG ByteArray.empty l1 kH)] ?_; (with_reducible refine (jR.calls yU yS y7 _ _ yw _ _ yA _ _ yu (yG ByteArray.empty l1 kH) zXL false _ ?qd ?qC ?uJ ?uV ?jE ?jF ?pz A7.out).mono ?_); (case qd => repeat (first | exact (Kd.zh ZQ.out HB.out) | (with_reducible refine Kd.yE ?_ _) | (with_reducible refine Kd.yF ?_ _) | (with_reducible refine Kd.y8 ?_))); (case qC => exact Yb.out); (case uJ => repeat (first | exact (Kd.zh YB.out HB.out) | (with_reducible refine Kd.yE ?_ _) | (with_reducible refine Kd.yF ?_ _) | (with_reducible refine Kd.y8 ?_))); (case uV => exact YC.out); (case jE => repeat (first | exact (Kd.zh Xx.out HB.out) | (with_reducible refine Kd.yE ?_ _) | (with_reducible refine Kd.yF ?_ _) | (with_reducible refine Kd.y8 ?_))); (case jF => exact Xj.out); (case pz => exact GW.under HG.out (yX HB.out)); rintro e jm ⟨rfl, hb⟩; refine ⟨_, rfl, ?_⟩; have zn := zy.mk (zf (g := Zh) (o := .cells #[.string yU, .bool yS, .int .i64 y7, .slice qU yw.length q9, .slice xZ yA.length xQ, .slice xX yu.length xJ] 26 (0, 0)) (qX u6.out) hb); have zA := zy.mk (yY (yX HB.out) hb); clear u6; clear HB; have u6 := zn; have HB := zA; clear zn zA; (try clear hb); (try clear hb2); (try clear hk); (try clear hi)))
       go_ret
       exact ⟨by first | rfl | (simp [yZ, yQ] <;> rfl) | (simp [*, yZ, yQ] <;> rfl), by repeat (first | (with_reducible first | exact HB.out | apply yt | apply zM | apply yP | refine qo ?_ zyL.out) | exact HB.out)⟩
     ·rw [if_neg c6] at H
      exact absurd H (by simp)
    ·rw [if_neg c5] at H
     exact absurd H (by simp)
   ·rw [if_neg c4] at H
    have ZC : decide (kH < (l1.length : Int)) = false := decide_eq_false c4
    clear c4
    obtain rfl := Option.some.inj H
    go_wp2
    go_ret
    exact ⟨by first | rfl | (simp [yZ, yQ] <;> rfl) | (simp [*, yZ, yQ] <;> rfl), by repeat (first | (with_reducible first | exact HB.out | apply yt | apply zM | apply yP | refine qo ?_ zyL.out) | exact HB.out)⟩
end Go.Proofs.YtaifemkokfoadaaGreatDoor.PX
namespace Go.Proofs.YtaifemkokfoadaaGreatDoor
open Go.RowKit Go.Shelf Go.Proofs.zx.zK Go.Proofs.zx.zN Go.Proofs.YtaifemkokfoadaaGreatDoor.PX
instance : Inhabited qw := ⟨z31⟩
instance : Inhabited qh := ⟨z86⟩
instance : Inhabited xq := ⟨z76⟩
def pq (x : qw) : List Value := [.string x.f0, .int .i64 x.f1]
def oz (x : qh) : List Value := [.string x.f0, .string x.f1, .string x.f2]
def oq (x : xq) : List Value := [.string x.f0, .string x.f1, .int .i64 x.f2]
theorem dx {α : Type} [Inhabited α] (d : Kd α) (enc : α → List Value) (hopen : ∀ (w : World) (x : α) (c : List Value), d.K w x c → c = enc x) (hne : ∀ x, enc x ≠ []) {w : World} {A : Option Addr} {l : List α} (h : Kd.C d w A l.length l) (h0 : l ≠ []) :
  ∃ b off, A = some ⟨b, off, none⟩ ∧ b < w.heap.size ∧ ∀ j, j < l.length → ∀ i v, (enc l[j]!)[i]? = some v → w.cell? ⟨b, off + j * d.sz + i, none⟩ = some v := by
 have hl : 0 < l.length := List.length_pos_iff.2 h0
 obtain ⟨_, _, h3⟩ := h
 obtain ⟨ad, rfl, hc⟩ := h3 hl
 obtain ⟨b, off, spot⟩ := ad
 have hcell : ∀ j, j < l.length → ∀ i v, (enc l[j]!)[i]? = some v → w.cell? ((⟨b, off, spot⟩ : Addr).add (j * d.sz + i)) = some v := by
  intro j hj i v hv
  obtain ⟨c, _, hK, hcc⟩ := hc j l[j] (List.getElem?_eq_getElem hj)
  have e := hopen w _ c hK
  rw [getElem!_pos l j hj, ← e] at hv
  exact hcc i v hv
 obtain ⟨v, hv⟩ : ∃ v, (enc l[0]!)[0]? = some v := by
  cases he : enc l[0]! with
  | nil => exact absurd he (hne _)
  | cons v r => exact ⟨v, rfl⟩
 have hc0 := hcell 0 hl 0 v hv
 have hspot : spot = none := by simpa [Addr.add] using World.cell?_spot hc0
 subst hspot
 refine ⟨b, off, rfl, ?_, fun j hj i v hv => ?_⟩
 ·have := World.block_lt_of_cell? w _ hc0
  simpa [Addr.add] using this
 ·have := hcell j hj i v hv
  rwa [Addr.add_lit, ← Nat.add_assoc] at this
set_option maxRecDepth 100000 in
theorem zvJ (A0 : Option Addr) (c0 : Nat) (fv : Value) (w : World) : Calls Tryz.prog 98 #[.slice A0 0 c0, fv] w fun e w' => e = .returned (.int .i64 (-1)) ∧ Below w.heap.size w w' := by
 go_enter Tryz.func98, Tryz.ntmps98
 go_wp2
 go_loop [8] (fun i => i = .int .i64 0) (fun _ => 0)
 case atStart => rfl
 case round =>
  obtain rfl := hrel
  go_wp2
  go_ret
  exact ⟨rfl, Below.refl _ _⟩
set_option maxRecDepth 100000 in
theorem zkl (A0 : Option Addr) (c0 : Nat) (l : List qw) (w : World) (hr : Kd.C uy w A0 l.length l) (hl : l.length ≤ 1000000000) (p : qw → Bool) (g : Nat) (lb : Array Value) (eg : ∀ args w, (callFunc g args).run Tryz.prog w = .ok (.enter g args) w)
  (hp : PredBelow Tryz.prog g lb (fun x => .agg (pq x).toArray) p w) :
  Calls Tryz.prog 42 #[.slice A0 l.length c0, .func (.func g) #[] lb] w fun e w' => e = .returned (.bool (l.any p)) ∧ Below w.heap.size w w' := by
 by_cases h0 : l = []
 ·subst h0
  have h := zvJ A0 c0 (.func (.func g) #[] lb) w
  go_enter Tryz.func42, Tryz.ntmps42
  go_wp2_with (go_at_call 98; refine h.mono ?_; rintro e w1 ⟨rfl, hb⟩)
  go_ret
  exact ⟨rfl, hb⟩
 ·obtain ⟨b, off, rfl, hb, hc⟩ := dx uy pq (fun w x c h => lF h) (fun x => by simp [pq]) hr h0
  have := AnyQ.slices_ContainsFunc Tryz.hasG 2 Tryz.isAgg31 Tryz.sizeOf31 pq (fun _ => rfl) p g lb eg b off l.length c0 l w hp (Nat.le_refl _) (by omega) hb hc
  rw [List.take_length] at this
  exact this
set_option maxRecDepth 100000 in
theorem zvV (A0 : Option Addr) (c0 : Nat) (fv : Value) (w : World) : Calls Tryz.prog 102 #[.slice A0 0 c0, fv] w fun e w' => e = .returned (.int .i64 (-1)) ∧ Below w.heap.size w w' := by
 go_enter Tryz.func102, Tryz.ntmps102
 go_wp2
 go_loop [8] (fun i => i = .int .i64 0) (fun _ => 0)
 case atStart => rfl
 case round =>
  obtain rfl := hrel
  go_wp2
  go_ret
  exact ⟨rfl, Below.refl _ _⟩
set_option maxRecDepth 100000 in
theorem zkm (A0 : Option Addr) (c0 : Nat) (l : List qh) (w : World) (hr : Kd.C uU w A0 l.length l) (hl : l.length ≤ 1000000000) (p : qh → Bool) (g : Nat) (lb : Array Value) (eg : ∀ args w, (callFunc g args).run Tryz.prog w = .ok (.enter g args) w)
  (hp : PredBelow Tryz.prog g lb (fun x => .agg (oz x).toArray) p w) :
  Calls Tryz.prog 48 #[.slice A0 l.length c0, .func (.func g) #[] lb] w fun e w' => e = .returned (.bool (l.any p)) ∧ Below w.heap.size w w' := by
 by_cases h0 : l = []
 ·subst h0
  have h := zvV A0 c0 (.func (.func g) #[] lb) w
  go_enter Tryz.func48, Tryz.ntmps48
  go_wp2_with (go_at_call 102; refine h.mono ?_; rintro e w1 ⟨rfl, hb⟩)
  go_ret
  exact ⟨rfl, hb⟩
 ·obtain ⟨b, off, rfl, hb, hc⟩ := dx uU oz (fun w x c h => lG h) (fun x => by simp [oz]) hr h0
  have := AnyQ.slices_ContainsFunc Tryz.hasL 3 Tryz.isAgg86 Tryz.sizeOf86 oz (fun _ => rfl) p g lb eg b off l.length c0 l w hp (Nat.le_refl _) (by omega) hb hc
  rw [List.take_length] at this
  exact this
set_option maxRecDepth 100000 in
theorem zvK (A0 : Option Addr) (c0 : Nat) (fv : Value) (w : World) : Calls Tryz.prog 103 #[.slice A0 0 c0, fv] w fun e w' => e = .returned (.int .i64 (-1)) ∧ Below w.heap.size w w' := by
 go_enter Tryz.func103, Tryz.ntmps103
 go_wp2
 go_loop [8] (fun i => i = .int .i64 0) (fun _ => 0)
 case atStart => rfl
 case round =>
  obtain rfl := hrel
  go_wp2
  go_ret
  exact ⟨rfl, Below.refl _ _⟩
set_option maxRecDepth 100000 in
theorem zkn (A0 : Option Addr) (c0 : Nat) (l : List xq) (w : World) (hr : Kd.C jy w A0 l.length l) (hl : l.length ≤ 1000000000) (p : xq → Bool) (g : Nat) (lb : Array Value) (eg : ∀ args w, (callFunc g args).run Tryz.prog w = .ok (.enter g args) w)
  (hp : PredBelow Tryz.prog g lb (fun x => .agg (oq x).toArray) p w) :
  Calls Tryz.prog 55 #[.slice A0 l.length c0, .func (.func g) #[] lb] w fun e w' => e = .returned (.bool (l.any p)) ∧ Below w.heap.size w w' := by
 by_cases h0 : l = []
 ·subst h0
  have h := zvK A0 c0 (.func (.func g) #[] lb) w
  go_enter Tryz.func55, Tryz.ntmps55
  go_wp2_with (go_at_call 103; refine h.mono ?_; rintro e w1 ⟨rfl, hb⟩)
  go_ret
  exact ⟨rfl, hb⟩
 ·obtain ⟨b, off, rfl, hb, hc⟩ := dx jy oq (fun w x c h => lH h) (fun x => by simp [oq]) hr h0
  have := AnyQ.slices_ContainsFunc Tryz.hasK 3 Tryz.isAgg76 Tryz.sizeOf76 oq (fun _ => rfl) p g lb eg b off l.length c0 l w hp (Nat.le_refl _) (by omega) hb hc
  rw [List.take_length] at this
  exact this
def ZP (n : Int) : Bool := decide (n < 0) || decide (3000 < n)
set_option maxRecDepth 100000 in
theorem ow (n : Int) (w : World) : Calls Tryz.prog 40 #[.int .i64 n] w fun e w' => e = .returned (.bool (ZP n)) ∧ w' = w := by
 unfold ZP
 by_cases h1 : n < 0
 ·have d1 : decide (n < 0) = true := decide_eq_true h1
  rw [d1]; clear h1
  go_enter Tryz.func40, Tryz.ntmps40
  go_wp2
  go_ret
  exact ⟨rfl, rfl⟩
 ·have d1 : decide (n < 0) = false := decide_eq_false h1
  rw [d1]; clear h1
  cases hd : decide (3000 < n) with
  | true =>
   go_enter Tryz.func40, Tryz.ntmps40
   go_wp2
   go_ret
   exact ⟨rfl, rfl⟩
  | false =>
   go_enter Tryz.func40, Tryz.ntmps40
   go_wp2
   go_ret
   exact ⟨rfl, rfl⟩
def XP (x : qw) : Bool := !kS x.f0.data.toList || ZP x.f1
set_option maxRecDepth 100000 in
theorem zko (B : Nat) (w : World) (hB : w.cell? ⟨B, 0, none⟩ = some (.func (.func 40) #[] #[])) :
  PredBelow Tryz.prog 43 #[.pointer (some ⟨B, 0, none⟩)] (fun x => .agg (pq x).toArray) XP w := fun W x hb => by
 have hl := World.block_lt_of_cell? w _ hB
 have hc : W.cell? ⟨B, 0, none⟩ = some (.func (.func 40) #[] #[]) := (hb.cell hl).trans hB
 have hlW : B < W.heap.size := Nat.lt_of_lt_of_le hl hb.size
 show Calls Tryz.prog 43 #[.agg #[.string x.f0, .int .i64 x.f1], .pointer (some ⟨B, 0, none⟩)] W _
 have hb0 : Below w.heap.size w (W.alloc (.cells #[.string x.f0, .int .i64 x.f1] 31)) := hb.alloc hb.size _
 have hbW : Below W.heap.size W (W.alloc (.cells #[.string x.f0, .int .i64 x.f1] 31)) := (Below.refl _ W).alloc (Nat.le_refl _) _
 have hn := zvy x.f0 (W.alloc (.cells #[.string x.f0, .int .i64 x.f1] 31))
 have hw := fun W => ow x.f1 W
 have hv : XP x = (!kS x.f0.data.toList || ZP x.f1) := rfl
 rw [hv]
 clear hv hb
 generalize kS x.f0.data.toList = b1 at hn ⊢
 generalize ZP x.f1 = b2 at hw ⊢
 cases b1 with
 | false =>
  go_enter Tryz.func43, Tryz.ntmps43
  go_wp2_with (go_at_call 44; refine hn.mono ?_; rintro e w1 ⟨rfl, hb1⟩)
  go_ret
  exact ⟨rfl, hb0.trans (hb1.mono hb0.size)⟩
 | true =>
  go_enter Tryz.func43, Tryz.ntmps43
  go_wp2_with (first | (go_at_call 44; refine hn.mono ?_; rintro e w1 ⟨rfl, hb1⟩; have hc1 := (hb1.cell (p := ⟨B, 0, none⟩) (by simp; omega)).trans ((hbW.cell (p := ⟨B, 0, none⟩) hlW).trans hc); have k1 := (hb1.cell (p := ⟨W.heap.size, 1, none⟩) (by simp)).trans (zXG W (.string x.f0) (.int .i64 x.f1) _)) | (go_at_call 40; refine (hw _).mono ?_; rintro e w2 ⟨rfl, rfl⟩))
  go_ret
  exact ⟨by first | rfl | (cases b2 <;> rfl), hb0.trans (hb1.mono hb0.size)⟩
def XR (l : List qw) (ns : List ByteArray) : Bool := ns.all fun n => (Zw l n).2
theorem zVP (a : ByteArray) (b : Bool) (c : Int) (l3 : List qw) (l4 : List qh) (l5 : List xq) (h3 : l3.length ≤ 1000000000) (ns : List ByteArray) (hn : ns.length ≤ 1000) : ∀ (d i : Nat), i + d = ns.length →
  Ev (fun k => kJ.l0 k ns (ns.length : Int) (i : Int) a b c l3 l4 l5) (XR l3 (ns.drop i)) := by
 intro d
 induction d with
 | zero =>
  intro i h
  rw [List.drop_eq_nil_of_le (by omega)]
  refine Ev.step (fun k => by rw [kJ.l0]) ?_
  exact qN (by omega) (Ev.now _)
 | succ d ih =>
  intro i h
  have hi : i < ns.length := by omega
  have e2 : wrap64 ((i : Int) + 1) = ((i + 1 : Nat) : Int) := by rw [YA (by omega) (by omega)]; rfl
  have hg : yG ByteArray.empty ns (i : Int) = ns[i] := by rw [bR, List.getD_eq_getElem?_getD, List.getElem?_eq_getElem hi]; rfl
  have hd : ns.drop i = ns[i] :: ns.drop (i + 1) := List.drop_eq_getElem_cons hi
  refine Ev.step (fun k => by rw [kJ.l0]) ?_
  refine zL (by omega) (zL (by omega) (zL (by omega) ?_))
  rw [hg, e2]
  refine mZ (y := Zw l3 ns[i]) (by unfold jR.f; rw [if_pos h3]) ?_
  rw [hd]
  show Ev _ ((Zw l3 ns[i]).2 && XR l3 (ns.drop (i + 1)))
  cases hb : (Zw l3 ns[i]).2 with
  | true => exact zL rfl (ih (i + 1) (by omega))
  | false => exact qN (by simp) (Ev.now _)
theorem zz5 (a : ByteArray) (b : Bool) (c : Int) (A3 : Option Addr) (c3 : Nat) (l3 : List qw) (A4 : Option Addr) (c4 : Nat) (l4 : List qh) (A5 : Option Addr) (c5 : Nat) (l5 : List xq) (A : Option Addr) (cn : Nat) (ns : List ByteArray) (w : World)
  (h3 : Kd.C uy w A3 l3.length l3) (g3 : l3.length ≤ c3) (h4 : Kd.C uU w A4 l4.length l4) (g4 : l4.length ≤ c4) (h5 : Kd.C jy w A5 l5.length l5) (g5 : l5.length ≤ c5) (hn : Kd.C Kd.string w A ns.length ns) (gn : ns.length ≤ cn) (hG : GW w) (hl3 : l3.length ≤ 1000000000) (hln : ns.length ≤ 1000) :
  Calls Tryz.prog 50 #[.agg #[.string a, .bool b, .int .i64 c, .slice A3 l3.length c3, .slice A4 l4.length c4, .slice A5 l5.length c5], .slice A ns.length cn] w fun e w' => e = .returned (.bool (XR l3 ns)) ∧ Below w.heap.size w w' := by
 obtain ⟨k, hk⟩ := (zVP a b c l3 l4 l5 hl3 ns hln ns.length 0 (by omega)).rounds
 exact kJ.calls k a b c A3 c3 l3 A4 c4 l4 A5 c5 l5 A cn ns _ w h3 g3 h4 g4 h5 g5 hn gn hG hk
structure Ym (w : World) (B : Nat) (a : ByteArray) (b : Bool) (c : Int) (A3 : Option Addr) (c3 : Nat) (l3 : List qw) (A4 : Option Addr) (c4 : Nat) (l4 : List qh) (A5 : Option Addr) (c5 : Nat) (l5 : List xq) : Prop where
 blk : w.heap[B]? = some (.cells #[.string a, .bool b, .int .i64 c, .slice A3 l3.length c3, .slice A4 l4.length c4, .slice A5 l5.length c5] 26 (0, 0))
 h3 : Kd.C uy w A3 l3.length l3
 h4 : Kd.C uU w A4 l4.length l4
 h5 : Kd.C jy w A5 l5.length l5
 gw : GW w
theorem Ym.below {w w' : World} {B : Nat} {a : ByteArray} {b : Bool} {c : Int} {A3 : Option Addr} {c3 : Nat} {l3 : List qw} {A4 : Option Addr} {c4 : Nat} {l4 : List qh} {A5 : Option Addr} {c5 : Nat} {l5 : List xq}
  (h : Ym w B a b c A3 c3 l3 A4 c4 l4 A5 c5 l5) (hb : Below w.heap.size w w') : Ym w' B a b c A3 c3 l3 A4 c4 l4 A5 c5 l5 :=
 ⟨(hb.block B (Array.getElem?_eq_some_iff.1 h.blk).1).trans h.blk, Kd.zh h.h3 hb, Kd.zh h.h4 hb, Kd.zh h.h5 hb, h.gw.under hb⟩
theorem xV {w : World} {B : Nat} {cs : Array Value} {t : TypeId} (h : w.heap[B]? = some (.cells cs t (0, 0))) (i : Nat) (v : Value) (hv : cs[i]? = some v) : w.cell? ⟨B, i, none⟩ = some v := by
 simp only [World.cell?, h]
 exact hv
end Go.Proofs.YtaifemkokfoadaaGreatDoor
namespace Go.Proofs
end Go.Proofs
namespace Go.Proofs.YtaifemkokfoadaaGreatDoor
open Go.RowKit Go.Shelf Go.Sort Go.Proofs.zx.zK Go.Proofs.zx.zN Go.Proofs.YtaifemkokfoadaaGreatDoor.PX
theorem zkp (x : qw) : (pq x).length = 2 := rfl
theorem zkr (x : qw) : ∀ v ∈ pq x, v.oneCell' = true := by
 intro v hv
 simp only [pq, List.mem_cons, List.mem_nil_iff, or_false] at hv
 rcases hv with rfl | rfl <;> rfl
theorem zX5 {w : World} {g : Nat} {cur : Array Value} {e : TypeId} {F : Array Value} (hb : w.heap[g]? = some (.cells cur e (0, 0))) (ht : cur.toList.take F.size = F.toList) : Holds id w g 0 F := by
 intro j hj
 refine ⟨?_, by simp [World.frozen?, hb]⟩
 have h1 : (cur.toList.take F.size)[j]? = F.toList[j]? := by rw [ht]
 rw [List.getElem?_take_of_lt hj] at h1
 simp only [World.cell?, hb, Nat.zero_add]
 simp only [Option.isSome_none, Bool.false_eq_true, if_false]
 rw [← Array.getElem?_toList, h1]
 simp [hj]
theorem zVR {w : World} {g n : Nat} {os : Array Obj} {cur : Array Value} {e : TypeId} {fr : Nat × Nat} (d : Array Value) (hb : w.heap[g]? = some (.cells cur e fr)) :
  (Sort.grow (Sort.putRow id (Sort.ahead w n) g 0 d) os).heap[g]? = some (.cells (Sort.putCells id 0 d cur) e fr) := by
 have hg : g < w.heap.size := (Array.getElem?_eq_some_iff.1 hb).1
 rw [heap_grow_old _ _ (by simpa using hg)]
 simp [Sort.putRow, Sort.mapBlock, Sort.ahead, Array.getElem?_modify, hb, Sort.onCells]
theorem zX6 {w : World} {g n : Nat} {os : Array Obj} (d : Array Value) : w.grownBy (Sort.grow (Sort.putRow id (Sort.ahead w n) g 0 d) os) (some g) := by
 refine ⟨rfl, rfl, rfl, by simp, fun k hk hne => ?_⟩
 rw [heap_grow_old _ _ (by simpa using hk)]
 have : g ≠ k := fun e => hne (by rw [e])
 simp [Sort.putRow, Sort.mapBlock, Sort.ahead, Array.getElem?_modify, this]
theorem zVS (cur : Array Value) (F : Array Value) (h : F.size ≤ cur.size) : (Sort.putCells id 0 F cur).toList.take F.size = F.toList := by
 apply List.ext_getElem?
 intro j
 by_cases hj : j < F.size
 ·rw [List.getElem?_take_of_lt hj, Array.getElem?_toList]
  simp [Sort.putCells, hj, show j < cur.size by omega]
 ·rw [List.getElem?_take_eq_none (by omega), List.getElem?_eq_none (by simp; omega)]
theorem flat_get (xs : List qw) (j : Nat) (hj : j < xs.length) : ((flatK pq 2 xs.toArray).toList.drop (j * 2)).take 2 = pq xs[j] := by
 have hsz : (flatK pq 2 xs.toArray).toList.length = xs.length * 2 := by simp
 have key : ∀ t, t < xs.length * 2 → (flatK pq 2 xs.toArray).toList[t]? = some ((pq xs.toArray[t / 2]!)[t % 2]!) := by
  intro t ht
  have h := get_flatK pq 2 xs.toArray t (by simpa using ht)
  rw [Array.getElem?_toList]
  rw [← h]
  simp [show t < xs.length * 2 by omega]
 apply List.ext_getElem?
 intro i
 rcases Nat.lt_or_ge i 2 with hi | hi
 ·rw [List.getElem?_take_of_lt hi, List.getElem?_drop, key _ (by omega)]
  have e1 : (j * 2 + i) / 2 = j := by omega
  have e2 : (j * 2 + i) % 2 = i := by omega
  rw [e1, e2]
  have e3 : xs.toArray[j]! = xs[j] := by simp [hj]
  rw [e3]
  rcases i with _ | _ | i
  ·rfl
  ·rfl
  ·omega
 ·rw [List.getElem?_take_eq_none hi, List.getElem?_eq_none (by simp [pq]; omega)]
theorem zxD {w : World} {b : Nat} {ok : Nat → Prop} {xs : List qw} {inner : List Value} (h : xA (uy.M w b ok) 2 xs inner) : inner = (flatK pq 2 xs.toArray).toList := by
 have hsz : (flatK pq 2 xs.toArray).toList.length = xs.length * 2 := by simp
 apply List.ext_getElem?
 intro t
 rcases Nat.lt_or_ge t (xs.length * 2) with ht | ht
 ·have hj : t / 2 < xs.length := by omega
  have h1 := h.2 (t / 2) _ (List.getElem?_eq_getElem hj)
  have h2 : (inner.drop (t / 2 * 2)).take 2 = pq xs[t / 2] := zvj h1
  have h3 := flat_get xs (t / 2) hj
  have h4 := h2.trans h3.symm
  have h5 := congrArg (fun l : List Value => l[t % 2]?) h4
  simp only [List.getElem?_take_of_lt (show t % 2 < 2 by omega), List.getElem?_drop] at h5
  rw [show t / 2 * 2 + t % 2 = t by omega] at h5
  exact h5
 ·rw [List.getElem?_eq_none (by have := h.1; omega), List.getElem?_eq_none (by omega)]
theorem zvY (w : World) (b : Nat) (ok : Nat → Prop) (xs : List qw) : xA (uy.M w b ok) 2 xs (flatK pq 2 xs.toArray).toList := by
 refine ⟨by simp, fun j p hj => ?_⟩
 obtain ⟨hl, rfl⟩ := List.getElem?_eq_some_iff.1 hj
 rw [flat_get xs j hl]
 exact X8 _ _ _ _
set_option maxRecDepth 100000 in
theorem zzB (x y : qw) (w : World) :
  Calls Tryz.prog 90 #[.agg #[.string x.f0, .int .i64 x.f1], .agg #[.string y.f0, .int .i64 y.f1]] w fun e w' => e = .returned (.int .i64 (vL x.f0 y.f0)) ∧ ∃ q os, w' = Sort.grow (w.drewN q) os := by
 have hc := uh.calls x.f0 y.f0 _ ((w.alloc (.cells #[.string x.f0, .int .i64 x.f1] 31)).alloc (.cells #[.string y.f0, .int .i64 y.f1] 31)) (Qj x.f0 y.f0)
 generalize vL x.f0 y.f0 = r at hc ⊢
 go_enter Tryz.func90, Tryz.ntmps90
 go_wp2_with (go_at_call 47; refine hc.mono ?_; rintro e w2 ⟨rfl, nd, rfl⟩)
 go_ret
 refine ⟨rfl, nd, #[.cells #[.string x.f0, .int .i64 x.f1] 31] ++ #[.cells #[.string y.f0, .int .i64 y.f1] 31], ?_⟩
 rw [← Sort.grow_grow, Sort.alloc_eq_grow, Sort.alloc_eq_grow]
 rfl
theorem zZf (a b : ByteArray) : decide (vL a b < 0) = Op.bytesLess a.toList b.toList := by
 unfold vL
 cases h1 : Op.bytesLess a.toList b.toList
 ·cases h2 : Op.bytesLess b.toList a.toList <;> simp
 ·simp
theorem oZ (x y : qw) : ltOf (fun x y : qw => vL x.f0 y.f0) x y = decide (x.f0.toList < y.f0.toList) := by
 show decide (vL x.f0 y.f0 < 0) = _
 rw [zZf, bytesLess_eq]
theorem zks : SWO (ltOf (fun x y : qw => vL x.f0 y.f0)) where
 irrefl x := by rw [oZ]; simp [List.lt_irrefl]
 trans x y z h1 h2 := by
  rw [oZ] at *
  simp only [decide_eq_true_eq] at *
  exact List.lt_trans h1 h2
 ntrans x y z h1 h2 := by
  rw [oZ] at *
  simp only [decide_eq_false_iff_not, List.not_lt] at *
  exact List.le_trans h2 h1
theorem zxE (xs ys : List qw) (d' : Array qw) (hp : ys.Perm xs) (hs : ys.Pairwise fun a b => vL a.f0 b.f0 < 0)
  (hP : PermIn 0 xs.toArray.size xs.toArray d') (hS : SortedIn (ltOf (fun x y : qw => vL x.f0 y.f0)) 0 xs.toArray.size d') : d'.toList = ys := by
 obtain ⟨hsz, _, hperm⟩ := hP
 have e1 : d'.extract 0 xs.toArray.size = d' := by rw [← hsz]; exact Array.extract_size
 rw [e1, Array.extract_size] at hperm
 refine List.Perm.eq_of_pairwise (le := fun x y => (!ltOf (fun x y : qw => vL x.f0 y.f0) y x) = true) ?_ ?_ ?_ (hperm.trans hp.symm)
 ·intro a b ha hb h1 h2
  have ha' : a ∈ ys := (hperm.trans hp.symm).mem_iff.1 ha
  obtain ⟨i, hi, rfl⟩ := List.getElem_of_mem ha'
  obtain ⟨j, hj, rfl⟩ := List.getElem_of_mem hb
  simp only [Bool.not_eq_true', ltOf, decide_eq_false_iff_not] at h1 h2
  rcases Nat.lt_trichotomy i j with h | h | h
  ·exact absurd (List.pairwise_iff_getElem.1 hs i j hi hj h) h2
  ·subst h; rfl
  ·exact absurd (List.pairwise_iff_getElem.1 hs j i hj hi h) h1
 ·rw [List.pairwise_iff_getElem]
  intro i j hi hj hij
  have h := hS i j (Nat.zero_le _) hij (by rw [← hsz]; simpa using hj)
  have hi' : i < d'.size := by simpa using hi
  have hj' : j < d'.size := by simpa using hj
  rw [getElem!_pos d' i hi', getElem!_pos d' j hj'] at h
  simpa using h
 ·refine hs.imp ?_
  intro a b h
  have h1 : ltOf (fun x y : qw => vL x.f0 y.f0) a b = true := decide_eq_true h
  cases h2 : ltOf (fun x y : qw => vL x.f0 y.f0) b a with
  | false => rfl
  | true => exact absurd (zks.trans _ _ _ h1 h2) (by rw [zks.irrefl]; simp)
theorem zZg (w : World) (b0 : Nat) (u : Value) (xs ys : List qw) (hR : Kd.R uy 31 w b0 (fun _ => True) u xs) (h0 : 0 < xs.length) (hl : xs.length ≤ 1000) (hp : ys.Perm xs) (hs : ys.Pairwise fun a b => vL a.f0 b.f0 < 0) :
  Calls Tryz.prog 89 #[u, .func (.func 90) #[] #[]] w fun e w' => e = .returned (.tuple #[]) ∧ Kd.R uy 31 w' b0 (fun _ => True) u ys ∧ w.grownBy w' u.ownBlock := by
 obtain ⟨hok, inner, ho, hr⟩ := hR
 have hin := zxD hr
 subst hin
 rcases ho.2 with ⟨_, h⟩ | ⟨g, cap, cur, rfl, hbase, hb, h1, h2, h3, h4⟩
 ·omega
 have hg : g < w.heap.size := (Array.getElem?_eq_some_iff.1 hb).1
 have hk2 : uy.sz = 2 := rfl
 rw [hk2] at h3 h4
 have hH : HoldsK pq 2 w g 0 xs.toArray := zX5 hb (by rw [size_flatK]; exact h4)
 have hlen := hp.length_eq
 refine (AnyQ.slices_SortFunc Tryz.sortG 2 (fun w => by kernel_rfl) (fun w => by kernel_rfl) pq zkp zkr (fun x y => vL x.f0 y.f0) zks 90 #[] g 0 cap xs.toArray w (Go.Proofs.zx.zU.PK Tryz.func90 (by kernel_rfl) rfl)
  (fun m os dk hdk x y => zzB x y _) hH hg (by simp; omega)).mono fun e w' ⟨he, d', n, os, hP, hS, hw⟩ => ?_
 have hd := zxE xs ys d' hp hs hP hS
 have hd' : d' = ys.toArray := by rw [← hd]
 subst hd'
 subst hw
 refine ⟨he, ⟨fun _ _ => trivial, (flatK pq 2 ys.toArray).toList, ⟨by rw [hk2]; simp, .inr ⟨g, cap, _, by rw [hlen], hbase, zVR _ hb, by rw [hlen]; exact h1, h2, by rw [hk2]; simp [Sort.putCells, h3], ?_⟩⟩, zvY _ _ _ _⟩, ?_⟩
 ·have := zVS cur (flatK pq 2 ys.toArray) (by rw [size_flatK, h3]; simp; omega)
  rw [size_flatK] at this
  rw [hk2]
  simpa using this
 ·exact zX6 (w := w) (g := g) (n := n) (os := os) (flatK pq 2 ys.toArray)
end Go.Proofs.YtaifemkokfoadaaGreatDoor
