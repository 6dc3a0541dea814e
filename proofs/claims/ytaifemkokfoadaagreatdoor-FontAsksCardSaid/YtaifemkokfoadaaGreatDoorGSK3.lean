/-
  Texts that lean on one another, laid in one file. No condition.
-/
import Derived.Test.YtaifemkokfoadaaGreatDoorGSK1
import Derived.Test.YtaifemkokfoadaaGreatDoorGSK2
import Derived.Shelf.SlSortCmp.WholeK
import Derived.Ground.SlsfProg
import Derived.Sort.OwnSortedInts
namespace Go.Proofs.YtaifemkokfoadaaGreatDoor.PX
open Go.RowKit Go.Proofs.zy.zu Go.Proofs.zy.yI Go.Proofs.zy.yD
attribute [local go_sem] xw xZ xP xR qD qE xQ xX   -- for this text's walks alone
set_option linter.unusedVariables false
set_option linter.unusedSimpArgs false
namespace SQ
abbrev BA := ByteArray
end SQ
open SQ
mutual
def za.l0 : Nat → Int → BA → Bool → Int → List (zo) → BA → Bool → Int → List (zo) → BA → Bool → Int → List (zo) → BA → Bool → Int → List (zo) → BA → Bool → Int → Option ((List (wQ)))
 | 0, _, _, _, _, _, _, _, _, _, _, _, _, _, _, _, _, _, _, _, _ => none
 | k + 1, x6, VZ, VQ, VX, VJ, VK, VY, VW, Va, Vb, Vd, Ve, Vf, Vg, Vh, Vi, Vl, Vm, Vn, Vo => if x6 ≤ 126 then ((some (([(x6) % 256] : List Int) : List Int)).bind fun wK => ((qd.f k ((x6) % 256)).bind fun t157 => ((yE.f k VJ (strOfNums wK) t157).bind fun wu => ((yE.f k Va (strOfNums wK) (mx (wrap64 (t157 - 20)) 0)).bind fun kP => ((yE.f k Vf (strOfNums wK) (wrap64 (t157 + 50))).bind fun t164 => ((yE.f k Vl (strOfNums wK) 600).bind fun t167 => (za.l0 k (wrap64 (x6 + 1)) VZ VQ VX wu VK VY VW kP Vb Vd Ve t164 Vg Vh Vi t167 Vm Vn Vo))))))) else (za.l1 k (([(⟨#[102, 105]⟩ : BA), (⟨#[102, 108]⟩ : BA), (⟨#[102, 102]⟩ : BA)] : List BA)) 0 VZ VQ VX VJ VK VY VW Va Vb Vd Ve Vf Vg Vh Vi Vl Vm Vn Vo)
def za.l1 : Nat → List BA → Int → BA → Bool → Int → List (zo) → BA → Bool → Int → List (zo) → BA → Bool → Int → List (zo) → BA → Bool → Int → List (zo) → BA → Bool → Int → Option ((List (wQ)))
 | 0, _, _, _, _, _, _, _, _, _, _, _, _, _, _, _, _, _, _, _, _, _ => none
 | k + 1, x9, x10, VZ, VQ, VX, VJ, VK, VY, VW, Va, Vb, Vd, Ve, Vf, Vg, Vh, Vi, Vl, Vm, Vn, Vo => if x10 < (x9.length : Int) then (if 0 ≤ x10 then ((yE.f k VJ (Xu ByteArray.empty x9 x10) 550).bind fun kR => ((yE.f k Vf (Xu ByteArray.empty x9 x10) 600).bind fun Ue => (za.l1 k x9 (wrap64 (x10 + 1)) VZ VQ VX kR VK VY VW Va Vb Vd Ve Ue Vg Vh Vi Vl Vm Vn Vo))) else (none)) else ((j6.f).bind fun jB => (za.l2 k jB 0 VZ VQ VX VJ (([(⟨(⟨#[102]⟩ : BA), (⟨#[102]⟩ : BA), (⟨#[102, 102]⟩ : BA)⟩ : qF), (⟨(⟨#[102]⟩ : BA), (⟨#[105]⟩ : BA), (⟨#[102, 105]⟩ : BA)⟩ : qF), (⟨(⟨#[102]⟩ : BA), (⟨#[108]⟩ : BA), (⟨#[102, 108]⟩ : BA)⟩ : qF)] : List (qF))) (([(⟨(⟨#[65]⟩ : BA), (⟨#[86]⟩ : BA), (-80)⟩ : qG), (⟨(⟨#[65]⟩ : BA), (⟨#[87]⟩ : BA), (-60)⟩ : qG), (⟨(⟨#[84]⟩ : BA), (⟨#[111]⟩ : BA), (-70)⟩ : qG), (⟨(⟨#[86]⟩ : BA), (⟨#[65]⟩ : BA), (-80)⟩ : qG), (⟨(⟨#[89]⟩ : BA), (⟨#[111]⟩ : BA), (-90)⟩ : qG)] : List (qG))) VK VY VW Va Vb Vd Ve Vf (([(⟨(⟨#[102]⟩ : BA), (⟨#[102]⟩ : BA), (⟨#[102, 102]⟩ : BA)⟩ : qF), (⟨(⟨#[102]⟩ : BA), (⟨#[105]⟩ : BA), (⟨#[102, 105]⟩ : BA)⟩ : qF), (⟨(⟨#[102]⟩ : BA), (⟨#[108]⟩ : BA), (⟨#[102, 108]⟩ : BA)⟩ : qF)] : List (qF))) Vg Vh Vi Vl Vm Vn Vo ([] : List (zo))))
def za.l2 : Nat → List (zo) → Int → BA → Bool → Int → List (zo) → List (qF) → List (qG) → BA → Bool → Int → List (zo) → BA → Bool → Int → List (zo) → List (qF) → BA → Bool → Int → List (zo) → BA → Bool → Int → List (zo) → Option ((List (wQ)))
 | 0, _, _, _, _, _, _, _, _, _, _, _, _, _, _, _, _, _, _, _, _, _, _, _, _, _ => none
 | k + 1, sD, x12, VZ, VQ, VX, VJ, zvw, zvZ, VK, VY, VW, Va, Vb, Vd, Ve, Vf, zvQ, Vg, Vh, Vi, Vl, Vm, Vn, Vo, zvX => if x12 < (sD.length : Int) then (if 0 ≤ x12 then ((yE.f k zvX ((zN sD x12).f0) ((zN sD x12).f1)).bind fun t194 => (za.l2 k sD (wrap64 (x12 + 1)) VZ VQ VX VJ zvw zvZ VK VY VW Va Vb Vd Ve Vf zvQ Vg Vh Vi Vl Vm Vn Vo t194)) else (none)) else (some (([(⟨VZ, VQ, VX, VJ, zvw, zvZ⟩ : wQ), (⟨VK, VY, VW, Va, ([] : List (qF)), ([] : List (qG))⟩ : wQ), (⟨Vb, Vd, Ve, Vf, zvQ, ([] : List (qG))⟩ : wQ), (⟨Vg, Vh, Vi, Vl, ([] : List (qF)), ([] : List (qG))⟩ : wQ), (⟨Vm, Vn, Vo, zvX, ([] : List (qF)), ([] : List (qG))⟩ : wQ)] : List (wQ))))
end
def za.f (k : Nat)  : Option ((List (wQ))) := za.l0 k 33 (⟨#[82]⟩ : BA) false 250 ([] : List (zo)) (⟨#[73]⟩ : BA) false 250 ([] : List (zo)) (⟨#[66]⟩ : BA) false 250 ([] : List (zo)) (⟨#[77]⟩ : BA) false 600 ([] : List (zo)) (⟨#[83]⟩ : BA) true 250
def za.T5 : Bool × List (List Nat × List Nat) := (true, [([], []), ([0], [0]), ([1], [1]), ([2], [2]), ([], []), ([4], [4]), ([5], [5]), ([3, 6, 0, 1, 2, 3], [3]), ([6, 7, 0, 1, 2, 3, 4, 5, 6, 7], [6])])
def za.B5 : List Nat := [0, 1, 3, 7, 0, 16, 48, 127, 255]
theorem za.dX : u6 .any (opsOf Tryz.f14 5) = za.T5 := by kernel_rfl
theorem za.dJ : jM za.T5.2 za.B5 = true := by kernel_rfl
def za.T14 : Bool × List (List Nat × List Nat) := (true, [([], []), ([0], [0]), ([], []), ([], []), ([2, 3], [2, 3]), ([4], [4]), ([5], [5]), ([1, 6], [1, 6]), ([0, 1, 2, 3, 4, 5, 6, 7], []), ([8, 7, 7, 0, 1, 2, 3, 4, 5, 6, 7], [7, 8])])
def za.B14 : List Nat := [0, 1, 0, 0, 12, 28, 60, 127, 255, 511]
theorem za.zwf : u6 .any (opsOf Tryz.f14 14) = za.T14 := by kernel_rfl
theorem za.zWQ : jM za.T14.2 za.B14 = true := by kernel_rfl
def za.T15 : Bool × List (List Nat × List Nat) := (true, [([], []), ([0], [0]), ([], []), ([], []), ([2, 3], [2, 3]), ([4], [4]), ([5], [5]), ([1, 6], [1, 6]), ([0, 1, 2, 3, 4, 5, 6, 7], []), ([8, 7, 7, 0, 1, 2, 3, 4, 5, 6, 7], [7, 8])])
def za.B15 : List Nat := [0, 1, 0, 0, 12, 28, 60, 127, 255, 511]
theorem za.za3 : u6 .any (opsOf Tryz.f14 15) = za.T15 := by kernel_rfl
theorem za.zWX : jM za.T15.2 za.B15 = true := by kernel_rfl
def za.T23 : Bool × List (List Nat × List Nat) := (true, [([], []), ([0], [0]), ([], []), ([], []), ([2, 3], [2, 3]), ([4], [4]), ([1, 5], [1, 5]), ([0, 1, 2, 3, 4, 5, 6], []), ([7, 6, 6, 0, 1, 2, 3, 4, 5, 6], [6, 7])])
def za.B23 : List Nat := [0, 1, 0, 0, 12, 28, 63, 127, 255]
theorem za.za4 : u6 .any (opsOf Tryz.f14 23) = za.T23 := by kernel_rfl
theorem za.zWJ : jM za.T23.2 za.B23 = true := by kernel_rfl
set_option maxHeartbeats 8000000 in
set_option maxRecDepth 100000 in
theorem za.calls (k : Nat)  (r : List (wQ)) (w : World) (h : za.f k  = some r) :
  Calls Tryz.prog 14 #[] w fun e w' => ∃ Jk : Value, e = .returned (Jk) ∧ Kd.N PL 44 w' w.heap.size (fun k_ => (w.heap.size ≤ k_)) Jk r ∧ Below w.heap.size w w' := by
 have Ku := Tryz.underlying44
 have zXk := Tryz.underlying81
 have zdg := Tryz.underlying83
 have zdh := Tryz.underlying84
 have HB := zx.mk (Below.refl w.heap.size w)
 have H : (za.l0 k 33 (⟨#[82]⟩ : BA) false 250 ([] : List (zo)) (⟨#[73]⟩ : BA) false 250 ([] : List (zo)) (⟨#[66]⟩ : BA) false 250 ([] : List (zo)) (⟨#[77]⟩ : BA) false 600 ([] : List (zo)) (⟨#[83]⟩ : BA) true 250) = some r := h
 clear h
 have H' := zx.mk H
 clear H
 go_enter Tryz.func14, Tryz.ntmps14
 go_wp2_with (first | ((with_reducible refine qx (N := 1) rfl ?_); refine ql ?hg (N := 1) ?hd (cs := #[.string (⟨#[]⟩ : BA), .bool false, .int .i64 0, .slice none 0 0, .slice none 0 0, .slice none 0 0]) (t := 44) ?hr ?_; (case hd => rfl); (case hg => rfl); (case hr => first | (go_simp; done) | (go_simp; rfl)); intro yV hg w1 qK hb; have zf := zx.mk (zI (zD HB.out) hb); have zh := zx.mk (qK); have zA := zx.mk ((by rw [hg]; exact (zV (zD HB.out)) : w.heap.size ≤ yV)); have zR := zx.mk ((by rw [hg]; exact (zV (zD HB.out)) : w.heap.size ≤ yV)); clear HB; have HB := zf; have zB := zh; have zie := zA; have za5 := zR; clear zf zh zA zR; clear hb qK hg) | ((with_reducible refine qx (N := 2) rfl ?_); refine ql ?hg (N := 2) ?hd (cs := #[.string (⟨#[]⟩ : BA), .bool false, .int .i64 0, .slice none 0 0, .slice none 0 0, .slice none 0 0]) (t := 44) ?hr ?_; (case hd => rfl); (case hg => rfl); (case hr => first | (go_simp; done) | (go_simp; rfl)); intro qX hg w2 qK hb; have zf := zx.mk (zl (g := yV) (o := .cells #[.string (⟨#[]⟩ : BA), .bool false, .int .i64 0, .slice none 0 0, .slice none 0 0, .slice none 0 0] 44 (0, 0)) (yt zB.out) hb); have zh := zx.mk (zI (zD HB.out) hb); have zA := zx.mk (qK); have zR := zx.mk ((by rw [hg]; exact (zV (zD HB.out)) : w.heap.size ≤ qX)); have qV := zx.mk ((by rw [hg]; exact (zV (zD HB.out)) : w.heap.size ≤ qX)); have xD := zx.mk ((by rw [hg]; exact Nat.ne_of_lt (uD (g := yV) (o := .cells #[.string (⟨#[]⟩ : BA), .bool false, .int .i64 0, .slice none 0 0, .slice none 0 0, .slice none 0 0] 44 (0, 0)) (yt zB.out)) : yV ≠ qX)); have vE := zx.mk ((by rw [hg]; exact Nat.ne_of_gt (uD (g := yV) (o := .cells #[.string (⟨#[]⟩ : BA), .bool false, .int .i64 0, .slice none 0 0, .slice none 0 0, .slice none 0 0] 44 (0, 0)) (yt zB.out)) : qX ≠ yV)); clear zB; clear HB; have zB := zf; have HB := zh; have yj := zA; have zif := zR; have za6 := qV; have Zb := xD; have Zc := vE; clear zf zh zA zR qV xD vE; clear hb qK hg) | ((with_reducible refine qx (N := 3) rfl ?_); refine ql ?hg (N := 3) ?hd (cs := #[.string (⟨#[]⟩ : BA), .bool false, .int .i64 0, .slice none 0 0, .slice none 0 0, .slice none 0 0]) (t := 44) ?hr ?_; (case hd => rfl); (case hg => rfl); (case hr => first | (go_simp; done) | (go_simp; rfl)); intro yU hg w3 qK hb; have zf := zx.mk (zl (g := yV) (o := .cells #[.string (⟨#[]⟩ : BA), .bool false, .int .i64 0, .slice none 0 0, .slice none 0 0, .slice none 0 0] 44 (0, 0)) (yt zB.out) hb); have zh := zx.mk (zl (g := qX) (o := .cells #[.string (⟨#[]⟩ : BA), .bool false, .int .i64 0, .slice none 0 0, .slice none 0 0, .slice none 0 0] 44 (0, 0)) (yt yj.out) hb); have zA := zx.mk (zI (zD HB.out) hb); have zR := zx.mk (qK); have qV := zx.mk ((by rw [hg]; exact (zV (zD HB.out)) : w.heap.size ≤ yU)); have xD := zx.mk ((by rw [hg]; exact (zV (zD HB.out)) : w.heap.size ≤ yU)); have vE := zx.mk ((by rw [hg]; exact Nat.ne_of_lt (uD (g := yV) (o := .cells #[.string (⟨#[]⟩ : BA), .bool false, .int .i64 0, .slice none 0 0, .slice none 0 0, .slice none 0 0] 44 (0, 0)) (yt zB.out)) : yV ≠ yU)); have vR := zx.mk ((by rw [hg]; exact Nat.ne_of_gt (uD (g := yV) (o := .cells #[.string (⟨#[]⟩ : BA), .bool false, .int .i64 0, .slice none 0 0, .slice none 0 0, .slice none 0 0] 44 (0, 0)) (yt zB.out)) : yU ≠ yV)); have uK := zx.mk ((by rw [hg]; exact Nat.ne_of_lt (uD (g := qX) (o := .cells #[.string (⟨#[]⟩ : BA), .bool false, .int .i64 0, .slice none 0 0, .slice none 0 0, .slice none 0 0] 44 (0, 0)) (yt yj.out)) : qX ≠ yU)); have uo := zx.mk ((by rw [hg]; exact Nat.ne_of_gt (uD (g := qX) (o := .cells #[.string (⟨#[]⟩ : BA), .bool false, .int .i64 0, .slice none 0 0, .slice none 0 0, .slice none 0 0] 44 (0, 0)) (yt yj.out)) : yU ≠ qX)); clear zB; clear yj; clear HB; have zB := zf; have yj := zh; have HB := zA; have zF := zR; have zih := qV; have za7 := xD; have pF := vE; have pG := vR; have Zd := uK; have Ze := uo; clear zf zh zA zR qV xD vE vR uK uo; clear hb qK hg) | ((with_reducible refine qx (N := 4) rfl ?_); refine ql ?hg (N := 4) ?hd (cs := #[.string (⟨#[]⟩ : BA), .bool false, .int .i64 0, .slice none 0 0, .slice none 0 0, .slice none 0 0]) (t := 44) ?hr ?_; (case hd => rfl); (case hg => rfl); (case hr => first | (go_simp; done) | (go_simp; rfl)); intro qA hg w4 qK hb; have zf := zx.mk (zl (g := yV) (o := .cells #[.string (⟨#[]⟩ : BA), .bool false, .int .i64 0, .slice none 0 0, .slice none 0 0, .slice none 0 0] 44 (0, 0)) (yt zB.out) hb); have zh := zx.mk (zl (g := qX) (o := .cells #[.string (⟨#[]⟩ : BA), .bool false, .int .i64 0, .slice none 0 0, .slice none 0 0, .slice none 0 0] 44 (0, 0)) (yt yj.out) hb); have zA := zx.mk (zl (g := yU) (o := .cells #[.string (⟨#[]⟩ : BA), .bool false, .int .i64 0, .slice none 0 0, .slice none 0 0, .slice none 0 0] 44 (0, 0)) (yt zF.out) hb); have zR := zx.mk (zI (zD HB.out) hb); have qV := zx.mk (qK); have xD := zx.mk ((by rw [hg]; exact (zV (zD HB.out)) : w.heap.size ≤ qA)); have vE := zx.mk ((by rw [hg]; exact (zV (zD HB.out)) : w.heap.size ≤ qA)); have vR := zx.mk ((by rw [hg]; exact Nat.ne_of_lt (uD (g := yV) (o := .cells #[.string (⟨#[]⟩ : BA), .bool false, .int .i64 0, .slice none 0 0, .slice none 0 0, .slice none 0 0] 44 (0, 0)) (yt zB.out)) : yV ≠ qA)); have uK := zx.mk ((by rw [hg]; exact Nat.ne_of_gt (uD (g := yV) (o := .cells #[.string (⟨#[]⟩ : BA), .bool false, .int .i64 0, .slice none 0 0, .slice none 0 0, .slice none 0 0] 44 (0, 0)) (yt zB.out)) : qA ≠ yV)); have uo := zx.mk ((by rw [hg]; exact Nat.ne_of_lt (uD (g := qX) (o := .cells #[.string (⟨#[]⟩ : BA), .bool false, .int .i64 0, .slice none 0 0, .slice none 0 0, .slice none 0 0] 44 (0, 0)) (yt yj.out)) : qX ≠ qA)); have vH := zx.mk ((by rw [hg]; exact Nat.ne_of_gt (uD (g := qX) (o := .cells #[.string (⟨#[]⟩ : BA), .bool false, .int .i64 0, .slice none 0 0, .slice none 0 0, .slice none 0 0] 44 (0, 0)) (yt yj.out)) : qA ≠ qX)); have uM := zx.mk ((by rw [hg]; exact Nat.ne_of_lt (uD (g := yU) (o := .cells #[.string (⟨#[]⟩ : BA), .bool false, .int .i64 0, .slice none 0 0, .slice none 0 0, .slice none 0 0] 44 (0, 0)) (yt zF.out)) : yU ≠ qA)); have wB := zx.mk ((by rw [hg]; exact Nat.ne_of_gt (uD (g := yU) (o := .cells #[.string (⟨#[]⟩ : BA), .bool false, .int .i64 0, .slice none 0 0, .slice none 0 0, .slice none 0 0] 44 (0, 0)) (yt zF.out)) : qA ≠ yU)); clear zB; clear yj; clear zF; clear HB; have zB := zf; have yj := zh; have zF := zA; have HB := zR; have yg := qV; have zii := xD; have za8 := vE; have Zf := vR; have Zg := uK; have Yo := uo; have Yp := vH; have Zh := uM; have Zi := wB; clear zf zh zA zR qV xD vE vR uK uo vH uM wB; clear hb qK hg) | ((with_reducible refine qx (N := 5) rfl ?_); refine ql ?hg (N := 5) ?hd (cs := #[.string (⟨#[]⟩ : BA), .bool false, .int .i64 0, .slice none 0 0, .slice none 0 0, .slice none 0 0]) (t := 44) ?hr ?_; (case hd => rfl); (case hg => rfl); (case hr => first | (go_simp; done) | (go_simp; rfl)); intro qI hg w5 qK hb; have zf := zx.mk (zl (g := yV) (o := .cells #[.string (⟨#[]⟩ : BA), .bool false, .int .i64 0, .slice none 0 0, .slice none 0 0, .slice none 0 0] 44 (0, 0)) (yt zB.out) hb); have zh := zx.mk (zl (g := qX) (o := .cells #[.string (⟨#[]⟩ : BA), .bool false, .int .i64 0, .slice none 0 0, .slice none 0 0, .slice none 0 0] 44 (0, 0)) (yt yj.out) hb); have zA := zx.mk (zl (g := yU) (o := .cells #[.string (⟨#[]⟩ : BA), .bool false, .int .i64 0, .slice none 0 0, .slice none 0 0, .slice none 0 0] 44 (0, 0)) (yt zF.out) hb); have zR := zx.mk (zl (g := qA) (o := .cells #[.string (⟨#[]⟩ : BA), .bool false, .int .i64 0, .slice none 0 0, .slice none 0 0, .slice none 0 0] 44 (0, 0)) (yt yg.out) hb); have qV := zx.mk (zI (zD HB.out) hb); have xD := zx.mk (qK); have vE := zx.mk ((by rw [hg]; exact (zV (zD HB.out)) : w.heap.size ≤ qI)); have vR := zx.mk ((by rw [hg]; exact (zV (zD HB.out)) : w.heap.size ≤ qI)); have uK := zx.mk ((by rw [hg]; exact Nat.ne_of_lt (uD (g := yV) (o := .cells #[.string (⟨#[]⟩ : BA), .bool false, .int .i64 0, .slice none 0 0, .slice none 0 0, .slice none 0 0] 44 (0, 0)) (yt zB.out)) : yV ≠ qI)); have uo := zx.mk ((by rw [hg]; exact Nat.ne_of_gt (uD (g := yV) (o := .cells #[.string (⟨#[]⟩ : BA), .bool false, .int .i64 0, .slice none 0 0, .slice none 0 0, .slice none 0 0] 44 (0, 0)) (yt zB.out)) : qI ≠ yV)); have vH := zx.mk ((by rw [hg]; exact Nat.ne_of_lt (uD (g := qX) (o := .cells #[.string (⟨#[]⟩ : BA), .bool false, .int .i64 0, .slice none 0 0, .slice none 0 0, .slice none 0 0] 44 (0, 0)) (yt yj.out)) : qX ≠ qI)); have uM := zx.mk ((by rw [hg]; exact Nat.ne_of_gt (uD (g := qX) (o := .cells #[.string (⟨#[]⟩ : BA), .bool false, .int .i64 0, .slice none 0 0, .slice none 0 0, .slice none 0 0] 44 (0, 0)) (yt yj.out)) : qI ≠ qX)); have wB := zx.mk ((by rw [hg]; exact Nat.ne_of_lt (uD (g := yU) (o := .cells #[.string (⟨#[]⟩ : BA), .bool false, .int .i64 0, .slice none 0 0, .slice none 0 0, .slice none 0 0] 44 (0, 0)) (yt zF.out)) : yU ≠ qI)); have YP := zx.mk ((by rw [hg]; exact Nat.ne_of_gt (uD (g := yU) (o := .cells #[.string (⟨#[]⟩ : BA), .bool false, .int .i64 0, .slice none 0 0, .slice none 0 0, .slice none 0 0] 44 (0, 0)) (yt zF.out)) : qI ≠ yU)); have VU := zx.mk ((by rw [hg]; exact Nat.ne_of_lt (uD (g := qA) (o := .cells #[.string (⟨#[]⟩ : BA), .bool false, .int .i64 0, .slice none 0 0, .slice none 0 0, .slice none 0 0] 44 (0, 0)) (yt yg.out)) : qA ≠ qI)); have zx1 := zx.mk ((by rw [hg]; exact Nat.ne_of_gt (uD (g := qA) (o := .cells #[.string (⟨#[]⟩ : BA), .bool false, .int .i64 0, .slice none 0 0, .slice none 0 0, .slice none 0 0] 44 (0, 0)) (yt yg.out)) : qI ≠ qA)); clear zB; clear yj; clear zF; clear yg; clear HB; have zB := zf; have yj := zh; have zF := zA; have yg := zR; have HB := qV; have yB := xD; have zil := vE; have za9 := vR; have pI := uK; have pO := uo; have Yz := vH; have Yq := uM; have pR := wB; have pU := YP; have Yx := VU; have Yj := zx1; clear zf zh zA zR qV xD vE vR uK uo vH uM wB YP VU zx1; clear hb qK hg; have zlF := Zb.out; have zlG := Zc.out; have zlH := pF.out; have zlI := pG.out; have zlL := Zf.out; have zlM := Zg.out; have zlN := pI.out; have zlO := pO.out; have bJ : w5.cell? ⟨yV, 0, none⟩ = some (.string (⟨#[]⟩ : BA)) := (zk zB.out 0).trans rfl; have bV : w5.cell? ⟨yV, 1, none⟩ = some (.bool false) := (zk zB.out 1).trans rfl; have bK : w5.cell? ⟨yV, 2, none⟩ = some (.int .i64 0) := (zk zB.out 2).trans rfl; have bY : w5.cell? ⟨yV, 3, none⟩ = some (.slice none 0 0) := (zk zB.out 3).trans rfl; have bW : w5.cell? ⟨yV, 4, none⟩ = some (.slice none 0 0) := (zk zB.out 4).trans rfl; have bg : w5.cell? ⟨yV, 5, none⟩ = some (.slice none 0 0) := (zk zB.out 5).trans rfl; have J8 := zw zB.out 0; have J9 := zw zB.out 1; have Kz := zw zB.out 2; have Kq := zw zB.out 3; have Kj := zw zB.out 4; have Kv := zw zB.out 5; have zim := Zd.out; have zin := Ze.out; have zio := Yo.out; have zir := Yp.out; have zis := Yz.out; have zit := Yq.out; have bn : w5.cell? ⟨qX, 0, none⟩ = some (.string (⟨#[]⟩ : BA)) := (zk yj.out 0).trans rfl; have bA : w5.cell? ⟨qX, 1, none⟩ = some (.bool false) := (zk yj.out 1).trans rfl; have bB : w5.cell? ⟨qX, 2, none⟩ = some (.int .i64 0) := (zk yj.out 2).trans rfl; have bC : w5.cell? ⟨qX, 3, none⟩ = some (.slice none 0 0) := (zk yj.out 3).trans rfl; have bD : w5.cell? ⟨qX, 4, none⟩ = some (.slice none 0 0) := (zk yj.out 4).trans rfl; have bE : w5.cell? ⟨qX, 5, none⟩ = some (.slice none 0 0) := (zk yj.out 5).trans rfl; have Kk := zw yj.out 0; have Ky := zw yj.out 1; have Kw := zw yj.out 2; have KZ := zw yj.out 3; have KQ := zw yj.out 4; have KX := zw yj.out 5; have ziu := Zh.out; have ziA := Zi.out; have ziB := pR.out; have ziC := pU.out; have oM : w5.cell? ⟨yU, 0, none⟩ = some (.string (⟨#[]⟩ : BA)) := (zk zF.out 0).trans rfl; have oN : w5.cell? ⟨yU, 1, none⟩ = some (.bool false) := (zk zF.out 1).trans rfl; have zvJ : w5.cell? ⟨yU, 2, none⟩ = some (.int .i64 0) := (zk zF.out 2).trans rfl; have zvV : w5.cell? ⟨yU, 3, none⟩ = some (.slice none 0 0) := (zk zF.out 3).trans rfl; have zvK : w5.cell? ⟨yU, 4, none⟩ = some (.slice none 0 0) := (zk zF.out 4).trans rfl; have zvY : w5.cell? ⟨yU, 5, none⟩ = some (.slice none 0 0) := (zk zF.out 5).trans rfl; have nO := zw zF.out 0; have nP := zw zF.out 1; have oO := zw zF.out 2; have oP := zw zF.out 3; have oU := zw zF.out 4; have o7 := zw zF.out 5; have ziD := Yx.out; have ziE := Yj.out; have zvW : w5.cell? ⟨qA, 0, none⟩ = some (.string (⟨#[]⟩ : BA)) := (zk yg.out 0).trans rfl; have zva : w5.cell? ⟨qA, 1, none⟩ = some (.bool false) := (zk yg.out 1).trans rfl; have zvb : w5.cell? ⟨qA, 2, none⟩ = some (.int .i64 0) := (zk yg.out 2).trans rfl; have zvc : w5.cell? ⟨qA, 3, none⟩ = some (.slice none 0 0) := (zk yg.out 3).trans rfl; have zvd : w5.cell? ⟨qA, 4, none⟩ = some (.slice none 0 0) := (zk yg.out 4).trans rfl; have zve : w5.cell? ⟨qA, 5, none⟩ = some (.slice none 0 0) := (zk yg.out 5).trans rfl; have o8 := zw yg.out 0; have o9 := zw yg.out 1; have zzq := zw yg.out 2; have zzx := zw yg.out 3; have zzj := zw yg.out 4; have zzv := zw yg.out 5; have zzk : w5.cell? ⟨qI, 0, none⟩ = some (.string (⟨#[]⟩ : BA)) := (zk yB.out 0).trans rfl; have zzy : w5.cell? ⟨qI, 1, none⟩ = some (.bool false) := (zk yB.out 1).trans rfl; have zzw : w5.cell? ⟨qI, 2, none⟩ = some (.int .i64 0) := (zk yB.out 2).trans rfl; have zzZ : w5.cell? ⟨qI, 3, none⟩ = some (.slice none 0 0) := (zk yB.out 3).trans rfl; have zzQ : w5.cell? ⟨qI, 4, none⟩ = some (.slice none 0 0) := (zk yB.out 4).trans rfl; have zzX : w5.cell? ⟨qI, 5, none⟩ = some (.slice none 0 0) := (zk yB.out 5).trans rfl; have rZ := zw yB.out 0; have rQ := zw yB.out 1; have rX := zw yB.out 2; have rJ := zw yB.out 3; have rV := zw yB.out 4; have rY := zw yB.out 5))
 go_loopg [6] k (fun kq v6 w' => ∃ (wU : Int) (jT : List (zo)) (xu : List (zo)) (ji : List (zo)) (xA : List (zo)) (xO : Value) (xH : Value) (qP : Value) (xk : Value), v6 = .int .i64 wU ∧ zx (za.l0 kq wU (⟨#[82]⟩ : BA) false 250 jT (⟨#[73]⟩ : BA) false 250 xu (⟨#[66]⟩ : BA) false 250 ji (⟨#[77]⟩ : BA) false 600 xA (⟨#[83]⟩ : BA) true 250 = some r) ∧ zx (kq ≤ k) ∧ zx (Kd.R qJ 81 w' w.heap.size (fun k_ => (w.heap.size ≤ k_) ∧ some k_ ≠ (xH : Value).ownBlock ∧ some k_ ≠ (qP : Value).ownBlock ∧ some k_ ≠ (xk : Value).ownBlock) xO jT) ∧ zx (Kd.R qJ 81 w' w.heap.size (fun k_ => (w.heap.size ≤ k_) ∧ some k_ ≠ (xO : Value).ownBlock ∧ some k_ ≠ (qP : Value).ownBlock ∧ some k_ ≠ (xk : Value).ownBlock) xH xu) ∧ zx (Kd.R qJ 81 w' w.heap.size (fun k_ => (w.heap.size ≤ k_) ∧ some k_ ≠ (xO : Value).ownBlock ∧ some k_ ≠ (xH : Value).ownBlock ∧ some k_ ≠ (xk : Value).ownBlock) qP ji) ∧ zx (Kd.R qJ 81 w' w.heap.size (fun k_ => (w.heap.size ≤ k_) ∧ some k_ ≠ (xO : Value).ownBlock ∧ some k_ ≠ (xH : Value).ownBlock ∧ some k_ ≠ (qP : Value).ownBlock) xk xA) ∧ zx (w'.heap[yV]? = some (.cells #[.string (⟨#[82]⟩ : BA), .bool false, .int .i64 250, xO, (.slice none 0 0), (.slice none 0 0)] 44 (0, 0))) ∧ zx (w'.heap[qX]? = some (.cells #[.string (⟨#[73]⟩ : BA), .bool false, .int .i64 250, xH, (.slice none 0 0), (.slice none 0 0)] 44 (0, 0))) ∧ zx (w'.heap[yU]? = some (.cells #[.string (⟨#[66]⟩ : BA), .bool false, .int .i64 250, qP, (.slice none 0 0), (.slice none 0 0)] 44 (0, 0))) ∧ zx (w'.heap[qA]? = some (.cells #[.string (⟨#[77]⟩ : BA), .bool false, .int .i64 600, xk, (.slice none 0 0), (.slice none 0 0)] 44 (0, 0))) ∧ zx (w'.heap[qI]? = some (.cells #[.string (⟨#[83]⟩ : BA), .bool true, .int .i64 250, (.slice none 0 0), (.slice none 0 0), (.slice none 0 0)] 44 (0, 0))) ∧ zx (Below w.heap.size w w'))
 case atStart => exact ⟨(33), (([] : List (zo))), (([] : List (zo))), (([] : List (zo))), (([] : List (zo))), (.slice none 0 0), (.slice none 0 0), (.slice none 0 0), (.slice none 0 0), (by first | rfl | (simp; done) | (simp [*]; done)), H', ⟨Nat.le_refl _⟩, ⟨by first | exact Kd.ku _ _ _ _ _ | exact Kd.JB _ _ _ _ _ | exact Kd.JD _ _ _ _ _ | exact Kd.Ju _ _ _ _ _ | exact Kd.JA _ _ _ _ _⟩, ⟨by first | exact Kd.ku _ _ _ _ _ | exact Kd.JB _ _ _ _ _ | exact Kd.JD _ _ _ _ _ | exact Kd.Ju _ _ _ _ _ | exact Kd.JA _ _ _ _ _⟩, ⟨by first | exact Kd.ku _ _ _ _ _ | exact Kd.JB _ _ _ _ _ | exact Kd.JD _ _ _ _ _ | exact Kd.Ju _ _ _ _ _ | exact Kd.JA _ _ _ _ _⟩, ⟨by first | exact Kd.ku _ _ _ _ _ | exact Kd.JB _ _ _ _ _ | exact Kd.JD _ _ _ _ _ | exact Kd.Ju _ _ _ _ _ | exact Kd.JA _ _ _ _ _⟩, ⟨by (with_reducible repeat (first | refine zJ ?_ _ | refine zX ?_ | refine zZ ?_ _)); refine zO ?_ pI.out _; (with_reducible repeat (first | refine zJ ?_ _ | refine zX ?_ | refine zZ ?_ _)); refine zO ?_ pI.out _; (with_reducible repeat (first | refine zJ ?_ _ | refine zX ?_ | refine zZ ?_ _)); refine zO ?_ pI.out _; (with_reducible repeat (first | refine zJ ?_ _ | refine zX ?_ | refine zZ ?_ _)); refine zO ?_ pI.out _; (with_reducible repeat (first | refine zJ ?_ _ | refine zX ?_ | refine zZ ?_ _)); refine zO ?_ pI.out _; (with_reducible repeat (first | refine zJ ?_ _ | refine zX ?_ | refine zZ ?_ _)); refine zO ?_ pI.out _; (with_reducible repeat (first | refine zJ ?_ _ | refine zX ?_ | refine zZ ?_ _)); refine zO ?_ Zf.out _; (with_reducible repeat (first | refine zJ ?_ _ | refine zX ?_ | refine zZ ?_ _)); refine zO ?_ Zf.out _; (with_reducible repeat (first | refine zJ ?_ _ | refine zX ?_ | refine zZ ?_ _)); refine zO ?_ Zf.out _; (with_reducible repeat (first | refine zJ ?_ _ | refine zX ?_ | refine zZ ?_ _)); refine zO ?_ Zf.out _; (with_reducible repeat (first | refine zJ ?_ _ | refine zX ?_ | refine zZ ?_ _)); refine zO ?_ Zf.out _; (with_reducible repeat (first | refine zJ ?_ _ | refine zX ?_ | refine zZ ?_ _)); refine zO ?_ Zf.out _; (with_reducible repeat (first | refine zJ ?_ _ | refine zX ?_ | refine zZ ?_ _)); refine zO ?_ pF.out _; (with_reducible repeat (first | refine zJ ?_ _ | refine zX ?_ | refine zZ ?_ _)); refine zO ?_ pF.out _; (with_reducible repeat (first | refine zJ ?_ _ | refine zX ?_ | refine zZ ?_ _)); refine zO ?_ pF.out _; (with_reducible repeat (first | refine zJ ?_ _ | refine zX ?_ | refine zZ ?_ _)); refine zO ?_ pF.out _; (with_reducible repeat (first | refine zJ ?_ _ | refine zX ?_ | refine zZ ?_ _)); refine zO ?_ pF.out _; (with_reducible repeat (first | refine zJ ?_ _ | refine zX ?_ | refine zZ ?_ _)); refine zO ?_ pF.out _; (with_reducible repeat (first | refine zJ ?_ _ | refine zX ?_ | refine zZ ?_ _)); refine zO ?_ Zb.out _; (with_reducible repeat (first | refine zJ ?_ _ | refine zX ?_ | refine zZ ?_ _)); refine zO ?_ Zb.out _; (with_reducible repeat (first | refine zJ ?_ _ | refine zX ?_ | refine zZ ?_ _)); refine zO ?_ Zb.out _; (with_reducible repeat (first | refine zJ ?_ _ | refine zX ?_ | refine zZ ?_ _)); refine zO ?_ Zb.out _; (with_reducible repeat (first | refine zJ ?_ _ | refine zX ?_ | refine zZ ?_ _)); refine zO ?_ Zb.out _; (with_reducible repeat (first | refine zJ ?_ _ | refine zX ?_ | refine zZ ?_ _)); refine zO ?_ Zb.out _; (with_reducible repeat (first | refine zJ ?_ _ | refine zX ?_ | refine zZ ?_ _)); refine yC (cs := #[.string (⟨#[82]⟩ : BA), .bool false, .int .i64 250, .slice none 0 0, .slice none 0 0, .slice none 0 0]) ?_ 5 _ rfl; (with_reducible repeat (first | refine zJ ?_ _ | refine zX ?_ | refine zZ ?_ _)); refine yC (cs := #[.string (⟨#[82]⟩ : BA), .bool false, .int .i64 250, .slice none 0 0, .slice none 0 0, .slice none 0 0]) ?_ 4 _ rfl; (with_reducible repeat (first | refine zJ ?_ _ | refine zX ?_ | refine zZ ?_ _)); refine yC (cs := #[.string (⟨#[82]⟩ : BA), .bool false, .int .i64 250, .slice none 0 0, .slice none 0 0, .slice none 0 0]) ?_ 3 _ rfl; (with_reducible repeat (first | refine zJ ?_ _ | refine zX ?_ | refine zZ ?_ _)); refine yC (cs := #[.string (⟨#[82]⟩ : BA), .bool false, .int .i64 0, .slice none 0 0, .slice none 0 0, .slice none 0 0]) ?_ 2 _ rfl; (with_reducible repeat (first | refine zJ ?_ _ | refine zX ?_ | refine zZ ?_ _)); refine yC (cs := #[.string (⟨#[82]⟩ : BA), .bool false, .int .i64 0, .slice none 0 0, .slice none 0 0, .slice none 0 0]) ?_ 1 _ rfl; (with_reducible repeat (first | refine zJ ?_ _ | refine zX ?_ | refine zZ ?_ _)); refine yC (cs := #[.string (⟨#[]⟩ : BA), .bool false, .int .i64 0, .slice none 0 0, .slice none 0 0, .slice none 0 0]) ?_ 0 _ rfl; (with_reducible repeat (first | refine zJ ?_ _ | refine zX ?_ | refine zZ ?_ _)); exact zB.out⟩, ⟨by (with_reducible repeat (first | refine zJ ?_ _ | refine zX ?_ | refine zZ ?_ _)); refine zO ?_ Yz.out _; (with_reducible repeat (first | refine zJ ?_ _ | refine zX ?_ | refine zZ ?_ _)); refine zO ?_ Yz.out _; (with_reducible repeat (first | refine zJ ?_ _ | refine zX ?_ | refine zZ ?_ _)); refine zO ?_ Yz.out _; (with_reducible repeat (first | refine zJ ?_ _ | refine zX ?_ | refine zZ ?_ _)); refine zO ?_ Yz.out _; (with_reducible repeat (first | refine zJ ?_ _ | refine zX ?_ | refine zZ ?_ _)); refine zO ?_ Yz.out _; (with_reducible repeat (first | refine zJ ?_ _ | refine zX ?_ | refine zZ ?_ _)); refine zO ?_ Yz.out _; (with_reducible repeat (first | refine zJ ?_ _ | refine zX ?_ | refine zZ ?_ _)); refine zO ?_ Yo.out _; (with_reducible repeat (first | refine zJ ?_ _ | refine zX ?_ | refine zZ ?_ _)); refine zO ?_ Yo.out _; (with_reducible repeat (first | refine zJ ?_ _ | refine zX ?_ | refine zZ ?_ _)); refine zO ?_ Yo.out _; (with_reducible repeat (first | refine zJ ?_ _ | refine zX ?_ | refine zZ ?_ _)); refine zO ?_ Yo.out _; (with_reducible repeat (first | refine zJ ?_ _ | refine zX ?_ | refine zZ ?_ _)); refine zO ?_ Yo.out _; (with_reducible repeat (first | refine zJ ?_ _ | refine zX ?_ | refine zZ ?_ _)); refine zO ?_ Yo.out _; (with_reducible repeat (first | refine zJ ?_ _ | refine zX ?_ | refine zZ ?_ _)); refine zO ?_ Zd.out _; (with_reducible repeat (first | refine zJ ?_ _ | refine zX ?_ | refine zZ ?_ _)); refine zO ?_ Zd.out _; (with_reducible repeat (first | refine zJ ?_ _ | refine zX ?_ | refine zZ ?_ _)); refine zO ?_ Zd.out _; (with_reducible repeat (first | refine zJ ?_ _ | refine zX ?_ | refine zZ ?_ _)); refine zO ?_ Zd.out _; (with_reducible repeat (first | refine zJ ?_ _ | refine zX ?_ | refine zZ ?_ _)); refine zO ?_ Zd.out _; (with_reducible repeat (first | refine zJ ?_ _ | refine zX ?_ | refine zZ ?_ _)); refine zO ?_ Zd.out _; (with_reducible repeat (first | refine zJ ?_ _ | refine zX ?_ | refine zZ ?_ _)); refine yC (cs := #[.string (⟨#[73]⟩ : BA), .bool false, .int .i64 250, .slice none 0 0, .slice none 0 0, .slice none 0 0]) ?_ 5 _ rfl; (with_reducible repeat (first | refine zJ ?_ _ | refine zX ?_ | refine zZ ?_ _)); refine yC (cs := #[.string (⟨#[73]⟩ : BA), .bool false, .int .i64 250, .slice none 0 0, .slice none 0 0, .slice none 0 0]) ?_ 4 _ rfl; (with_reducible repeat (first | refine zJ ?_ _ | refine zX ?_ | refine zZ ?_ _)); refine yC (cs := #[.string (⟨#[73]⟩ : BA), .bool false, .int .i64 250, .slice none 0 0, .slice none 0 0, .slice none 0 0]) ?_ 3 _ rfl; (with_reducible repeat (first | refine zJ ?_ _ | refine zX ?_ | refine zZ ?_ _)); refine yC (cs := #[.string (⟨#[73]⟩ : BA), .bool false, .int .i64 0, .slice none 0 0, .slice none 0 0, .slice none 0 0]) ?_ 2 _ rfl; (with_reducible repeat (first | refine zJ ?_ _ | refine zX ?_ | refine zZ ?_ _)); refine yC (cs := #[.string (⟨#[73]⟩ : BA), .bool false, .int .i64 0, .slice none 0 0, .slice none 0 0, .slice none 0 0]) ?_ 1 _ rfl; (with_reducible repeat (first | refine zJ ?_ _ | refine zX ?_ | refine zZ ?_ _)); refine yC (cs := #[.string (⟨#[]⟩ : BA), .bool false, .int .i64 0, .slice none 0 0, .slice none 0 0, .slice none 0 0]) ?_ 0 _ rfl; (with_reducible repeat (first | refine zJ ?_ _ | refine zX ?_ | refine zZ ?_ _)); refine zO ?_ Zc.out _; (with_reducible repeat (first | refine zJ ?_ _ | refine zX ?_ | refine zZ ?_ _)); refine zO ?_ Zc.out _; (with_reducible repeat (first | refine zJ ?_ _ | refine zX ?_ | refine zZ ?_ _)); refine zO ?_ Zc.out _; (with_reducible repeat (first | refine zJ ?_ _ | refine zX ?_ | refine zZ ?_ _)); refine zO ?_ Zc.out _; (with_reducible repeat (first | refine zJ ?_ _ | refine zX ?_ | refine zZ ?_ _)); refine zO ?_ Zc.out _; (with_reducible repeat (first | refine zJ ?_ _ | refine zX ?_ | refine zZ ?_ _)); refine zO ?_ Zc.out _; (with_reducible repeat (first | refine zJ ?_ _ | refine zX ?_ | refine zZ ?_ _)); exact yj.out⟩, ⟨by (with_reducible repeat (first | refine zJ ?_ _ | refine zX ?_ | refine zZ ?_ _)); refine zO ?_ pR.out _; (with_reducible repeat (first | refine zJ ?_ _ | refine zX ?_ | refine zZ ?_ _)); refine zO ?_ pR.out _; (with_reducible repeat (first | refine zJ ?_ _ | refine zX ?_ | refine zZ ?_ _)); refine zO ?_ pR.out _; (with_reducible repeat (first | refine zJ ?_ _ | refine zX ?_ | refine zZ ?_ _)); refine zO ?_ pR.out _; (with_reducible repeat (first | refine zJ ?_ _ | refine zX ?_ | refine zZ ?_ _)); refine zO ?_ pR.out _; (with_reducible repeat (first | refine zJ ?_ _ | refine zX ?_ | refine zZ ?_ _)); refine zO ?_ pR.out _; (with_reducible repeat (first | refine zJ ?_ _ | refine zX ?_ | refine zZ ?_ _)); refine zO ?_ Zh.out _; (with_reducible repeat (first | refine zJ ?_ _ | refine zX ?_ | refine zZ ?_ _)); refine zO ?_ Zh.out _; (with_reducible repeat (first | refine zJ ?_ _ | refine zX ?_ | refine zZ ?_ _)); refine zO ?_ Zh.out _; (with_reducible repeat (first | refine zJ ?_ _ | refine zX ?_ | refine zZ ?_ _)); refine zO ?_ Zh.out _; (with_reducible repeat (first | refine zJ ?_ _ | refine zX ?_ | refine zZ ?_ _)); refine zO ?_ Zh.out _; (with_reducible repeat (first | refine zJ ?_ _ | refine zX ?_ | refine zZ ?_ _)); refine zO ?_ Zh.out _; (with_reducible repeat (first | refine zJ ?_ _ | refine zX ?_ | refine zZ ?_ _)); refine yC (cs := #[.string (⟨#[66]⟩ : BA), .bool false, .int .i64 250, .slice none 0 0, .slice none 0 0, .slice none 0 0]) ?_ 5 _ rfl; (with_reducible repeat (first | refine zJ ?_ _ | refine zX ?_ | refine zZ ?_ _)); refine yC (cs := #[.string (⟨#[66]⟩ : BA), .bool false, .int .i64 250, .slice none 0 0, .slice none 0 0, .slice none 0 0]) ?_ 4 _ rfl; (with_reducible repeat (first | refine zJ ?_ _ | refine zX ?_ | refine zZ ?_ _)); refine yC (cs := #[.string (⟨#[66]⟩ : BA), .bool false, .int .i64 250, .slice none 0 0, .slice none 0 0, .slice none 0 0]) ?_ 3 _ rfl; (with_reducible repeat (first | refine zJ ?_ _ | refine zX ?_ | refine zZ ?_ _)); refine yC (cs := #[.string (⟨#[66]⟩ : BA), .bool false, .int .i64 0, .slice none 0 0, .slice none 0 0, .slice none 0 0]) ?_ 2 _ rfl; (with_reducible repeat (first | refine zJ ?_ _ | refine zX ?_ | refine zZ ?_ _)); refine yC (cs := #[.string (⟨#[66]⟩ : BA), .bool false, .int .i64 0, .slice none 0 0, .slice none 0 0, .slice none 0 0]) ?_ 1 _ rfl; (with_reducible repeat (first | refine zJ ?_ _ | refine zX ?_ | refine zZ ?_ _)); refine yC (cs := #[.string (⟨#[]⟩ : BA), .bool false, .int .i64 0, .slice none 0 0, .slice none 0 0, .slice none 0 0]) ?_ 0 _ rfl; (with_reducible repeat (first | refine zJ ?_ _ | refine zX ?_ | refine zZ ?_ _)); refine zO ?_ Ze.out _; (with_reducible repeat (first | refine zJ ?_ _ | refine zX ?_ | refine zZ ?_ _)); refine zO ?_ Ze.out _; (with_reducible repeat (first | refine zJ ?_ _ | refine zX ?_ | refine zZ ?_ _)); refine zO ?_ Ze.out _; (with_reducible repeat (first | refine zJ ?_ _ | refine zX ?_ | refine zZ ?_ _)); refine zO ?_ Ze.out _; (with_reducible repeat (first | refine zJ ?_ _ | refine zX ?_ | refine zZ ?_ _)); refine zO ?_ Ze.out _; (with_reducible repeat (first | refine zJ ?_ _ | refine zX ?_ | refine zZ ?_ _)); refine zO ?_ Ze.out _; (with_reducible repeat (first | refine zJ ?_ _ | refine zX ?_ | refine zZ ?_ _)); refine zO ?_ pG.out _; (with_reducible repeat (first | refine zJ ?_ _ | refine zX ?_ | refine zZ ?_ _)); refine zO ?_ pG.out _; (with_reducible repeat (first | refine zJ ?_ _ | refine zX ?_ | refine zZ ?_ _)); refine zO ?_ pG.out _; (with_reducible repeat (first | refine zJ ?_ _ | refine zX ?_ | refine zZ ?_ _)); refine zO ?_ pG.out _; (with_reducible repeat (first | refine zJ ?_ _ | refine zX ?_ | refine zZ ?_ _)); refine zO ?_ pG.out _; (with_reducible repeat (first | refine zJ ?_ _ | refine zX ?_ | refine zZ ?_ _)); refine zO ?_ pG.out _; (with_reducible repeat (first | refine zJ ?_ _ | refine zX ?_ | refine zZ ?_ _)); exact zF.out⟩, ⟨by (with_reducible repeat (first | refine zJ ?_ _ | refine zX ?_ | refine zZ ?_ _)); refine zO ?_ Yx.out _; (with_reducible repeat (first | refine zJ ?_ _ | refine zX ?_ | refine zZ ?_ _)); refine zO ?_ Yx.out _; (with_reducible repeat (first | refine zJ ?_ _ | refine zX ?_ | refine zZ ?_ _)); refine zO ?_ Yx.out _; (with_reducible repeat (first | refine zJ ?_ _ | refine zX ?_ | refine zZ ?_ _)); refine zO ?_ Yx.out _; (with_reducible repeat (first | refine zJ ?_ _ | refine zX ?_ | refine zZ ?_ _)); refine zO ?_ Yx.out _; (with_reducible repeat (first | refine zJ ?_ _ | refine zX ?_ | refine zZ ?_ _)); refine zO ?_ Yx.out _; (with_reducible repeat (first | refine zJ ?_ _ | refine zX ?_ | refine zZ ?_ _)); refine yC (cs := #[.string (⟨#[77]⟩ : BA), .bool false, .int .i64 600, .slice none 0 0, .slice none 0 0, .slice none 0 0]) ?_ 5 _ rfl; (with_reducible repeat (first | refine zJ ?_ _ | refine zX ?_ | refine zZ ?_ _)); refine yC (cs := #[.string (⟨#[77]⟩ : BA), .bool false, .int .i64 600, .slice none 0 0, .slice none 0 0, .slice none 0 0]) ?_ 4 _ rfl; (with_reducible repeat (first | refine zJ ?_ _ | refine zX ?_ | refine zZ ?_ _)); refine yC (cs := #[.string (⟨#[77]⟩ : BA), .bool false, .int .i64 600, .slice none 0 0, .slice none 0 0, .slice none 0 0]) ?_ 3 _ rfl; (with_reducible repeat (first | refine zJ ?_ _ | refine zX ?_ | refine zZ ?_ _)); refine yC (cs := #[.string (⟨#[77]⟩ : BA), .bool false, .int .i64 0, .slice none 0 0, .slice none 0 0, .slice none 0 0]) ?_ 2 _ rfl; (with_reducible repeat (first | refine zJ ?_ _ | refine zX ?_ | refine zZ ?_ _)); refine yC (cs := #[.string (⟨#[77]⟩ : BA), .bool false, .int .i64 0, .slice none 0 0, .slice none 0 0, .slice none 0 0]) ?_ 1 _ rfl; (with_reducible repeat (first | refine zJ ?_ _ | refine zX ?_ | refine zZ ?_ _)); refine yC (cs := #[.string (⟨#[]⟩ : BA), .bool false, .int .i64 0, .slice none 0 0, .slice none 0 0, .slice none 0 0]) ?_ 0 _ rfl; (with_reducible repeat (first | refine zJ ?_ _ | refine zX ?_ | refine zZ ?_ _)); refine zO ?_ Zi.out _; (with_reducible repeat (first | refine zJ ?_ _ | refine zX ?_ | refine zZ ?_ _)); refine zO ?_ Zi.out _; (with_reducible repeat (first | refine zJ ?_ _ | refine zX ?_ | refine zZ ?_ _)); refine zO ?_ Zi.out _; (with_reducible repeat (first | refine zJ ?_ _ | refine zX ?_ | refine zZ ?_ _)); refine zO ?_ Zi.out _; (with_reducible repeat (first | refine zJ ?_ _ | refine zX ?_ | refine zZ ?_ _)); refine zO ?_ Zi.out _; (with_reducible repeat (first | refine zJ ?_ _ | refine zX ?_ | refine zZ ?_ _)); refine zO ?_ Zi.out _; (with_reducible repeat (first | refine zJ ?_ _ | refine zX ?_ | refine zZ ?_ _)); refine zO ?_ Yp.out _; (with_reducible repeat (first | refine zJ ?_ _ | refine zX ?_ | refine zZ ?_ _)); refine zO ?_ Yp.out _; (with_reducible repeat (first | refine zJ ?_ _ | refine zX ?_ | refine zZ ?_ _)); refine zO ?_ Yp.out _; (with_reducible repeat (first | refine zJ ?_ _ | refine zX ?_ | refine zZ ?_ _)); refine zO ?_ Yp.out _; (with_reducible repeat (first | refine zJ ?_ _ | refine zX ?_ | refine zZ ?_ _)); refine zO ?_ Yp.out _; (with_reducible repeat (first | refine zJ ?_ _ | refine zX ?_ | refine zZ ?_ _)); refine zO ?_ Yp.out _; (with_reducible repeat (first | refine zJ ?_ _ | refine zX ?_ | refine zZ ?_ _)); refine zO ?_ Zg.out _; (with_reducible repeat (first | refine zJ ?_ _ | refine zX ?_ | refine zZ ?_ _)); refine zO ?_ Zg.out _; (with_reducible repeat (first | refine zJ ?_ _ | refine zX ?_ | refine zZ ?_ _)); refine zO ?_ Zg.out _; (with_reducible repeat (first | refine zJ ?_ _ | refine zX ?_ | refine zZ ?_ _)); refine zO ?_ Zg.out _; (with_reducible repeat (first | refine zJ ?_ _ | refine zX ?_ | refine zZ ?_ _)); refine zO ?_ Zg.out _; (with_reducible repeat (first | refine zJ ?_ _ | refine zX ?_ | refine zZ ?_ _)); refine zO ?_ Zg.out _; (with_reducible repeat (first | refine zJ ?_ _ | refine zX ?_ | refine zZ ?_ _)); exact yg.out⟩, ⟨by (with_reducible repeat (first | refine zJ ?_ _ | refine zX ?_ | refine zZ ?_ _)); refine yC (cs := #[.string (⟨#[83]⟩ : BA), .bool true, .int .i64 250, .slice none 0 0, .slice none 0 0, .slice none 0 0]) ?_ 5 _ rfl; (with_reducible repeat (first | refine zJ ?_ _ | refine zX ?_ | refine zZ ?_ _)); refine yC (cs := #[.string (⟨#[83]⟩ : BA), .bool true, .int .i64 250, .slice none 0 0, .slice none 0 0, .slice none 0 0]) ?_ 4 _ rfl; (with_reducible repeat (first | refine zJ ?_ _ | refine zX ?_ | refine zZ ?_ _)); refine yC (cs := #[.string (⟨#[83]⟩ : BA), .bool true, .int .i64 250, .slice none 0 0, .slice none 0 0, .slice none 0 0]) ?_ 3 _ rfl; (with_reducible repeat (first | refine zJ ?_ _ | refine zX ?_ | refine zZ ?_ _)); refine yC (cs := #[.string (⟨#[83]⟩ : BA), .bool true, .int .i64 0, .slice none 0 0, .slice none 0 0, .slice none 0 0]) ?_ 2 _ rfl; (with_reducible repeat (first | refine zJ ?_ _ | refine zX ?_ | refine zZ ?_ _)); refine yC (cs := #[.string (⟨#[83]⟩ : BA), .bool false, .int .i64 0, .slice none 0 0, .slice none 0 0, .slice none 0 0]) ?_ 1 _ rfl; (with_reducible repeat (first | refine zJ ?_ _ | refine zX ?_ | refine zZ ?_ _)); refine yC (cs := #[.string (⟨#[]⟩ : BA), .bool false, .int .i64 0, .slice none 0 0, .slice none 0 0, .slice none 0 0]) ?_ 0 _ rfl; (with_reducible repeat (first | refine zJ ?_ _ | refine zX ?_ | refine zZ ?_ _)); refine zO ?_ Yj.out _; (with_reducible repeat (first | refine zJ ?_ _ | refine zX ?_ | refine zZ ?_ _)); refine zO ?_ Yj.out _; (with_reducible repeat (first | refine zJ ?_ _ | refine zX ?_ | refine zZ ?_ _)); refine zO ?_ Yj.out _; (with_reducible repeat (first | refine zJ ?_ _ | refine zX ?_ | refine zZ ?_ _)); refine zO ?_ Yj.out _; (with_reducible repeat (first | refine zJ ?_ _ | refine zX ?_ | refine zZ ?_ _)); refine zO ?_ Yj.out _; (with_reducible repeat (first | refine zJ ?_ _ | refine zX ?_ | refine zZ ?_ _)); refine zO ?_ Yj.out _; (with_reducible repeat (first | refine zJ ?_ _ | refine zX ?_ | refine zZ ?_ _)); refine zO ?_ pU.out _; (with_reducible repeat (first | refine zJ ?_ _ | refine zX ?_ | refine zZ ?_ _)); refine zO ?_ pU.out _; (with_reducible repeat (first | refine zJ ?_ _ | refine zX ?_ | refine zZ ?_ _)); refine zO ?_ pU.out _; (with_reducible repeat (first | refine zJ ?_ _ | refine zX ?_ | refine zZ ?_ _)); refine zO ?_ pU.out _; (with_reducible repeat (first | refine zJ ?_ _ | refine zX ?_ | refine zZ ?_ _)); refine zO ?_ pU.out _; (with_reducible repeat (first | refine zJ ?_ _ | refine zX ?_ | refine zZ ?_ _)); refine zO ?_ pU.out _; (with_reducible repeat (first | refine zJ ?_ _ | refine zX ?_ | refine zZ ?_ _)); refine zO ?_ Yq.out _; (with_reducible repeat (first | refine zJ ?_ _ | refine zX ?_ | refine zZ ?_ _)); refine zO ?_ Yq.out _; (with_reducible repeat (first | refine zJ ?_ _ | refine zX ?_ | refine zZ ?_ _)); refine zO ?_ Yq.out _; (with_reducible repeat (first | refine zJ ?_ _ | refine zX ?_ | refine zZ ?_ _)); refine zO ?_ Yq.out _; (with_reducible repeat (first | refine zJ ?_ _ | refine zX ?_ | refine zZ ?_ _)); refine zO ?_ Yq.out _; (with_reducible repeat (first | refine zJ ?_ _ | refine zX ?_ | refine zZ ?_ _)); refine zO ?_ Yq.out _; (with_reducible repeat (first | refine zJ ?_ _ | refine zX ?_ | refine zZ ?_ _)); refine zO ?_ pO.out _; (with_reducible repeat (first | refine zJ ?_ _ | refine zX ?_ | refine zZ ?_ _)); refine zO ?_ pO.out _; (with_reducible repeat (first | refine zJ ?_ _ | refine zX ?_ | refine zZ ?_ _)); refine zO ?_ pO.out _; (with_reducible repeat (first | refine zJ ?_ _ | refine zX ?_ | refine zZ ?_ _)); refine zO ?_ pO.out _; (with_reducible repeat (first | refine zJ ?_ _ | refine zX ?_ | refine zZ ?_ _)); refine zO ?_ pO.out _; (with_reducible repeat (first | refine zJ ?_ _ | refine zX ?_ | refine zZ ?_ _)); refine zO ?_ pO.out _; (with_reducible repeat (first | refine zJ ?_ _ | refine zX ?_ | refine zZ ?_ _)); exact yB.out⟩, ⟨zD HB.out⟩⟩
 case round =>
  clear H'
  try clear c1
  try clear p2
  try clear c6
  try clear c7
  try clear c8
  try clear c9
  try clear c11
  try clear c12
  try clear c13
  try clear c14
  try clear c15
  try clear c16
  try clear c18
  try clear bJ
  try clear bV
  try clear bK
  try clear bY
  try clear bW
  try clear bg
  try clear bn
  try clear bA
  try clear bB
  try clear bC
  try clear bD
  try clear bE
  try clear oM
  try clear oN
  try clear zvJ
  try clear zvV
  try clear zvK
  try clear zvY
  try clear zvW
  try clear zva
  try clear zvb
  try clear zvc
  try clear zvd
  try clear zve
  try clear zzk
  try clear zzy
  try clear zzw
  try clear zzZ
  try clear zzQ
  try clear zzX
  try clear J8
  try clear J9
  try clear Kz
  try clear Kq
  try clear Kj
  try clear Kv
  try clear Kk
  try clear Ky
  try clear Kw
  try clear KZ
  try clear KQ
  try clear KX
  try clear nO
  try clear nP
  try clear oO
  try clear oP
  try clear oU
  try clear o7
  try clear o8
  try clear o9
  try clear zzq
  try clear zzx
  try clear zzj
  try clear zzv
  try clear rZ
  try clear rQ
  try clear rX
  try clear rJ
  try clear rV
  try clear rY
  obtain ⟨wU, jT, xu, ji, xA, xO, xH, qP, xk, rfl, HA, jv, yw, yX, yZ, yJ, zB, yj, zF, yg, yB, HB⟩ := hrel
  cases gk with
  | zero => exact absurd HA.out (by simp [za.l0])
  | succ k1 =>
   have H := HA.out
   clear HA
   simp only [za.l0] at H
   by_cases c21 : wU ≤ 126
   ·rw [if_pos c21] at H
    have zJJ : decide (wU ≤ 126) = true := decide_eq_true c21
    clear c21
    obtain ⟨wK, iJ⟩ : ∃ y_ : List Int, y_ = (([(wU) % 256] : List Int)) := ⟨_, rfl⟩
    replace H : ((qd.f k1 ((wU) % 256)).bind fun t157 => ((yE.f k1 jT (strOfNums wK) t157).bind fun wu => ((yE.f k1 xu (strOfNums wK) (mx (wrap64 (t157 - 20)) 0)).bind fun kP => ((yE.f k1 ji (strOfNums wK) (wrap64 (t157 + 50))).bind fun t164 => ((yE.f k1 xA (strOfNums wK) 600).bind fun t167 => (za.l0 k1 (wrap64 (wU + 1)) (⟨#[82]⟩ : BA) false 250 wu (⟨#[73]⟩ : BA) false 250 kP (⟨#[66]⟩ : BA) false 250 t164 (⟨#[77]⟩ : BA) false 600 t167 (⟨#[83]⟩ : BA) true 250)))))) = some r := by first | (rw [iJ]; with_reducible exact H) | (have xJ := (Option.bind_some _ _).symm.trans H; rw [iJ]; with_reducible exact xJ) | (have xJ := (Option.bind_some _ _).symm.trans H; with_reducible exact xJ) | with_reducible exact H | (rw [iJ]; exact H) | exact H
    have zq3 := zx.mk iJ
    clear iJ
    replace H := Option.bind_eq_some_iff.mp H
    obtain ⟨t157, zx2, H⟩ := H
    replace H : ((yE.f k1 jT (strOfNums wK) t157).bind fun wu => ((yE.f k1 xu (strOfNums wK) (mx (wrap64 (t157 - 20)) 0)).bind fun kP => ((yE.f k1 ji (strOfNums wK) (wrap64 (t157 + 50))).bind fun t164 => ((yE.f k1 xA (strOfNums wK) 600).bind fun t167 => (za.l0 k1 (wrap64 (wU + 1)) (⟨#[82]⟩ : BA) false 250 wu (⟨#[73]⟩ : BA) false 250 kP (⟨#[66]⟩ : BA) false 250 t164 (⟨#[77]⟩ : BA) false 600 t167 (⟨#[83]⟩ : BA) true 250))))) = some r := H
    have A22 := zx.mk zx2
    clear zx2
    replace H := Option.bind_eq_some_iff.mp H
    obtain ⟨wu, zWV, H⟩ := H
    replace H : ((yE.f k1 xu (strOfNums wK) (mx (wrap64 (t157 - 20)) 0)).bind fun kP => ((yE.f k1 ji (strOfNums wK) (wrap64 (t157 + 50))).bind fun t164 => ((yE.f k1 xA (strOfNums wK) 600).bind fun t167 => (za.l0 k1 (wrap64 (wU + 1)) (⟨#[82]⟩ : BA) false 250 wu (⟨#[73]⟩ : BA) false 250 kP (⟨#[66]⟩ : BA) false 250 t164 (⟨#[77]⟩ : BA) false 600 t167 (⟨#[83]⟩ : BA) true 250)))) = some r := H
    have A23 := zx.mk zWV
    clear zWV
    obtain ⟨zzJ, dV⟩ : ∃ j_ : Int, (mx (wrap64 (t157 - 20)) 0) = j_ := ⟨_, rfl⟩
    replace H : ((yE.f k1 xu (strOfNums wK) (zzJ)).bind fun kP => ((yE.f k1 ji (strOfNums wK) (wrap64 (t157 + 50))).bind fun t164 => ((yE.f k1 xA (strOfNums wK) 600).bind fun t167 => (za.l0 k1 (wrap64 (wU + 1)) (⟨#[82]⟩ : BA) false 250 wu (⟨#[73]⟩ : BA) false 250 kP (⟨#[66]⟩ : BA) false 250 t164 (⟨#[77]⟩ : BA) false 600 t167 (⟨#[83]⟩ : BA) true 250)))) = some r := by first | (rw [dV] at H; exact H) | (simp only [dV] at H ⊢; exact H)
    (try rw [dV] at A22)
    (try rw [dV] at A23)
    (try (have zhO : 0 ≤ zzJ := by (rw [← dV]; unfold mx; (repeat' split) <;> omega)))
    (try (have zhP : 0 ≤ zzJ := by omega))
    have zhR : (if (wrap64 (t157 - 20)) < 0 then 0 else (wrap64 (t157 - 20))) = zzJ := dV
    replace H := Option.bind_eq_some_iff.mp H
    obtain ⟨kP, zWK, H⟩ := H
    replace H : ((yE.f k1 ji (strOfNums wK) (wrap64 (t157 + 50))).bind fun t164 => ((yE.f k1 xA (strOfNums wK) 600).bind fun t167 => (za.l0 k1 (wrap64 (wU + 1)) (⟨#[82]⟩ : BA) false 250 wu (⟨#[73]⟩ : BA) false 250 kP (⟨#[66]⟩ : BA) false 250 t164 (⟨#[77]⟩ : BA) false 600 t167 (⟨#[83]⟩ : BA) true 250))) = some r := H
    have A25 := zx.mk zWK
    clear zWK
    replace H := Option.bind_eq_some_iff.mp H
    obtain ⟨t164, zWY, H⟩ := H
    replace H : ((yE.f k1 xA (strOfNums wK) 600).bind fun t167 => (za.l0 k1 (wrap64 (wU + 1)) (⟨#[82]⟩ : BA) false 250 wu (⟨#[73]⟩ : BA) false 250 kP (⟨#[66]⟩ : BA) false 250 t164 (⟨#[77]⟩ : BA) false 600 t167 (⟨#[83]⟩ : BA) true 250)) = some r := H
    have A26 := zx.mk zWY
    clear zWY
    replace H := Option.bind_eq_some_iff.mp H
    obtain ⟨t167, zWW, H⟩ := H
    replace H : (za.l0 k1 (wrap64 (wU + 1)) (⟨#[82]⟩ : BA) false 250 wu (⟨#[73]⟩ : BA) false 250 kP (⟨#[66]⟩ : BA) false 250 t164 (⟨#[77]⟩ : BA) false 600 t167 (⟨#[83]⟩ : BA) true 250) = some r := H
    have A27 := zx.mk zWW
    clear zWW
    have H' := zx.mk H
    clear H
    try go_wp2
    have zf := zx.mk (Kd.qw yw.out)
    have zh := zx.mk (Kd.qw yX.out)
    have zA := zx.mk (Kd.qw yZ.out)
    have zR := zx.mk (Kd.qw yJ.out)
    have qV := zx.mk (zX zB.out)
    have xD := zx.mk (zX yj.out)
    have vE := zx.mk (zX zF.out)
    have vR := zx.mk (zX yg.out)
    have uK := zx.mk (zX yB.out)
    have uo := zx.mk (yT HB.out)
    clear yw yX yZ yJ zB yj zF yg yB HB
    have yw := zf
    have yX := zh
    have yZ := zA
    have yJ := zR
    have zB := qV
    have yj := xD
    have zF := vE
    have yg := vR
    have yB := uK
    have HB := uo
    clear zf zh zA zR qV xD vE vR uK uo
    refine Zj (n := 9) (S := fun w' => True) (ds := []) #[false, false, false, false, false, false, false, false, false] (by kernel_rfl) rfl rfl trivial (fun hHeld => ?_); refine wL za.dX za.dJ (fun zM jJ => ?_)
    generalize wr.drew = w28 at yw yX yZ yJ zB yj zF yg yB HB hHeld ⊢
    refine qW 0 (some 22) zM ?_
    refine qW 1 (some 23) zM ?_
    refine qW 4 (some 26) zM ?_
    refine qW 5 (some 27) zM ?_
    refine zy3 (σ := Value) 2 #[true, true, true, true, true, true, true, false, false] (fun s_ => [(24, s_), (25, .string (strOfNums wK)), (28, .int .i64 t157)]) (fun s_ w' => (Kd.R (Kd.int .u8) 5 w' w.heap.size (fun k_ => (w.heap.size ≤ k_)) s_ wK) ∧ (Kd.R qJ 81 w' w.heap.size (fun k_ => (w.heap.size ≤ k_) ∧ some k_ ≠ (xH : Value).ownBlock ∧ some k_ ≠ (qP : Value).ownBlock ∧ some k_ ≠ (xk : Value).ownBlock) xO jT) ∧ (Kd.R qJ 81 w' w.heap.size (fun k_ => (w.heap.size ≤ k_) ∧ some k_ ≠ (xO : Value).ownBlock ∧ some k_ ≠ (qP : Value).ownBlock ∧ some k_ ≠ (xk : Value).ownBlock) xH xu) ∧ (Kd.R qJ 81 w' w.heap.size (fun k_ => (w.heap.size ≤ k_) ∧ some k_ ≠ (xO : Value).ownBlock ∧ some k_ ≠ (xH : Value).ownBlock ∧ some k_ ≠ (xk : Value).ownBlock) qP ji) ∧ (Kd.R qJ 81 w' w.heap.size (fun k_ => (w.heap.size ≤ k_) ∧ some k_ ≠ (xO : Value).ownBlock ∧ some k_ ≠ (xH : Value).ownBlock ∧ some k_ ≠ (qP : Value).ownBlock) xk xA) ∧ (w'.heap[yV]? = some (.cells #[.string (⟨#[82]⟩ : BA), .bool false, .int .i64 250, xO, .slice none 0 0, .slice none 0 0] 44 (0, 0))) ∧ (w'.heap[qX]? = some (.cells #[.string (⟨#[73]⟩ : BA), .bool false, .int .i64 250, xH, .slice none 0 0, .slice none 0 0] 44 (0, 0))) ∧ (w'.heap[yU]? = some (.cells #[.string (⟨#[66]⟩ : BA), .bool false, .int .i64 250, qP, .slice none 0 0, .slice none 0 0] 44 (0, 0))) ∧ (w'.heap[qA]? = some (.cells #[.string (⟨#[77]⟩ : BA), .bool false, .int .i64 600, xk, .slice none 0 0, .slice none 0 0] 44 (0, 0))) ∧ (w'.heap[qI]? = some (.cells #[.string (⟨#[83]⟩ : BA), .bool true, .int .i64 250, .slice none 0 0, .slice none 0 0, .slice none 0 0] 44 (0, 0))) ∧ (Below w.heap.size w w')) ?_ ?_
    rotate_left
    ·intro V3
     refine oq (i := 2) (j := 6) (Ni := some 24) (Nj := some 28) #[true, true, true, false, true, true, false, false, false] #[true, true, false, false, true, true, true, false, false] rfl rfl rfl rfl (PD zM.out (by kernel_rfl)) (by decide) (by decide) (fun K hK => ?_) (fun K hK => ?_)
     ·skip
      refine Kd.Qy (Kd.int .u8) _ 5 ?hg (N := 24) ?hd (xs := ([(wU) % 256] : List Int)) (inner := [.int .u8 ((wU) % 256)]) (ok := fun _ => True) (jc := fun _ => True) ?hr ?hp (fun _ hk => hk) trivial (Below.refl _ _) (Nat.le_refl _) (by simp) ?_; (case hd => rfl); (case hg => rfl); (case hr => first | (go_simp; done) | (go_simp; rfl)); (case hp => exact (yS.one (show Kd.M (Kd.int .u8) _ _ _ ((wU) % 256) [.int .u8 ((wU) % 256)] from rfl) (yS.none _ _)))
      intro zzV bF KS hb wo ug
      clear wo ug
      (first | rw [← zq3.out] at KS | (simp only [Int.reduceToNat] at KS; rw [← zq3.out] at KS))
      have zf := zx.mk (Kd.qz (yF yw.out) hb)
      have zh := zx.mk (Kd.qz (yF yX.out) hb)
      have zA := zx.mk (Kd.qz (yF yZ.out) hb)
      have zR := zx.mk (Kd.qz (yF yJ.out) hb)
      have qV := zx.mk (Kd.xI (Kd.wM (M := fun k_ => (w.heap.size ≤ k_)) KS (zV (zD HB.out)) (fun k_ h_ => h_)) (zV (zD HB.out)))
      have xD := zx.mk (zl (g := yV) (o := .cells #[.string (⟨#[82]⟩ : BA), .bool false, .int .i64 250, xO, .slice none 0 0, .slice none 0 0] 44 (0, 0)) (yt zB.out) hb)
      have vE := zx.mk (zl (g := qX) (o := .cells #[.string (⟨#[73]⟩ : BA), .bool false, .int .i64 250, xH, .slice none 0 0, .slice none 0 0] 44 (0, 0)) (yt yj.out) hb)
      have vR := zx.mk (zl (g := yU) (o := .cells #[.string (⟨#[66]⟩ : BA), .bool false, .int .i64 250, qP, .slice none 0 0, .slice none 0 0] 44 (0, 0)) (yt zF.out) hb)
      have uK := zx.mk (zl (g := qA) (o := .cells #[.string (⟨#[77]⟩ : BA), .bool false, .int .i64 600, xk, .slice none 0 0, .slice none 0 0] 44 (0, 0)) (yt yg.out) hb)
      have uo := zx.mk (zl (g := qI) (o := .cells #[.string (⟨#[83]⟩ : BA), .bool true, .int .i64 250, .slice none 0 0, .slice none 0 0, .slice none 0 0] 44 (0, 0)) (yt yB.out) hb)
      have vH := zx.mk (zI (zD HB.out) hb)
      clear yw yX yZ yJ zB yj zF yg yB HB
      have yw := zf
      have yX := zh
      have yZ := zA
      have yJ := zR
      have ZA := qV
      have zB := xD
      have yj := vE
      have zF := vR
      have yg := uK
      have yB := uo
      have HB := vH
      clear zf zh zA zR qV xD vE vR uK uo vH hb KS
      refine hK.out _ _ trivial (fun hHeld => ?_)
      clear hK K
      refine wX (some 24) ?_
      refine oq (i := 3) (j := 6) (Ni := some 25) (Nj := some 28) #[true, true, true, true, true, true, false, false, false] #[true, true, true, false, true, true, true, false, false] rfl rfl rfl rfl (PD zM.out (by kernel_rfl)) (by decide) (by decide) (fun K hK => ?_) (fun K hK => ?_)
      ·skip
       have rW := wE (P := Tryz.prog) Tryz.underlying66 Tryz.underlying5 Tryz.underlying9 (Kd.ZC ZA.out)
       refine Jj ?_
       clear rW
       refine hK.out _ _ trivial (fun hHeld => ?_)
       clear hK K
       refine wX (some 25) ?_
       refine ZH 6 (some 28) zM (fun K hK => ?_)
       refine Xv Tryz.func37 (by kernel_rfl) rfl #[.int .u8 ((wU) % 256)] (by rfl) rfl rfl (by (try simp only [List.map_toArray, List.map_cons, List.map_nil]); first | done | rfl | (simp only [List.length_drop, List.length_take]; rfl)) ?_
       with_reducible refine (qd.calls k1 ((wU) % 256) t157 _ A22.out).mono ?_
       rintro e w' ⟨rfl, ⟨nd, rfl⟩⟩
       refine ⟨_, rfl, ?_⟩
       refine hK.out _ _ trivial (fun hHeld => ?_)
       clear hK K
       refine wX (some 28) ?_
       exact YK (by simp only [YZ, Act.put, List.setIfInBounds_toArray, List.set_cons_zero, List.set_cons_succ]) (V3 (zzV) _ ⟨(yF (Kd.zL ZA.out (fun _ hk => hk.1))), (yF yw.out), (yF yX.out), (yF yZ.out), (yF yJ.out), (yt zB.out), (yt yj.out), (yt zF.out), (yt yg.out), (yt yB.out), (zD HB.out)⟩)
      ·skip
       refine Xv Tryz.func37 (by kernel_rfl) rfl #[.int .u8 ((wU) % 256)] (by rfl) rfl rfl (by (try simp only [List.map_toArray, List.map_cons, List.map_nil]); first | done | rfl | (simp only [List.length_drop, List.length_take]; rfl)) ?_
       with_reducible refine (qd.calls k1 ((wU) % 256) t157 _ A22.out).mono ?_
       rintro e w' ⟨rfl, ⟨nd, rfl⟩⟩
       refine ⟨_, rfl, ?_⟩
       refine hK.out _ _ trivial (fun hHeld => ?_)
       clear hK K
       refine wX (some 28) ?_
       refine ZH 3 (some 25) zM (fun K hK => ?_)
       have rW := wE (P := Tryz.prog) Tryz.underlying66 Tryz.underlying5 Tryz.underlying9 (Kd.ZC (Kd.qL ZA.out nd))
       refine Jj ?_
       clear rW
       refine hK.out _ _ trivial (fun hHeld => ?_)
       clear hK K
       refine wX (some 25) ?_
       exact YK (by simp only [YZ, Act.put, List.setIfInBounds_toArray, List.set_cons_zero, List.set_cons_succ]) (V3 (zzV) _ ⟨(yF (Kd.zL ZA.out (fun _ hk => hk.1))), (yF yw.out), (yF yX.out), (yF yZ.out), (yF yJ.out), (yt zB.out), (yt yj.out), (yt zF.out), (yt yg.out), (yt yB.out), (zD HB.out)⟩)
     ·skip
      refine Xv Tryz.func37 (by kernel_rfl) rfl #[.int .u8 ((wU) % 256)] (by rfl) rfl rfl (by (try simp only [List.map_toArray, List.map_cons, List.map_nil]); first | done | rfl | (simp only [List.length_drop, List.length_take]; rfl)) ?_
      with_reducible refine (qd.calls k1 ((wU) % 256) t157 _ A22.out).mono ?_
      rintro e w' ⟨rfl, ⟨nd, rfl⟩⟩
      refine ⟨_, rfl, ?_⟩
      refine hK.out _ _ trivial (fun hHeld => ?_)
      clear hK K
      refine wX (some 28) ?_
      refine ZH 2 (some 24) zM (fun K hK => ?_)
      refine Kd.Qy (Kd.int .u8) _ 5 ?hg (N := 24) ?hd (xs := ([(wU) % 256] : List Int)) (inner := [.int .u8 ((wU) % 256)]) (ok := fun _ => True) (jc := fun _ => True) ?hr ?hp (fun _ hk => hk) trivial (Below.refl _ _) (Nat.le_refl _) (by simp) ?_; (case hd => rfl); (case hg => rfl); (case hr => first | (go_simp; done) | (go_simp; rfl)); (case hp => exact (yS.one (show Kd.M (Kd.int .u8) _ _ _ ((wU) % 256) [.int .u8 ((wU) % 256)] from rfl) (yS.none _ _)))
      intro zzV bF KS hb wo ug
      clear wo ug
      (first | rw [← zq3.out] at KS | (simp only [Int.reduceToNat] at KS; rw [← zq3.out] at KS))
      have zf := zx.mk (Kd.qz (yF yw.out) hb)
      have zh := zx.mk (Kd.qz (yF yX.out) hb)
      have zA := zx.mk (Kd.qz (yF yZ.out) hb)
      have zR := zx.mk (Kd.qz (yF yJ.out) hb)
      have qV := zx.mk (Kd.xI (Kd.wM (M := fun k_ => (w.heap.size ≤ k_)) KS (zV (zD HB.out)) (fun k_ h_ => h_)) (zV (zD HB.out)))
      have xD := zx.mk (zl (g := yV) (o := .cells #[.string (⟨#[82]⟩ : BA), .bool false, .int .i64 250, xO, .slice none 0 0, .slice none 0 0] 44 (0, 0)) (yt zB.out) hb)
      have vE := zx.mk (zl (g := qX) (o := .cells #[.string (⟨#[73]⟩ : BA), .bool false, .int .i64 250, xH, .slice none 0 0, .slice none 0 0] 44 (0, 0)) (yt yj.out) hb)
      have vR := zx.mk (zl (g := yU) (o := .cells #[.string (⟨#[66]⟩ : BA), .bool false, .int .i64 250, qP, .slice none 0 0, .slice none 0 0] 44 (0, 0)) (yt zF.out) hb)
      have uK := zx.mk (zl (g := qA) (o := .cells #[.string (⟨#[77]⟩ : BA), .bool false, .int .i64 600, xk, .slice none 0 0, .slice none 0 0] 44 (0, 0)) (yt yg.out) hb)
      have uo := zx.mk (zl (g := qI) (o := .cells #[.string (⟨#[83]⟩ : BA), .bool true, .int .i64 250, .slice none 0 0, .slice none 0 0, .slice none 0 0] 44 (0, 0)) (yt yB.out) hb)
      have vH := zx.mk (zI (zD HB.out) hb)
      clear yw yX yZ yJ zB yj zF yg yB HB
      have yw := zf
      have yX := zh
      have yZ := zA
      have yJ := zR
      have ZA := qV
      have zB := xD
      have yj := vE
      have zF := vR
      have yg := uK
      have yB := uo
      have HB := vH
      clear zf zh zA zR qV xD vE vR uK uo vH hb KS
      refine hK.out _ _ trivial (fun hHeld => ?_)
      clear hK K
      refine wX (some 24) ?_
      refine ZH 3 (some 25) zM (fun K hK => ?_)
      have rW := wE (P := Tryz.prog) Tryz.underlying66 Tryz.underlying5 Tryz.underlying9 (Kd.ZC ZA.out)
      refine Jj ?_
      clear rW
      refine hK.out _ _ trivial (fun hHeld => ?_)
      clear hK K
      refine wX (some 25) ?_
      exact YK (by simp only [YZ, Act.put, List.setIfInBounds_toArray, List.set_cons_zero, List.set_cons_succ]) (V3 (zzV) _ ⟨(yF (Kd.zL ZA.out (fun _ hk => hk.1))), (yF yw.out), (yF yX.out), (yF yZ.out), (yF yJ.out), (yt zB.out), (yt yj.out), (yt zF.out), (yt yg.out), (yt yB.out), (zD HB.out)⟩)
    rintro zzV w32 ⟨h0_, h1_, h2_, h3_, h4_, h5_, h6_, h7_, h8_, h9_, zWa⟩
    have zf : zx (Kd.R (Kd.int .u8) 5 w32 w.heap.size (fun k_ => (w.heap.size ≤ k_)) zzV wK) := ⟨h0_⟩
    have zh : zx (Kd.R qJ 81 w32 w.heap.size (fun k_ => (w.heap.size ≤ k_) ∧ some k_ ≠ (xH : Value).ownBlock ∧ some k_ ≠ (qP : Value).ownBlock ∧ some k_ ≠ (xk : Value).ownBlock) xO jT) := ⟨h1_⟩
    have zA : zx (Kd.R qJ 81 w32 w.heap.size (fun k_ => (w.heap.size ≤ k_) ∧ some k_ ≠ (xO : Value).ownBlock ∧ some k_ ≠ (qP : Value).ownBlock ∧ some k_ ≠ (xk : Value).ownBlock) xH xu) := ⟨h2_⟩
    have zR : zx (Kd.R qJ 81 w32 w.heap.size (fun k_ => (w.heap.size ≤ k_) ∧ some k_ ≠ (xO : Value).ownBlock ∧ some k_ ≠ (xH : Value).ownBlock ∧ some k_ ≠ (xk : Value).ownBlock) qP ji) := ⟨h3_⟩
    have qV : zx (Kd.R qJ 81 w32 w.heap.size (fun k_ => (w.heap.size ≤ k_) ∧ some k_ ≠ (xO : Value).ownBlock ∧ some k_ ≠ (xH : Value).ownBlock ∧ some k_ ≠ (qP : Value).ownBlock) xk xA) := ⟨h4_⟩
    have xD : zx (w32.heap[yV]? = some (.cells #[.string (⟨#[82]⟩ : BA), .bool false, .int .i64 250, xO, .slice none 0 0, .slice none 0 0] 44 (0, 0))) := ⟨h5_⟩
    have vE : zx (w32.heap[qX]? = some (.cells #[.string (⟨#[73]⟩ : BA), .bool false, .int .i64 250, xH, .slice none 0 0, .slice none 0 0] 44 (0, 0))) := ⟨h6_⟩
    have vR : zx (w32.heap[yU]? = some (.cells #[.string (⟨#[66]⟩ : BA), .bool false, .int .i64 250, qP, .slice none 0 0, .slice none 0 0] 44 (0, 0))) := ⟨h7_⟩
    have uK : zx (w32.heap[qA]? = some (.cells #[.string (⟨#[77]⟩ : BA), .bool false, .int .i64 600, xk, .slice none 0 0, .slice none 0 0] 44 (0, 0))) := ⟨h8_⟩
    have uo : zx (w32.heap[qI]? = some (.cells #[.string (⟨#[83]⟩ : BA), .bool true, .int .i64 250, .slice none 0 0, .slice none 0 0, .slice none 0 0] 44 (0, 0))) := ⟨h9_⟩
    have vH : zx (Below w.heap.size w w32) := ⟨zWa⟩
    clear yw yX yZ yJ zB yj zF yg yB HB h0_ h1_ h2_ h3_ h4_ h5_ h6_ h7_ h8_ h9_ zWa
    have ZA := zf
    have yw := zh
    have yX := zA
    have yZ := zR
    have yJ := qV
    have zB := xD
    have yj := vE
    have zF := vR
    have yg := uK
    have yB := uo
    have HB := vH
    clear zf zh zA zR qV xD vE vR uK uo vH
    have hHeld := trivial
    refine YK (a' := ?_) ?_ ?_
    rotate_left
    ·simp only [YZ, Act.put, List.setIfInBounds_toArray, List.set_cons_zero, List.set_cons_succ]
     rfl
    refine qW 7 (some 7) zM ?_
    refine qW 8 (some 8) zM ?_
    refine uO (vW zM.out (by kernel_rfl)) ?_
    have zbz := Zb.out
    have zbq := Zc.out
    have ziF := pF.out
    have ziG := pG.out
    have ziH := Zf.out
    have ziI := Zg.out
    have ziL := pI.out
    have ziM := pO.out
    have nU : w32.cell? ⟨yV, 0, none⟩ = some (.string (⟨#[82]⟩ : BA)) := (zk zB.out 0).trans rfl
    have rz : w32.cell? ⟨yV, 1, none⟩ = some (.bool false) := (zk zB.out 1).trans rfl
    have zVh : w32.cell? ⟨yV, 2, none⟩ = some (.int .i64 250) := (zk zB.out 2).trans rfl
    have zVi : w32.cell? ⟨yV, 3, none⟩ = some (xO) := (zk zB.out 3).trans rfl
    have zVl : w32.cell? ⟨yV, 4, none⟩ = some (.slice none 0 0) := (zk zB.out 4).trans rfl
    have zvf : w32.cell? ⟨yV, 5, none⟩ = some (.slice none 0 0) := (zk zB.out 5).trans rfl
    have bQ := zw zB.out 0
    have bX := zw zB.out 1
    have zvg := zw zB.out 2
    have zvh := zw zB.out 3
    have zvi := zw zB.out 4
    have zvl := zw zB.out 5
    obtain ⟨aj, av, zdi⟩ := Kd.y9 yw.out
    subst zdi
    try go_wp2_with (first | ((with_reducible refine yY (f := 38) rfl ?_); refine uN (some 34) Tryz.func38 #[.slice aj jT.length av, .agg #[.string (strOfNums wK), .int .i64 t157]] ?_; (with_reducible refine (yE.calls k1 _ _ jT (strOfNums wK) t157 wu _ ?y8 ?qy A23.out).mono ?_); (case y8 => repeat (first | exact (Kd.qU yw.out).2.2 | (with_reducible refine Kd.zS ?_ _) | (with_reducible refine Kd.zT ?_ _) | (with_reducible refine Kd.yc ?_))); (case qy => exact (Kd.qU yw.out).2.1); rintro e gW ⟨v159, rfl, ho0, hb⟩; refine ⟨_, rfl, ?_⟩; have zf := zx.mk (Kd.xE (yF yw.out) (Kd.xB ho0) hb); have zh := zx.mk (Kd.xE (yF yX.out) (Kd.xB ho0) hb); have zA := zx.mk (Kd.xE (yF yZ.out) (Kd.xB ho0) hb); have zR := zx.mk (Kd.xE (yF yJ.out) (Kd.xB ho0) hb); have qV := zx.mk (Kd.qz (yF ZA.out) hb); have xD := zx.mk (Kd.xI (Kd.vP (Kd.vP (Kd.vP (Kd.vP (Kd.wM (M := fun k_ => (w.heap.size ≤ k_)) ho0 (zV (zD HB.out)) (fun k_ h_ => h_)) (Kd.jg (yF yw.out))) (Kd.jg (yF yX.out))) (Kd.jg (yF yZ.out))) (Kd.jg (yF yJ.out))) (zV (zD HB.out))); have vE := zx.mk (zl (g := yV) (o := .cells #[.string (⟨#[82]⟩ : BA), .bool false, .int .i64 250, .slice aj jT.length av, .slice none 0 0, .slice none 0 0] 44 (0, 0)) (yt zB.out) hb); have vR := zx.mk (zl (g := qX) (o := .cells #[.string (⟨#[73]⟩ : BA), .bool false, .int .i64 250, xH, .slice none 0 0, .slice none 0 0] 44 (0, 0)) (yt yj.out) hb); have uK := zx.mk (zl (g := yU) (o := .cells #[.string (⟨#[66]⟩ : BA), .bool false, .int .i64 250, qP, .slice none 0 0, .slice none 0 0] 44 (0, 0)) (yt zF.out) hb); have uo := zx.mk (zl (g := qA) (o := .cells #[.string (⟨#[77]⟩ : BA), .bool false, .int .i64 600, xk, .slice none 0 0, .slice none 0 0] 44 (0, 0)) (yt yg.out) hb); have vH := zx.mk (zl (g := qI) (o := .cells #[.string (⟨#[83]⟩ : BA), .bool true, .int .i64 250, .slice none 0 0, .slice none 0 0, .slice none 0 0] 44 (0, 0)) (yt yB.out) hb); have uM := zx.mk (zI (zD HB.out) hb); clear yw; clear yX; clear yZ; clear yJ; clear ZA; clear zB; clear yj; clear zF; clear yg; clear yB; clear HB; have yw := zf; have yX := zh; have yZ := zA; have yJ := zR; have ZA := qV; have XG := xD; have zB := vE; have yj := vR; have zF := uK; have yg := uo; have yB := vH; have HB := uM; clear zf zh zA zR qV xD vE vR uK uo vH uM; (try clear hb); (try clear hb2); (try clear hk); (try clear hi); (try clear ho0); obtain ⟨XJ, XV, zdl⟩ := Kd.y9 XG.out; subst zdl; have zvm : gW.cell? ⟨yV, 0, none⟩ = some (.string (⟨#[82]⟩ : BA)) := (zk zB.out 0).trans rfl; have zvn : gW.cell? ⟨yV, 1, none⟩ = some (.bool false) := (zk zB.out 1).trans rfl; have zvo : gW.cell? ⟨yV, 2, none⟩ = some (.int .i64 250) := (zk zB.out 2).trans rfl; have zvp : gW.cell? ⟨yV, 3, none⟩ = some (.slice aj jT.length av) := (zk zB.out 3).trans rfl; have zvr : gW.cell? ⟨yV, 4, none⟩ = some (.slice none 0 0) := (zk zB.out 4).trans rfl; have zvs : gW.cell? ⟨yV, 5, none⟩ = some (.slice none 0 0) := (zk zB.out 5).trans rfl; have zvt := zw zB.out 0; have zvu := zw zB.out 1; have zvA := zw zB.out 2; have zvB := zw zB.out 3; have zvC := zw zB.out 4; have zvD := zw zB.out 5; have ziN := Zd.out; have ziO := Ze.out; have ziP := Yo.out; have ziR := Yp.out; have ziS := Yz.out; have ziT := Yq.out; have zvE : gW.cell? ⟨qX, 0, none⟩ = some (.string (⟨#[73]⟩ : BA)) := (zk yj.out 0).trans rfl; have zvF : gW.cell? ⟨qX, 1, none⟩ = some (.bool false) := (zk yj.out 1).trans rfl; have zvG : gW.cell? ⟨qX, 2, none⟩ = some (.int .i64 250) := (zk yj.out 2).trans rfl; have zvH : gW.cell? ⟨qX, 3, none⟩ = some (xH) := (zk yj.out 3).trans rfl; have zvI : gW.cell? ⟨qX, 4, none⟩ = some (.slice none 0 0) := (zk yj.out 4).trans rfl; have zvL : gW.cell? ⟨qX, 5, none⟩ = some (.slice none 0 0) := (zk yj.out 5).trans rfl; have zvM := zw yj.out 0; have zvN := zw yj.out 1; have zvO := zw yj.out 2; have zvP := zw yj.out 3; have zvR := zw yj.out 4; have zvS := zw yj.out 5; obtain ⟨zzK, ak, zdm⟩ := Kd.y9 yX.out; subst zdm) | ((with_reducible refine yY (f := 38) rfl ?_); refine zZi (some 43) rfl rfl Tryz.func38 (by kernel_rfl) rfl #[.slice zzK xu.length ak, .agg #[.string (strOfNums wK), .int .i64 zzJ]] rfl (by (try simp only [List.map_toArray, List.map_cons, List.map_nil]); first | done | (simp only [dV]; rfl) | rfl | (simp only [List.length_drop, List.length_take]; rfl)) ?_; (with_reducible refine (yE.calls k1 _ _ xu (strOfNums wK) zzJ kP _ ?y8 ?qy A25.out).mono ?_); (case y8 => refine (Kd.qU (e := 81) (base := w.heap.size) (ok := fun k_ => (((w.heap.size ≤ k_) ∧ (some k_ ≠ (.slice aj jT.length av : Value).ownBlock ∧ (some k_ ≠ (qP : Value).ownBlock ∧ some k_ ≠ (xk : Value).ownBlock))) ∧ some k_ ≠ (.slice XJ wu.length XV : Value).ownBlock)) (n := xu.length) (c := ak) ?_).2.2; exact (yF (Kd.zL (Kd.yK (p := ⟨yV, 3, none⟩) (Kd.zi yX.out zB.out (by decide)) (fun _ hk => hk.2) (.slice XJ wu.length XV)) (fun _ h_ => h_.1)))); (case qy => exact (Kd.qU yX.out).2.1); rintro e gu ⟨v162, rfl, ho0, hb⟩; refine ⟨_, rfl, ?_⟩; have zf := zx.mk (Kd.xE (yF (Kd.zL (Kd.yK (p := ⟨yV, 3, none⟩) (Kd.zi yw.out zB.out (by decide)) (fun _ hk => hk.2) (.slice XJ wu.length XV)) (fun _ h_ => h_.1))) (Kd.xB ho0) hb); have zh := zx.mk (Kd.xE (yF (Kd.zL (Kd.yK (p := ⟨yV, 3, none⟩) (Kd.zi yX.out zB.out (by decide)) (fun _ hk => hk.2) (.slice XJ wu.length XV)) (fun _ h_ => h_.1))) (Kd.xB ho0) hb); have zA := zx.mk (Kd.xE (yF (Kd.zL (Kd.yK (p := ⟨yV, 3, none⟩) (Kd.zi yZ.out zB.out (by decide)) (fun _ hk => hk.2) (.slice XJ wu.length XV)) (fun _ h_ => h_.1))) (Kd.xB ho0) hb); have zR := zx.mk (Kd.xE (yF (Kd.zL (Kd.yK (p := ⟨yV, 3, none⟩) (Kd.zi yJ.out zB.out (by decide)) (fun _ hk => hk.2) (.slice XJ wu.length XV)) (fun _ h_ => h_.1))) (Kd.xB ho0) hb); have qV := zx.mk (Kd.qz (yF (Kd.zL (Kd.yK (p := ⟨yV, 3, none⟩) (Kd.zi ZA.out zB.out (by decide)) (fun _ hk => hk.2) (.slice XJ wu.length XV)) (fun _ h_ => h_.1))) hb); have xD := zx.mk (Kd.xE (yF (Kd.zL (Kd.yK (p := ⟨yV, 3, none⟩) (Kd.zi XG.out zB.out (by decide)) (fun _ hk => hk.2) (.slice XJ wu.length XV)) (fun _ h_ => h_.1))) (Kd.xB ho0) hb); have vE := zx.mk (Kd.xI (Kd.vP (Kd.vP (Kd.vP (Kd.vP (Kd.vP (Kd.wM (M := fun k_ => (w.heap.size ≤ k_)) ho0 (zV (zD HB.out)) (fun k_ h_ => h_)) (Kd.jg (yF (Kd.zL (Kd.yK (p := ⟨yV, 3, none⟩) (Kd.zi yw.out zB.out (by decide)) (fun _ hk => hk.2) (.slice XJ wu.length XV)) (fun _ h_ => h_.1))))) (Kd.jg (yF (Kd.zL (Kd.yK (p := ⟨yV, 3, none⟩) (Kd.zi yX.out zB.out (by decide)) (fun _ hk => hk.2) (.slice XJ wu.length XV)) (fun _ h_ => h_.1))))) (Kd.jg (yF (Kd.zL (Kd.yK (p := ⟨yV, 3, none⟩) (Kd.zi yZ.out zB.out (by decide)) (fun _ hk => hk.2) (.slice XJ wu.length XV)) (fun _ h_ => h_.1))))) (Kd.jg (yF (Kd.zL (Kd.yK (p := ⟨yV, 3, none⟩) (Kd.zi yJ.out zB.out (by decide)) (fun _ hk => hk.2) (.slice XJ wu.length XV)) (fun _ h_ => h_.1))))) (Kd.jg (yF (Kd.zL (Kd.yK (p := ⟨yV, 3, none⟩) (Kd.zi XG.out zB.out (by decide)) (fun _ hk => hk.2) (.slice XJ wu.length XV)) (fun _ h_ => h_.1))))) (zV (zD HB.out))); have vR := zx.mk (zl (g := yV) (o := .cells #[.string (⟨#[82]⟩ : BA), .bool false, .int .i64 250, .slice XJ wu.length XV, .slice none 0 0, .slice none 0 0] 44 (0, 0)) (by (with_reducible repeat (first | refine zJ ?_ _ | refine zX ?_ | refine zZ ?_ _)); refine yC (cs := #[.string (⟨#[82]⟩ : BA), .bool false, .int .i64 250, .slice aj jT.length av, .slice none 0 0, .slice none 0 0]) ?_ 3 _ rfl; (with_reducible repeat (first | refine zJ ?_ _ | refine zX ?_ | refine zZ ?_ _)); exact zB.out) hb); have uK := zx.mk (zl (g := qX) (o := .cells #[.string (⟨#[73]⟩ : BA), .bool false, .int .i64 250, .slice zzK xu.length ak, .slice none 0 0, .slice none 0 0] 44 (0, 0)) (wJ yj.out) hb); have uo := zx.mk (zl (g := yU) (o := .cells #[.string (⟨#[66]⟩ : BA), .bool false, .int .i64 250, qP, .slice none 0 0, .slice none 0 0] 44 (0, 0)) (wJ zF.out) hb); have vH := zx.mk (zl (g := qA) (o := .cells #[.string (⟨#[77]⟩ : BA), .bool false, .int .i64 600, xk, .slice none 0 0, .slice none 0 0] 44 (0, 0)) (wJ yg.out) hb); have uM := zx.mk (zl (g := qI) (o := .cells #[.string (⟨#[83]⟩ : BA), .bool true, .int .i64 250, .slice none 0 0, .slice none 0 0, .slice none 0 0] 44 (0, 0)) (wJ yB.out) hb); have wB := zx.mk (zI (zD HB.out) hb); clear yw; clear yX; clear yZ; clear yJ; clear ZA; clear XG; clear zB; clear yj; clear zF; clear yg; clear yB; clear HB; have yw := zf; have yX := zh; have yZ := zA; have yJ := zR; have ZA := qV; have XG := xD; have U6 := vE; have zB := vR; have yj := uK; have zF := uo; have yg := vH; have yB := uM; have HB := wB; clear zf zh zA zR qV xD vE vR uK uo vH uM wB; (try clear hb); (try clear hb2); (try clear hk); (try clear hi); (try clear ho0); obtain ⟨XK, XY, zdn⟩ := Kd.y9 U6.out; subst zdn; have zvT : gu.cell? ⟨qX, 0, none⟩ = some (.string (⟨#[73]⟩ : BA)) := (zk yj.out 0).trans rfl; have zvU : gu.cell? ⟨qX, 1, none⟩ = some (.bool false) := (zk yj.out 1).trans rfl; have zv0 : gu.cell? ⟨qX, 2, none⟩ = some (.int .i64 250) := (zk yj.out 2).trans rfl; have zv1 : gu.cell? ⟨qX, 3, none⟩ = some (.slice zzK xu.length ak) := (zk yj.out 3).trans rfl; have zv2 : gu.cell? ⟨qX, 4, none⟩ = some (.slice none 0 0) := (zk yj.out 4).trans rfl; have zv3 : gu.cell? ⟨qX, 5, none⟩ = some (.slice none 0 0) := (zk yj.out 5).trans rfl; have zv4 := zw yj.out 0; have zv5 := zw yj.out 1; have zv6 := zw yj.out 2; have zv7 := zw yj.out 3; have zv8 := zw yj.out 4; have zv9 := zw yj.out 5; have ziU := Zh.out; have zi0 := Zi.out; have zi1 := pR.out; have zi2 := pU.out; have zkz : gu.cell? ⟨yU, 0, none⟩ = some (.string (⟨#[66]⟩ : BA)) := (zk zF.out 0).trans rfl; have zkq : gu.cell? ⟨yU, 1, none⟩ = some (.bool false) := (zk zF.out 1).trans rfl; have zkx : gu.cell? ⟨yU, 2, none⟩ = some (.int .i64 250) := (zk zF.out 2).trans rfl; have zkj : gu.cell? ⟨yU, 3, none⟩ = some (qP) := (zk zF.out 3).trans rfl; have zkv : gu.cell? ⟨yU, 4, none⟩ = some (.slice none 0 0) := (zk zF.out 4).trans rfl; have zkk : gu.cell? ⟨yU, 5, none⟩ = some (.slice none 0 0) := (zk zF.out 5).trans rfl; have zky := zw zF.out 0; have zkw := zw zF.out 1; have zkZ := zw zF.out 2; have zkQ := zw zF.out 3; have zkX := zw zF.out 4; have zkJ := zw zF.out 5; obtain ⟨zx3, zzY, zdo⟩ := Kd.y9 yZ.out; subst zdo) | ((with_reducible refine yY (f := 38) rfl ?_); refine uN (some 51) Tryz.func38 #[.slice zx3 ji.length zzY, .agg #[.string (strOfNums wK), .int .i64 (wrap64 (t157 + 50))]] ?_; (with_reducible refine (yE.calls k1 _ _ ji (strOfNums wK) (wrap64 (t157 + 50)) t164 _ ?y8 ?qy A26.out).mono ?_); (case y8 => refine (Kd.qU (e := 81) (base := w.heap.size) (ok := fun k_ => ((((w.heap.size ≤ k_) ∧ (some k_ ≠ (.slice aj jT.length av : Value).ownBlock ∧ (some k_ ≠ (.slice zzK xu.length ak : Value).ownBlock ∧ some k_ ≠ (xk : Value).ownBlock))) ∧ some k_ ≠ (.slice XJ wu.length XV : Value).ownBlock) ∧ some k_ ≠ (.slice XK kP.length XY : Value).ownBlock)) (n := ji.length) (c := zzY) ?_).2.2; exact (yF (Kd.zL (Kd.yK (p := ⟨qX, 3, none⟩) (Kd.zi yZ.out yj.out (by decide)) (fun _ hk => hk.2) (.slice XK kP.length XY)) (fun _ h_ => h_.1)))); (case qy => exact (Kd.qU yZ.out).2.1); rintro e gB ⟨zlP, rfl, ho0, hb⟩; refine ⟨_, rfl, ?_⟩; have zf := zx.mk (Kd.xE (yF (Kd.zL (Kd.yK (p := ⟨qX, 3, none⟩) (Kd.zi yw.out yj.out (by decide)) (fun _ hk => hk.2) (.slice XK kP.length XY)) (fun _ h_ => h_.1))) (Kd.xB ho0) hb); have zh := zx.mk (Kd.xE (yF (Kd.zL (Kd.yK (p := ⟨qX, 3, none⟩) (Kd.zi yX.out yj.out (by decide)) (fun _ hk => hk.2) (.slice XK kP.length XY)) (fun _ h_ => h_.1))) (Kd.xB ho0) hb); have zA := zx.mk (Kd.xE (yF (Kd.zL (Kd.yK (p := ⟨qX, 3, none⟩) (Kd.zi yZ.out yj.out (by decide)) (fun _ hk => hk.2) (.slice XK kP.length XY)) (fun _ h_ => h_.1))) (Kd.xB ho0) hb); have zR := zx.mk (Kd.xE (yF (Kd.zL (Kd.yK (p := ⟨qX, 3, none⟩) (Kd.zi yJ.out yj.out (by decide)) (fun _ hk => hk.2) (.slice XK kP.length XY)) (fun _ h_ => h_.1))) (Kd.xB ho0) hb); have qV := zx.mk (Kd.qz (yF (Kd.zL (Kd.yK (p := ⟨qX, 3, none⟩) (Kd.zi ZA.out yj.out (by decide)) (fun _ hk => hk.2) (.slice XK kP.length XY)) (fun _ h_ => h_.1))) hb); have xD := zx.mk (Kd.xE (yF (Kd.zL (Kd.yK (p := ⟨qX, 3, none⟩) (Kd.zi XG.out yj.out (by decide)) (fun _ hk => hk.2) (.slice XK kP.length XY)) (fun _ h_ => h_.1))) (Kd.xB ho0) hb); have vE := zx.mk (Kd.xE (yF (Kd.zL (Kd.yK (p := ⟨qX, 3, none⟩) (Kd.zi U6.out yj.out (by decide)) (fun _ hk => hk.2) (.slice XK kP.length XY)) (fun _ h_ => h_.1))) (Kd.xB ho0) hb); have vR := zx.mk (Kd.xI (Kd.vP (Kd.vP (Kd.vP (Kd.vP (Kd.vP (Kd.vP (Kd.wM (M := fun k_ => (w.heap.size ≤ k_)) ho0 (zV (zD HB.out)) (fun k_ h_ => h_)) (Kd.jg (yF (Kd.zL (Kd.yK (p := ⟨qX, 3, none⟩) (Kd.zi yw.out yj.out (by decide)) (fun _ hk => hk.2) (.slice XK kP.length XY)) (fun _ h_ => h_.1))))) (Kd.jg (yF (Kd.zL (Kd.yK (p := ⟨qX, 3, none⟩) (Kd.zi yX.out yj.out (by decide)) (fun _ hk => hk.2) (.slice XK kP.length XY)) (fun _ h_ => h_.1))))) (Kd.jg (yF (Kd.zL (Kd.yK (p := ⟨qX, 3, none⟩) (Kd.zi yZ.out yj.out (by decide)) (fun _ hk => hk.2) (.slice XK kP.length XY)) (fun _ h_ => h_.1))))) (Kd.jg (yF (Kd.zL (Kd.yK (p := ⟨qX, 3, none⟩) (Kd.zi yJ.out yj.out (by decide)) (fun _ hk => hk.2) (.slice XK kP.length XY)) (fun _ h_ => h_.1))))) (Kd.jg (yF (Kd.zL (Kd.yK (p := ⟨qX, 3, none⟩) (Kd.zi XG.out yj.out (by decide)) (fun _ hk => hk.2) (.slice XK kP.length XY)) (fun _ h_ => h_.1))))) (Kd.jg (yF (Kd.zL (Kd.yK (p := ⟨qX, 3, none⟩) (Kd.zi U6.out yj.out (by decide)) (fun _ hk => hk.2) (.slice XK kP.length XY)) (fun _ h_ => h_.1))))) (zV (zD HB.out))); have uK := zx.mk (zl (g := yV) (o := .cells #[.string (⟨#[82]⟩ : BA), .bool false, .int .i64 250, .slice XJ wu.length XV, .slice none 0 0, .slice none 0 0] 44 (0, 0)) (wJ zB.out) hb); have uo := zx.mk (zl (g := qX) (o := .cells #[.string (⟨#[73]⟩ : BA), .bool false, .int .i64 250, .slice XK kP.length XY, .slice none 0 0, .slice none 0 0] 44 (0, 0)) (by (with_reducible repeat (first | refine zJ ?_ _ | refine zX ?_ | refine zZ ?_ _)); refine yC (cs := #[.string (⟨#[73]⟩ : BA), .bool false, .int .i64 250, .slice zzK xu.length ak, .slice none 0 0, .slice none 0 0]) ?_ 3 _ rfl; (with_reducible repeat (first | refine zJ ?_ _ | refine zX ?_ | refine zZ ?_ _)); exact yj.out) hb); have vH := zx.mk (zl (g := yU) (o := .cells #[.string (⟨#[66]⟩ : BA), .bool false, .int .i64 250, .slice zx3 ji.length zzY, .slice none 0 0, .slice none 0 0] 44 (0, 0)) (wJ zF.out) hb); have uM := zx.mk (zl (g := qA) (o := .cells #[.string (⟨#[77]⟩ : BA), .bool false, .int .i64 600, xk, .slice none 0 0, .slice none 0 0] 44 (0, 0)) (wJ yg.out) hb); have wB := zx.mk (zl (g := qI) (o := .cells #[.string (⟨#[83]⟩ : BA), .bool true, .int .i64 250, .slice none 0 0, .slice none 0 0, .slice none 0 0] 44 (0, 0)) (wJ yB.out) hb); have YP := zx.mk (zI (zD HB.out) hb); clear yw; clear yX; clear yZ; clear yJ; clear ZA; clear XG; clear U6; clear zB; clear yj; clear zF; clear yg; clear yB; clear HB; have yw := zf; have yX := zh; have yZ := zA; have yJ := zR; have ZA := qV; have XG := xD; have U6 := vE; have ru := vR; have zB := uK; have yj := uo; have zF := vH; have yg := uM; have yB := wB; have HB := YP; clear zf zh zA zR qV xD vE vR uK uo vH uM wB YP; (try clear hb); (try clear hb2); (try clear hk); (try clear hi); (try clear ho0); obtain ⟨XW, Xa, zdp⟩ := Kd.y9 ru.out; subst zdp; have zkV : gB.cell? ⟨yU, 0, none⟩ = some (.string (⟨#[66]⟩ : BA)) := (zk zF.out 0).trans rfl; have zkK : gB.cell? ⟨yU, 1, none⟩ = some (.bool false) := (zk zF.out 1).trans rfl; have zkY : gB.cell? ⟨yU, 2, none⟩ = some (.int .i64 250) := (zk zF.out 2).trans rfl; have zkW : gB.cell? ⟨yU, 3, none⟩ = some (.slice zx3 ji.length zzY) := (zk zF.out 3).trans rfl; have zka : gB.cell? ⟨yU, 4, none⟩ = some (.slice none 0 0) := (zk zF.out 4).trans rfl; have zkb : gB.cell? ⟨yU, 5, none⟩ = some (.slice none 0 0) := (zk zF.out 5).trans rfl; have zkc := zw zF.out 0; have zkd := zw zF.out 1; have zke := zw zF.out 2; have zkf := zw zF.out 3; have zkg := zw zF.out 4; have zkh := zw zF.out 5; have zi3 := Yx.out; have zi4 := Yj.out; have zki : gB.cell? ⟨qA, 0, none⟩ = some (.string (⟨#[77]⟩ : BA)) := (zk yg.out 0).trans rfl; have zkl : gB.cell? ⟨qA, 1, none⟩ = some (.bool false) := (zk yg.out 1).trans rfl; have zkm : gB.cell? ⟨qA, 2, none⟩ = some (.int .i64 600) := (zk yg.out 2).trans rfl; have zkn : gB.cell? ⟨qA, 3, none⟩ = some (xk) := (zk yg.out 3).trans rfl; have zko : gB.cell? ⟨qA, 4, none⟩ = some (.slice none 0 0) := (zk yg.out 4).trans rfl; have zkp : gB.cell? ⟨qA, 5, none⟩ = some (.slice none 0 0) := (zk yg.out 5).trans rfl; have zkr := zw yg.out 0; have zks := zw yg.out 1; have zkt := zw yg.out 2; have zku := zw yg.out 3; have zkA := zw yg.out 4; have zkB := zw yg.out 5; obtain ⟨zwg, zx4, zdr⟩ := Kd.y9 yJ.out; subst zdr) | ((with_reducible refine yY (f := 38) rfl ?_); refine uN (some 57) Tryz.func38 #[.slice zwg xA.length zx4, .agg #[.string (strOfNums wK), .int .i64 600]] ?_; (with_reducible refine (yE.calls k1 _ _ xA (strOfNums wK) 600 t167 _ ?y8 ?qy A27.out).mono ?_); (case y8 => refine (Kd.qU (e := 81) (base := w.heap.size) (ok := fun k_ => (((((w.heap.size ≤ k_) ∧ (some k_ ≠ (.slice aj jT.length av : Value).ownBlock ∧ (some k_ ≠ (.slice zzK xu.length ak : Value).ownBlock ∧ some k_ ≠ (.slice zx3 ji.length zzY : Value).ownBlock))) ∧ some k_ ≠ (.slice XJ wu.length XV : Value).ownBlock) ∧ some k_ ≠ (.slice XK kP.length XY : Value).ownBlock) ∧ some k_ ≠ (.slice XW t164.length Xa : Value).ownBlock)) (n := xA.length) (c := zx4) ?_).2.2; exact (yF (Kd.zL (Kd.yK (p := ⟨yU, 3, none⟩) (Kd.zi yJ.out zF.out (by decide)) (fun _ hk => hk.2) (.slice XW t164.length Xa)) (fun _ h_ => h_.1)))); (case qy => exact (Kd.qU yJ.out).2.1); rintro e w60 ⟨v168, rfl, ho0, hb⟩; refine ⟨_, rfl, ?_⟩; have zf := zx.mk (Kd.xE (yF (Kd.zL (Kd.yK (p := ⟨yU, 3, none⟩) (Kd.zi yw.out zF.out (by decide)) (fun _ hk => hk.2) (.slice XW t164.length Xa)) (fun _ h_ => h_.1))) (Kd.xB ho0) hb); have zh := zx.mk (Kd.xE (yF (Kd.zL (Kd.yK (p := ⟨yU, 3, none⟩) (Kd.zi yX.out zF.out (by decide)) (fun _ hk => hk.2) (.slice XW t164.length Xa)) (fun _ h_ => h_.1))) (Kd.xB ho0) hb); have zA := zx.mk (Kd.xE (yF (Kd.zL (Kd.yK (p := ⟨yU, 3, none⟩) (Kd.zi yZ.out zF.out (by decide)) (fun _ hk => hk.2) (.slice XW t164.length Xa)) (fun _ h_ => h_.1))) (Kd.xB ho0) hb); have zR := zx.mk (Kd.xE (yF (Kd.zL (Kd.yK (p := ⟨yU, 3, none⟩) (Kd.zi yJ.out zF.out (by decide)) (fun _ hk => hk.2) (.slice XW t164.length Xa)) (fun _ h_ => h_.1))) (Kd.xB ho0) hb); have qV := zx.mk (Kd.qz (yF (Kd.zL (Kd.yK (p := ⟨yU, 3, none⟩) (Kd.zi ZA.out zF.out (by decide)) (fun _ hk => hk.2) (.slice XW t164.length Xa)) (fun _ h_ => h_.1))) hb); have xD := zx.mk (Kd.xE (yF (Kd.zL (Kd.yK (p := ⟨yU, 3, none⟩) (Kd.zi XG.out zF.out (by decide)) (fun _ hk => hk.2) (.slice XW t164.length Xa)) (fun _ h_ => h_.1))) (Kd.xB ho0) hb); have vE := zx.mk (Kd.xE (yF (Kd.zL (Kd.yK (p := ⟨yU, 3, none⟩) (Kd.zi U6.out zF.out (by decide)) (fun _ hk => hk.2) (.slice XW t164.length Xa)) (fun _ h_ => h_.1))) (Kd.xB ho0) hb); have vR := zx.mk (Kd.xE (yF (Kd.zL (Kd.yK (p := ⟨yU, 3, none⟩) (Kd.zi ru.out zF.out (by decide)) (fun _ hk => hk.2) (.slice XW t164.length Xa)) (fun _ h_ => h_.1))) (Kd.xB ho0) hb); have uK := zx.mk (Kd.xI (Kd.vP (Kd.vP (Kd.vP (Kd.vP (Kd.vP (Kd.vP (Kd.vP (Kd.wM (M := fun k_ => (w.heap.size ≤ k_)) ho0 (zV (zD HB.out)) (fun k_ h_ => h_)) (Kd.jg (yF (Kd.zL (Kd.yK (p := ⟨yU, 3, none⟩) (Kd.zi yw.out zF.out (by decide)) (fun _ hk => hk.2) (.slice XW t164.length Xa)) (fun _ h_ => h_.1))))) (Kd.jg (yF (Kd.zL (Kd.yK (p := ⟨yU, 3, none⟩) (Kd.zi yX.out zF.out (by decide)) (fun _ hk => hk.2) (.slice XW t164.length Xa)) (fun _ h_ => h_.1))))) (Kd.jg (yF (Kd.zL (Kd.yK (p := ⟨yU, 3, none⟩) (Kd.zi yZ.out zF.out (by decide)) (fun _ hk => hk.2) (.slice XW t164.length Xa)) (fun _ h_ => h_.1))))) (Kd.jg (yF (Kd.zL (Kd.yK (p := ⟨yU, 3, none⟩) (Kd.zi yJ.out zF.out (by decide)) (fun _ hk => hk.2) (.slice XW t164.length Xa)) (fun _ h_ => h_.1))))) (Kd.jg (yF (Kd.zL (Kd.yK (p := ⟨yU, 3, none⟩) (Kd.zi XG.out zF.out (by decide)) (fun _ hk => hk.2) (.slice XW t164.length Xa)) (fun _ h_ => h_.1))))) (Kd.jg (yF (Kd.zL (Kd.yK (p := ⟨yU, 3, none⟩) (Kd.zi U6.out zF.out (by decide)) (fun _ hk => hk.2) (.slice XW t164.length Xa)) (fun _ h_ => h_.1))))) (Kd.jg (yF (Kd.zL (Kd.yK (p := ⟨yU, 3, none⟩) (Kd.zi ru.out zF.out (by decide)) (fun _ hk => hk.2) (.slice XW t164.length Xa)) (fun _ h_ => h_.1))))) (zV (zD HB.out))); have uo := zx.mk (zl (g := yV) (o := .cells #[.string (⟨#[82]⟩ : BA), .bool false, .int .i64 250, .slice XJ wu.length XV, .slice none 0 0, .slice none 0 0] 44 (0, 0)) (wJ zB.out) hb); have vH := zx.mk (zl (g := qX) (o := .cells #[.string (⟨#[73]⟩ : BA), .bool false, .int .i64 250, .slice XK kP.length XY, .slice none 0 0, .slice none 0 0] 44 (0, 0)) (wJ yj.out) hb); have uM := zx.mk (zl (g := yU) (o := .cells #[.string (⟨#[66]⟩ : BA), .bool false, .int .i64 250, .slice XW t164.length Xa, .slice none 0 0, .slice none 0 0] 44 (0, 0)) (by (with_reducible repeat (first | refine zJ ?_ _ | refine zX ?_ | refine zZ ?_ _)); refine yC (cs := #[.string (⟨#[66]⟩ : BA), .bool false, .int .i64 250, .slice zx3 ji.length zzY, .slice none 0 0, .slice none 0 0]) ?_ 3 _ rfl; (with_reducible repeat (first | refine zJ ?_ _ | refine zX ?_ | refine zZ ?_ _)); exact zF.out) hb); have wB := zx.mk (zl (g := qA) (o := .cells #[.string (⟨#[77]⟩ : BA), .bool false, .int .i64 600, .slice zwg xA.length zx4, .slice none 0 0, .slice none 0 0] 44 (0, 0)) (wJ yg.out) hb); have YP := zx.mk (zl (g := qI) (o := .cells #[.string (⟨#[83]⟩ : BA), .bool true, .int .i64 250, .slice none 0 0, .slice none 0 0, .slice none 0 0] 44 (0, 0)) (wJ yB.out) hb); have VU := zx.mk (zI (zD HB.out) hb); clear yw; clear yX; clear yZ; clear yJ; clear ZA; clear XG; clear U6; clear ru; clear zB; clear yj; clear zF; clear yg; clear yB; clear HB; have yw := zf; have yX := zh; have yZ := zA; have yJ := zR; have ZA := qV; have XG := xD; have U6 := vE; have ru := vR; have zJV := uK; have zB := uo; have yj := vH; have zF := uM; have yg := wB; have yB := YP; have HB := VU; clear zf zh zA zR qV xD vE vR uK uo vH uM wB YP VU; (try clear hb); (try clear hb2); (try clear hk); (try clear hi); (try clear ho0); obtain ⟨zx5, zx6, zds⟩ := Kd.y9 zJV.out; subst zds; have zkC : w60.cell? ⟨qA, 0, none⟩ = some (.string (⟨#[77]⟩ : BA)) := (zk yg.out 0).trans rfl; have zkD : w60.cell? ⟨qA, 1, none⟩ = some (.bool false) := (zk yg.out 1).trans rfl; have zkE : w60.cell? ⟨qA, 2, none⟩ = some (.int .i64 600) := (zk yg.out 2).trans rfl; have zkF : w60.cell? ⟨qA, 3, none⟩ = some (.slice zwg xA.length zx4) := (zk yg.out 3).trans rfl; have zkG : w60.cell? ⟨qA, 4, none⟩ = some (.slice none 0 0) := (zk yg.out 4).trans rfl; have zkH : w60.cell? ⟨qA, 5, none⟩ = some (.slice none 0 0) := (zk yg.out 5).trans rfl; have zkI := zw yg.out 0; have zkL := zw yg.out 1; have zkM := zw yg.out 2; have zkN := zw yg.out 3; have zkO := zw yg.out 4; have zkP := zw yg.out 5))
    go_roundg k1
    case measure => have := jv.out; omega
    case rel => exact ⟨(wrap64 (wU + 1)), (wu), (kP), (t164), (t167), (.slice XJ wu.length XV), (.slice XK kP.length XY), (.slice XW t164.length Xa), (.slice zx5 t167.length zx6), (by first | rfl | (simp; done) | (simp [*]; done)), H', ⟨by have := jv.out; omega⟩, ⟨by (with_reducible repeat (first | apply Kd.q9 | apply Kd.qL | apply Kd.qw)); exact Kd.zL (Kd.yK (p := ⟨qA, 3, none⟩) (Kd.zi XG.out yg.out (by decide)) (fun _ hk => hk.2) (.slice zx5 t167.length zx6)) (fun _ hk => ⟨hk.1.1.1.1.1.1.1.1.1, ⟨hk.1.1.1.2, ⟨hk.1.1.2, hk.1.2⟩⟩⟩)⟩, ⟨by (with_reducible repeat (first | apply Kd.q9 | apply Kd.qL | apply Kd.qw)); exact Kd.zL (Kd.yK (p := ⟨qA, 3, none⟩) (Kd.zi U6.out yg.out (by decide)) (fun _ hk => hk.2) (.slice zx5 t167.length zx6)) (fun _ hk => ⟨hk.1.1.1.1.1.1.1.1.1, ⟨hk.1.1.1.2, ⟨hk.1.1.2, hk.1.2⟩⟩⟩)⟩, ⟨by (with_reducible repeat (first | apply Kd.q9 | apply Kd.qL | apply Kd.qw)); exact Kd.zL (Kd.yK (p := ⟨qA, 3, none⟩) (Kd.zi ru.out yg.out (by decide)) (fun _ hk => hk.2) (.slice zx5 t167.length zx6)) (fun _ hk => ⟨hk.1.1.1.1.1.1.1.1.1, ⟨hk.1.1.1.2, ⟨hk.1.1.2, hk.1.2⟩⟩⟩)⟩, ⟨by (with_reducible repeat (first | apply Kd.q9 | apply Kd.qL | apply Kd.qw)); exact Kd.zL (Kd.yK (p := ⟨qA, 3, none⟩) (Kd.zi zJV.out yg.out (by decide)) (fun _ hk => hk.2) (.slice zx5 t167.length zx6)) (fun _ hk => ⟨hk.1.1.1.1.1.1.1.1.1, ⟨hk.1.1.1.2, ⟨hk.1.1.2, hk.1.2⟩⟩⟩)⟩, ⟨wJ zB.out⟩, ⟨wJ yj.out⟩, ⟨wJ zF.out⟩, ⟨by (with_reducible repeat (first | refine zJ ?_ _ | refine zX ?_ | refine zZ ?_ _)); refine yC (cs := #[.string (⟨#[77]⟩ : BA), .bool false, .int .i64 600, .slice zwg xA.length zx4, .slice none 0 0, .slice none 0 0]) ?_ 3 _ rfl; (with_reducible repeat (first | refine zJ ?_ _ | refine zX ?_ | refine zZ ?_ _)); exact yg.out⟩, ⟨wJ yB.out⟩, ⟨zD HB.out⟩⟩
   ·rw [if_neg c21] at H
    have zJJ : decide (wU ≤ 126) = false := decide_eq_false c21
    clear c21
    obtain ⟨Xb, iV⟩ : ∃ y_ : List BA, y_ = (([(⟨#[102, 105]⟩ : BA), (⟨#[102, 108]⟩ : BA), (⟨#[102, 102]⟩ : BA)] : List BA)) := ⟨_, rfl⟩
    replace H : (za.l1 k1 Xb 0 (⟨#[82]⟩ : BA) false 250 jT (⟨#[73]⟩ : BA) false 250 xu (⟨#[66]⟩ : BA) false 250 ji (⟨#[77]⟩ : BA) false 600 xA (⟨#[83]⟩ : BA) true 250) = some r := by first | (rw [iV]; with_reducible exact H) | (have xJ := (Option.bind_some _ _).symm.trans H; rw [iV]; with_reducible exact xJ) | (have xJ := (Option.bind_some _ _).symm.trans H; with_reducible exact xJ) | with_reducible exact H | (rw [iV]; exact H) | exact H
    have zJK := zx.mk iV
    clear iV
    have H' := zx.mk H
    clear H
    go_wp2_with (first | ((with_reducible refine qx (N := 59) rfl ?_); refine Kd.ZP Kd.string _ 9 ?hg (N := 59) ?hd (xs := ([(⟨#[102, 105]⟩ : BA), (⟨#[102, 108]⟩ : BA), (⟨#[102, 102]⟩ : BA)] : List BA)) (inner := [.string (⟨#[102, 105]⟩ : BA), .string (⟨#[102, 108]⟩ : BA), .string (⟨#[102, 102]⟩ : BA)]) (ok := fun _ => True) (jc := fun _ => True) ?hr ?hp (fun _ hk => hk) trivial (Below.refl _ _) (Nat.le_refl _) (by simp) ?_; (case hd => rfl); (case hg => rfl); (case hr => first | (go_simp; done) | (go_simp; rfl)); (case hp => exact (yS.one (show Kd.M Kd.string _ _ _ (⟨#[102, 105]⟩ : BA) [.string (⟨#[102, 105]⟩ : BA)] from rfl) (yS.one (show Kd.M Kd.string _ _ _ (⟨#[102, 108]⟩ : BA) [.string (⟨#[102, 108]⟩ : BA)] from rfl) (yS.one (show Kd.M Kd.string _ _ _ (⟨#[102, 102]⟩ : BA) [.string (⟨#[102, 102]⟩ : BA)] from rfl) (yS.none _ _))))); intro v171 w63 zx7 hb wo ug; clear wo ug; (first | rw [← zJK.out] at zx7 | (simp only [Int.reduceToNat] at zx7; rw [← zJK.out] at zx7)); have zf := zx.mk (Kd.qz (yF yw.out) hb); have zh := zx.mk (Kd.qz (yF yX.out) hb); have zA := zx.mk (Kd.qz (yF yZ.out) hb); have zR := zx.mk (Kd.qz (yF yJ.out) hb); have qV := zx.mk (Kd.xI (Kd.wM (M := fun k_ => (w.heap.size ≤ k_)) zx7 (zV (zD HB.out)) (fun k_ h_ => h_)) (zV (zD HB.out))); have xD := zx.mk (zl (g := yV) (o := .cells #[.string (⟨#[82]⟩ : BA), .bool false, .int .i64 250, xO, .slice none 0 0, .slice none 0 0] 44 (0, 0)) (yt zB.out) hb); have vE := zx.mk (zl (g := qX) (o := .cells #[.string (⟨#[73]⟩ : BA), .bool false, .int .i64 250, xH, .slice none 0 0, .slice none 0 0] 44 (0, 0)) (yt yj.out) hb); have vR := zx.mk (zl (g := yU) (o := .cells #[.string (⟨#[66]⟩ : BA), .bool false, .int .i64 250, qP, .slice none 0 0, .slice none 0 0] 44 (0, 0)) (yt zF.out) hb); have uK := zx.mk (zl (g := qA) (o := .cells #[.string (⟨#[77]⟩ : BA), .bool false, .int .i64 600, xk, .slice none 0 0, .slice none 0 0] 44 (0, 0)) (yt yg.out) hb); have uo := zx.mk (zl (g := qI) (o := .cells #[.string (⟨#[83]⟩ : BA), .bool true, .int .i64 250, .slice none 0 0, .slice none 0 0, .slice none 0 0] 44 (0, 0)) (yt yB.out) hb); have vH := zx.mk (zI (zD HB.out) hb); clear yw; clear yX; clear yZ; clear yJ; clear zB; clear yj; clear zF; clear yg; clear yB; clear HB; have yw := zf; have yX := zh; have yZ := zA; have yJ := zR; have zbx := qV; have zB := xD; have yj := vE; have zF := vR; have yg := uK; have yB := uo; have HB := vH; clear zf zh zA zR qV xD vE vR uK uo vH; clear hb zx7))
    go_loopg [10] k1 (fun kq v10 w' => ∃ (wY : Int) (vo : List (zo)) (uZ : List (zo)) (xO : Value) (qP : Value), v10 = .int .i64 wY ∧ zx (za.l1 kq Xb wY (⟨#[82]⟩ : BA) false 250 vo (⟨#[73]⟩ : BA) false 250 xu (⟨#[66]⟩ : BA) false 250 uZ (⟨#[77]⟩ : BA) false 600 xA (⟨#[83]⟩ : BA) true 250 = some r) ∧ zx (kq ≤ k1) ∧ zx (Kd.R Kd.string 9 w' w.heap.size (fun k_ => (w.heap.size ≤ k_)) v171 Xb) ∧ zx (Kd.R qJ 81 w' w.heap.size (fun k_ => (w.heap.size ≤ k_) ∧ some k_ ≠ (xH : Value).ownBlock ∧ some k_ ≠ (qP : Value).ownBlock ∧ some k_ ≠ (xk : Value).ownBlock) xO vo) ∧ zx (Kd.R qJ 81 w' w.heap.size (fun k_ => (w.heap.size ≤ k_) ∧ some k_ ≠ (xO : Value).ownBlock ∧ some k_ ≠ (qP : Value).ownBlock ∧ some k_ ≠ (xk : Value).ownBlock) xH xu) ∧ zx (Kd.R qJ 81 w' w.heap.size (fun k_ => (w.heap.size ≤ k_) ∧ some k_ ≠ (xO : Value).ownBlock ∧ some k_ ≠ (xH : Value).ownBlock ∧ some k_ ≠ (xk : Value).ownBlock) qP uZ) ∧ zx (Kd.R qJ 81 w' w.heap.size (fun k_ => (w.heap.size ≤ k_) ∧ some k_ ≠ (xO : Value).ownBlock ∧ some k_ ≠ (xH : Value).ownBlock ∧ some k_ ≠ (qP : Value).ownBlock) xk xA) ∧ zx (w'.heap[yV]? = some (.cells #[.string (⟨#[82]⟩ : BA), .bool false, .int .i64 250, xO, (.slice none 0 0), (.slice none 0 0)] 44 (0, 0))) ∧ zx (w'.heap[qX]? = some (.cells #[.string (⟨#[73]⟩ : BA), .bool false, .int .i64 250, xH, (.slice none 0 0), (.slice none 0 0)] 44 (0, 0))) ∧ zx (w'.heap[yU]? = some (.cells #[.string (⟨#[66]⟩ : BA), .bool false, .int .i64 250, qP, (.slice none 0 0), (.slice none 0 0)] 44 (0, 0))) ∧ zx (w'.heap[qA]? = some (.cells #[.string (⟨#[77]⟩ : BA), .bool false, .int .i64 600, xk, (.slice none 0 0), (.slice none 0 0)] 44 (0, 0))) ∧ zx (w'.heap[qI]? = some (.cells #[.string (⟨#[83]⟩ : BA), .bool true, .int .i64 250, (.slice none 0 0), (.slice none 0 0), (.slice none 0 0)] 44 (0, 0))) ∧ zx (Below w.heap.size w w'))
    case atStart => exact ⟨(0), (jT), (ji), (xO), (qP), (by first | rfl | (simp; done) | (simp [*]; done)), H', ⟨Nat.le_refl _⟩, ⟨by (with_reducible repeat (first | apply Kd.q9 | apply Kd.qL | apply Kd.qw)); exact Kd.zL zbx.out (fun _ hk => hk.1)⟩, ⟨yF yw.out⟩, ⟨yF yX.out⟩, ⟨yF yZ.out⟩, ⟨yF yJ.out⟩, ⟨yt zB.out⟩, ⟨yt yj.out⟩, ⟨yt zF.out⟩, ⟨yt yg.out⟩, ⟨yt yB.out⟩, ⟨zD HB.out⟩⟩
    case round =>
     clear H'
     try clear c1
     try clear c2
     try clear p2
     try clear c3
     try clear zlR
     try clear c4
     try clear c5
     try clear c6
     try clear p6
     try clear c7
     try clear c8
     try clear c9
     try clear c11
     try clear c12
     try clear c13
     try clear c14
     try clear c15
     try clear c16
     try clear c18
     try clear c21
     try clear zJJ
     try clear rW
     try clear c33
     try clear c34
     try clear c35
     try clear c36
     try clear c37
     try clear c38
     try clear c42
     try clear c43
     try clear c44
     try clear c50
     try clear c51
     try clear c57
     try clear p64
     try clear bJ
     try clear bV
     try clear bK
     try clear bY
     try clear bW
     try clear bg
     try clear bn
     try clear bA
     try clear bB
     try clear bC
     try clear bD
     try clear bE
     try clear oM
     try clear oN
     try clear zvJ
     try clear zvV
     try clear zvK
     try clear zvY
     try clear zvW
     try clear zva
     try clear zvb
     try clear zvc
     try clear zvd
     try clear zve
     try clear zzk
     try clear zzy
     try clear zzw
     try clear zzZ
     try clear zzQ
     try clear zzX
     try clear nU
     try clear rz
     try clear zVh
     try clear zVi
     try clear zVl
     try clear zvf
     try clear zvm
     try clear zvn
     try clear zvo
     try clear zvp
     try clear zvr
     try clear zvs
     try clear zvE
     try clear zvF
     try clear zvG
     try clear zvH
     try clear zvI
     try clear zvL
     try clear zvT
     try clear zvU
     try clear zv0
     try clear zv1
     try clear zv2
     try clear zv3
     try clear zkz
     try clear zkq
     try clear zkx
     try clear zkj
     try clear zkv
     try clear zkk
     try clear zkV
     try clear zkK
     try clear zkY
     try clear zkW
     try clear zka
     try clear zkb
     try clear zki
     try clear zkl
     try clear zkm
     try clear zkn
     try clear zko
     try clear zkp
     try clear zkC
     try clear zkD
     try clear zkE
     try clear zkF
     try clear zkG
     try clear zkH
     try clear J8
     try clear J9
     try clear Kz
     try clear Kq
     try clear Kj
     try clear Kv
     try clear Kk
     try clear Ky
     try clear Kw
     try clear KZ
     try clear KQ
     try clear KX
     try clear nO
     try clear nP
     try clear oO
     try clear oP
     try clear oU
     try clear o7
     try clear o8
     try clear o9
     try clear zzq
     try clear zzx
     try clear zzj
     try clear zzv
     try clear rZ
     try clear rQ
     try clear rX
     try clear rJ
     try clear rV
     try clear rY
     try clear bQ
     try clear bX
     try clear zvg
     try clear zvh
     try clear zvi
     try clear zvl
     try clear zvt
     try clear zvu
     try clear zvA
     try clear zvB
     try clear zvC
     try clear zvD
     try clear zvM
     try clear zvN
     try clear zvO
     try clear zvP
     try clear zvR
     try clear zvS
     try clear zv4
     try clear zv5
     try clear zv6
     try clear zv7
     try clear zv8
     try clear zv9
     try clear zky
     try clear zkw
     try clear zkZ
     try clear zkQ
     try clear zkX
     try clear zkJ
     try clear zkc
     try clear zkd
     try clear zke
     try clear zkf
     try clear zkg
     try clear zkh
     try clear zkr
     try clear zks
     try clear zkt
     try clear zku
     try clear zkA
     try clear zkB
     try clear zkI
     try clear zkL
     try clear zkM
     try clear zkN
     try clear zkO
     try clear zkP
     try clear p2
     obtain ⟨wY, vo, uZ, xO, qP, rfl, HA, bG, kS, yw, yX, yZ, yJ, zB, yj, zF, yg, yB, HB⟩ := hrel
     cases gk with
     | zero => exact absurd HA.out (by simp [za.l1])
     | succ k2 =>
      have H := HA.out
      clear HA
      simp only [za.l1] at H
      by_cases c65 : wY < (Xb.length : Int)
      ·rw [if_pos c65] at H
       have zJY : decide (wY < (Xb.length : Int)) = true := decide_eq_true c65
       clear c65
       by_cases c66 : 0 ≤ wY
       ·rw [if_pos c66] at H
        have zbj : decide (0 ≤ wY) = true := decide_eq_true c66
        clear c66
        replace H := Option.bind_eq_some_iff.mp H
        obtain ⟨kR, zWb, H⟩ := H
        replace H : ((yE.f k2 uZ (Xu ByteArray.empty Xb wY) 600).bind fun Ue => (za.l1 k2 Xb (wrap64 (wY + 1)) (⟨#[82]⟩ : BA) false 250 kR (⟨#[73]⟩ : BA) false 250 xu (⟨#[66]⟩ : BA) false 250 Ue (⟨#[77]⟩ : BA) false 600 xA (⟨#[83]⟩ : BA) true 250)) = some r := H
        have A67 := zx.mk zWb
        clear zWb
        replace H := Option.bind_eq_some_iff.mp H
        obtain ⟨Ue, zx8, H⟩ := H
        replace H : (za.l1 k2 Xb (wrap64 (wY + 1)) (⟨#[82]⟩ : BA) false 250 kR (⟨#[73]⟩ : BA) false 250 xu (⟨#[66]⟩ : BA) false 250 Ue (⟨#[77]⟩ : BA) false 600 xA (⟨#[83]⟩ : BA) true 250) = some r := H
        have A68 := zx.mk zx8
        clear zx8
        have H' := zx.mk H
        clear H
        obtain ⟨zlS, zdu, zdA⟩ := Kd.y9 kS.out
        subst zdA
        try go_wp2
        have zf := zx.mk (Kd.qw kS.out)
        have zh := zx.mk (Kd.qw yw.out)
        have zA := zx.mk (Kd.qw yX.out)
        have zR := zx.mk (Kd.qw yZ.out)
        have qV := zx.mk (Kd.qw yJ.out)
        have xD := zx.mk (zX zB.out)
        have vE := zx.mk (zX yj.out)
        have vR := zx.mk (zX zF.out)
        have uK := zx.mk (zX yg.out)
        have uo := zx.mk (zX yB.out)
        have vH := zx.mk (yT HB.out)
        clear kS yw yX yZ yJ zB yj zF yg yB HB
        have kS := zf
        have yw := zh
        have yX := zA
        have yZ := zR
        have yJ := qV
        have zB := xD
        have yj := vE
        have zF := vR
        have yg := uK
        have yB := uo
        have HB := vH
        clear zf zh zA zR qV xD vE vR uK uo vH
        have zwh : 0 ≤ (wY : Int) := of_decide_eq_true (by first | (with_reducible assumption) | assumption)
        have zwi : wY < (Xb.length : Int) := of_decide_eq_true (by first | (with_reducible assumption) | assumption)
        obtain ⟨zq4, zdB, zzW⟩ := Kd.Wm (Kd.qU kS.out).2.2 wY zwh zwi
        cases zdB
        replace zwh := eq_true zwh
        replace zwi := eq_true zwi
        obtain ⟨Uf, Ug, zwl⟩ := Kd.y9 yw.out
        (first | subst zwl | (injection zwl with X8 KT X9; have KU := X8.symm; have K8 := X9.symm; clear X8 KT X9; subst KU; subst K8))
        refine Zj (n := 10) (S := fun w' => w'.cell? ⟨yV, 0, none⟩ = some (.string (⟨#[82]⟩ : BA)) ∧ w'.cell? ⟨yV, 1, none⟩ = some (.bool false) ∧ w'.cell? ⟨yV, 2, none⟩ = some (.int .i64 250) ∧ w'.cell? ⟨yV, 3, none⟩ = some (.slice Uf vo.length Ug) ∧ w'.cell? ⟨yV, 4, none⟩ = some (.slice none 0 0) ∧ w'.cell? ⟨yV, 5, none⟩ = some (.slice none 0 0) ∧ w'.cell? (zq4.add (wY).toNat) = some (.string (Xu ByteArray.empty Xb wY))) (ds := [9]) #[false, false, false, false, false, false, false, false, false, false] (by kernel_rfl) rfl rfl ⟨(zk zB.out 0).trans rfl, (zk zB.out 1).trans rfl, (zk zB.out 2).trans rfl, (zk zB.out 3).trans rfl, (zk zB.out 4).trans rfl, (zk zB.out 5).trans rfl, zzW⟩ (fun hHeld => ?_); refine wL za.zwf za.zWQ (fun zM jJ => ?_)
        generalize wr.drew = w70 at kS yw yX yZ yJ zB yj zF yg yB HB zzW hHeld ⊢
        refine qW 0 (some 66) zM ?_
        refine qW 2 (some 68) zM ?_
        refine qW 3 (some 69) zM ?_
        refine qW 4 (some 70) zM ?_
        refine kQ 1 (some 67) zM jJ hHeld ?_
        refine kQ 5 (some 71) zM jJ hHeld ?_
        refine qW 6 (some 72) zM ?_
        refine ZH 7 (some 73) zM (fun K hK => ?_)
        refine Xv Tryz.func38 (by kernel_rfl) rfl #[.slice Uf vo.length Ug, .agg #[.string (Xu ByteArray.empty Xb wY), .int .i64 550]] (by rfl) rfl rfl (by (try simp only [List.map_toArray, List.map_cons, List.map_nil]); first | done | rfl | (simp only [List.length_drop, List.length_take]; rfl)) ?_
        with_reducible refine (yE.calls k2 _ _ vo (Xu ByteArray.empty Xb wY) 550 kR _ ?y8 ?qy A67.out).mono ?_
        (case y8 => repeat (first | exact (Kd.qU yw.out).2.2 | (with_reducible refine Kd.zS ?_ _) | (with_reducible refine Kd.zT ?_ _) | (with_reducible refine Kd.yc ?_)))
        (case qy => exact (Kd.qU yw.out).2.1)
        rintro e WR ⟨v175, rfl, ho0, hb⟩
        have zx9 := (hb.cell (World.block_lt_of_cell? _ _ (hHeld.2.2.2.2.2.2))).trans (hHeld.2.2.2.2.2.2)
        refine ⟨_, rfl, ?_⟩
        have zf := zx.mk (Kd.qz (yF kS.out) hb)
        have zh := zx.mk (Kd.xE (yF yw.out) (Kd.xB ho0) hb)
        have zA := zx.mk (Kd.xE (yF yX.out) (Kd.xB ho0) hb)
        have zR := zx.mk (Kd.xE (yF yZ.out) (Kd.xB ho0) hb)
        have qV := zx.mk (Kd.xE (yF yJ.out) (Kd.xB ho0) hb)
        have xD := zx.mk (Kd.xI (Kd.vP (Kd.vP (Kd.vP (Kd.vP (Kd.wM (M := fun k_ => (w.heap.size ≤ k_)) ho0 (zV (zD HB.out)) (fun k_ h_ => h_)) (Kd.jg (yF yw.out))) (Kd.jg (yF yX.out))) (Kd.jg (yF yZ.out))) (Kd.jg (yF yJ.out))) (zV (zD HB.out)))
        have vE := zx.mk (zl (g := yV) (o := .cells #[.string (⟨#[82]⟩ : BA), .bool false, .int .i64 250, .slice Uf vo.length Ug, .slice none 0 0, .slice none 0 0] 44 (0, 0)) (yt zB.out) hb)
        have vR := zx.mk (zl (g := qX) (o := .cells #[.string (⟨#[73]⟩ : BA), .bool false, .int .i64 250, xH, .slice none 0 0, .slice none 0 0] 44 (0, 0)) (yt yj.out) hb)
        have uK := zx.mk (zl (g := yU) (o := .cells #[.string (⟨#[66]⟩ : BA), .bool false, .int .i64 250, qP, .slice none 0 0, .slice none 0 0] 44 (0, 0)) (yt zF.out) hb)
        have uo := zx.mk (zl (g := qA) (o := .cells #[.string (⟨#[77]⟩ : BA), .bool false, .int .i64 600, xk, .slice none 0 0, .slice none 0 0] 44 (0, 0)) (yt yg.out) hb)
        have vH := zx.mk (zl (g := qI) (o := .cells #[.string (⟨#[83]⟩ : BA), .bool true, .int .i64 250, .slice none 0 0, .slice none 0 0, .slice none 0 0] 44 (0, 0)) (yt yB.out) hb)
        have uM := zx.mk (zI (zD HB.out) hb)
        clear kS yw yX yZ yJ zB yj zF yg yB HB
        have kS := zf
        have yw := zh
        have yX := zA
        have yZ := zR
        have yJ := qV
        have QW := xD
        have zB := vE
        have yj := vR
        have zF := uK
        have yg := uo
        have yB := vH
        have HB := uM
        clear zf zh zA zR qV xD vE vR uK uo vH uM
        (try clear hb)
        (try clear hb2)
        (try clear hk)
        (try clear hi)
        (try clear ho0)
        obtain ⟨Zv, Zk, zWc⟩ := Kd.y9 QW.out
        (first | subst zWc | (injection zWc with X8 KT X9; have KU := X8.symm; have K8 := X9.symm; clear X8 KT X9; subst KU; subst K8))
        refine hK.out _ _ ⟨(zk zB.out 0).trans rfl, (zk zB.out 1).trans rfl, (zk zB.out 2).trans rfl, (zk zB.out 3).trans rfl, (zk zB.out 4).trans rfl, (zk zB.out 5).trans rfl, zx9⟩ (fun hHeld => ?_)
        clear hK K
        refine wX (some 73) ?_
        refine qW 8 (some 74) zM ?_
        refine Qw (i := 9) (N := none) #[true, true, true, true, true, true, true, true, true, true] rfl rfl (wI zM.out (by kernel_rfl)) (by decide) (fun K hK => ?_)
        have zlT : WR.cell? ⟨yV, 3, none⟩ = some (.slice Uf vo.length Ug) := (zk zB.out 3).trans rfl
        have zi5 := zw zB.out 3
        have zgj := Zc.out
        have zgv := pG.out
        have zgk := Zg.out
        have zgy := pO.out
        have zgw := Zb.out
        have zgZ := pF.out
        have zgQ := Zf.out
        have zgX := pI.out
        refine QZ (w1 := ?_) (by rfl) rfl ?_ ?_
        rotate_left
        ·go_simp
         rfl
        refine hK.out _ _ ?_
        clear hK K
        refine uO (vW zM.out (by kernel_rfl)) ?_
        try go_wp2
        have zf : zx (Kd.R Kd.string 9 (WR.setCell ⟨yV, 3, none⟩ (.slice Zv kR.length Zk)) w.heap.size (fun k_ => (w.heap.size ≤ k_)) (.slice (some zq4) Xb.length zdu) Xb) := ⟨by (with_reducible repeat (first | apply Kd.q9 | apply Kd.qL | apply Kd.qw)); exact Kd.zL (Kd.yK (p := ⟨yV, 3, none⟩) (Kd.zi kS.out zB.out (by decide)) (fun _ hk => hk.2) (.slice Zv kR.length Zk)) (fun _ hk => hk.1)⟩
        have zh : zx (Kd.R qJ 81 (WR.setCell ⟨yV, 3, none⟩ (.slice Zv kR.length Zk)) w.heap.size (fun k_ => (w.heap.size ≤ k_) ∧ some k_ ≠ (xH : Value).ownBlock ∧ some k_ ≠ (qP : Value).ownBlock ∧ some k_ ≠ (xk : Value).ownBlock ∧ some k_ ≠ (.slice Zv kR.length Zk : Value).ownBlock) (.slice Uf vo.length Ug) vo) := ⟨by (with_reducible repeat (first | apply Kd.q9 | apply Kd.qL | apply Kd.qw)); exact Kd.zL (Kd.yK (p := ⟨yV, 3, none⟩) (Kd.zi yw.out zB.out (by decide)) (fun _ hk => hk.2) (.slice Zv kR.length Zk)) (fun _ hk => ⟨hk.1.1.1, ⟨hk.1.1.2.1, ⟨hk.1.1.2.2.1, ⟨hk.1.1.2.2.2, hk.1.2⟩⟩⟩⟩)⟩
        have zA : zx (Kd.R qJ 81 (WR.setCell ⟨yV, 3, none⟩ (.slice Zv kR.length Zk)) w.heap.size (fun k_ => (w.heap.size ≤ k_) ∧ some k_ ≠ (.slice Uf vo.length Ug : Value).ownBlock ∧ some k_ ≠ (qP : Value).ownBlock ∧ some k_ ≠ (xk : Value).ownBlock ∧ some k_ ≠ (.slice Zv kR.length Zk : Value).ownBlock) xH xu) := ⟨by (with_reducible repeat (first | apply Kd.q9 | apply Kd.qL | apply Kd.qw)); exact Kd.zL (Kd.yK (p := ⟨yV, 3, none⟩) (Kd.zi yX.out zB.out (by decide)) (fun _ hk => hk.2) (.slice Zv kR.length Zk)) (fun _ hk => ⟨hk.1.1.1, ⟨hk.1.1.2.1, ⟨hk.1.1.2.2.1, ⟨hk.1.1.2.2.2, hk.1.2⟩⟩⟩⟩)⟩
        have zR : zx (Kd.R qJ 81 (WR.setCell ⟨yV, 3, none⟩ (.slice Zv kR.length Zk)) w.heap.size (fun k_ => (w.heap.size ≤ k_) ∧ some k_ ≠ (.slice Uf vo.length Ug : Value).ownBlock ∧ some k_ ≠ (xH : Value).ownBlock ∧ some k_ ≠ (xk : Value).ownBlock ∧ some k_ ≠ (.slice Zv kR.length Zk : Value).ownBlock) qP uZ) := ⟨by (with_reducible repeat (first | apply Kd.q9 | apply Kd.qL | apply Kd.qw)); exact Kd.zL (Kd.yK (p := ⟨yV, 3, none⟩) (Kd.zi yZ.out zB.out (by decide)) (fun _ hk => hk.2) (.slice Zv kR.length Zk)) (fun _ hk => ⟨hk.1.1.1, ⟨hk.1.1.2.1, ⟨hk.1.1.2.2.1, ⟨hk.1.1.2.2.2, hk.1.2⟩⟩⟩⟩)⟩
        have qV : zx (Kd.R qJ 81 (WR.setCell ⟨yV, 3, none⟩ (.slice Zv kR.length Zk)) w.heap.size (fun k_ => (w.heap.size ≤ k_) ∧ some k_ ≠ (.slice Uf vo.length Ug : Value).ownBlock ∧ some k_ ≠ (xH : Value).ownBlock ∧ some k_ ≠ (qP : Value).ownBlock ∧ some k_ ≠ (.slice Zv kR.length Zk : Value).ownBlock) xk xA) := ⟨by (with_reducible repeat (first | apply Kd.q9 | apply Kd.qL | apply Kd.qw)); exact Kd.zL (Kd.yK (p := ⟨yV, 3, none⟩) (Kd.zi yJ.out zB.out (by decide)) (fun _ hk => hk.2) (.slice Zv kR.length Zk)) (fun _ hk => ⟨hk.1.1.1, ⟨hk.1.1.2.1, ⟨hk.1.1.2.2.1, ⟨hk.1.1.2.2.2, hk.1.2⟩⟩⟩⟩)⟩
        have xD : zx (Kd.R qJ 81 (WR.setCell ⟨yV, 3, none⟩ (.slice Zv kR.length Zk)) w.heap.size (fun k_ => (w.heap.size ≤ k_) ∧ some k_ ≠ (.slice Uf vo.length Ug : Value).ownBlock ∧ some k_ ≠ (xH : Value).ownBlock ∧ some k_ ≠ (qP : Value).ownBlock ∧ some k_ ≠ (xk : Value).ownBlock) (.slice Zv kR.length Zk) kR) := ⟨by (with_reducible repeat (first | apply Kd.q9 | apply Kd.qL | apply Kd.qw)); exact Kd.zL (Kd.yK (p := ⟨yV, 3, none⟩) (Kd.zi QW.out zB.out (by decide)) (fun _ hk => hk.2) (.slice Zv kR.length Zk)) (fun _ hk => ⟨hk.1.1.1.1.1.1, ⟨hk.1.1.1.1.2, ⟨hk.1.1.1.2, ⟨hk.1.1.2, hk.1.2⟩⟩⟩⟩)⟩
        have vE : zx ((WR.setCell ⟨yV, 3, none⟩ (.slice Zv kR.length Zk)).heap[yV]? = some (.cells #[.string (⟨#[82]⟩ : BA), .bool false, .int .i64 250, .slice Zv kR.length Zk, .slice none 0 0, .slice none 0 0] 44 (0, 0))) := ⟨by (with_reducible repeat (first | refine zJ ?_ _ | refine zX ?_ | refine zZ ?_ _)); refine yC (cs := #[.string (⟨#[82]⟩ : BA), .bool false, .int .i64 250, .slice Uf vo.length Ug, .slice none 0 0, .slice none 0 0]) ?_ 3 _ rfl; (with_reducible repeat (first | refine zJ ?_ _ | refine zX ?_ | refine zZ ?_ _)); exact zB.out⟩
        have vR : zx ((WR.setCell ⟨yV, 3, none⟩ (.slice Zv kR.length Zk)).heap[qX]? = some (.cells #[.string (⟨#[73]⟩ : BA), .bool false, .int .i64 250, xH, .slice none 0 0, .slice none 0 0] 44 (0, 0))) := ⟨wJ yj.out⟩
        have uK : zx ((WR.setCell ⟨yV, 3, none⟩ (.slice Zv kR.length Zk)).heap[yU]? = some (.cells #[.string (⟨#[66]⟩ : BA), .bool false, .int .i64 250, qP, .slice none 0 0, .slice none 0 0] 44 (0, 0))) := ⟨wJ zF.out⟩
        have uo : zx ((WR.setCell ⟨yV, 3, none⟩ (.slice Zv kR.length Zk)).heap[qA]? = some (.cells #[.string (⟨#[77]⟩ : BA), .bool false, .int .i64 600, xk, .slice none 0 0, .slice none 0 0] 44 (0, 0))) := ⟨wJ yg.out⟩
        have vH : zx ((WR.setCell ⟨yV, 3, none⟩ (.slice Zv kR.length Zk)).heap[qI]? = some (.cells #[.string (⟨#[83]⟩ : BA), .bool true, .int .i64 250, .slice none 0 0, .slice none 0 0, .slice none 0 0] 44 (0, 0))) := ⟨wJ yB.out⟩
        have uM : zx (Below w.heap.size w (WR.setCell ⟨yV, 3, none⟩ (.slice Zv kR.length Zk))) := ⟨zD HB.out⟩
        (try clear kS)
        (try clear yw)
        (try clear yX)
        (try clear yZ)
        (try clear yJ)
        (try clear QW)
        (try clear zB)
        (try clear yj)
        (try clear zF)
        (try clear yg)
        (try clear yB)
        (try clear HB)
        generalize (WR.setCell ⟨yV, 3, none⟩ (.slice Zv kR.length Zk)) = w75 at zf zh zA zR qV xD vE vR uK uo vH uM ⊢
        have kS := zf
        have yw := zh
        have yX := zA
        have yZ := zR
        have yJ := qV
        have QW := xD
        have zB := vE
        have yj := vR
        have zF := uK
        have yg := uo
        have yB := vH
        have HB := uM
        clear zf zh zA zR qV xD vE vR uK uo vH uM
        have zf := zx.mk (Kd.qw kS.out)
        have zh := zx.mk (Kd.qw yw.out)
        have zA := zx.mk (Kd.qw yX.out)
        have zR := zx.mk (Kd.qw yZ.out)
        have qV := zx.mk (Kd.qw yJ.out)
        have xD := zx.mk (Kd.qw QW.out)
        have vE := zx.mk (zX zB.out)
        have vR := zx.mk (zX yj.out)
        have uK := zx.mk (zX zF.out)
        have uo := zx.mk (zX yg.out)
        have vH := zx.mk (zX yB.out)
        have uM := zx.mk (yT HB.out)
        clear kS yw yX yZ yJ QW zB yj zF yg yB HB
        have kS := zf
        have yw := zh
        have yX := zA
        have yZ := zR
        have yJ := qV
        have QW := xD
        have zB := vE
        have yj := vR
        have zF := uK
        have yg := uo
        have yB := vH
        have HB := uM
        clear zf zh zA zR qV xD vE vR uK uo vH uM
        have zwm : 0 ≤ (wY : Int) := of_decide_eq_true (by first | (with_reducible assumption) | assumption)
        have zwn : wY < (Xb.length : Int) := of_decide_eq_true (by first | (with_reducible assumption) | assumption)
        obtain ⟨zbv, zdC, zza⟩ := Kd.Wm (Kd.qU kS.out).2.2 wY zwm zwn
        obtain rfl : zq4 = zbv := (by injection zdC)
        replace zwm := eq_true zwm
        replace zwn := eq_true zwn
        obtain ⟨Pw, PZ, zwo⟩ := Kd.y9 yZ.out
        (first | subst zwo | (injection zwo with X8 KT X9; have KU := X8.symm; have K8 := X9.symm; clear X8 KT X9; subst KU; subst K8))
        refine Zj (n := 10) (S := fun w' => w'.cell? ⟨yU, 0, none⟩ = some (.string (⟨#[66]⟩ : BA)) ∧ w'.cell? ⟨yU, 1, none⟩ = some (.bool false) ∧ w'.cell? ⟨yU, 2, none⟩ = some (.int .i64 250) ∧ w'.cell? ⟨yU, 3, none⟩ = some (.slice Pw uZ.length PZ) ∧ w'.cell? ⟨yU, 4, none⟩ = some (.slice none 0 0) ∧ w'.cell? ⟨yU, 5, none⟩ = some (.slice none 0 0) ∧ w'.cell? (zq4.add (wY).toNat) = some (.string (Xu ByteArray.empty Xb wY))) (ds := [9]) #[false, false, false, false, false, false, false, false, false, false] (by kernel_rfl) rfl rfl ⟨(zk zF.out 0).trans rfl, (zk zF.out 1).trans rfl, (zk zF.out 2).trans rfl, (zk zF.out 3).trans rfl, (zk zF.out 4).trans rfl, (zk zF.out 5).trans rfl, zza⟩ (fun hHeld => ?_); refine wL za.za3 za.zWX (fun zM jJ => ?_)
        generalize w75.drew = w76 at kS yw yX yZ yJ QW zB yj zF yg yB HB zza hHeld ⊢
        refine qW 0 (some 75) zM ?_
        refine qW 2 (some 77) zM ?_
        refine qW 3 (some 78) zM ?_
        refine qW 4 (some 79) zM ?_
        refine kQ 1 (some 76) zM jJ hHeld ?_
        refine kQ 5 (some 80) zM jJ hHeld ?_
        refine qW 6 (some 81) zM ?_
        refine ZH 7 (some 82) zM (fun K hK => ?_)
        refine Xv Tryz.func38 (by kernel_rfl) rfl #[.slice Pw uZ.length PZ, .agg #[.string (Xu ByteArray.empty Xb wY), .int .i64 600]] (by rfl) rfl rfl (by (try simp only [List.map_toArray, List.map_cons, List.map_nil]); first | done | rfl | (simp only [List.length_drop, List.length_take]; rfl)) ?_
        with_reducible refine (yE.calls k2 _ _ uZ (Xu ByteArray.empty Xb wY) 600 Ue _ ?y8 ?qy A68.out).mono ?_
        (case y8 => repeat (first | exact (Kd.qU yZ.out).2.2 | (with_reducible refine Kd.zS ?_ _) | (with_reducible refine Kd.zT ?_ _) | (with_reducible refine Kd.yc ?_)))
        (case qy => exact (Kd.qU yZ.out).2.1)
        rintro e w78 ⟨zlU, rfl, ho0, hb⟩
        have zx9 := (hb.cell (World.block_lt_of_cell? _ _ (hHeld.2.2.2.2.2.2))).trans (hHeld.2.2.2.2.2.2)
        refine ⟨_, rfl, ?_⟩
        have zf := zx.mk (Kd.qz (yF kS.out) hb)
        have zh := zx.mk (Kd.xE (yF yw.out) (Kd.xB ho0) hb)
        have zA := zx.mk (Kd.xE (yF yX.out) (Kd.xB ho0) hb)
        have zR := zx.mk (Kd.xE (yF yZ.out) (Kd.xB ho0) hb)
        have qV := zx.mk (Kd.xE (yF yJ.out) (Kd.xB ho0) hb)
        have xD := zx.mk (Kd.xE (yF QW.out) (Kd.xB ho0) hb)
        have vE := zx.mk (Kd.xI (Kd.vP (Kd.vP (Kd.vP (Kd.vP (Kd.vP (Kd.wM (M := fun k_ => (w.heap.size ≤ k_)) ho0 (zV (zD HB.out)) (fun k_ h_ => h_)) (Kd.jg (yF yw.out))) (Kd.jg (yF yX.out))) (Kd.jg (yF yZ.out))) (Kd.jg (yF yJ.out))) (Kd.jg (yF QW.out))) (zV (zD HB.out)))
        have vR := zx.mk (zl (g := yV) (o := .cells #[.string (⟨#[82]⟩ : BA), .bool false, .int .i64 250, .slice Zv kR.length Zk, .slice none 0 0, .slice none 0 0] 44 (0, 0)) (yt zB.out) hb)
        have uK := zx.mk (zl (g := qX) (o := .cells #[.string (⟨#[73]⟩ : BA), .bool false, .int .i64 250, xH, .slice none 0 0, .slice none 0 0] 44 (0, 0)) (yt yj.out) hb)
        have uo := zx.mk (zl (g := yU) (o := .cells #[.string (⟨#[66]⟩ : BA), .bool false, .int .i64 250, .slice Pw uZ.length PZ, .slice none 0 0, .slice none 0 0] 44 (0, 0)) (yt zF.out) hb)
        have vH := zx.mk (zl (g := qA) (o := .cells #[.string (⟨#[77]⟩ : BA), .bool false, .int .i64 600, xk, .slice none 0 0, .slice none 0 0] 44 (0, 0)) (yt yg.out) hb)
        have uM := zx.mk (zl (g := qI) (o := .cells #[.string (⟨#[83]⟩ : BA), .bool true, .int .i64 250, .slice none 0 0, .slice none 0 0, .slice none 0 0] 44 (0, 0)) (yt yB.out) hb)
        have wB := zx.mk (zI (zD HB.out) hb)
        clear kS yw yX yZ yJ QW zB yj zF yg yB HB
        have kS := zf
        have yw := zh
        have yX := zA
        have yZ := zR
        have yJ := qV
        have QW := xD
        have zJW := vE
        have zB := vR
        have yj := uK
        have zF := uo
        have yg := vH
        have yB := uM
        have HB := wB
        clear zf zh zA zR qV xD vE vR uK uo vH uM wB
        (try clear hb)
        (try clear hb2)
        (try clear hk)
        (try clear hi)
        (try clear ho0)
        obtain ⟨zzb, zzc, zWd⟩ := Kd.y9 zJW.out
        (first | subst zWd | (injection zWd with X8 KT X9; have KU := X8.symm; have K8 := X9.symm; clear X8 KT X9; subst KU; subst K8))
        refine hK.out _ _ ⟨(zk zF.out 0).trans rfl, (zk zF.out 1).trans rfl, (zk zF.out 2).trans rfl, (zk zF.out 3).trans rfl, (zk zF.out 4).trans rfl, (zk zF.out 5).trans rfl, zx9⟩ (fun hHeld => ?_)
        clear hK K
        refine wX (some 82) ?_
        refine qW 8 (some 83) zM ?_
        refine Qw (i := 9) (N := none) #[true, true, true, true, true, true, true, true, true, true] rfl rfl (wI zM.out (by kernel_rfl)) (by decide) (fun K hK => ?_)
        have zl0 : w78.cell? ⟨yU, 3, none⟩ = some (.slice Pw uZ.length PZ) := (zk zF.out 3).trans rfl
        have zi6 := zw zF.out 3
        have zgJ := pF.out
        have zgV := Zd.out
        have zgK := Zi.out
        have zgY := pU.out
        have zgW := pG.out
        have zga := Ze.out
        have zgb := Zh.out
        have zgc := pR.out
        refine QZ (w1 := ?_) (by rfl) rfl ?_ ?_
        rotate_left
        ·go_simp
         rfl
        refine hK.out _ _ ?_
        clear hK K
        refine uO (vW zM.out (by kernel_rfl)) ?_
        try go_wp2
        go_roundg k2
        case measure => have := jv.out; have := bG.out; omega
        case rel => exact ⟨(wrap64 (wY + 1)), (kR), (Ue), (.slice Zv kR.length Zk), (.slice zzb Ue.length zzc), (by first | rfl | (simp; done) | (simp [*]; done)), H', ⟨by have := jv.out; have := bG.out; omega⟩, ⟨by (with_reducible repeat (first | apply Kd.q9 | apply Kd.qL | apply Kd.qw)); exact Kd.zL (Kd.yK (p := ⟨yU, 3, none⟩) (Kd.zi kS.out zF.out (by decide)) (fun _ hk => hk.2) (.slice zzb Ue.length zzc)) (fun _ hk => hk.1)⟩, ⟨by (with_reducible repeat (first | apply Kd.q9 | apply Kd.qL | apply Kd.qw)); exact Kd.zL (Kd.yK (p := ⟨yU, 3, none⟩) (Kd.zi QW.out zF.out (by decide)) (fun _ hk => hk.2) (.slice zzb Ue.length zzc)) (fun _ hk => ⟨hk.1.1.1, ⟨hk.1.1.2.2.1, ⟨hk.1.2, hk.1.1.2.2.2.2⟩⟩⟩)⟩, ⟨by (with_reducible repeat (first | apply Kd.q9 | apply Kd.qL | apply Kd.qw)); exact Kd.zL (Kd.yK (p := ⟨yU, 3, none⟩) (Kd.zi yX.out zF.out (by decide)) (fun _ hk => hk.2) (.slice zzb Ue.length zzc)) (fun _ hk => ⟨hk.1.1.1, ⟨hk.1.1.2.2.2.2, ⟨hk.1.2, hk.1.1.2.2.2.1⟩⟩⟩)⟩, ⟨by (with_reducible repeat (first | apply Kd.q9 | apply Kd.qL | apply Kd.qw)); exact Kd.zL (Kd.yK (p := ⟨yU, 3, none⟩) (Kd.zi zJW.out zF.out (by decide)) (fun _ hk => hk.2) (.slice zzb Ue.length zzc)) (fun _ hk => ⟨hk.1.1.1.1.1.1.1, ⟨hk.1.2, ⟨hk.1.1.1.1.2, hk.1.1.2⟩⟩⟩)⟩, ⟨by (with_reducible repeat (first | apply Kd.q9 | apply Kd.qL | apply Kd.qw)); exact Kd.zL (Kd.yK (p := ⟨yU, 3, none⟩) (Kd.zi yJ.out zF.out (by decide)) (fun _ hk => hk.2) (.slice zzb Ue.length zzc)) (fun _ hk => ⟨hk.1.1.1, ⟨hk.1.1.2.2.2.2, ⟨hk.1.1.2.2.1, hk.1.2⟩⟩⟩)⟩, ⟨wJ zB.out⟩, ⟨wJ yj.out⟩, ⟨by (with_reducible repeat (first | refine zJ ?_ _ | refine zX ?_ | refine zZ ?_ _)); refine yC (cs := #[.string (⟨#[66]⟩ : BA), .bool false, .int .i64 250, .slice Pw uZ.length PZ, .slice none 0 0, .slice none 0 0]) ?_ 3 _ rfl; (with_reducible repeat (first | refine zJ ?_ _ | refine zX ?_ | refine zZ ?_ _)); exact zF.out⟩, ⟨wJ yg.out⟩, ⟨wJ yB.out⟩, ⟨zD HB.out⟩⟩
       ·rw [if_neg c66] at H
        exact absurd H (by simp)
      ·rw [if_neg c65] at H
       have zJY : decide (wY < (Xb.length : Int)) = false := decide_eq_false c65
       clear c65
       obtain ⟨wC, iK⟩ : ∃ y_ : List (qF), y_ = (([(⟨(⟨#[102]⟩ : BA), (⟨#[102]⟩ : BA), (⟨#[102, 102]⟩ : BA)⟩ : qF), (⟨(⟨#[102]⟩ : BA), (⟨#[105]⟩ : BA), (⟨#[102, 105]⟩ : BA)⟩ : qF), (⟨(⟨#[102]⟩ : BA), (⟨#[108]⟩ : BA), (⟨#[102, 108]⟩ : BA)⟩ : qF)] : List (qF))) := ⟨_, rfl⟩
       replace H : ((j6.f).bind fun jB => (za.l2 k2 jB 0 (⟨#[82]⟩ : BA) false 250 vo wC (([(⟨(⟨#[65]⟩ : BA), (⟨#[86]⟩ : BA), (-80)⟩ : qG), (⟨(⟨#[65]⟩ : BA), (⟨#[87]⟩ : BA), (-60)⟩ : qG), (⟨(⟨#[84]⟩ : BA), (⟨#[111]⟩ : BA), (-70)⟩ : qG), (⟨(⟨#[86]⟩ : BA), (⟨#[65]⟩ : BA), (-80)⟩ : qG), (⟨(⟨#[89]⟩ : BA), (⟨#[111]⟩ : BA), (-90)⟩ : qG)] : List (qG))) (⟨#[73]⟩ : BA) false 250 xu (⟨#[66]⟩ : BA) false 250 uZ (([(⟨(⟨#[102]⟩ : BA), (⟨#[102]⟩ : BA), (⟨#[102, 102]⟩ : BA)⟩ : qF), (⟨(⟨#[102]⟩ : BA), (⟨#[105]⟩ : BA), (⟨#[102, 105]⟩ : BA)⟩ : qF), (⟨(⟨#[102]⟩ : BA), (⟨#[108]⟩ : BA), (⟨#[102, 108]⟩ : BA)⟩ : qF)] : List (qF))) (⟨#[77]⟩ : BA) false 600 xA (⟨#[83]⟩ : BA) true 250 ([] : List (zo)))) = some r := by first | (rw [iK]; with_reducible exact H) | (have xJ := (Option.bind_some _ _).symm.trans H; rw [iK]; with_reducible exact xJ) | (have xJ := (Option.bind_some _ _).symm.trans H; with_reducible exact xJ) | with_reducible exact H | (rw [iK]; exact H) | exact H
       have zJa := zx.mk iK
       clear iK
       obtain ⟨p9, iY⟩ : ∃ y_ : List (qF), y_ = (([(⟨(⟨#[102]⟩ : BA), (⟨#[102]⟩ : BA), (⟨#[102, 102]⟩ : BA)⟩ : qF), (⟨(⟨#[102]⟩ : BA), (⟨#[105]⟩ : BA), (⟨#[102, 105]⟩ : BA)⟩ : qF), (⟨(⟨#[102]⟩ : BA), (⟨#[108]⟩ : BA), (⟨#[102, 108]⟩ : BA)⟩ : qF)] : List (qF))) := ⟨_, rfl⟩
       replace H : ((j6.f).bind fun jB => (za.l2 k2 jB 0 (⟨#[82]⟩ : BA) false 250 vo wC (([(⟨(⟨#[65]⟩ : BA), (⟨#[86]⟩ : BA), (-80)⟩ : qG), (⟨(⟨#[65]⟩ : BA), (⟨#[87]⟩ : BA), (-60)⟩ : qG), (⟨(⟨#[84]⟩ : BA), (⟨#[111]⟩ : BA), (-70)⟩ : qG), (⟨(⟨#[86]⟩ : BA), (⟨#[65]⟩ : BA), (-80)⟩ : qG), (⟨(⟨#[89]⟩ : BA), (⟨#[111]⟩ : BA), (-90)⟩ : qG)] : List (qG))) (⟨#[73]⟩ : BA) false 250 xu (⟨#[66]⟩ : BA) false 250 uZ p9 (⟨#[77]⟩ : BA) false 600 xA (⟨#[83]⟩ : BA) true 250 ([] : List (zo)))) = some r := by first | (rw [iY]; with_reducible exact H) | (have xJ := (Option.bind_some _ _).symm.trans H; rw [iY]; with_reducible exact xJ) | (have xJ := (Option.bind_some _ _).symm.trans H; with_reducible exact xJ) | with_reducible exact H | (rw [iY]; exact H) | exact H
       have zJb := zx.mk iY
       clear iY
       obtain ⟨pz, iW⟩ : ∃ y_ : List (qG), y_ = (([(⟨(⟨#[65]⟩ : BA), (⟨#[86]⟩ : BA), (-80)⟩ : qG), (⟨(⟨#[65]⟩ : BA), (⟨#[87]⟩ : BA), (-60)⟩ : qG), (⟨(⟨#[84]⟩ : BA), (⟨#[111]⟩ : BA), (-70)⟩ : qG), (⟨(⟨#[86]⟩ : BA), (⟨#[65]⟩ : BA), (-80)⟩ : qG), (⟨(⟨#[89]⟩ : BA), (⟨#[111]⟩ : BA), (-90)⟩ : qG)] : List (qG))) := ⟨_, rfl⟩
       replace H : ((j6.f).bind fun jB => (za.l2 k2 jB 0 (⟨#[82]⟩ : BA) false 250 vo wC pz (⟨#[73]⟩ : BA) false 250 xu (⟨#[66]⟩ : BA) false 250 uZ p9 (⟨#[77]⟩ : BA) false 600 xA (⟨#[83]⟩ : BA) true 250 ([] : List (zo)))) = some r := by first | (rw [iW]; with_reducible exact H) | (have xJ := (Option.bind_some _ _).symm.trans H; rw [iW]; with_reducible exact xJ) | (have xJ := (Option.bind_some _ _).symm.trans H; with_reducible exact xJ) | with_reducible exact H | (rw [iW]; exact H) | exact H
       have zJc := zx.mk iW
       clear iW
       replace H := Option.bind_eq_some_iff.mp H
       obtain ⟨jB, zWe, H⟩ := H
       replace H : (za.l2 k2 jB 0 (⟨#[82]⟩ : BA) false 250 vo wC pz (⟨#[73]⟩ : BA) false 250 xu (⟨#[66]⟩ : BA) false 250 uZ p9 (⟨#[77]⟩ : BA) false 600 xA (⟨#[83]⟩ : BA) true 250 ([] : List (zo))) = some r := H
       have A81 := zx.mk zWe
       clear zWe
       have H' := zx.mk H
       clear H
       obtain ⟨zl1, zl2, zdD⟩ := Kd.y9 kS.out
       subst zdD
       go_wp2_with (first | ((with_reducible refine qx (N := 87) rfl ?_); refine Kd.ZP jC _ 83 ?hg (N := 87) ?hd (xs := ([(⟨(⟨#[102]⟩ : BA), (⟨#[102]⟩ : BA), (⟨#[102, 102]⟩ : BA)⟩ : qF), (⟨(⟨#[102]⟩ : BA), (⟨#[105]⟩ : BA), (⟨#[102, 105]⟩ : BA)⟩ : qF), (⟨(⟨#[102]⟩ : BA), (⟨#[108]⟩ : BA), (⟨#[102, 108]⟩ : BA)⟩ : qF)] : List (qF))) (inner := [.string (⟨#[102]⟩ : BA), .string (⟨#[102]⟩ : BA), .string (⟨#[102, 102]⟩ : BA), .string (⟨#[102]⟩ : BA), .string (⟨#[105]⟩ : BA), .string (⟨#[102, 105]⟩ : BA), .string (⟨#[102]⟩ : BA), .string (⟨#[108]⟩ : BA), .string (⟨#[102, 108]⟩ : BA)]) (ok := fun _ => True) (jc := fun _ => True) ?hr ?hp (fun _ hk => hk) trivial (Below.refl _ _) (Nat.le_refl _) (by simp) ?_; (case hd => rfl); (case hg => rfl); (case hr => first | (go_simp; done) | (go_simp; rfl)); (case hp => exact (yS.c3 (show Kd.M jC _ _ _ (⟨(⟨#[102]⟩ : BA), (⟨#[102]⟩ : BA), (⟨#[102, 102]⟩ : BA)⟩ : qF) [.string (⟨#[102]⟩ : BA), .string (⟨#[102]⟩ : BA), .string (⟨#[102, 102]⟩ : BA)] from (Q8 _ _ _ (⟨(⟨#[102]⟩ : BA), (⟨#[102]⟩ : BA), (⟨#[102, 102]⟩ : BA)⟩ : qF) )) (yS.c3 (show Kd.M jC _ _ _ (⟨(⟨#[102]⟩ : BA), (⟨#[105]⟩ : BA), (⟨#[102, 105]⟩ : BA)⟩ : qF) [.string (⟨#[102]⟩ : BA), .string (⟨#[105]⟩ : BA), .string (⟨#[102, 105]⟩ : BA)] from (Q8 _ _ _ (⟨(⟨#[102]⟩ : BA), (⟨#[105]⟩ : BA), (⟨#[102, 105]⟩ : BA)⟩ : qF) )) (yS.c3 (show Kd.M jC _ _ _ (⟨(⟨#[102]⟩ : BA), (⟨#[108]⟩ : BA), (⟨#[102, 108]⟩ : BA)⟩ : qF) [.string (⟨#[102]⟩ : BA), .string (⟨#[108]⟩ : BA), .string (⟨#[102, 108]⟩ : BA)] from (Q8 _ _ _ (⟨(⟨#[102]⟩ : BA), (⟨#[108]⟩ : BA), (⟨#[102, 108]⟩ : BA)⟩ : qF) )) (yS.none _ _))))); intro v182 w83 zjz hb wo ug; clear wo ug; (first | rw [← zJa.out] at zjz | (simp only [Int.reduceToNat] at zjz; rw [← zJa.out] at zjz)); have zf := zx.mk (Kd.qz (yF kS.out) hb); have zh := zx.mk (Kd.qz (yF yw.out) hb); have zA := zx.mk (Kd.qz (yF yX.out) hb); have zR := zx.mk (Kd.qz (yF yZ.out) hb); have qV := zx.mk (Kd.qz (yF yJ.out) hb); have xD := zx.mk (Kd.xI (Kd.wM (M := fun k_ => (w.heap.size ≤ k_)) zjz (zV (zD HB.out)) (fun k_ h_ => h_)) (zV (zD HB.out))); have vE := zx.mk (zl (g := yV) (o := .cells #[.string (⟨#[82]⟩ : BA), .bool false, .int .i64 250, xO, .slice none 0 0, .slice none 0 0] 44 (0, 0)) (yt zB.out) hb); have vR := zx.mk (zl (g := qX) (o := .cells #[.string (⟨#[73]⟩ : BA), .bool false, .int .i64 250, xH, .slice none 0 0, .slice none 0 0] 44 (0, 0)) (yt yj.out) hb); have uK := zx.mk (zl (g := yU) (o := .cells #[.string (⟨#[66]⟩ : BA), .bool false, .int .i64 250, qP, .slice none 0 0, .slice none 0 0] 44 (0, 0)) (yt zF.out) hb); have uo := zx.mk (zl (g := qA) (o := .cells #[.string (⟨#[77]⟩ : BA), .bool false, .int .i64 600, xk, .slice none 0 0, .slice none 0 0] 44 (0, 0)) (yt yg.out) hb); have vH := zx.mk (zl (g := qI) (o := .cells #[.string (⟨#[83]⟩ : BA), .bool true, .int .i64 250, .slice none 0 0, .slice none 0 0, .slice none 0 0] 44 (0, 0)) (yt yB.out) hb); have uM := zx.mk (zI (zD HB.out) hb); clear kS; clear yw; clear yX; clear yZ; clear yJ; clear zB; clear yj; clear zF; clear yg; clear yB; clear HB; have kS := zf; have yw := zh; have yX := zA; have yZ := zR; have yJ := qV; have QL := xD; have zB := vE; have yj := vR; have zF := uK; have yg := uo; have yB := vH; have HB := uM; clear zf zh zA zR qV xD vE vR uK uo vH uM; clear hb zjz; obtain ⟨YB, YC, zdE⟩ := Kd.y9 QL.out; subst zdE; have zi7 := Zb.out; have zi8 := Zc.out; have zi9 := pF.out; have zlz := pG.out; have zlq := Zf.out; have zlx := Zg.out; have zlj := pI.out; have zlv := pO.out; have zVm : w83.cell? ⟨yV, 0, none⟩ = some (.string (⟨#[82]⟩ : BA)) := (zk zB.out 0).trans rfl; have zVn : w83.cell? ⟨yV, 1, none⟩ = some (.bool false) := (zk zB.out 1).trans rfl; have zVo : w83.cell? ⟨yV, 2, none⟩ = some (.int .i64 250) := (zk zB.out 2).trans rfl; have zVp : w83.cell? ⟨yV, 3, none⟩ = some (xO) := (zk zB.out 3).trans rfl; have zVr : w83.cell? ⟨yV, 4, none⟩ = some (.slice none 0 0) := (zk zB.out 4).trans rfl; have zVs : w83.cell? ⟨yV, 5, none⟩ = some (.slice none 0 0) := (zk zB.out 5).trans rfl; have zVt := zw zB.out 0; have zVu := zw zB.out 1; have zVA := zw zB.out 2; have zVB := zw zB.out 3; have zVC := zw zB.out 4; have zVD := zw zB.out 5) | ((with_reducible refine qx (N := 92) rfl ?_); refine Kd.ZP jC _ 83 ?hg (N := 92) ?hd (xs := ([(⟨(⟨#[102]⟩ : BA), (⟨#[102]⟩ : BA), (⟨#[102, 102]⟩ : BA)⟩ : qF), (⟨(⟨#[102]⟩ : BA), (⟨#[105]⟩ : BA), (⟨#[102, 105]⟩ : BA)⟩ : qF), (⟨(⟨#[102]⟩ : BA), (⟨#[108]⟩ : BA), (⟨#[102, 108]⟩ : BA)⟩ : qF)] : List (qF))) (inner := [.string (⟨#[102]⟩ : BA), .string (⟨#[102]⟩ : BA), .string (⟨#[102, 102]⟩ : BA), .string (⟨#[102]⟩ : BA), .string (⟨#[105]⟩ : BA), .string (⟨#[102, 105]⟩ : BA), .string (⟨#[102]⟩ : BA), .string (⟨#[108]⟩ : BA), .string (⟨#[102, 108]⟩ : BA)]) (ok := fun _ => True) (jc := fun _ => True) ?hr ?hp (fun _ hk => hk) trivial (Below.refl _ _) (Nat.le_refl _) (by simp) ?_; (case hd => rfl); (case hg => rfl); (case hr => first | (go_simp; done) | (go_simp; rfl)); (case hp => exact (yS.c3 (show Kd.M jC _ _ _ (⟨(⟨#[102]⟩ : BA), (⟨#[102]⟩ : BA), (⟨#[102, 102]⟩ : BA)⟩ : qF) [.string (⟨#[102]⟩ : BA), .string (⟨#[102]⟩ : BA), .string (⟨#[102, 102]⟩ : BA)] from (Q8 _ _ _ (⟨(⟨#[102]⟩ : BA), (⟨#[102]⟩ : BA), (⟨#[102, 102]⟩ : BA)⟩ : qF) )) (yS.c3 (show Kd.M jC _ _ _ (⟨(⟨#[102]⟩ : BA), (⟨#[105]⟩ : BA), (⟨#[102, 105]⟩ : BA)⟩ : qF) [.string (⟨#[102]⟩ : BA), .string (⟨#[105]⟩ : BA), .string (⟨#[102, 105]⟩ : BA)] from (Q8 _ _ _ (⟨(⟨#[102]⟩ : BA), (⟨#[105]⟩ : BA), (⟨#[102, 105]⟩ : BA)⟩ : qF) )) (yS.c3 (show Kd.M jC _ _ _ (⟨(⟨#[102]⟩ : BA), (⟨#[108]⟩ : BA), (⟨#[102, 108]⟩ : BA)⟩ : qF) [.string (⟨#[102]⟩ : BA), .string (⟨#[108]⟩ : BA), .string (⟨#[102, 108]⟩ : BA)] from (Q8 _ _ _ (⟨(⟨#[102]⟩ : BA), (⟨#[108]⟩ : BA), (⟨#[102, 108]⟩ : BA)⟩ : qF) )) (yS.none _ _))))); intro zl3 w91 zzd hb wo ug; clear wo ug; (first | rw [← zJb.out] at zzd | (simp only [Int.reduceToNat] at zzd; rw [← zJb.out] at zzd)); have zf := zx.mk (Kd.qz (yF (Kd.zL (Kd.yK (p := ⟨yV, 4, none⟩) (Kd.zi kS.out zB.out (by decide)) (fun _ hk => hk.2) (.slice YB wC.length YC)) (fun _ h_ => h_.1))) hb); have zh := zx.mk (Kd.qz (yF (Kd.zL (Kd.yK (p := ⟨yV, 4, none⟩) (Kd.zi yw.out zB.out (by decide)) (fun _ hk => hk.2) (.slice YB wC.length YC)) (fun _ h_ => h_.1))) hb); have zA := zx.mk (Kd.qz (yF (Kd.zL (Kd.yK (p := ⟨yV, 4, none⟩) (Kd.zi yX.out zB.out (by decide)) (fun _ hk => hk.2) (.slice YB wC.length YC)) (fun _ h_ => h_.1))) hb); have zR := zx.mk (Kd.qz (yF (Kd.zL (Kd.yK (p := ⟨yV, 4, none⟩) (Kd.zi yZ.out zB.out (by decide)) (fun _ hk => hk.2) (.slice YB wC.length YC)) (fun _ h_ => h_.1))) hb); have qV := zx.mk (Kd.qz (yF (Kd.zL (Kd.yK (p := ⟨yV, 4, none⟩) (Kd.zi yJ.out zB.out (by decide)) (fun _ hk => hk.2) (.slice YB wC.length YC)) (fun _ h_ => h_.1))) hb); have xD := zx.mk (Kd.xE (yF (Kd.zL (Kd.yK (p := ⟨yV, 4, none⟩) (Kd.zi QL.out zB.out (by decide)) (fun _ hk => hk.2) (.slice YB wC.length YC)) (fun _ h_ => h_.1))) (Kd.xB zzd) hb); have vE := zx.mk (Kd.xI (Kd.vP (Kd.wM (M := fun k_ => (w.heap.size ≤ k_)) zzd (zV (zD HB.out)) (fun k_ h_ => h_)) (Kd.jg (yF (Kd.zL (Kd.yK (p := ⟨yV, 4, none⟩) (Kd.zi QL.out zB.out (by decide)) (fun _ hk => hk.2) (.slice YB wC.length YC)) (fun _ h_ => h_.1))))) (zV (zD HB.out))); have vR := zx.mk (zl (g := yV) (o := .cells #[.string (⟨#[82]⟩ : BA), .bool false, .int .i64 250, xO, .slice YB wC.length YC, .slice none 0 0] 44 (0, 0)) (by (with_reducible repeat (first | refine zJ ?_ _ | refine zX ?_ | refine zZ ?_ _)); refine yC (cs := #[.string (⟨#[82]⟩ : BA), .bool false, .int .i64 250, xO, .slice none 0 0, .slice none 0 0]) ?_ 4 _ rfl; (with_reducible repeat (first | refine zJ ?_ _ | refine zX ?_ | refine zZ ?_ _)); exact zB.out) hb); have uK := zx.mk (zl (g := qX) (o := .cells #[.string (⟨#[73]⟩ : BA), .bool false, .int .i64 250, xH, .slice none 0 0, .slice none 0 0] 44 (0, 0)) (wJ yj.out) hb); have uo := zx.mk (zl (g := yU) (o := .cells #[.string (⟨#[66]⟩ : BA), .bool false, .int .i64 250, qP, .slice none 0 0, .slice none 0 0] 44 (0, 0)) (wJ zF.out) hb); have vH := zx.mk (zl (g := qA) (o := .cells #[.string (⟨#[77]⟩ : BA), .bool false, .int .i64 600, xk, .slice none 0 0, .slice none 0 0] 44 (0, 0)) (wJ yg.out) hb); have uM := zx.mk (zl (g := qI) (o := .cells #[.string (⟨#[83]⟩ : BA), .bool true, .int .i64 250, .slice none 0 0, .slice none 0 0, .slice none 0 0] 44 (0, 0)) (wJ yB.out) hb); have wB := zx.mk (zI (zD HB.out) hb); clear kS; clear yw; clear yX; clear yZ; clear yJ; clear QL; clear zB; clear yj; clear zF; clear yg; clear yB; clear HB; have kS := zf; have yw := zh; have yX := zA; have yZ := zR; have yJ := qV; have QL := xD; have WS := vE; have zB := vR; have yj := uK; have zF := uo; have yg := vH; have yB := uM; have HB := wB; clear zf zh zA zR qV xD vE vR uK uo vH uM wB; clear hb zzd; obtain ⟨XA, XB, zdF⟩ := Kd.y9 WS.out; subst zdF; have zlk := Ze.out; have zly := Zd.out; have zlw := Zh.out; have zlZ := Zi.out; have zlQ := pR.out; have zlX := pU.out; have zVE : w91.cell? ⟨yU, 0, none⟩ = some (.string (⟨#[66]⟩ : BA)) := (zk zF.out 0).trans rfl; have zVF : w91.cell? ⟨yU, 1, none⟩ = some (.bool false) := (zk zF.out 1).trans rfl; have zVG : w91.cell? ⟨yU, 2, none⟩ = some (.int .i64 250) := (zk zF.out 2).trans rfl; have zVH : w91.cell? ⟨yU, 3, none⟩ = some (qP) := (zk zF.out 3).trans rfl; have zVI : w91.cell? ⟨yU, 4, none⟩ = some (.slice none 0 0) := (zk zF.out 4).trans rfl; have zVL : w91.cell? ⟨yU, 5, none⟩ = some (.slice none 0 0) := (zk zF.out 5).trans rfl; have zVM := zw zF.out 0; have zVN := zw zF.out 1; have zVO := zw zF.out 2; have zVP := zw zF.out 3; have zVR := zw zF.out 4; have zVS := zw zF.out 5) | ((with_reducible refine qx (N := 99) rfl ?_); refine Kd.ZP jS _ 84 ?hg (N := 99) ?hd (xs := ([(⟨(⟨#[65]⟩ : BA), (⟨#[86]⟩ : BA), (-80)⟩ : qG), (⟨(⟨#[65]⟩ : BA), (⟨#[87]⟩ : BA), (-60)⟩ : qG), (⟨(⟨#[84]⟩ : BA), (⟨#[111]⟩ : BA), (-70)⟩ : qG), (⟨(⟨#[86]⟩ : BA), (⟨#[65]⟩ : BA), (-80)⟩ : qG), (⟨(⟨#[89]⟩ : BA), (⟨#[111]⟩ : BA), (-90)⟩ : qG)] : List (qG))) (inner := [.string (⟨#[65]⟩ : BA), .string (⟨#[86]⟩ : BA), .int .i64 (-80), .string (⟨#[65]⟩ : BA), .string (⟨#[87]⟩ : BA), .int .i64 (-60), .string (⟨#[84]⟩ : BA), .string (⟨#[111]⟩ : BA), .int .i64 (-70), .string (⟨#[86]⟩ : BA), .string (⟨#[65]⟩ : BA), .int .i64 (-80), .string (⟨#[89]⟩ : BA), .string (⟨#[111]⟩ : BA), .int .i64 (-90)]) (ok := fun _ => True) (jc := fun _ => True) ?hr ?hp (fun _ hk => hk) trivial (Below.refl _ _) (Nat.le_refl _) (by simp) ?_; (case hd => rfl); (case hg => rfl); (case hr => first | (go_simp; done) | (go_simp; rfl)); (case hp => exact (yS.c3 (show Kd.M jS _ _ _ (⟨(⟨#[65]⟩ : BA), (⟨#[86]⟩ : BA), (-80)⟩ : qG) [.string (⟨#[65]⟩ : BA), .string (⟨#[86]⟩ : BA), .int .i64 (-80)] from (UK _ _ _ (⟨(⟨#[65]⟩ : BA), (⟨#[86]⟩ : BA), (-80)⟩ : qG) )) (yS.c3 (show Kd.M jS _ _ _ (⟨(⟨#[65]⟩ : BA), (⟨#[87]⟩ : BA), (-60)⟩ : qG) [.string (⟨#[65]⟩ : BA), .string (⟨#[87]⟩ : BA), .int .i64 (-60)] from (UK _ _ _ (⟨(⟨#[65]⟩ : BA), (⟨#[87]⟩ : BA), (-60)⟩ : qG) )) (yS.c3 (show Kd.M jS _ _ _ (⟨(⟨#[84]⟩ : BA), (⟨#[111]⟩ : BA), (-70)⟩ : qG) [.string (⟨#[84]⟩ : BA), .string (⟨#[111]⟩ : BA), .int .i64 (-70)] from (UK _ _ _ (⟨(⟨#[84]⟩ : BA), (⟨#[111]⟩ : BA), (-70)⟩ : qG) )) (yS.c3 (show Kd.M jS _ _ _ (⟨(⟨#[86]⟩ : BA), (⟨#[65]⟩ : BA), (-80)⟩ : qG) [.string (⟨#[86]⟩ : BA), .string (⟨#[65]⟩ : BA), .int .i64 (-80)] from (UK _ _ _ (⟨(⟨#[86]⟩ : BA), (⟨#[65]⟩ : BA), (-80)⟩ : qG) )) (yS.c3 (show Kd.M jS _ _ _ (⟨(⟨#[89]⟩ : BA), (⟨#[111]⟩ : BA), (-90)⟩ : qG) [.string (⟨#[89]⟩ : BA), .string (⟨#[111]⟩ : BA), .int .i64 (-90)] from (UK _ _ _ (⟨(⟨#[89]⟩ : BA), (⟨#[111]⟩ : BA), (-90)⟩ : qG) )) (yS.none _ _))))))); intro zl4 w98 zjq hb wo ug; clear wo ug; (first | rw [← zJc.out] at zjq | (simp only [Int.reduceToNat] at zjq; rw [← zJc.out] at zjq)); have zf := zx.mk (Kd.qz (yF (Kd.zL (Kd.yK (p := ⟨yU, 4, none⟩) (Kd.zi kS.out zF.out (by decide)) (fun _ hk => hk.2) (.slice XA p9.length XB)) (fun _ h_ => h_.1))) hb); have zh := zx.mk (Kd.qz (yF (Kd.zL (Kd.yK (p := ⟨yU, 4, none⟩) (Kd.zi yw.out zF.out (by decide)) (fun _ hk => hk.2) (.slice XA p9.length XB)) (fun _ h_ => h_.1))) hb); have zA := zx.mk (Kd.qz (yF (Kd.zL (Kd.yK (p := ⟨yU, 4, none⟩) (Kd.zi yX.out zF.out (by decide)) (fun _ hk => hk.2) (.slice XA p9.length XB)) (fun _ h_ => h_.1))) hb); have zR := zx.mk (Kd.qz (yF (Kd.zL (Kd.yK (p := ⟨yU, 4, none⟩) (Kd.zi yZ.out zF.out (by decide)) (fun _ hk => hk.2) (.slice XA p9.length XB)) (fun _ h_ => h_.1))) hb); have qV := zx.mk (Kd.qz (yF (Kd.zL (Kd.yK (p := ⟨yU, 4, none⟩) (Kd.zi yJ.out zF.out (by decide)) (fun _ hk => hk.2) (.slice XA p9.length XB)) (fun _ h_ => h_.1))) hb); have xD := zx.mk (Kd.qz (yF (Kd.zL (Kd.yK (p := ⟨yU, 4, none⟩) (Kd.zi QL.out zF.out (by decide)) (fun _ hk => hk.2) (.slice XA p9.length XB)) (fun _ h_ => h_.1))) hb); have vE := zx.mk (Kd.qz (yF (Kd.zL (Kd.yK (p := ⟨yU, 4, none⟩) (Kd.zi WS.out zF.out (by decide)) (fun _ hk => hk.2) (.slice XA p9.length XB)) (fun _ h_ => h_.1))) hb); have vR := zx.mk (Kd.xI (Kd.wM (M := fun k_ => (w.heap.size ≤ k_)) zjq (zV (zD HB.out)) (fun k_ h_ => h_)) (zV (zD HB.out))); have uK := zx.mk (zl (g := yV) (o := .cells #[.string (⟨#[82]⟩ : BA), .bool false, .int .i64 250, xO, .slice YB wC.length YC, .slice none 0 0] 44 (0, 0)) (wJ zB.out) hb); have uo := zx.mk (zl (g := qX) (o := .cells #[.string (⟨#[73]⟩ : BA), .bool false, .int .i64 250, xH, .slice none 0 0, .slice none 0 0] 44 (0, 0)) (wJ yj.out) hb); have vH := zx.mk (zl (g := yU) (o := .cells #[.string (⟨#[66]⟩ : BA), .bool false, .int .i64 250, qP, .slice XA p9.length XB, .slice none 0 0] 44 (0, 0)) (by (with_reducible repeat (first | refine zJ ?_ _ | refine zX ?_ | refine zZ ?_ _)); refine yC (cs := #[.string (⟨#[66]⟩ : BA), .bool false, .int .i64 250, qP, .slice none 0 0, .slice none 0 0]) ?_ 4 _ rfl; (with_reducible repeat (first | refine zJ ?_ _ | refine zX ?_ | refine zZ ?_ _)); exact zF.out) hb); have uM := zx.mk (zl (g := qA) (o := .cells #[.string (⟨#[77]⟩ : BA), .bool false, .int .i64 600, xk, .slice none 0 0, .slice none 0 0] 44 (0, 0)) (wJ yg.out) hb); have wB := zx.mk (zl (g := qI) (o := .cells #[.string (⟨#[83]⟩ : BA), .bool true, .int .i64 250, .slice none 0 0, .slice none 0 0, .slice none 0 0] 44 (0, 0)) (wJ yB.out) hb); have YP := zx.mk (zI (zD HB.out) hb); clear kS; clear yw; clear yX; clear yZ; clear yJ; clear QL; clear WS; clear zB; clear yj; clear zF; clear yg; clear yB; clear HB; have kS := zf; have yw := zh; have yX := zA; have yZ := zR; have yJ := qV; have QL := xD; have WS := vE; have ig := vR; have zB := uK; have yj := uo; have zF := vH; have yg := uM; have yB := wB; have HB := YP; clear zf zh zA zR qV xD vE vR uK uo vH uM wB YP; clear hb zjq; obtain ⟨ZX, ZJ, zbk⟩ := Kd.y9 ig.out; subst zbk; have zXw : w98.cell? ⟨yV, 0, none⟩ = some (.string (⟨#[82]⟩ : BA)) := (zk zB.out 0).trans rfl; have zXZ : w98.cell? ⟨yV, 1, none⟩ = some (.bool false) := (zk zB.out 1).trans rfl; have zXQ : w98.cell? ⟨yV, 2, none⟩ = some (.int .i64 250) := (zk zB.out 2).trans rfl; have zXX : w98.cell? ⟨yV, 3, none⟩ = some (xO) := (zk zB.out 3).trans rfl; have zXJ : w98.cell? ⟨yV, 4, none⟩ = some (.slice YB wC.length YC) := (zk zB.out 4).trans rfl; have zXV : w98.cell? ⟨yV, 5, none⟩ = some (.slice none 0 0) := (zk zB.out 5).trans rfl; have zXK := zw zB.out 0; have zXY := zw zB.out 1; have zXW := zw zB.out 2; have zXa := zw zB.out 3; have zXb := zw zB.out 4; have zXc := zw zB.out 5) | ((with_reducible refine yY (f := 39) rfl ?_); refine uN (some 101) Tryz.func39 #[] ?_; (with_reducible refine (j6.calls  jB _ A81.out).mono ?_); rintro e zl5 ⟨zze, rfl, ho0, hb⟩; refine ⟨_, rfl, ?_⟩; have zf := zx.mk (Kd.qz (yF (Kd.zL (Kd.yK (p := ⟨yV, 5, none⟩) (Kd.zi kS.out zB.out (by decide)) (fun _ hk => hk.2) (.slice ZX pz.length ZJ)) (fun _ h_ => h_.1))) hb); have zh := zx.mk (Kd.xE (yF (Kd.zL (Kd.yK (p := ⟨yV, 5, none⟩) (Kd.zi yw.out zB.out (by decide)) (fun _ hk => hk.2) (.slice ZX pz.length ZJ)) (fun _ h_ => h_.1))) (Kd.xB ho0) hb); have zA := zx.mk (Kd.xE (yF (Kd.zL (Kd.yK (p := ⟨yV, 5, none⟩) (Kd.zi yX.out zB.out (by decide)) (fun _ hk => hk.2) (.slice ZX pz.length ZJ)) (fun _ h_ => h_.1))) (Kd.xB ho0) hb); have zR := zx.mk (Kd.xE (yF (Kd.zL (Kd.yK (p := ⟨yV, 5, none⟩) (Kd.zi yZ.out zB.out (by decide)) (fun _ hk => hk.2) (.slice ZX pz.length ZJ)) (fun _ h_ => h_.1))) (Kd.xB ho0) hb); have qV := zx.mk (Kd.xE (yF (Kd.zL (Kd.yK (p := ⟨yV, 5, none⟩) (Kd.zi yJ.out zB.out (by decide)) (fun _ hk => hk.2) (.slice ZX pz.length ZJ)) (fun _ h_ => h_.1))) (Kd.xB ho0) hb); have xD := zx.mk (Kd.qz (yF (Kd.zL (Kd.yK (p := ⟨yV, 5, none⟩) (Kd.zi QL.out zB.out (by decide)) (fun _ hk => hk.2) (.slice ZX pz.length ZJ)) (fun _ h_ => h_.1))) hb); have vE := zx.mk (Kd.qz (yF (Kd.zL (Kd.yK (p := ⟨yV, 5, none⟩) (Kd.zi WS.out zB.out (by decide)) (fun _ hk => hk.2) (.slice ZX pz.length ZJ)) (fun _ h_ => h_.1))) hb); have vR := zx.mk (Kd.qz (yF (Kd.zL (Kd.yK (p := ⟨yV, 5, none⟩) (Kd.zi ig.out zB.out (by decide)) (fun _ hk => hk.2) (.slice ZX pz.length ZJ)) (fun _ h_ => h_.1))) hb); have uK := zx.mk (Kd.xI (Kd.vP (Kd.vP (Kd.vP (Kd.vP (Kd.wM (M := fun k_ => (w.heap.size ≤ k_)) ho0 (zV (zD HB.out)) (fun k_ h_ => h_)) (Kd.jg (yF (Kd.zL (Kd.yK (p := ⟨yV, 5, none⟩) (Kd.zi yw.out zB.out (by decide)) (fun _ hk => hk.2) (.slice ZX pz.length ZJ)) (fun _ h_ => h_.1))))) (Kd.jg (yF (Kd.zL (Kd.yK (p := ⟨yV, 5, none⟩) (Kd.zi yX.out zB.out (by decide)) (fun _ hk => hk.2) (.slice ZX pz.length ZJ)) (fun _ h_ => h_.1))))) (Kd.jg (yF (Kd.zL (Kd.yK (p := ⟨yV, 5, none⟩) (Kd.zi yZ.out zB.out (by decide)) (fun _ hk => hk.2) (.slice ZX pz.length ZJ)) (fun _ h_ => h_.1))))) (Kd.jg (yF (Kd.zL (Kd.yK (p := ⟨yV, 5, none⟩) (Kd.zi yJ.out zB.out (by decide)) (fun _ hk => hk.2) (.slice ZX pz.length ZJ)) (fun _ h_ => h_.1))))) (zV (zD HB.out))); have uo := zx.mk (zl (g := yV) (o := .cells #[.string (⟨#[82]⟩ : BA), .bool false, .int .i64 250, xO, .slice YB wC.length YC, .slice ZX pz.length ZJ] 44 (0, 0)) (by (with_reducible repeat (first | refine zJ ?_ _ | refine zX ?_ | refine zZ ?_ _)); refine yC (cs := #[.string (⟨#[82]⟩ : BA), .bool false, .int .i64 250, xO, .slice YB wC.length YC, .slice none 0 0]) ?_ 5 _ rfl; (with_reducible repeat (first | refine zJ ?_ _ | refine zX ?_ | refine zZ ?_ _)); exact zB.out) hb); have vH := zx.mk (zl (g := qX) (o := .cells #[.string (⟨#[73]⟩ : BA), .bool false, .int .i64 250, xH, .slice none 0 0, .slice none 0 0] 44 (0, 0)) (wJ yj.out) hb); have uM := zx.mk (zl (g := yU) (o := .cells #[.string (⟨#[66]⟩ : BA), .bool false, .int .i64 250, qP, .slice XA p9.length XB, .slice none 0 0] 44 (0, 0)) (wJ zF.out) hb); have wB := zx.mk (zl (g := qA) (o := .cells #[.string (⟨#[77]⟩ : BA), .bool false, .int .i64 600, xk, .slice none 0 0, .slice none 0 0] 44 (0, 0)) (wJ yg.out) hb); have YP := zx.mk (zl (g := qI) (o := .cells #[.string (⟨#[83]⟩ : BA), .bool true, .int .i64 250, .slice none 0 0, .slice none 0 0, .slice none 0 0] 44 (0, 0)) (wJ yB.out) hb); have VU := zx.mk (zI (zD HB.out) hb); clear kS; clear yw; clear yX; clear yZ; clear yJ; clear QL; clear WS; clear ig; clear zB; clear yj; clear zF; clear yg; clear yB; clear HB; have kS := zf; have yw := zh; have yX := zA; have yZ := zR; have yJ := qV; have QL := xD; have WS := vE; have ig := vR; have zby := uK; have zB := uo; have yj := vH; have zF := uM; have yg := wB; have yB := YP; have HB := VU; clear zf zh zA zR qV xD vE vR uK uo vH uM wB YP VU; (try clear hb); (try clear hb2); (try clear hk); (try clear hi); (try clear ho0)))
       go_loopg [12] k2 (fun kq v12 w' => ∃ (Zz : Int) (jU : List (zo)) (Qa : Value), v12 = .int .i64 Zz ∧ zx (za.l2 kq jB Zz (⟨#[82]⟩ : BA) false 250 vo wC pz (⟨#[73]⟩ : BA) false 250 xu (⟨#[66]⟩ : BA) false 250 uZ p9 (⟨#[77]⟩ : BA) false 600 xA (⟨#[83]⟩ : BA) true 250 jU = some r) ∧ zx (kq ≤ k2) ∧ zx (Kd.R qJ 81 w' w.heap.size (fun k_ => (w.heap.size ≤ k_) ∧ some k_ ≠ (xO : Value).ownBlock ∧ some k_ ≠ (xH : Value).ownBlock ∧ some k_ ≠ (qP : Value).ownBlock ∧ some k_ ≠ (xk : Value).ownBlock ∧ some k_ ≠ (Qa : Value).ownBlock) zze jB) ∧ zx (Kd.R qJ 81 w' w.heap.size (fun k_ => (w.heap.size ≤ k_) ∧ some k_ ≠ (zze : Value).ownBlock ∧ some k_ ≠ (xH : Value).ownBlock ∧ some k_ ≠ (qP : Value).ownBlock ∧ some k_ ≠ (xk : Value).ownBlock ∧ some k_ ≠ (Qa : Value).ownBlock) xO vo) ∧ zx (Kd.R jC 83 w' w.heap.size (fun k_ => (w.heap.size ≤ k_) ∧ some k_ ≠ ((.slice XA p9.length XB) : Value).ownBlock) (.slice YB wC.length YC) wC) ∧ zx (Kd.R jS 84 w' w.heap.size (fun k_ => (w.heap.size ≤ k_)) (.slice ZX pz.length ZJ) pz) ∧ zx (Kd.R qJ 81 w' w.heap.size (fun k_ => (w.heap.size ≤ k_) ∧ some k_ ≠ (zze : Value).ownBlock ∧ some k_ ≠ (xO : Value).ownBlock ∧ some k_ ≠ (qP : Value).ownBlock ∧ some k_ ≠ (xk : Value).ownBlock ∧ some k_ ≠ (Qa : Value).ownBlock) xH xu) ∧ zx (Kd.R qJ 81 w' w.heap.size (fun k_ => (w.heap.size ≤ k_) ∧ some k_ ≠ (zze : Value).ownBlock ∧ some k_ ≠ (xO : Value).ownBlock ∧ some k_ ≠ (xH : Value).ownBlock ∧ some k_ ≠ (xk : Value).ownBlock ∧ some k_ ≠ (Qa : Value).ownBlock) qP uZ) ∧ zx (Kd.R jC 83 w' w.heap.size (fun k_ => (w.heap.size ≤ k_) ∧ some k_ ≠ ((.slice YB wC.length YC) : Value).ownBlock) (.slice XA p9.length XB) p9) ∧ zx (Kd.R qJ 81 w' w.heap.size (fun k_ => (w.heap.size ≤ k_) ∧ some k_ ≠ (zze : Value).ownBlock ∧ some k_ ≠ (xO : Value).ownBlock ∧ some k_ ≠ (xH : Value).ownBlock ∧ some k_ ≠ (qP : Value).ownBlock ∧ some k_ ≠ (Qa : Value).ownBlock) xk xA) ∧ zx (Kd.R qJ 81 w' w.heap.size (fun k_ => (w.heap.size ≤ k_) ∧ some k_ ≠ (zze : Value).ownBlock ∧ some k_ ≠ (xO : Value).ownBlock ∧ some k_ ≠ (xH : Value).ownBlock ∧ some k_ ≠ (qP : Value).ownBlock ∧ some k_ ≠ (xk : Value).ownBlock) Qa jU) ∧ zx (w'.heap[yV]? = some (.cells #[.string (⟨#[82]⟩ : BA), .bool false, .int .i64 250, xO, (.slice YB wC.length YC), (.slice ZX pz.length ZJ)] 44 (0, 0))) ∧ zx (w'.heap[qX]? = some (.cells #[.string (⟨#[73]⟩ : BA), .bool false, .int .i64 250, xH, (.slice none 0 0), (.slice none 0 0)] 44 (0, 0))) ∧ zx (w'.heap[yU]? = some (.cells #[.string (⟨#[66]⟩ : BA), .bool false, .int .i64 250, qP, (.slice XA p9.length XB), (.slice none 0 0)] 44 (0, 0))) ∧ zx (w'.heap[qA]? = some (.cells #[.string (⟨#[77]⟩ : BA), .bool false, .int .i64 600, xk, (.slice none 0 0), (.slice none 0 0)] 44 (0, 0))) ∧ zx (w'.heap[qI]? = some (.cells #[.string (⟨#[83]⟩ : BA), .bool true, .int .i64 250, Qa, (.slice none 0 0), (.slice none 0 0)] 44 (0, 0))) ∧ zx (Below w.heap.size w w'))
       case atStart => exact ⟨(0), (([] : List (zo))), (.slice none 0 0), (by first | rfl | (simp; done) | (simp [*]; done)), H', ⟨Nat.le_refl _⟩, ⟨by (with_reducible repeat (first | apply Kd.q9 | apply Kd.qL | apply Kd.qw)); exact Kd.zL zby.out (fun _ hk => ⟨hk.1.1.1.1.1, ⟨hk.1.1.1.2, ⟨hk.1.1.2, ⟨hk.1.2, ⟨hk.2, (by simp [Value.ownBlock])⟩⟩⟩⟩⟩)⟩, ⟨by (with_reducible repeat (first | apply Kd.q9 | apply Kd.qL | apply Kd.qw)); exact Kd.zL yw.out (fun _ hk => ⟨hk.1.1, ⟨hk.2, ⟨hk.1.2.1, ⟨hk.1.2.2.1, ⟨hk.1.2.2.2, (by simp [Value.ownBlock])⟩⟩⟩⟩⟩)⟩, ⟨by (with_reducible repeat (first | apply Kd.q9 | apply Kd.qL | apply Kd.qw)); exact Kd.zL QL.out (fun _ hk => ⟨hk.1.1, hk.2⟩)⟩, ⟨by (with_reducible repeat (first | apply Kd.q9 | apply Kd.qL | apply Kd.qw)); exact Kd.zL ig.out (fun _ hk => hk.1)⟩, ⟨by (with_reducible repeat (first | apply Kd.q9 | apply Kd.qL | apply Kd.qw)); exact Kd.zL yX.out (fun _ hk => ⟨hk.1.1, ⟨hk.2, ⟨hk.1.2.1, ⟨hk.1.2.2.1, ⟨hk.1.2.2.2, (by simp [Value.ownBlock])⟩⟩⟩⟩⟩)⟩, ⟨by (with_reducible repeat (first | apply Kd.q9 | apply Kd.qL | apply Kd.qw)); exact Kd.zL yZ.out (fun _ hk => ⟨hk.1.1, ⟨hk.2, ⟨hk.1.2.1, ⟨hk.1.2.2.1, ⟨hk.1.2.2.2, (by simp [Value.ownBlock])⟩⟩⟩⟩⟩)⟩, ⟨by (with_reducible repeat (first | apply Kd.q9 | apply Kd.qL | apply Kd.qw)); exact Kd.zL WS.out (fun _ hk => ⟨hk.1.1, hk.2⟩)⟩, ⟨by (with_reducible repeat (first | apply Kd.q9 | apply Kd.qL | apply Kd.qw)); exact Kd.zL yJ.out (fun _ hk => ⟨hk.1.1, ⟨hk.2, ⟨hk.1.2.1, ⟨hk.1.2.2.1, ⟨hk.1.2.2.2, (by simp [Value.ownBlock])⟩⟩⟩⟩⟩)⟩, ⟨by first | exact Kd.ku _ _ _ _ _ | exact Kd.JB _ _ _ _ _ | exact Kd.JD _ _ _ _ _ | exact Kd.Ju _ _ _ _ _ | exact Kd.JA _ _ _ _ _⟩, ⟨yt zB.out⟩, ⟨yt yj.out⟩, ⟨yt zF.out⟩, ⟨yt yg.out⟩, ⟨yt yB.out⟩, ⟨zD HB.out⟩⟩
       case round =>
        clear H'
        try clear p1
        try clear q1
        try clear hx1
        try clear p2
        try clear c3
        try clear c6
        try clear p6
        try clear c8
        try clear c9
        try clear p17
        try clear q17
        try clear zl6
        try clear c38
        try clear c39
        try clear p64
        try clear c65
        try clear zJY
        try clear c66
        try clear zbj
        try clear c86
        try clear c87
        try clear c88
        try clear c89
        try clear c94
        try clear c95
        try clear c96
        try clear zXw
        try clear zXZ
        try clear zXQ
        try clear zXX
        try clear zXJ
        try clear zXV
        try clear zvf
        try clear zvm
        try clear zvn
        try clear zvo
        try clear zvp
        try clear zvr
        try clear zvs
        try clear zvE
        try clear zvF
        try clear zvG
        try clear zvH
        try clear zvI
        try clear zvL
        try clear zvT
        try clear zvU
        try clear zv0
        try clear zv1
        try clear zv2
        try clear zv3
        try clear zkz
        try clear zkq
        try clear zkx
        try clear zkj
        try clear zkv
        try clear zkk
        try clear zkV
        try clear zkK
        try clear zkY
        try clear zkW
        try clear zka
        try clear zkb
        try clear zki
        try clear zkl
        try clear zkm
        try clear zkn
        try clear zko
        try clear zkp
        try clear zkC
        try clear zkD
        try clear zkE
        try clear zkF
        try clear zkG
        try clear zkH
        try clear zVm
        try clear zVn
        try clear zVo
        try clear zVp
        try clear zVr
        try clear zVs
        try clear zVE
        try clear zVF
        try clear zVG
        try clear zVH
        try clear zVI
        try clear zVL
        try clear zXK
        try clear zXY
        try clear zXW
        try clear zXa
        try clear zXb
        try clear zXc
        try clear J8
        try clear J9
        try clear Kz
        try clear Kq
        try clear Kj
        try clear Kv
        try clear Kk
        try clear Ky
        try clear Kw
        try clear KZ
        try clear KQ
        try clear KX
        try clear nO
        try clear nP
        try clear oO
        try clear oP
        try clear oU
        try clear o7
        try clear o8
        try clear o9
        try clear zzq
        try clear zzx
        try clear zzj
        try clear zzv
        try clear rZ
        try clear rQ
        try clear rX
        try clear rJ
        try clear rV
        try clear rY
        try clear bQ
        try clear bX
        try clear zvg
        try clear zvh
        try clear zvi
        try clear zvl
        try clear zvt
        try clear zvu
        try clear zvA
        try clear zvB
        try clear zvC
        try clear zvD
        try clear zvM
        try clear zvN
        try clear zvO
        try clear zvP
        try clear zvR
        try clear zvS
        try clear zv4
        try clear zv5
        try clear zv6
        try clear zv7
        try clear zv8
        try clear zv9
        try clear zky
        try clear zkw
        try clear zkZ
        try clear zkQ
        try clear zkX
        try clear zkJ
        try clear zkc
        try clear zkd
        try clear zke
        try clear zkf
        try clear zkg
        try clear zkh
        try clear zkr
        try clear zks
        try clear zkt
        try clear zku
        try clear zkA
        try clear zkB
        try clear zkI
        try clear zkL
        try clear zkM
        try clear zkN
        try clear zkO
        try clear zkP
        try clear zVt
        try clear zVu
        try clear zVA
        try clear zVB
        try clear zVC
        try clear zVD
        try clear zVM
        try clear zVN
        try clear zVO
        try clear zVP
        try clear zVR
        try clear zVS
        try clear zzW
        try clear zza
        try clear zwh
        try clear zwm
        try clear p2
        try clear zwi
        try clear zwn
        obtain ⟨Zz, jU, Qa, rfl, HA, HK3, Zq, yw, Zl, Zm, yX, yZ, Zn, yJ, kH, zB, yj, zF, yg, yB, HB⟩ := hrel
        cases gk with
        | zero => exact absurd HA.out (by simp [za.l2])
        | succ k3 =>
         have H := HA.out
         clear HA
         simp only [za.l2] at H
         by_cases zzf : Zz < (jB.length : Int)
         ·rw [if_pos zzf] at H
          have zWf : decide (Zz < (jB.length : Int)) = true := decide_eq_true zzf
          clear zzf
          by_cases zwp : 0 ≤ Zz
          ·rw [if_pos zwp] at H
           have zhS : decide (0 ≤ Zz) = true := decide_eq_true zwp
           clear zwp
           replace H := Option.bind_eq_some_iff.mp H
           obtain ⟨t194, zJd, H⟩ := H
           replace H : (za.l2 k3 jB (wrap64 (Zz + 1)) (⟨#[82]⟩ : BA) false 250 vo wC pz (⟨#[73]⟩ : BA) false 250 xu (⟨#[66]⟩ : BA) false 250 uZ p9 (⟨#[77]⟩ : BA) false 600 xA (⟨#[83]⟩ : BA) true 250 t194) = some r := H
           have zdG := zx.mk zJd
           clear zJd
           have H' := zx.mk H
           clear H
           obtain ⟨zlJ, zlV, zbw⟩ := Kd.y9 Zq.out
           subst zbw
           try go_wp2
           have zf := zx.mk (Kd.qw Zq.out)
           have zh := zx.mk (Kd.qw yw.out)
           have zA := zx.mk (Kd.qw Zl.out)
           have zR := zx.mk (Kd.qw Zm.out)
           have qV := zx.mk (Kd.qw yX.out)
           have xD := zx.mk (Kd.qw yZ.out)
           have vE := zx.mk (Kd.qw Zn.out)
           have vR := zx.mk (Kd.qw yJ.out)
           have uK := zx.mk (Kd.qw kH.out)
           have uo := zx.mk (zX zB.out)
           have vH := zx.mk (zX yj.out)
           have uM := zx.mk (zX zF.out)
           have wB := zx.mk (zX yg.out)
           have YP := zx.mk (zX yB.out)
           have VU := zx.mk (yT HB.out)
           clear Zq yw Zl Zm yX yZ Zn yJ kH zB yj zF yg yB HB
           have Zq := zf
           have yw := zh
           have Zl := zA
           have Zm := zR
           have yX := qV
           have yZ := xD
           have Zn := vE
           have yJ := vR
           have kH := uK
           have zB := uo
           have yj := vH
           have zF := uM
           have yg := wB
           have yB := YP
           have HB := VU
           clear zf zh zA zR qV xD vE vR uK uo vH uM wB YP VU
           have zXd : 0 ≤ (Zz : Int) := of_decide_eq_true (by first | (with_reducible assumption) | assumption)
           have zXe : Zz < (jB.length : Int) := of_decide_eq_true (by first | (with_reducible assumption) | assumption)
           obtain ⟨zwr, zdH, zkR, zkS⟩ := ZY (Kd.qU Zq.out).2.2 Zz zXd zXe
           cases zdH
           replace zXd := eq_true zXd
           replace zXe := eq_true zXe
           obtain ⟨iA, iB, zJe⟩ := Kd.y9 kH.out
           (first | subst zJe | (injection zJe with X8 KT X9; have KU := X8.symm; have K8 := X9.symm; clear X8 KT X9; subst KU; subst K8))
           refine Zj (n := 9) (S := fun w' => w'.cell? ⟨qI, 0, none⟩ = some (.string (⟨#[83]⟩ : BA)) ∧ w'.cell? ⟨qI, 1, none⟩ = some (.bool true) ∧ w'.cell? ⟨qI, 2, none⟩ = some (.int .i64 250) ∧ w'.cell? ⟨qI, 3, none⟩ = some (.slice iA jU.length iB) ∧ w'.cell? ⟨qI, 4, none⟩ = some (.slice none 0 0) ∧ w'.cell? ⟨qI, 5, none⟩ = some (.slice none 0 0) ∧ w'.cell? (zwr.add ((Zz).toNat * 2)) = some (.string ((zN jB Zz).f0)) ∧ w'.cell? ⟨(zwr.add ((Zz).toNat * 2)).block, (zwr.add ((Zz).toNat * 2)).off + 1, none⟩ = some (.int .i64 ((zN jB Zz).f1))) (ds := [8]) #[false, false, false, false, false, false, false, false, false] (by kernel_rfl) rfl rfl ⟨(zk yB.out 0).trans rfl, (zk yB.out 1).trans rfl, (zk yB.out 2).trans rfl, (zk yB.out 3).trans rfl, (zk yB.out 4).trans rfl, (zk yB.out 5).trans rfl, zkR, zkS⟩ (fun hHeld => ?_); refine wL za.za4 za.zWJ (fun zM jJ => ?_)
           generalize wr.drew = zl7 at Zq yw Zl Zm yX yZ Zn yJ kH zB yj zF yg yB HB zkR zkS hHeld ⊢
           refine qW 0 (some 108) zM ?_
           refine qW 2 (some 110) zM ?_
           refine qW 3 (some 111) zM ?_
           refine qW 4 (some 112) zM ?_
           refine kQ 1 (some 109) zM jJ hHeld ?_
           refine kQ 5 (some 113) zM jJ hHeld ?_
           refine ZH 6 (some 114) zM (fun K hK => ?_)
           refine Xv Tryz.func38 (by kernel_rfl) rfl #[.slice iA jU.length iB, .agg #[.string ((zN jB Zz).f0), .int .i64 ((zN jB Zz).f1)]] (by rfl) rfl rfl (by (try simp only [List.map_toArray, List.map_cons, List.map_nil]); first | done | rfl | (simp only [List.length_drop, List.length_take]; rfl)) ?_
           with_reducible refine (yE.calls k3 _ _ jU ((zN jB Zz).f0) ((zN jB Zz).f1) t194 _ ?y8 ?qy zdG.out).mono ?_
           (case y8 => repeat (first | exact (Kd.qU kH.out).2.2 | (with_reducible refine Kd.zS ?_ _) | (with_reducible refine Kd.zT ?_ _) | (with_reducible refine Kd.yc ?_)))
           (case qy => exact (Kd.qU kH.out).2.1)
           rintro e zdI ⟨zl8, rfl, ho0, hb⟩
           have zx9 := (hb.cell (World.block_lt_of_cell? _ _ (hHeld.2.2.2.2.2.2.1))).trans (hHeld.2.2.2.2.2.2.1)
           have zdL := (hb.cell (World.block_lt_of_cell? _ _ (hHeld.2.2.2.2.2.2.2))).trans (hHeld.2.2.2.2.2.2.2)
           refine ⟨_, rfl, ?_⟩
           have zf := zx.mk (Kd.xE (yF Zq.out) (Kd.xB ho0) hb)
           have zh := zx.mk (Kd.xE (yF yw.out) (Kd.xB ho0) hb)
           have zA := zx.mk (Kd.qz (yF Zl.out) hb)
           have zR := zx.mk (Kd.qz (yF Zm.out) hb)
           have qV := zx.mk (Kd.xE (yF yX.out) (Kd.xB ho0) hb)
           have xD := zx.mk (Kd.xE (yF yZ.out) (Kd.xB ho0) hb)
           have vE := zx.mk (Kd.qz (yF Zn.out) hb)
           have vR := zx.mk (Kd.xE (yF yJ.out) (Kd.xB ho0) hb)
           have uK := zx.mk (Kd.xE (yF kH.out) (Kd.xB ho0) hb)
           have uo := zx.mk (Kd.xI (Kd.vP (Kd.vP (Kd.vP (Kd.vP (Kd.vP (Kd.vP (Kd.wM (M := fun k_ => (w.heap.size ≤ k_)) ho0 (zV (zD HB.out)) (fun k_ h_ => h_)) (Kd.jg (yF Zq.out))) (Kd.jg (yF yw.out))) (Kd.jg (yF yX.out))) (Kd.jg (yF yZ.out))) (Kd.jg (yF yJ.out))) (Kd.jg (yF kH.out))) (zV (zD HB.out)))
           have vH := zx.mk (zl (g := yV) (o := .cells #[.string (⟨#[82]⟩ : BA), .bool false, .int .i64 250, xO, .slice YB wC.length YC, .slice ZX pz.length ZJ] 44 (0, 0)) (yt zB.out) hb)
           have uM := zx.mk (zl (g := qX) (o := .cells #[.string (⟨#[73]⟩ : BA), .bool false, .int .i64 250, xH, .slice none 0 0, .slice none 0 0] 44 (0, 0)) (yt yj.out) hb)
           have wB := zx.mk (zl (g := yU) (o := .cells #[.string (⟨#[66]⟩ : BA), .bool false, .int .i64 250, qP, .slice XA p9.length XB, .slice none 0 0] 44 (0, 0)) (yt zF.out) hb)
           have YP := zx.mk (zl (g := qA) (o := .cells #[.string (⟨#[77]⟩ : BA), .bool false, .int .i64 600, xk, .slice none 0 0, .slice none 0 0] 44 (0, 0)) (yt yg.out) hb)
           have VU := zx.mk (zl (g := qI) (o := .cells #[.string (⟨#[83]⟩ : BA), .bool true, .int .i64 250, .slice iA jU.length iB, .slice none 0 0, .slice none 0 0] 44 (0, 0)) (yt yB.out) hb)
           have zx1 := zx.mk (zI (zD HB.out) hb)
           clear Zq yw Zl Zm yX yZ Zn yJ kH zB yj zF yg yB HB
           have Zq := zf
           have yw := zh
           have Zl := zA
           have Zm := zR
           have yX := qV
           have yZ := xD
           have Zn := vE
           have yJ := vR
           have kH := uK
           have zJf := uo
           have zB := vH
           have yj := uM
           have zF := wB
           have yg := YP
           have yB := VU
           have HB := zx1
           clear zf zh zA zR qV xD vE vR uK uo vH uM wB YP VU zx1
           (try clear hb)
           (try clear hb2)
           (try clear hk)
           (try clear hi)
           (try clear ho0)
           obtain ⟨U7, U8, zJg⟩ := Kd.y9 zJf.out
           (first | subst zJg | (injection zJg with X8 KT X9; have KU := X8.symm; have K8 := X9.symm; clear X8 KT X9; subst KU; subst K8))
           refine hK.out _ _ ⟨(zk yB.out 0).trans rfl, (zk yB.out 1).trans rfl, (zk yB.out 2).trans rfl, (zk yB.out 3).trans rfl, (zk yB.out 4).trans rfl, (zk yB.out 5).trans rfl, zx9, zdL⟩ (fun hHeld => ?_)
           clear hK K
           refine wX (some 114) ?_
           refine qW 7 (some 115) zM ?_
           refine Qw (i := 8) (N := none) #[true, true, true, true, true, true, true, true, true] rfl rfl (wI zM.out (by kernel_rfl)) (by decide) (fun K hK => ?_)
           have zlK : zdI.cell? ⟨qI, 3, none⟩ = some (.slice iA jU.length iB) := (zk yB.out 3).trans rfl
           have zhT := zw yB.out 3
           have zdM := pI.out
           have zdN := Yz.out
           have zdO := pR.out
           have zdP := Yx.out
           have zdR := pO.out
           have zdS := Yq.out
           have zdT := pU.out
           have zdU := Yj.out
           refine QZ (w1 := ?_) (by rfl) rfl ?_ ?_
           rotate_left
           ·go_simp
            rfl
           refine hK.out _ _ ?_
           clear hK K
           refine uO (vW zM.out (by kernel_rfl)) ?_
           try go_wp2
           go_roundg k3
           case measure => have := jv.out; have := bG.out; have := HK3.out; omega
           case rel => exact ⟨(wrap64 (Zz + 1)), (t194), (.slice U7 t194.length U8), (by first | rfl | (simp; done) | (simp [*]; done)), H', ⟨by have := jv.out; have := bG.out; have := HK3.out; omega⟩, ⟨by (with_reducible repeat (first | apply Kd.q9 | apply Kd.qL | apply Kd.qw)); exact Kd.zL (Kd.yK (p := ⟨qI, 3, none⟩) (Kd.zi Zq.out yB.out (by decide)) (fun _ hk => hk.2) (.slice U7 t194.length U8)) (fun _ hk => ⟨hk.1.1.1, ⟨hk.1.1.2.1, ⟨hk.1.1.2.2.1, ⟨hk.1.1.2.2.2.1, ⟨hk.1.1.2.2.2.2.1, hk.1.2⟩⟩⟩⟩⟩)⟩, ⟨by (with_reducible repeat (first | apply Kd.q9 | apply Kd.qL | apply Kd.qw)); exact Kd.zL (Kd.yK (p := ⟨qI, 3, none⟩) (Kd.zi yw.out yB.out (by decide)) (fun _ hk => hk.2) (.slice U7 t194.length U8)) (fun _ hk => ⟨hk.1.1.1, ⟨hk.1.1.2.1, ⟨hk.1.1.2.2.1, ⟨hk.1.1.2.2.2.1, ⟨hk.1.1.2.2.2.2.1, hk.1.2⟩⟩⟩⟩⟩)⟩, ⟨by (with_reducible repeat (first | apply Kd.q9 | apply Kd.qL | apply Kd.qw)); exact Kd.zL (Kd.yK (p := ⟨qI, 3, none⟩) (Kd.zi Zl.out yB.out (by decide)) (fun _ hk => hk.2) (.slice U7 t194.length U8)) (fun _ hk => ⟨hk.1.1, hk.1.2⟩)⟩, ⟨by (with_reducible repeat (first | apply Kd.q9 | apply Kd.qL | apply Kd.qw)); exact Kd.zL (Kd.yK (p := ⟨qI, 3, none⟩) (Kd.zi Zm.out yB.out (by decide)) (fun _ hk => hk.2) (.slice U7 t194.length U8)) (fun _ hk => hk.1)⟩, ⟨by (with_reducible repeat (first | apply Kd.q9 | apply Kd.qL | apply Kd.qw)); exact Kd.zL (Kd.yK (p := ⟨qI, 3, none⟩) (Kd.zi yX.out yB.out (by decide)) (fun _ hk => hk.2) (.slice U7 t194.length U8)) (fun _ hk => ⟨hk.1.1.1, ⟨hk.1.1.2.1, ⟨hk.1.1.2.2.1, ⟨hk.1.1.2.2.2.1, ⟨hk.1.1.2.2.2.2.1, hk.1.2⟩⟩⟩⟩⟩)⟩, ⟨by (with_reducible repeat (first | apply Kd.q9 | apply Kd.qL | apply Kd.qw)); exact Kd.zL (Kd.yK (p := ⟨qI, 3, none⟩) (Kd.zi yZ.out yB.out (by decide)) (fun _ hk => hk.2) (.slice U7 t194.length U8)) (fun _ hk => ⟨hk.1.1.1, ⟨hk.1.1.2.1, ⟨hk.1.1.2.2.1, ⟨hk.1.1.2.2.2.1, ⟨hk.1.1.2.2.2.2.1, hk.1.2⟩⟩⟩⟩⟩)⟩, ⟨by (with_reducible repeat (first | apply Kd.q9 | apply Kd.qL | apply Kd.qw)); exact Kd.zL (Kd.yK (p := ⟨qI, 3, none⟩) (Kd.zi Zn.out yB.out (by decide)) (fun _ hk => hk.2) (.slice U7 t194.length U8)) (fun _ hk => ⟨hk.1.1, hk.1.2⟩)⟩, ⟨by (with_reducible repeat (first | apply Kd.q9 | apply Kd.qL | apply Kd.qw)); exact Kd.zL (Kd.yK (p := ⟨qI, 3, none⟩) (Kd.zi yJ.out yB.out (by decide)) (fun _ hk => hk.2) (.slice U7 t194.length U8)) (fun _ hk => ⟨hk.1.1.1, ⟨hk.1.1.2.1, ⟨hk.1.1.2.2.1, ⟨hk.1.1.2.2.2.1, ⟨hk.1.1.2.2.2.2.1, hk.1.2⟩⟩⟩⟩⟩)⟩, ⟨by (with_reducible repeat (first | apply Kd.q9 | apply Kd.qL | apply Kd.qw)); exact Kd.zL (Kd.yK (p := ⟨qI, 3, none⟩) (Kd.zi zJf.out yB.out (by decide)) (fun _ hk => hk.2) (.slice U7 t194.length U8)) (fun _ hk => ⟨hk.1.1.1.1.1.1.1.1, ⟨hk.1.1.1.1.1.1.2, ⟨hk.1.1.1.1.1.2, ⟨hk.1.1.1.1.2, ⟨hk.1.1.1.2, hk.1.1.2⟩⟩⟩⟩⟩)⟩, ⟨wJ zB.out⟩, ⟨wJ yj.out⟩, ⟨wJ zF.out⟩, ⟨wJ yg.out⟩, ⟨by (with_reducible repeat (first | refine zJ ?_ _ | refine zX ?_ | refine zZ ?_ _)); refine yC (cs := #[.string (⟨#[83]⟩ : BA), .bool true, .int .i64 250, .slice iA jU.length iB, .slice none 0 0, .slice none 0 0]) ?_ 3 _ rfl; (with_reducible repeat (first | refine zJ ?_ _ | refine zX ?_ | refine zZ ?_ _)); exact yB.out⟩, ⟨zD HB.out⟩⟩
          ·rw [if_neg zwp] at H
           exact absurd H (by simp)
         ·rw [if_neg zzf] at H
          have zWf : decide (Zz < (jB.length : Int)) = false := decide_eq_false zzf
          clear zzf
          obtain ⟨zd0, iC⟩ : ∃ y_ : List (wQ), y_ = (([(⟨(⟨#[82]⟩ : BA), false, 250, vo, wC, pz⟩ : wQ), (⟨(⟨#[73]⟩ : BA), false, 250, xu, ([] : List (qF)), ([] : List (qG))⟩ : wQ), (⟨(⟨#[66]⟩ : BA), false, 250, uZ, p9, ([] : List (qG))⟩ : wQ), (⟨(⟨#[77]⟩ : BA), false, 600, xA, ([] : List (qF)), ([] : List (qG))⟩ : wQ), (⟨(⟨#[83]⟩ : BA), true, 250, jU, ([] : List (qF)), ([] : List (qG))⟩ : wQ)] : List (wQ))) := ⟨_, rfl⟩
          replace H : (some zd0) = some r := by first | (rw [iC]; with_reducible exact H) | (have xJ := (Option.bind_some _ _).symm.trans H; rw [iC]; with_reducible exact xJ) | (have xJ := (Option.bind_some _ _).symm.trans H; with_reducible exact xJ) | with_reducible exact H | (rw [iC]; exact H) | exact H
          have zJh := zx.mk iC
          clear iC
          obtain rfl := Option.some.inj H
          obtain ⟨Z5, Z6, zbZ⟩ := Kd.y9 Zq.out
          subst zbZ
          have zhU := Zb.out
          have zh0 := Zc.out
          have zh1 := pF.out
          have zh2 := pG.out
          have zh3 := Zf.out
          have zh4 := Zg.out
          have zh5 := pI.out
          have zh6 := pO.out
          have zd1 : wr.cell? ⟨yV, 0, none⟩ = some (.string (⟨#[82]⟩ : BA)) := (zk zB.out 0).trans rfl
          have zd2 : wr.cell? ⟨yV, 1, none⟩ = some (.bool false) := (zk zB.out 1).trans rfl
          have zd3 : wr.cell? ⟨yV, 2, none⟩ = some (.int .i64 250) := (zk zB.out 2).trans rfl
          have zd4 : wr.cell? ⟨yV, 3, none⟩ = some (xO) := (zk zB.out 3).trans rfl
          have zd5 : wr.cell? ⟨yV, 4, none⟩ = some (.slice YB wC.length YC) := (zk zB.out 4).trans rfl
          have zd6 : wr.cell? ⟨yV, 5, none⟩ = some (.slice ZX pz.length ZJ) := (zk zB.out 5).trans rfl
          have zd7 := zw zB.out 0
          have zd8 := zw zB.out 1
          have zd9 := zw zB.out 2
          have zez := zw zB.out 3
          have zeq := zw zB.out 4
          have zex := zw zB.out 5
          have zh7 := Zd.out
          have zh8 := Ze.out
          have zh9 := Yo.out
          have ziz := Yp.out
          have ziq := Yz.out
          have zix := Yq.out
          have zej : wr.cell? ⟨qX, 0, none⟩ = some (.string (⟨#[73]⟩ : BA)) := (zk yj.out 0).trans rfl
          have zev : wr.cell? ⟨qX, 1, none⟩ = some (.bool false) := (zk yj.out 1).trans rfl
          have zek : wr.cell? ⟨qX, 2, none⟩ = some (.int .i64 250) := (zk yj.out 2).trans rfl
          have zey : wr.cell? ⟨qX, 3, none⟩ = some (xH) := (zk yj.out 3).trans rfl
          have zew : wr.cell? ⟨qX, 4, none⟩ = some (.slice none 0 0) := (zk yj.out 4).trans rfl
          have zeZ : wr.cell? ⟨qX, 5, none⟩ = some (.slice none 0 0) := (zk yj.out 5).trans rfl
          have zeQ := zw yj.out 0
          have zeX := zw yj.out 1
          have zeJ := zw yj.out 2
          have zeV := zw yj.out 3
          have zeK := zw yj.out 4
          have zeY := zw yj.out 5
          have zij := Zh.out
          have ziv := Zi.out
          have zik := pR.out
          have ziy := pU.out
          have zeW : wr.cell? ⟨yU, 0, none⟩ = some (.string (⟨#[66]⟩ : BA)) := (zk zF.out 0).trans rfl
          have zea : wr.cell? ⟨yU, 1, none⟩ = some (.bool false) := (zk zF.out 1).trans rfl
          have zeb : wr.cell? ⟨yU, 2, none⟩ = some (.int .i64 250) := (zk zF.out 2).trans rfl
          have zec : wr.cell? ⟨yU, 3, none⟩ = some (qP) := (zk zF.out 3).trans rfl
          have zed : wr.cell? ⟨yU, 4, none⟩ = some (.slice XA p9.length XB) := (zk zF.out 4).trans rfl
          have zee : wr.cell? ⟨yU, 5, none⟩ = some (.slice none 0 0) := (zk zF.out 5).trans rfl
          have zef := zw zF.out 0
          have zeg := zw zF.out 1
          have zeh := zw zF.out 2
          have zei := zw zF.out 3
          have zel := zw zF.out 4
          have zem := zw zF.out 5
          have ziw := Yx.out
          have ziZ := Yj.out
          have zen : wr.cell? ⟨qA, 0, none⟩ = some (.string (⟨#[77]⟩ : BA)) := (zk yg.out 0).trans rfl
          have zeo : wr.cell? ⟨qA, 1, none⟩ = some (.bool false) := (zk yg.out 1).trans rfl
          have zep : wr.cell? ⟨qA, 2, none⟩ = some (.int .i64 600) := (zk yg.out 2).trans rfl
          have zer : wr.cell? ⟨qA, 3, none⟩ = some (xk) := (zk yg.out 3).trans rfl
          have zes : wr.cell? ⟨qA, 4, none⟩ = some (.slice none 0 0) := (zk yg.out 4).trans rfl
          have zet : wr.cell? ⟨qA, 5, none⟩ = some (.slice none 0 0) := (zk yg.out 5).trans rfl
          have zeu := zw yg.out 0
          have zeA := zw yg.out 1
          have zeB := zw yg.out 2
          have zeC := zw yg.out 3
          have zeD := zw yg.out 4
          have zeE := zw yg.out 5
          have zeF : wr.cell? ⟨qI, 0, none⟩ = some (.string (⟨#[83]⟩ : BA)) := (zk yB.out 0).trans rfl
          have zeG : wr.cell? ⟨qI, 1, none⟩ = some (.bool true) := (zk yB.out 1).trans rfl
          have zeH : wr.cell? ⟨qI, 2, none⟩ = some (.int .i64 250) := (zk yB.out 2).trans rfl
          have zeI : wr.cell? ⟨qI, 3, none⟩ = some (Qa) := (zk yB.out 3).trans rfl
          have zeL : wr.cell? ⟨qI, 4, none⟩ = some (.slice none 0 0) := (zk yB.out 4).trans rfl
          have zeM : wr.cell? ⟨qI, 5, none⟩ = some (.slice none 0 0) := (zk yB.out 5).trans rfl
          have zeN := zw yB.out 0
          have zeO := zw yB.out 1
          have zeP := zw yB.out 2
          have zeR := zw yB.out 3
          have zeS := zw yB.out 4
          have zeT := zw yB.out 5
          obtain ⟨zq5, zq6, zbQ⟩ := Kd.y9 yw.out
          subst zbQ
          obtain ⟨zq7, zq8, zbX⟩ := Kd.y9 yX.out
          subst zbX
          obtain ⟨zq9, zxz, zbJ⟩ := Kd.y9 yZ.out
          subst zbJ
          obtain ⟨zxq, zxx, zbV⟩ := Kd.y9 yJ.out
          subst zbV
          obtain ⟨zxj, zxv, zbK⟩ := Kd.y9 kH.out
          subst zbK
          go_wp2_with (first | ((with_reducible refine qx (N := 121) rfl ?_); refine Kd.zaF PL _ 44 ?hg (N' := 121) ?hd (xs := ([(⟨(⟨#[82]⟩ : BA), false, 250, vo, wC, pz⟩ : wQ), (⟨(⟨#[73]⟩ : BA), false, 250, xu, ([] : List (qF)), ([] : List (qG))⟩ : wQ), (⟨(⟨#[66]⟩ : BA), false, 250, uZ, p9, ([] : List (qG))⟩ : wQ), (⟨(⟨#[77]⟩ : BA), false, 600, xA, ([] : List (qF)), ([] : List (qG))⟩ : wQ), (⟨(⟨#[83]⟩ : BA), true, 250, jU, ([] : List (qF)), ([] : List (qG))⟩ : wQ)] : List (wQ))) (inner := [.string (⟨#[82]⟩ : BA), .bool false, .int .i64 250, .slice zq5 vo.length zq6, .slice YB wC.length YC, .slice ZX pz.length ZJ, .string (⟨#[73]⟩ : BA), .bool false, .int .i64 250, .slice zq7 xu.length zq8, .slice none 0 0, .slice none 0 0, .string (⟨#[66]⟩ : BA), .bool false, .int .i64 250, .slice zq9 uZ.length zxz, .slice XA p9.length XB, .slice none 0 0, .string (⟨#[77]⟩ : BA), .bool false, .int .i64 600, .slice zxq xA.length zxx, .slice none 0 0, .slice none 0 0, .string (⟨#[83]⟩ : BA), .bool true, .int .i64 250, .slice zxj jU.length zxv, .slice none 0 0, .slice none 0 0]) (ok := (fun k_ => (w.heap.size ≤ k_) ∧ some k_ ≠ (.slice Z5 jB.length Z6 : Value).ownBlock ∧ k_ ≠ yV ∧ k_ ≠ qX ∧ k_ ≠ yU ∧ k_ ≠ qA ∧ k_ ≠ qI)) (jc := (fun k_ => (w.heap.size ≤ k_) ∧ some k_ ≠ (.slice Z5 jB.length Z6 : Value).ownBlock ∧ k_ ≠ yV ∧ k_ ≠ qX ∧ k_ ≠ yU ∧ k_ ≠ qA ∧ k_ ≠ qI)) ?hr ?hp (fun _ hk => hk) ((show ∀ k_, wr.heap.size ≤ k_ → (fun k_ => (w.heap.size ≤ k_) ∧ some k_ ≠ (.slice Z5 jB.length Z6 : Value).ownBlock ∧ k_ ≠ yV ∧ k_ ≠ qX ∧ k_ ≠ yU ∧ k_ ≠ qA ∧ k_ ≠ qI) k_ from fun k_ hk => ⟨(Nat.le_trans (zV (zD HB.out)) hk), Kd.fresh' (Kd.jg (yF Zq.out)) k_ hk, Kd.kW (g := yV) (o := .cells #[.string (⟨#[82]⟩ : BA), .bool false, .int .i64 250, .slice zq5 vo.length zq6, .slice YB wC.length YC, .slice ZX pz.length ZJ] 44 (0, 0)) (yt zB.out) k_ hk, Kd.kW (g := qX) (o := .cells #[.string (⟨#[73]⟩ : BA), .bool false, .int .i64 250, .slice zq7 xu.length zq8, .slice none 0 0, .slice none 0 0] 44 (0, 0)) (yt yj.out) k_ hk, Kd.kW (g := yU) (o := .cells #[.string (⟨#[66]⟩ : BA), .bool false, .int .i64 250, .slice zq9 uZ.length zxz, .slice XA p9.length XB, .slice none 0 0] 44 (0, 0)) (yt zF.out) k_ hk, Kd.kW (g := qA) (o := .cells #[.string (⟨#[77]⟩ : BA), .bool false, .int .i64 600, .slice zxq xA.length zxx, .slice none 0 0, .slice none 0 0] 44 (0, 0)) (yt yg.out) k_ hk, Kd.kW (g := qI) (o := .cells #[.string (⟨#[83]⟩ : BA), .bool true, .int .i64 250, .slice zxj jU.length zxv, .slice none 0 0, .slice none 0 0] 44 (0, 0)) (yt yB.out) k_ hk⟩) _ (Nat.le_refl _)) (Below.refl _ _) (Nat.le_refl _) (by simp) ?_; (case hd => rfl); (case hg => rfl); (case hr => first | (go_simp; done) | (go_simp; rfl)); (case hp => exact (yS.c6 (show Kd.FK PL _ _ (⟨(⟨#[82]⟩ : BA), false, 250, vo, wC, pz⟩ : wQ) [.string (⟨#[82]⟩ : BA), .bool false, .int .i64 250, .slice zq5 vo.length zq6, .slice YB wC.length YC, .slice ZX pz.length ZJ] from (PN _ _ (⟨(⟨#[82]⟩ : BA), false, 250, vo, wC, pz⟩ : wQ) (Kd.qU (Kd.zL (ok' := (fun k_ => (w.heap.size ≤ k_) ∧ some k_ ≠ (.slice Z5 jB.length Z6 : Value).ownBlock ∧ k_ ≠ yV ∧ k_ ≠ qX ∧ k_ ≠ yU ∧ k_ ≠ qA ∧ k_ ≠ qI)) (Kd.zi (Kd.zi (Kd.zi (Kd.zi (Kd.zi (yw.out) zB.out (by decide)) yj.out (by decide)) zF.out (by decide)) yg.out (by decide)) yB.out (by decide)) (fun k_ hk => ⟨hk.1.1.1.1.1.1, ⟨hk.1.1.1.1.1.2.1, ⟨hk.1.1.1.1.2, ⟨hk.1.1.1.2, ⟨hk.1.1.2, ⟨hk.1.2, hk.2⟩⟩⟩⟩⟩⟩))).2.1 (Kd.gK (Kd.zL (ok' := (fun k_ => (w.heap.size ≤ k_) ∧ some k_ ≠ (.slice Z5 jB.length Z6 : Value).ownBlock ∧ k_ ≠ yV ∧ k_ ≠ qX ∧ k_ ≠ yU ∧ k_ ≠ qA ∧ k_ ≠ qI)) (Kd.zi (Kd.zi (Kd.zi (Kd.zi (Kd.zi (yw.out) zB.out (by decide)) yj.out (by decide)) zF.out (by decide)) yg.out (by decide)) yB.out (by decide)) (fun k_ hk => ⟨hk.1.1.1.1.1.1, ⟨hk.1.1.1.1.1.2.1, ⟨hk.1.1.1.1.2, ⟨hk.1.1.1.2, ⟨hk.1.1.2, ⟨hk.1.2, hk.2⟩⟩⟩⟩⟩⟩))) (Kd.qU (Kd.zL (ok' := (fun k_ => (w.heap.size ≤ k_) ∧ some k_ ≠ (.slice Z5 jB.length Z6 : Value).ownBlock ∧ k_ ≠ yV ∧ k_ ≠ qX ∧ k_ ≠ yU ∧ k_ ≠ qA ∧ k_ ≠ qI)) (Kd.zi (Kd.zi (Kd.zi (Kd.zi (Kd.zi (Kd.kJ (Zl.out) (Kd.kN Zq.out) (by decide)) zB.out (by decide)) yj.out (by decide)) zF.out (by decide)) yg.out (by decide)) yB.out (by decide)) (fun k_ hk => ⟨hk.1.1.1.1.1.1.1, ⟨hk.1.1.1.1.1.2, ⟨hk.1.1.1.1.2, ⟨hk.1.1.1.2, ⟨hk.1.1.2, ⟨hk.1.2, hk.2⟩⟩⟩⟩⟩⟩))).2.1 (Kd.gK (Kd.zL (ok' := (fun k_ => (w.heap.size ≤ k_) ∧ some k_ ≠ (.slice Z5 jB.length Z6 : Value).ownBlock ∧ k_ ≠ yV ∧ k_ ≠ qX ∧ k_ ≠ yU ∧ k_ ≠ qA ∧ k_ ≠ qI)) (Kd.zi (Kd.zi (Kd.zi (Kd.zi (Kd.zi (Kd.kJ (Zl.out) (Kd.kN Zq.out) (by decide)) zB.out (by decide)) yj.out (by decide)) zF.out (by decide)) yg.out (by decide)) yB.out (by decide)) (fun k_ hk => ⟨hk.1.1.1.1.1.1.1, ⟨hk.1.1.1.1.1.2, ⟨hk.1.1.1.1.2, ⟨hk.1.1.1.2, ⟨hk.1.1.2, ⟨hk.1.2, hk.2⟩⟩⟩⟩⟩⟩))) (Kd.qU (Kd.zL (ok' := (fun k_ => (w.heap.size ≤ k_) ∧ some k_ ≠ (.slice Z5 jB.length Z6 : Value).ownBlock ∧ k_ ≠ yV ∧ k_ ≠ qX ∧ k_ ≠ yU ∧ k_ ≠ qA ∧ k_ ≠ qI)) (Kd.zi (Kd.zi (Kd.zi (Kd.zi (Kd.zi (Kd.kJ (Zm.out) (Kd.kN Zq.out) (by decide)) zB.out (by decide)) yj.out (by decide)) zF.out (by decide)) yg.out (by decide)) yB.out (by decide)) (fun k_ hk => ⟨hk.1.1.1.1.1.1, ⟨hk.1.1.1.1.1.2, ⟨hk.1.1.1.1.2, ⟨hk.1.1.1.2, ⟨hk.1.1.2, ⟨hk.1.2, hk.2⟩⟩⟩⟩⟩⟩))).2.1 (Kd.gK (Kd.zL (ok' := (fun k_ => (w.heap.size ≤ k_) ∧ some k_ ≠ (.slice Z5 jB.length Z6 : Value).ownBlock ∧ k_ ≠ yV ∧ k_ ≠ qX ∧ k_ ≠ yU ∧ k_ ≠ qA ∧ k_ ≠ qI)) (Kd.zi (Kd.zi (Kd.zi (Kd.zi (Kd.zi (Kd.kJ (Zm.out) (Kd.kN Zq.out) (by decide)) zB.out (by decide)) yj.out (by decide)) zF.out (by decide)) yg.out (by decide)) yB.out (by decide)) (fun k_ hk => ⟨hk.1.1.1.1.1.1, ⟨hk.1.1.1.1.1.2, ⟨hk.1.1.1.1.2, ⟨hk.1.1.1.2, ⟨hk.1.1.2, ⟨hk.1.2, hk.2⟩⟩⟩⟩⟩⟩))))) (yS.c6 (show Kd.FK PL _ _ (⟨(⟨#[73]⟩ : BA), false, 250, xu, ([] : List (qF)), ([] : List (qG))⟩ : wQ) [.string (⟨#[73]⟩ : BA), .bool false, .int .i64 250, .slice zq7 xu.length zq8, .slice none 0 0, .slice none 0 0] from (PN _ _ (⟨(⟨#[73]⟩ : BA), false, 250, xu, ([] : List (qF)), ([] : List (qG))⟩ : wQ) (Kd.qU (Kd.zL (ok' := (fun k_ => (w.heap.size ≤ k_) ∧ some k_ ≠ (.slice Z5 jB.length Z6 : Value).ownBlock ∧ k_ ≠ yV ∧ k_ ≠ qX ∧ k_ ≠ yU ∧ k_ ≠ qA ∧ k_ ≠ qI)) (Kd.zi (Kd.zi (Kd.zi (Kd.zi (Kd.zi (yX.out) zB.out (by decide)) yj.out (by decide)) zF.out (by decide)) yg.out (by decide)) yB.out (by decide)) (fun k_ hk => ⟨hk.1.1.1.1.1.1, ⟨hk.1.1.1.1.1.2.1, ⟨hk.1.1.1.1.2, ⟨hk.1.1.1.2, ⟨hk.1.1.2, ⟨hk.1.2, hk.2⟩⟩⟩⟩⟩⟩))).2.1 (Kd.gK (Kd.zL (ok' := (fun k_ => (w.heap.size ≤ k_) ∧ some k_ ≠ (.slice Z5 jB.length Z6 : Value).ownBlock ∧ k_ ≠ yV ∧ k_ ≠ qX ∧ k_ ≠ yU ∧ k_ ≠ qA ∧ k_ ≠ qI)) (Kd.zi (Kd.zi (Kd.zi (Kd.zi (Kd.zi (yX.out) zB.out (by decide)) yj.out (by decide)) zF.out (by decide)) yg.out (by decide)) yB.out (by decide)) (fun k_ hk => ⟨hk.1.1.1.1.1.1, ⟨hk.1.1.1.1.1.2.1, ⟨hk.1.1.1.1.2, ⟨hk.1.1.1.2, ⟨hk.1.1.2, ⟨hk.1.2, hk.2⟩⟩⟩⟩⟩⟩))) (Nat.le_refl _) (Kd.Wp _ _ _) (Nat.le_refl _) (Kd.Wp _ _ _))) (yS.c6 (show Kd.FK PL _ _ (⟨(⟨#[66]⟩ : BA), false, 250, uZ, p9, ([] : List (qG))⟩ : wQ) [.string (⟨#[66]⟩ : BA), .bool false, .int .i64 250, .slice zq9 uZ.length zxz, .slice XA p9.length XB, .slice none 0 0] from (PN _ _ (⟨(⟨#[66]⟩ : BA), false, 250, uZ, p9, ([] : List (qG))⟩ : wQ) (Kd.qU (Kd.zL (ok' := (fun k_ => (w.heap.size ≤ k_) ∧ some k_ ≠ (.slice Z5 jB.length Z6 : Value).ownBlock ∧ k_ ≠ yV ∧ k_ ≠ qX ∧ k_ ≠ yU ∧ k_ ≠ qA ∧ k_ ≠ qI)) (Kd.zi (Kd.zi (Kd.zi (Kd.zi (Kd.zi (yZ.out) zB.out (by decide)) yj.out (by decide)) zF.out (by decide)) yg.out (by decide)) yB.out (by decide)) (fun k_ hk => ⟨hk.1.1.1.1.1.1, ⟨hk.1.1.1.1.1.2.1, ⟨hk.1.1.1.1.2, ⟨hk.1.1.1.2, ⟨hk.1.1.2, ⟨hk.1.2, hk.2⟩⟩⟩⟩⟩⟩))).2.1 (Kd.gK (Kd.zL (ok' := (fun k_ => (w.heap.size ≤ k_) ∧ some k_ ≠ (.slice Z5 jB.length Z6 : Value).ownBlock ∧ k_ ≠ yV ∧ k_ ≠ qX ∧ k_ ≠ yU ∧ k_ ≠ qA ∧ k_ ≠ qI)) (Kd.zi (Kd.zi (Kd.zi (Kd.zi (Kd.zi (yZ.out) zB.out (by decide)) yj.out (by decide)) zF.out (by decide)) yg.out (by decide)) yB.out (by decide)) (fun k_ hk => ⟨hk.1.1.1.1.1.1, ⟨hk.1.1.1.1.1.2.1, ⟨hk.1.1.1.1.2, ⟨hk.1.1.1.2, ⟨hk.1.1.2, ⟨hk.1.2, hk.2⟩⟩⟩⟩⟩⟩))) (Kd.qU (Kd.zL (ok' := (fun k_ => (w.heap.size ≤ k_) ∧ some k_ ≠ (.slice Z5 jB.length Z6 : Value).ownBlock ∧ k_ ≠ yV ∧ k_ ≠ qX ∧ k_ ≠ yU ∧ k_ ≠ qA ∧ k_ ≠ qI)) (Kd.zi (Kd.zi (Kd.zi (Kd.zi (Kd.zi (Kd.kJ (Zn.out) (Kd.kN Zq.out) (by decide)) zB.out (by decide)) yj.out (by decide)) zF.out (by decide)) yg.out (by decide)) yB.out (by decide)) (fun k_ hk => ⟨hk.1.1.1.1.1.1.1, ⟨hk.1.1.1.1.1.2, ⟨hk.1.1.1.1.2, ⟨hk.1.1.1.2, ⟨hk.1.1.2, ⟨hk.1.2, hk.2⟩⟩⟩⟩⟩⟩))).2.1 (Kd.gK (Kd.zL (ok' := (fun k_ => (w.heap.size ≤ k_) ∧ some k_ ≠ (.slice Z5 jB.length Z6 : Value).ownBlock ∧ k_ ≠ yV ∧ k_ ≠ qX ∧ k_ ≠ yU ∧ k_ ≠ qA ∧ k_ ≠ qI)) (Kd.zi (Kd.zi (Kd.zi (Kd.zi (Kd.zi (Kd.kJ (Zn.out) (Kd.kN Zq.out) (by decide)) zB.out (by decide)) yj.out (by decide)) zF.out (by decide)) yg.out (by decide)) yB.out (by decide)) (fun k_ hk => ⟨hk.1.1.1.1.1.1.1, ⟨hk.1.1.1.1.1.2, ⟨hk.1.1.1.1.2, ⟨hk.1.1.1.2, ⟨hk.1.1.2, ⟨hk.1.2, hk.2⟩⟩⟩⟩⟩⟩))) (Nat.le_refl _) (Kd.Wp _ _ _))) (yS.c6 (show Kd.FK PL _ _ (⟨(⟨#[77]⟩ : BA), false, 600, xA, ([] : List (qF)), ([] : List (qG))⟩ : wQ) [.string (⟨#[77]⟩ : BA), .bool false, .int .i64 600, .slice zxq xA.length zxx, .slice none 0 0, .slice none 0 0] from (PN _ _ (⟨(⟨#[77]⟩ : BA), false, 600, xA, ([] : List (qF)), ([] : List (qG))⟩ : wQ) (Kd.qU (Kd.zL (ok' := (fun k_ => (w.heap.size ≤ k_) ∧ some k_ ≠ (.slice Z5 jB.length Z6 : Value).ownBlock ∧ k_ ≠ yV ∧ k_ ≠ qX ∧ k_ ≠ yU ∧ k_ ≠ qA ∧ k_ ≠ qI)) (Kd.zi (Kd.zi (Kd.zi (Kd.zi (Kd.zi (yJ.out) zB.out (by decide)) yj.out (by decide)) zF.out (by decide)) yg.out (by decide)) yB.out (by decide)) (fun k_ hk => ⟨hk.1.1.1.1.1.1, ⟨hk.1.1.1.1.1.2.1, ⟨hk.1.1.1.1.2, ⟨hk.1.1.1.2, ⟨hk.1.1.2, ⟨hk.1.2, hk.2⟩⟩⟩⟩⟩⟩))).2.1 (Kd.gK (Kd.zL (ok' := (fun k_ => (w.heap.size ≤ k_) ∧ some k_ ≠ (.slice Z5 jB.length Z6 : Value).ownBlock ∧ k_ ≠ yV ∧ k_ ≠ qX ∧ k_ ≠ yU ∧ k_ ≠ qA ∧ k_ ≠ qI)) (Kd.zi (Kd.zi (Kd.zi (Kd.zi (Kd.zi (yJ.out) zB.out (by decide)) yj.out (by decide)) zF.out (by decide)) yg.out (by decide)) yB.out (by decide)) (fun k_ hk => ⟨hk.1.1.1.1.1.1, ⟨hk.1.1.1.1.1.2.1, ⟨hk.1.1.1.1.2, ⟨hk.1.1.1.2, ⟨hk.1.1.2, ⟨hk.1.2, hk.2⟩⟩⟩⟩⟩⟩))) (Nat.le_refl _) (Kd.Wp _ _ _) (Nat.le_refl _) (Kd.Wp _ _ _))) (yS.c6 (show Kd.FK PL _ _ (⟨(⟨#[83]⟩ : BA), true, 250, jU, ([] : List (qF)), ([] : List (qG))⟩ : wQ) [.string (⟨#[83]⟩ : BA), .bool true, .int .i64 250, .slice zxj jU.length zxv, .slice none 0 0, .slice none 0 0] from (PN _ _ (⟨(⟨#[83]⟩ : BA), true, 250, jU, ([] : List (qF)), ([] : List (qG))⟩ : wQ) (Kd.qU (Kd.zL (ok' := (fun k_ => (w.heap.size ≤ k_) ∧ some k_ ≠ (.slice Z5 jB.length Z6 : Value).ownBlock ∧ k_ ≠ yV ∧ k_ ≠ qX ∧ k_ ≠ yU ∧ k_ ≠ qA ∧ k_ ≠ qI)) (Kd.zi (Kd.zi (Kd.zi (Kd.zi (Kd.zi (kH.out) zB.out (by decide)) yj.out (by decide)) zF.out (by decide)) yg.out (by decide)) yB.out (by decide)) (fun k_ hk => ⟨hk.1.1.1.1.1.1, ⟨hk.1.1.1.1.1.2.1, ⟨hk.1.1.1.1.2, ⟨hk.1.1.1.2, ⟨hk.1.1.2, ⟨hk.1.2, hk.2⟩⟩⟩⟩⟩⟩))).2.1 (Kd.gK (Kd.zL (ok' := (fun k_ => (w.heap.size ≤ k_) ∧ some k_ ≠ (.slice Z5 jB.length Z6 : Value).ownBlock ∧ k_ ≠ yV ∧ k_ ≠ qX ∧ k_ ≠ yU ∧ k_ ≠ qA ∧ k_ ≠ qI)) (Kd.zi (Kd.zi (Kd.zi (Kd.zi (Kd.zi (kH.out) zB.out (by decide)) yj.out (by decide)) zF.out (by decide)) yg.out (by decide)) yB.out (by decide)) (fun k_ hk => ⟨hk.1.1.1.1.1.1, ⟨hk.1.1.1.1.1.2.1, ⟨hk.1.1.1.1.2, ⟨hk.1.1.1.2, ⟨hk.1.1.2, ⟨hk.1.2, hk.2⟩⟩⟩⟩⟩⟩))) (Nat.le_refl _) (Kd.Wp _ _ _) (Nat.le_refl _) (Kd.Wp _ _ _))) (yS.none _ _))))))); intro v198 zl9 iD hb wo ug; clear wo ug; (first | rw [← zJh.out] at iD | (simp only [Int.reduceToNat] at iD; rw [← zJh.out] at iD)); have zf := zx.mk (Kd.qz (yF Zq.out) hb); have zh := zx.mk (Kd.oK iD (zV (zD HB.out))); have zA := zx.mk (zl (g := yV) (o := .cells #[.string (⟨#[82]⟩ : BA), .bool false, .int .i64 250, .slice zq5 vo.length zq6, .slice YB wC.length YC, .slice ZX pz.length ZJ] 44 (0, 0)) (yt zB.out) hb); have zR := zx.mk (zl (g := qX) (o := .cells #[.string (⟨#[73]⟩ : BA), .bool false, .int .i64 250, .slice zq7 xu.length zq8, .slice none 0 0, .slice none 0 0] 44 (0, 0)) (yt yj.out) hb); have qV := zx.mk (zl (g := yU) (o := .cells #[.string (⟨#[66]⟩ : BA), .bool false, .int .i64 250, .slice zq9 uZ.length zxz, .slice XA p9.length XB, .slice none 0 0] 44 (0, 0)) (yt zF.out) hb); have xD := zx.mk (zl (g := qA) (o := .cells #[.string (⟨#[77]⟩ : BA), .bool false, .int .i64 600, .slice zxq xA.length zxx, .slice none 0 0, .slice none 0 0] 44 (0, 0)) (yt yg.out) hb); have vE := zx.mk (zl (g := qI) (o := .cells #[.string (⟨#[83]⟩ : BA), .bool true, .int .i64 250, .slice zxj jU.length zxv, .slice none 0 0, .slice none 0 0] 44 (0, 0)) (yt yB.out) hb); have vR := zx.mk (zI (zD HB.out) hb); clear Zq; clear zB; clear yj; clear zF; clear yg; clear yB; clear HB; clear yw; clear Zl; clear Zm; clear yX; clear yZ; clear Zn; clear yJ; clear kH; have Zq := zf; have zbY := zh; have zB := zA; have yj := zR; have zF := qV; have yg := xD; have yB := vE; have HB := vR; clear zf zh zA zR qV xD vE vR; clear hb iD))
          go_ret
          exact ⟨_, by first | rfl | (simp [zU, z8] <;> rfl) | (simp [*, zU, z8] <;> rfl), by (with_reducible repeat (first | apply Kd.Xp | apply Kd.Xr | apply Kd.QC)); exact Kd.Xi zbY.out (fun _ hk => hk.1), by repeat (first | (with_reducible first | exact HB.out | apply yu | apply zP | apply yT | refine qB ?_ za5.out | refine qB ?_ za6.out | refine qB ?_ za7.out | refine qB ?_ za8.out | refine qB ?_ za9.out) | exact HB.out)⟩
end Go.Proofs.YtaifemkokfoadaaGreatDoor.PX
namespace Go.Proofs.YtaifemkokfoadaaGreatDoor
open Go.RowKit Go.Proofs.zy.zu Go.Proofs.zy.yI Go.Proofs.zy.yD Go.Proofs.YtaifemkokfoadaaGreatDoor.PX
set_option linter.unusedSimpArgs false
set_option linter.unusedVariables false
def Uh (x : zo) : qg := ⟨x.f0, x.f1⟩
def Xx.T5 : Bool × List (List Nat × List Nat) := (true, [([], []), ([0], [0]), ([], []), ([2], [2]), ([], []), ([3, 4], [3, 4]), ([5], [5]), ([6], [6]), ([], []), ([8], [8]), ([], []), ([9, 10], [9, 10]), ([11], [11]), ([12], [12]), ([7, 13], [7, 13]), ([14], [14]), ([1, 15], [1, 15]), ([0, 1, 2, 3, 4, 5, 6, 7, 8, 9, 10, 11, 12, 13, 14, 15, 16], []), ([17, 16, 16, 0, 1, 2, 3, 4, 5, 6, 7, 8, 9, 10, 11, 12, 13, 14, 15, 16], [16, 17])])
def Xx.B5 : List Nat := [0, 1, 0, 4, 0, 28, 60, 124, 0, 256, 0, 1792, 3840, 7936, 16380, 32764, 65535, 131071, 262143]
theorem Xx.dX : u6 .any (opsOf Tryz.f19 5) = Xx.T5 := by kernel_rfl
theorem Xx.dJ : jM Xx.T5.2 Xx.B5 = true := by kernel_rfl
def Jm (x : qF) : xC := ⟨x.f0, x.f1, x.f2⟩
def Xx.T9 : Bool × List (List Nat × List Nat) := (true, [([], []), ([0], [0]), ([], []), ([2], [2]), ([], []), ([3, 4], [3, 4]), ([5], [5]), ([6], [6]), ([], []), ([8], [8]), ([], []), ([9, 10], [9, 10]), ([11], [11]), ([12], [12]), ([], []), ([14], [14]), ([], []), ([15, 16], [15, 16]), ([17], [17]), ([18], [18]), ([7, 13, 19], [7, 13, 19]), ([20], [20]), ([1, 21], [1, 21]), ([0, 1, 2, 3, 4, 5, 6, 7, 8, 9, 10, 11, 12, 13, 14, 15, 16, 17, 18, 19, 20, 21, 22], []), ([23, 22, 22, 0, 1, 2, 3, 4, 5, 6, 7, 8, 9, 10, 11, 12, 13, 14, 15, 16, 17, 18, 19, 20, 21, 22], [22, 23])])
def Xx.B9 : List Nat := [0, 1, 0, 4, 0, 28, 60, 124, 0, 256, 0, 1792, 3840, 7936, 0, 16384, 0, 114688, 245760, 507904, 1048572, 2097148, 4194303, 8388607, 16777215]
theorem Xx.zXv : u6 .any (opsOf Tryz.f19 9) = Xx.T9 := by kernel_rfl
theorem Xx.zwj : jM Xx.T9.2 Xx.B9 = true := by kernel_rfl
def Jo (x : qG) : vk := ⟨x.f0, x.f1, x.f2⟩
def Xx.T13 : Bool × List (List Nat × List Nat) := (true, [([], []), ([0], [0]), ([], []), ([2], [2]), ([], []), ([3, 4], [3, 4]), ([5], [5]), ([6], [6]), ([], []), ([8], [8]), ([], []), ([9, 10], [9, 10]), ([11], [11]), ([12], [12]), ([], []), ([14], [14]), ([], []), ([15, 16], [15, 16]), ([17], [17]), ([18], [18]), ([7, 13, 19], [7, 13, 19]), ([20], [20]), ([1, 21], [1, 21]), ([0, 1, 2, 3, 4, 5, 6, 7, 8, 9, 10, 11, 12, 13, 14, 15, 16, 17, 18, 19, 20, 21, 22], []), ([23, 22, 22, 0, 1, 2, 3, 4, 5, 6, 7, 8, 9, 10, 11, 12, 13, 14, 15, 16, 17, 18, 19, 20, 21, 22], [22, 23])])
def Xx.B13 : List Nat := [0, 1, 0, 4, 0, 28, 60, 124, 0, 256, 0, 1792, 3840, 7936, 0, 16384, 0, 114688, 245760, 507904, 1048572, 2097148, 4194303, 8388607, 16777215]
theorem Xx.QY : u6 .any (opsOf Tryz.f19 13) = Xx.T13 := by kernel_rfl
theorem Xx.YM : jM Xx.T13.2 Xx.B13 = true := by kernel_rfl
set_option maxRecDepth 100000 in
set_option maxHeartbeats 8000000 in
theorem zVT (a : ByteArray) (b : Bool) (c : Int) (A3 : Option Addr) (c3 : Nat) (l3 : List zo) (A4 : Option Addr) (c4 : Nat) (l4 : List qF) (A5 : Option Addr) (c5 : Nat) (l5 : List qG) (w : World) (h3 : Kd.C qJ w A3 l3.length l3) (h4 : Kd.C jC w A4 l4.length l4) (h5 : Kd.C jS w A5 l5.length l5) (hl3 : l3.length ≤ 1000000) (hl4 : l4.length ≤ 1000000) (hl5 : l5.length ≤ 1000000) :
  Calls Tryz.prog 19 #[.agg #[.string a, .bool b, .int .i64 c, .slice A3 l3.length c3, .slice A4 l4.length c4, .slice A5 l5.length c5]] w fun e w' => ∃ WA WB WC : Value, e = .returned (.agg #[.string a, .bool b, .int .i64 c, WA, WB, WC]) ∧ Kd.R uf 31 w' w.heap.size (fun _ => True) WA (l3.map Uh) ∧ Kd.R jd 86 w' w.heap.size (fun _ => True) WB (l4.map Jm) ∧ Kd.R jh 76 w' w.heap.size (fun _ => True) WC (l5.map Jo) ∧ Below w.heap.size w w' := by
 have hu1 := Tryz.underlying44
 have hu2 := Tryz.underlying26
 have H3 := zx.mk h3
 have H4 := zx.mk h4
 have H5 := zx.mk h5
 clear h3 h4 h5
 have X0 : XS uf 31 jd 86 jh 76 44 26 w w.heap.size (w.heap.size + 1) (w.heap.size + 2) #[.string a, .bool b, .int .i64 c, .slice A3 l3.length c3, .slice A4 l4.length c4, .slice A5 l5.length c5] a b c (.slice none 0 0) (.slice none 0 0) (.slice none 0 0) [] [] [] (((w.alloc (.cells #[.string a, .bool b, .int .i64 c, .slice A3 l3.length c3, .slice A4 l4.length c4, .slice A5 l5.length c5] 44)).alloc (.cells Pk 26)).alloc (.cells #[.string a, .bool b, .int .i64 c, .slice none 0 0, .slice none 0 0, .slice none 0 0] 26)) := by
  have e1 : (w.alloc (.cells #[.string a, .bool b, .int .i64 c, .slice A3 l3.length c3, .slice A4 l4.length c4, .slice A5 l5.length c5] 44)).heap.size = w.heap.size + 1 := by simp
  have e2 : ((w.alloc (.cells #[.string a, .bool b, .int .i64 c, .slice A3 l3.length c3, .slice A4 l4.length c4, .slice A5 l5.length c5] 44)).alloc (.cells Pk 26)).heap.size = w.heap.size + 2 := by simp
  refine ⟨zZ (zZ (je _ _) _) _, ?_, ?_, Kd.ku _ _ _ _ _, Kd.ku _ _ _ _ _, Kd.ku _ _ _ _ _, (((Below.refl _ w).alloc (Nat.le_refl _) _).alloc (by simp) _).alloc (by rw [e2]; omega) _, by omega, by omega, by omega⟩
  ·have := zZ (je (w.alloc (.cells #[.string a, .bool b, .int .i64 c, .slice A3 l3.length c3, .slice A4 l4.length c4, .slice A5 l5.length c5] 44)) (.cells Pk 26)) (.cells #[.string a, .bool b, .int .i64 c, .slice none 0 0, .slice none 0 0, .slice none 0 0] 26)
   rwa [e1] at this
  ·have := je ((w.alloc (.cells #[.string a, .bool b, .int .i64 c, .slice A3 l3.length c3, .slice A4 l4.length c4, .slice A5 l5.length c5] 44)).alloc (.cells Pk 26)) (.cells #[.string a, .bool b, .int .i64 c, .slice none 0 0, .slice none 0 0, .slice none 0 0] 26)
   rwa [e2] at this
 go_enter Tryz.func19, Tryz.ntmps19
 go_wp2
 go_loopw [4] (fun y W => ∃ (i : Nat) (u : Value), y = .int .i64 (i : Int) ∧ i ≤ l3.length ∧ zx (XS uf 31 jd 86 jh 76 44 26 w w.heap.size (w.heap.size + 1) (w.heap.size + 2) #[.string a, .bool b, .int .i64 c, .slice A3 l3.length c3, .slice A4 l4.length c4, .slice A5 l5.length c5] a b c u (.slice none 0 0) (.slice none 0 0) ((l3.take i).map Uh) [] [] W)) (fun y _ => l3.length - (intOf y).toNat)
 case atStart => exact ⟨0, .slice none 0 0, rfl, Nat.zero_le _, ⟨X0⟩⟩
 case round =>
  obtain ⟨i, u, rfl, hi, HX⟩ := hrel
  have X := HX.out
  clear X0
  have hcf : wr.cell? ⟨w.heap.size, 3, none⟩ = some (.slice A3 l3.length c3) := (zk X.bf 3).trans rfl
  by_cases hlt : i < l3.length
  ·have hx := List.getElem?_eq_getElem hlt
   obtain ⟨ad, e, x0, x1⟩ := ZY H3.out (i : Int) (by omega) (by omega)
   cases e
   have e : zN l3 (i : Int) = l3[i] := by simp [zN, List.getD_eq_getElem?_getD, hlt]
   rw [Int.toNat_natCast, e] at x0 x1
   clear e
   generalize l3[i] = x at hx x0 x1
   have k0 := fun (W : World) (h : Below w.heap.size w W) => (h.cell (World.block_lt_of_cell? w _ x0)).trans x0; have k1 := fun (W : World) (h : Below w.heap.size w W) => (h.cell (World.block_lt_of_cell? w _ x1)).trans x1
   have q1 : (i : Int) < (l3.length : Int) := by omega
   have q0 : (0 : Int) ≤ (i : Int) := by omega
   have q3 : ((i : Int)).toNat = i := Int.toNat_natCast i
   have q2 : decide ((i : Int) < (l3.length : Int)) = true := decide_eq_true q1
   try go_wp2
   have X1 := X.mv (pQ (Below.refl _ wr))
   refine Zj (n := 19) (S := fun W' => W'.cell? ⟨w.heap.size + 2, 3, none⟩ = some u ∧ W'.cell? ⟨w.heap.size, 3, none⟩ = some (.slice (some ad) l3.length c3) ∧ W'.cell? (ad.add (i * 2)) = some (.string x.f0) ∧ W'.cell? ⟨(ad.add (i * 2)).block, (ad.add (i * 2)).off + 1, none⟩ = some (.int .i64 x.f1)) (ds := [18]) #[false, false, false, false, false, false, false, false, false, false, false, false, false, false, false, false, false, false, false] (by kernel_rfl) rfl rfl ⟨(zk X1.bx 3).trans rfl, (zk X1.bf 3).trans rfl, k0 _ X1.hb, k1 _ X1.hb⟩ (fun hHeld => ?_); refine wL Xx.dX Xx.dJ (fun zM jJ => ?_)
   clear X HX hcf
   generalize wr.drew = W at X1 hHeld ⊢
   refine qW 0 (some 21) zM ?_
   refine qW 2 (some 23) zM ?_
   refine qW 4 (some 25) zM ?_
   refine qW 8 (some 29) zM ?_
   refine qW 10 (some 31) zM ?_
   refine kQ 1 (some 22) zM jJ hHeld ?_
   refine kQ 3 (some 24) zM jJ hHeld ?_
   refine qW 5 (some 26) zM ?_
   refine qW 6 (some 27) zM ?_
   refine kQ 7 (some 28) zM jJ hHeld ?_
   refine kQ 9 (some 30) zM jJ hHeld ?_
   refine qW 11 (some 32) zM ?_
   refine qW 12 (some 33) zM ?_
   refine kQ 13 (some 34) zM jJ hHeld ?_
   refine qW 14 (some 35) zM ?_
   refine ZH 15 (some 36) zM (fun K hK => ?_)
   refine Jj ?_
   have X2 := X1.mv (yu (Below.refl _ W) (.cells #[.string x.f0, .int .i64 x.f1] 31))
   refine hK.out _ _ ⟨(zk X2.bx 3).trans rfl, (zk X2.bf 3).trans rfl, k0 _ X2.hb, k1 _ X2.hb⟩ (fun hHeld => ?_)
   clear hK K
   refine wX (some 36) ?_
   refine ZH 16 (some 37) zM (fun K hK => ?_)
   refine Kd.kL uf (w0 := w) w.heap.size (by rfl) (.tmp 22) (.tmp 36) 22 31 (.agg #[(.string ⟨#[]⟩), (.int .i64 0)]) 24 rfl Tryz.underlying22 zxh rfl (by decide) (by omega) u ((l3.take i).map Uh) (Uh x) [.string x.f0, .int .i64 x.f1] (fun _ => True) (fun _ => False) rfl rfl ?aP (fun _ hk => hk.elim) ?aF ?aO ?aB ?aS ?aL ?_
   (case aP => exact UY _ _ _ (Uh x))
   (case aB => exact X1.hb)
   (case aF => exact (fun _ _ => trivial))
   (case aO => exact X1.r3)
   (case aS => exact X1.hb.size)
   (case aL => rw [List.length_map, List.length_take]; omega)
   intro v Zw ho hb hg hat
   rw [← Vv Uh l3 i x hx] at ho
   obtain ⟨Ao, co, eo⟩ := Kd.y9 ho
   subst eo
   generalize ((l3.take (i + 1)).map Uh).length = nn at ho ⊢
   have bx1 := qQ X1.bx hg (Kd.kE X1.r3 X1.bx (by decide))
   have JQ := qQ X1.bf hg (Kd.kE X1.r3 X1.bf (by decide))
   have X3 := zx.mk (X1.zY5 hg ho hb (by decide) (by decide) (by decide) (by decide) (by decide) (by decide))
   refine hK.out _ _ ⟨(zk bx1 3).trans rfl, (zk JQ 3).trans rfl, k0 _ hb, k1 _ hb⟩ (fun hHeld => ?_)
   clear hK K
   refine wX (some 37) ?_
   refine qW 17 (some 38) zM ?_
   refine Qw (i := 18) (N := none) #[true, true, true, true, true, true, true, true, true, true, true, true, true, true, true, true, true, true, true] rfl rfl (wI zM.out (by kernel_rfl)) (by decide) (fun K hK => ?_)
   have QS : Zw.cell? ⟨w.heap.size + 2, 3, none⟩ = some u := (zk bx1 3).trans rfl
   have XZ := zw bx1 3
   refine QZ (w1 := ?_) (by rfl) rfl ?_ ?_
   rotate_left
   ·go_simp
    rfl
   refine hK.out _ _ ?_
   clear hK K
   refine uO (vW zM.out (by kernel_rfl)) ?_
   clear X1 X2 hb hg ho hat QS XZ bx1 JQ hHeld
   generalize Zw.setCell ⟨w.heap.size + 2, 3, none⟩ (.slice Ao nn co : Value) = YD at X3 ⊢
   try go_wp2
   go_roundw
   case rel => exact ⟨i + 1, (.slice Ao nn co : Value), by first | rfl | (simp; done) | go_num, by omega, X3⟩
   case measure => simp [intOf]; omega
  ·obtain rfl : i = l3.length := by omega
   have q2 : decide ((l3.length : Int) < (l3.length : Int)) = false := decide_eq_false (by omega)
   rw [List.take_length] at X
   clear HX
   obtain ⟨VE, VF, eo3⟩ := Kd.y9 X.r3
   subst eo3
   generalize HM3 : l3.map Uh = m3 at X
   try go_wp2
   go_loopw [5] (fun y W => ∃ (i : Nat) (u : Value), y = .int .i64 (i : Int) ∧ i ≤ l4.length ∧ zx (XS uf 31 jd 86 jh 76 44 26 w w.heap.size (w.heap.size + 1) (w.heap.size + 2) #[.string a, .bool b, .int .i64 c, .slice A3 l3.length c3, .slice A4 l4.length c4, .slice A5 l5.length c5] a b c (.slice VE m3.length VF) u (.slice none 0 0) m3 ((l4.take i).map Jm) [] W)) (fun y _ => l4.length - (intOf y).toNat)
   case atStart => exact ⟨0, .slice none 0 0, rfl, Nat.zero_le _, ⟨X⟩⟩
   case round =>
    obtain ⟨i, u, rfl, hi, HX⟩ := hrel
    have X := HX.out
    skip
    have hcf : wr.cell? ⟨w.heap.size, 4, none⟩ = some (.slice A4 l4.length c4) := (zk X.bf 4).trans rfl
    by_cases hlt : i < l4.length
    ·have hx := List.getElem?_eq_getElem hlt
     obtain ⟨ad, e, x0, x1, x2⟩ := QD H4.out (i : Int) (by omega) (by omega)
     cases e
     have e : vJ l4 (i : Int) = l4[i] := by simp [vJ, List.getD_eq_getElem?_getD, hlt]
     rw [Int.toNat_natCast, e] at x0 x1 x2
     clear e
     generalize l4[i] = x at hx x0 x1 x2
     have k0 := fun (W : World) (h : Below w.heap.size w W) => (h.cell (World.block_lt_of_cell? w _ x0)).trans x0; have k1 := fun (W : World) (h : Below w.heap.size w W) => (h.cell (World.block_lt_of_cell? w _ x1)).trans x1; have k2 := fun (W : World) (h : Below w.heap.size w W) => (h.cell (World.block_lt_of_cell? w _ x2)).trans x2
     have q1 : (i : Int) < (l4.length : Int) := by omega
     have q0 : (0 : Int) ≤ (i : Int) := by omega
     have q3 : ((i : Int)).toNat = i := Int.toNat_natCast i
     have q2 : decide ((i : Int) < (l4.length : Int)) = true := decide_eq_true q1
     try go_wp2
     have X1 := X.mv (pQ (Below.refl _ wr))
     refine Zj (n := 25) (S := fun W' => W'.cell? ⟨w.heap.size + 2, 4, none⟩ = some u ∧ W'.cell? ⟨w.heap.size, 4, none⟩ = some (.slice (some ad) l4.length c4) ∧ W'.cell? (ad.add (i * 3)) = some (.string x.f0) ∧ W'.cell? ⟨(ad.add (i * 3)).block, (ad.add (i * 3)).off + 1, none⟩ = some (.string x.f1) ∧ W'.cell? ⟨(ad.add (i * 3)).block, (ad.add (i * 3)).off + 2, none⟩ = some (.string x.f2)) (ds := [24]) #[false, false, false, false, false, false, false, false, false, false, false, false, false, false, false, false, false, false, false, false, false, false, false, false, false] (by kernel_rfl) rfl rfl ⟨(zk X1.bx 4).trans rfl, (zk X1.bf 4).trans rfl, k0 _ X1.hb, k1 _ X1.hb, k2 _ X1.hb⟩ (fun hHeld => ?_); refine wL Xx.zXv Xx.zwj (fun zM jJ => ?_)
     clear X HX hcf
     generalize wr.drew = W at X1 hHeld ⊢
     refine qW 0 (some 46) zM ?_
     refine qW 2 (some 48) zM ?_
     refine qW 4 (some 50) zM ?_
     refine qW 8 (some 54) zM ?_
     refine qW 10 (some 56) zM ?_
     refine qW 14 (some 60) zM ?_
     refine qW 16 (some 62) zM ?_
     refine kQ 1 (some 47) zM jJ hHeld ?_
     refine kQ 3 (some 49) zM jJ hHeld ?_
     refine qW 5 (some 51) zM ?_
     refine qW 6 (some 52) zM ?_
     refine kQ 7 (some 53) zM jJ hHeld ?_
     refine kQ 9 (some 55) zM jJ hHeld ?_
     refine qW 11 (some 57) zM ?_
     refine qW 12 (some 58) zM ?_
     refine kQ 13 (some 59) zM jJ hHeld ?_
     refine kQ 15 (some 61) zM jJ hHeld ?_
     refine qW 17 (some 63) zM ?_
     refine qW 18 (some 64) zM ?_
     refine kQ 19 (some 65) zM jJ hHeld ?_
     refine qW 20 (some 66) zM ?_
     refine ZH 21 (some 67) zM (fun K hK => ?_)
     refine Jj ?_
     have X2 := X1.mv (yu (Below.refl _ W) (.cells #[.string x.f0, .string x.f1, .string x.f2] 86))
     refine hK.out _ _ ⟨(zk X2.bx 4).trans rfl, (zk X2.bf 4).trans rfl, k0 _ X2.hb, k1 _ X2.hb, k2 _ X2.hb⟩ (fun hHeld => ?_)
     clear hK K
     refine wX (some 67) ?_
     refine ZH 22 (some 68) zM (fun K hK => ?_)
     refine Kd.kL jd (w0 := w) w.heap.size (by rfl) (.tmp 47) (.tmp 67) 23 86 (.agg #[(.string ⟨#[]⟩), (.string ⟨#[]⟩), (.string ⟨#[]⟩)]) 48 rfl Tryz.underlying23 zYL rfl (by decide) (by omega) u ((l4.take i).map Jm) (Jm x) [.string x.f0, .string x.f1, .string x.f2] (fun _ => True) (fun _ => False) rfl rfl ?aP (fun _ hk => hk.elim) ?aF ?aO ?aB ?aS ?aL ?_
     (case aP => exact nC _ _ _ (Jm x))
     (case aB => exact X1.hb)
     (case aF => exact (fun _ _ => trivial))
     (case aO => exact X1.r4)
     (case aS => exact X1.hb.size)
     (case aL => rw [List.length_map, List.length_take]; omega)
     intro v Zw ho hb hg hat
     rw [← Vv Jm l4 i x hx] at ho
     obtain ⟨Ao, co, eo⟩ := Kd.y9 ho
     subst eo
     generalize ((l4.take (i + 1)).map Jm).length = nn at ho ⊢
     have bx1 := qQ X1.bx hg (Kd.kE X1.r4 X1.bx (by decide))
     have JQ := qQ X1.bf hg (Kd.kE X1.r4 X1.bf (by decide))
     have X3 := zx.mk (X1.zY6 hg ho hb (by decide) (by decide) (by decide) (by decide) (by decide) (by decide))
     refine hK.out _ _ ⟨(zk bx1 4).trans rfl, (zk JQ 4).trans rfl, k0 _ hb, k1 _ hb, k2 _ hb⟩ (fun hHeld => ?_)
     clear hK K
     refine wX (some 68) ?_
     refine qW 23 (some 69) zM ?_
     refine Qw (i := 24) (N := none) #[true, true, true, true, true, true, true, true, true, true, true, true, true, true, true, true, true, true, true, true, true, true, true, true, true] rfl rfl (wI zM.out (by kernel_rfl)) (by decide) (fun K hK => ?_)
     have QS : Zw.cell? ⟨w.heap.size + 2, 4, none⟩ = some u := (zk bx1 4).trans rfl
     have XZ := zw bx1 4
     refine QZ (w1 := ?_) (by rfl) rfl ?_ ?_
     rotate_left
     ·go_simp
      rfl
     refine hK.out _ _ ?_
     clear hK K
     refine uO (vW zM.out (by kernel_rfl)) ?_
     clear X1 X2 hb hg ho hat QS XZ bx1 JQ hHeld
     generalize Zw.setCell ⟨w.heap.size + 2, 4, none⟩ (.slice Ao nn co : Value) = YD at X3 ⊢
     try go_wp2
     go_roundw
     case rel => exact ⟨i + 1, (.slice Ao nn co : Value), by first | rfl | (simp; done) | go_num, by omega, X3⟩
     case measure => simp [intOf]; omega
    ·obtain rfl : i = l4.length := by omega
     have q2 : decide ((l4.length : Int) < (l4.length : Int)) = false := decide_eq_false (by omega)
     rw [List.take_length] at X
     clear HX
     obtain ⟨JX, JJ, eo4⟩ := Kd.y9 X.r4
     subst eo4
     generalize HM4 : l4.map Jm = m4 at X
     try go_wp2
     go_loopw [6] (fun y W => ∃ (i : Nat) (u : Value), y = .int .i64 (i : Int) ∧ i ≤ l5.length ∧ zx (XS uf 31 jd 86 jh 76 44 26 w w.heap.size (w.heap.size + 1) (w.heap.size + 2) #[.string a, .bool b, .int .i64 c, .slice A3 l3.length c3, .slice A4 l4.length c4, .slice A5 l5.length c5] a b c (.slice VE m3.length VF) (.slice JX m4.length JJ) u m3 m4 ((l5.take i).map Jo) W)) (fun y _ => l5.length - (intOf y).toNat)
     case atStart => exact ⟨0, .slice none 0 0, rfl, Nat.zero_le _, ⟨X⟩⟩
     case round =>
      obtain ⟨i, u, rfl, hi, HX⟩ := hrel
      have X := HX.out
      skip
      have hcf : wr.cell? ⟨w.heap.size, 5, none⟩ = some (.slice A5 l5.length c5) := (zk X.bf 5).trans rfl
      by_cases hlt : i < l5.length
      ·have hx := List.getElem?_eq_getElem hlt
       obtain ⟨ad, e, x0, x1, x2⟩ := QE H5.out (i : Int) (by omega) (by omega)
       cases e
       have e : xY l5 (i : Int) = l5[i] := by simp [xY, List.getD_eq_getElem?_getD, hlt]
       rw [Int.toNat_natCast, e] at x0 x1 x2
       clear e
       generalize l5[i] = x at hx x0 x1 x2
       have k0 := fun (W : World) (h : Below w.heap.size w W) => (h.cell (World.block_lt_of_cell? w _ x0)).trans x0; have k1 := fun (W : World) (h : Below w.heap.size w W) => (h.cell (World.block_lt_of_cell? w _ x1)).trans x1; have k2 := fun (W : World) (h : Below w.heap.size w W) => (h.cell (World.block_lt_of_cell? w _ x2)).trans x2
       have q1 : (i : Int) < (l5.length : Int) := by omega
       have q0 : (0 : Int) ≤ (i : Int) := by omega
       have q3 : ((i : Int)).toNat = i := Int.toNat_natCast i
       have q2 : decide ((i : Int) < (l5.length : Int)) = true := decide_eq_true q1
       try go_wp2
       have X1 := X.mv (pQ (Below.refl _ wr))
       refine Zj (n := 25) (S := fun W' => W'.cell? ⟨w.heap.size + 2, 5, none⟩ = some u ∧ W'.cell? ⟨w.heap.size, 5, none⟩ = some (.slice (some ad) l5.length c5) ∧ W'.cell? (ad.add (i * 3)) = some (.string x.f0) ∧ W'.cell? ⟨(ad.add (i * 3)).block, (ad.add (i * 3)).off + 1, none⟩ = some (.string x.f1) ∧ W'.cell? ⟨(ad.add (i * 3)).block, (ad.add (i * 3)).off + 2, none⟩ = some (.int .i64 x.f2)) (ds := [24]) #[false, false, false, false, false, false, false, false, false, false, false, false, false, false, false, false, false, false, false, false, false, false, false, false, false] (by kernel_rfl) rfl rfl ⟨(zk X1.bx 5).trans rfl, (zk X1.bf 5).trans rfl, k0 _ X1.hb, k1 _ X1.hb, k2 _ X1.hb⟩ (fun hHeld => ?_); refine wL Xx.QY Xx.YM (fun zM jJ => ?_)
       clear X HX hcf
       generalize wr.drew = W at X1 hHeld ⊢
       refine qW 0 (some 77) zM ?_
       refine qW 2 (some 79) zM ?_
       refine qW 4 (some 81) zM ?_
       refine qW 8 (some 85) zM ?_
       refine qW 10 (some 87) zM ?_
       refine qW 14 (some 91) zM ?_
       refine qW 16 (some 93) zM ?_
       refine kQ 1 (some 78) zM jJ hHeld ?_
       refine kQ 3 (some 80) zM jJ hHeld ?_
       refine qW 5 (some 82) zM ?_
       refine qW 6 (some 83) zM ?_
       refine kQ 7 (some 84) zM jJ hHeld ?_
       refine kQ 9 (some 86) zM jJ hHeld ?_
       refine qW 11 (some 88) zM ?_
       refine qW 12 (some 89) zM ?_
       refine kQ 13 (some 90) zM jJ hHeld ?_
       refine kQ 15 (some 92) zM jJ hHeld ?_
       refine qW 17 (some 94) zM ?_
       refine qW 18 (some 95) zM ?_
       refine kQ 19 (some 96) zM jJ hHeld ?_
       refine qW 20 (some 97) zM ?_
       refine ZH 21 (some 98) zM (fun K hK => ?_)
       refine Jj ?_
       have X2 := X1.mv (yu (Below.refl _ W) (.cells #[.string x.f0, .string x.f1, .int .i64 x.f2] 76))
       refine hK.out _ _ ⟨(zk X2.bx 5).trans rfl, (zk X2.bf 5).trans rfl, k0 _ X2.hb, k1 _ X2.hb, k2 _ X2.hb⟩ (fun hHeld => ?_)
       clear hK K
       refine wX (some 98) ?_
       refine ZH 22 (some 99) zM (fun K hK => ?_)
       refine Kd.kL jh (w0 := w) w.heap.size (by rfl) (.tmp 78) (.tmp 98) 24 76 (.agg #[(.string ⟨#[]⟩), (.string ⟨#[]⟩), (.int .i64 0)]) 40 rfl Tryz.underlying24 zYI rfl (by decide) (by omega) u ((l5.take i).map Jo) (Jo x) [.string x.f0, .string x.f1, .int .i64 x.f2] (fun _ => True) (fun _ => False) rfl rfl ?aP (fun _ hk => hk.elim) ?aF ?aO ?aB ?aS ?aL ?_
       (case aP => exact JI _ _ _ (Jo x))
       (case aB => exact X1.hb)
       (case aF => exact (fun _ _ => trivial))
       (case aO => exact X1.r5)
       (case aS => exact X1.hb.size)
       (case aL => rw [List.length_map, List.length_take]; omega)
       intro v Zw ho hb hg hat
       rw [← Vv Jo l5 i x hx] at ho
       obtain ⟨Ao, co, eo⟩ := Kd.y9 ho
       subst eo
       generalize ((l5.take (i + 1)).map Jo).length = nn at ho ⊢
       have bx1 := qQ X1.bx hg (Kd.kE X1.r5 X1.bx (by decide))
       have JQ := qQ X1.bf hg (Kd.kE X1.r5 X1.bf (by decide))
       have X3 := zx.mk (X1.zY7 hg ho hb (by decide) (by decide) (by decide) (by decide) (by decide) (by decide))
       refine hK.out _ _ ⟨(zk bx1 5).trans rfl, (zk JQ 5).trans rfl, k0 _ hb, k1 _ hb, k2 _ hb⟩ (fun hHeld => ?_)
       clear hK K
       refine wX (some 99) ?_
       refine qW 23 (some 100) zM ?_
       refine Qw (i := 24) (N := none) #[true, true, true, true, true, true, true, true, true, true, true, true, true, true, true, true, true, true, true, true, true, true, true, true, true] rfl rfl (wI zM.out (by kernel_rfl)) (by decide) (fun K hK => ?_)
       have QS : Zw.cell? ⟨w.heap.size + 2, 5, none⟩ = some u := (zk bx1 5).trans rfl
       have XZ := zw bx1 5
       refine QZ (w1 := ?_) (by rfl) rfl ?_ ?_
       rotate_left
       ·go_simp
        rfl
       refine hK.out _ _ ?_
       clear hK K
       refine uO (vW zM.out (by kernel_rfl)) ?_
       clear X1 X2 hb hg ho hat QS XZ bx1 JQ hHeld
       generalize Zw.setCell ⟨w.heap.size + 2, 5, none⟩ (.slice Ao nn co : Value) = YD at X3 ⊢
       try go_wp2
       go_roundw
       case rel => exact ⟨i + 1, (.slice Ao nn co : Value), by first | rfl | (simp; done) | go_num, by omega, X3⟩
       case measure => simp [intOf]; omega
      ·obtain rfl : i = l5.length := by omega
       have q2 : decide ((l5.length : Int) < (l5.length : Int)) = false := decide_eq_false (by omega)
       rw [List.take_length] at X
       clear HX
       obtain ⟨KH, KI, eo5⟩ := Kd.y9 X.r5
       subst eo5
       generalize HM5 : l5.map Jo = m5 at X
       have y0 : wr.cell? ⟨w.heap.size + 2, 0, none⟩ = some (.string a) := (zk X.bx 0).trans rfl; have y1 : wr.cell? ⟨w.heap.size + 2, 1, none⟩ = some (.bool b) := (zk X.bx 1).trans rfl; have y2 : wr.cell? ⟨w.heap.size + 2, 2, none⟩ = some (.int .i64 c) := (zk X.bx 2).trans rfl; have y3 : wr.cell? ⟨w.heap.size + 2, 3, none⟩ = some (.slice VE m3.length VF) := (zk X.bx 3).trans rfl; have y4 : wr.cell? ⟨w.heap.size + 2, 4, none⟩ = some (.slice JX m4.length JJ) := (zk X.bx 4).trans rfl; have y5 : wr.cell? ⟨w.heap.size + 2, 5, none⟩ = some (.slice KH m5.length KI) := (zk X.bx 5).trans rfl
       have z0 : wr.cell? ⟨w.heap.size + 1, 0, none⟩ = some (.string (⟨#[]⟩ : ByteArray)) := (zk X.br 0).trans rfl; have zf0 := zw X.br 0; have z1 : wr.cell? ⟨w.heap.size + 1, 1, none⟩ = some (.bool false) := (zk X.br 1).trans rfl; have zf1 := zw X.br 1; have z2 : wr.cell? ⟨w.heap.size + 1, 2, none⟩ = some (.int .i64 0) := (zk X.br 2).trans rfl; have zf2 := zw X.br 2; have z3 : wr.cell? ⟨w.heap.size + 1, 3, none⟩ = some (.slice none 0 0) := (zk X.br 3).trans rfl; have zf3 := zw X.br 3; have z4 : wr.cell? ⟨w.heap.size + 1, 4, none⟩ = some (.slice none 0 0) := (zk X.br 4).trans rfl; have zf4 := zw X.br 4; have z5 : wr.cell? ⟨w.heap.size + 1, 5, none⟩ = some (.slice none 0 0) := (zk X.br 5).trans rfl; have zf5 := zw X.br 5
       have HX := zx.mk X
       clear X
       go_wp2
       refine bodyPost_ret (results_cell_row rfl _ _ (w.heap.size + 1) 26 #[.string a, .bool b, .int .i64 c, .slice VE m3.length VF, .slice JX m4.length JJ, .slice KH m5.length KI] (0, 0) _ rfl (zvz HX.out.br (.string a) (.bool b) (.int .i64 c) (.slice VE m3.length VF) (.slice JX m4.length JJ) (.slice KH m5.length KI)) Tryz.underlying26 rfl (by kernel_rfl)) rfl ?_
       rw [HM3, HM4, HM5]
       exact ⟨_, _, _, rfl, nG HX.out.r3 HX.out.br (by decide) (.string a) (.bool b) (.int .i64 c) (.slice VE m3.length VF) (.slice JX m4.length JJ) (.slice KH m5.length KI), nG HX.out.r4 HX.out.br (by decide) (.string a) (.bool b) (.int .i64 c) (.slice VE m3.length VF) (.slice JX m4.length JJ) (.slice KH m5.length KI), nG HX.out.r5 HX.out.br (by decide) (.string a) (.bool b) (.int .i64 c) (.slice VE m3.length VF) (.slice JX m4.length JJ) (.slice KH m5.length KI), zqG HX.out.hb (by omega) (.string a) (.bool b) (.int .i64 c) (.slice VE m3.length VF) (.slice JX m4.length JJ) (.slice KH m5.length KI)⟩
end Go.Proofs.YtaifemkokfoadaaGreatDoor
namespace Go.Proofs.YtaifemkokfoadaaGreatDoor.PX
open Go.RowKit Go.Proofs.zy.zu Go.Proofs.zy.yI Go.Proofs.zy.yD
set_option linter.unusedVariables false
def jH.f (k : Nat) (a : ByteArray) (b : Bool) (c : Int) (l3 : List zo) (l4 : List qF) (l5 : List qG) : Option (ByteArray × Bool × Int × (List qg) × (List xC) × (List vk)) :=
 if l3.length ≤ 1000000 ∧ l4.length ≤ 1000000 ∧ l5.length ≤ 1000000 then some (a, b, c, l3.map Uh, l4.map Jm, l5.map Jo) else none
theorem jH.calls (k : Nat) (a : ByteArray) (b : Bool) (c : Int) (A3 : Option Addr) (c3 : Nat) (l3 : List zo) (A4 : Option Addr) (c4 : Nat) (l4 : List qF) (A5 : Option Addr) (c5 : Nat) (l5 : List qG) (r1 : ByteArray) (r2 : Bool) (r3 : Int) (r4 : List qg) (r5 : List xC) (r6 : List vk) (w : World) (h3 : Kd.C qJ w A3 l3.length l3) (g3 : l3.length ≤ c3) (h4 : Kd.C jC w A4 l4.length l4) (g4 : l4.length ≤ c4) (h5 : Kd.C jS w A5 l5.length l5) (g5 : l5.length ≤ c5) (h : jH.f k a b c l3 l4 l5 = some (r1, r2, r3, r4, r5, r6)) :
  Calls Tryz.prog 19 #[.agg #[.string a, .bool b, .int .i64 c, .slice A3 l3.length c3, .slice A4 l4.length c4, .slice A5 l5.length c5]] w fun e w' => ∃ WA WB WC : Value, e = .returned (.agg #[.string r1, .bool r2, .int .i64 r3, WA, WB, WC]) ∧ Kd.R uf 31 w' w.heap.size (fun _ => True) WA r4 ∧ Kd.R jd 86 w' w.heap.size (fun _ => True) WB r5 ∧ Kd.R jh 76 w' w.heap.size (fun _ => True) WC r6 ∧ Below w.heap.size w w' := by
 unfold jH.f at h
 split at h
 ·rename_i hl
  injection h with h
  simp only [Prod.mk.injEq] at h
  obtain ⟨rfl, rfl, rfl, rfl, rfl, rfl⟩ := h
  exact zVT a b c A3 c3 l3 A4 c4 l4 A5 c5 l5 w h3 h4 h5 hl.1 hl.2.1 hl.2.2
 ·cases h
end Go.Proofs.YtaifemkokfoadaaGreatDoor.PX
namespace Go.Proofs.YtaifemkokfoadaaGreatDoor.PX
open Go.RowKit Go.Proofs.zy.zu Go.Proofs.zy.yI Go.Proofs.zy.yD
attribute [local go_sem] xw xZ xP xR qD qE xQ xX   -- for this text's walks alone
set_option linter.unusedVariables false
set_option linter.unusedSimpArgs false
def vG.l0 : Nat → List (pq) → List (wQ) → Int → Option ((List (pq)))
 | 0, _, _, _ => none
 | k + 1, x1, x2, x3 => if x3 < (x2.length : Int) then (if 0 ≤ x3 then ((jH.f k ((uW x2 x3).f0) ((uW x2 x3).f1) ((uW x2 x3).f2) ((uW x2 x3).f3) ((uW x2 x3).f4) ((uW x2 x3).f5)).bind fun rA => (if x1.length < 1353245080339 then (vG.l0 k (x1 ++ [(⟨rA.1, rA.2.1, rA.2.2.1, rA.2.2.2.1, rA.2.2.2.2.1, rA.2.2.2.2.2⟩ : pq)]) x2 (wrap64 (x3 + 1))) else (none))) else (none)) else (some x1)
def vG.f (k : Nat)  : Option ((List (pq))) := (za.f k).bind fun jP => (vG.l0 k ([] : List (pq)) jP 0)
set_option maxHeartbeats 8000000 in
set_option maxRecDepth 100000 in
theorem vG.calls (k : Nat)  (r : List (pq)) (w : World) (h : vG.f k  = some r) :
  Calls Tryz.prog 10 #[] w fun e w' => ∃ Jk : Value, e = .returned (Jk) ∧ Kd.N k26 26 w' w.heap.size (fun k_ => (w.heap.size ≤ k_)) Jk r ∧ Below w.heap.size w w' := by
 have Ku := Tryz.underlying44
 have HB := zx.mk (Below.refl w.heap.size w)
 have H : ((za.f k).bind fun jP => (vG.l0 k ([] : List (pq)) jP 0)) = some r := h
 clear h
 replace H := Option.bind_eq_some_iff.mp H
 obtain ⟨jP, iE, H⟩ := H
 replace H : (vG.l0 k ([] : List (pq)) jP 0) = some r := H
 have A1 := zx.mk iE
 clear iE
 have H' := zx.mk H
 clear H
 go_enter Tryz.func10, Tryz.ntmps10
 go_wp2_with (first | ((with_reducible refine yY (f := 14) rfl ?_); refine uN (some 4) Tryz.func14 #[] ?_; (with_reducible refine (za.calls k  jP _ A1.out).mono ?_); rintro e w2 ⟨zWg, rfl, ho0, hb⟩; refine ⟨_, rfl, ?_⟩; have zf := zx.mk (Kd.oK (Kd.Xi (ok' := fun k_ => (w.heap.size ≤ k_)) ho0 (fun k_ hk_ => (Nat.le_trans (zV (zD HB.out)) hk_))) (zV (zD HB.out))); have zh := zx.mk (zI (zD HB.out) hb); clear HB; have zbW := zf; have HB := zh; clear zf zh; (try clear hb); (try clear hb2); (try clear hk); (try clear hi); (try clear ho0)))
 go_loopg [1, 3] k (fun kq v1 v3 w' => ∃ (mO : List (pq)) (qh : Int), v3 = .int .i64 qh ∧ zx (vG.l0 kq mO jP qh = some r) ∧ zx (kq ≤ k) ∧ zx (Kd.N k26 26 w' w.heap.size (fun k_ => (w.heap.size ≤ k_) ∧ some k_ ≠ (zWg : Value).ownBlock) v1 mO) ∧ zx (Kd.N PL 44 w' w.heap.size (fun k_ => (w.heap.size ≤ k_) ∧ some k_ ≠ (v1 : Value).ownBlock) zWg jP) ∧ zx (Below w.heap.size w w'))
 case atStart => exact ⟨(([] : List (pq))), (0), (by first | rfl | (simp; done) | (simp [*]; done)), H', ⟨Nat.le_refl _⟩, ⟨by first | exact Kd.JA _ _ _ _ _ | exact Kd.JB _ _ _ _ _ | exact Kd.JD _ _ _ _ _ | exact Kd.Ju _ _ _ _ _ | exact Kd.ku _ _ _ _ _⟩, ⟨by (with_reducible repeat (first | apply Kd.Xp | apply Kd.Xr | apply Kd.QC)); exact Kd.Xi zbW.out (fun _ hk => ⟨hk, (by simp [Value.ownBlock])⟩)⟩, ⟨zD HB.out⟩⟩
 case round =>
  clear H'
  try clear c1
  try clear p2
  obtain ⟨mO, qh, rfl, HA, jv, Jp, Xc, HB⟩ := hrel
  cases gk with
  | zero => exact absurd HA.out (by simp [vG.l0])
  | succ k1 =>
   have H := HA.out
   clear HA
   simp only [vG.l0] at H
   by_cases c3 : qh < (jP.length : Int)
   ·rw [if_pos c3] at H
    have ZR : decide (qh < (jP.length : Int)) = true := decide_eq_true c3
    clear c3
    by_cases c4 : 0 ≤ qh
    ·rw [if_pos c4] at H
     have Xw : decide (0 ≤ qh) = true := decide_eq_true c4
     clear c4
     replace H := Option.bind_eq_some_iff.mp H
     obtain ⟨⟨zzg, zzh, t226, t227, PV, t233⟩, A50, H⟩ := H
     replace H : (if mO.length < 1353245080339 then (vG.l0 k1 (mO ++ [(⟨zzg, zzh, t226, t227, PV, t233⟩ : pq)]) jP (wrap64 (qh + 1))) else (none)) = some r := H
     have A5 := zx.mk A50
     clear A50
     by_cases c6 : mO.length < 1353245080339
     ·rw [if_pos c6] at H
      have zeU := zx.mk c6
      clear c6
      obtain ⟨zWh, iF⟩ : ∃ y_ : List (pq), y_ = (mO ++ [(⟨zzg, zzh, t226, t227, PV, t233⟩ : pq)]) := ⟨_, rfl⟩
      replace H : (vG.l0 k1 zWh jP (wrap64 (qh + 1))) = some r := by first | (rw [iF]; with_reducible exact H) | (have xJ := (Option.bind_some _ _).symm.trans H; rw [iF]; with_reducible exact xJ) | (have xJ := (Option.bind_some _ _).symm.trans H; with_reducible exact xJ) | with_reducible exact H | (rw [iF]; exact H) | exact H
      have zba := zx.mk iF
      clear iF
      have H' := zx.mk H
      clear H
      obtain ⟨Ao7, gD, eo7⟩ := Kd.oW Xc.out
      subst eo7
      have zws : 0 ≤ (qh : Int) := of_decide_eq_true (by first | (with_reducible assumption) | assumption)
      have zwt : qh < (jP.length : Int) := of_decide_eq_true (by first | (with_reducible assumption) | assumption)
      obtain ⟨V4, zWi, zWl, zWm, zWn, zWo, zWp, e223, zgd, zge, zgf, zVU, zV0, zV1, zkT, zkU, zk0, zk1, zk2, zk3⟩ := zYN (Kd.dZ Xc.out).2.2 qh zws zwt
      cases e223
      obtain ⟨zlY, zWr, zWs, iG⟩ := Kd.zJz Xc.out z44 qh zws (by first | exact zwt | exact of_decide_eq_true (by first | (with_reducible assumption) | assumption) | (have e_ := (Kd.dZ Xc.out).1; omega))
      obtain ⟨zgg, zgh, zgi, zgl, zgm, zgn, rfl, zzi, zzl, zzm, zzn, zzo, zzp⟩ := zZB zWs
      have rD := iG 3 _ rfl
      rw [vX _ _ 3 (by omega)] at rD
      replace rD := Option.some.inj (rD.symm.trans zVU)
      injection rD with Qz K9 Qq
      rw [Qz] at zzl
      rw [Qq] at zzi
      have KJ := zx.mk (show Kd.V qJ 81 _ w.heap.size _ _ ((uW jP qh).f3) from Kd.oh zzi zzl)
      clear Qz K9 Qq zzl zzi
      have rE := iG 4 _ rfl
      rw [vX _ _ 4 (by omega)] at rE
      replace rE := Option.some.inj (rE.symm.trans zV0)
      injection rE with Qz K9 Qq
      rw [Qz] at zzn
      rw [Qq] at zzm
      have KV := zx.mk (show Kd.V jC 83 _ w.heap.size _ _ ((uW jP qh).f4) from Kd.oh zzm zzn)
      clear Qz K9 Qq zzn zzm
      have rF := iG 5 _ rfl
      rw [vX _ _ 5 (by omega)] at rF
      replace rF := Option.some.inj (rF.symm.trans zV1)
      injection rF with Qz K9 Qq
      rw [Qz] at zzp
      rw [Qq] at zzo
      have KY := zx.mk (show Kd.V jS 84 _ w.heap.size _ _ ((uW jP qh).f5) from Kd.oh zzo zzp)
      clear Qz K9 Qq zzp zzo
      clear iG zWr
      have KW := zx.mk zkU
      have zV2 := zx.mk zkT
      clear zkU zkT
      have Ka := zx.mk zk1
      have zV3 := zx.mk zk0
      clear zk1 zk0
      have Ke := zx.mk zk3
      have zV4 := zx.mk zk2
      clear zk3 zk2
      replace zws := eq_true zws
      replace zwt := eq_true zwt
      go_wp2_with (first | ((with_reducible refine yY (f := 19) rfl ?_); refine uN (some 16) Tryz.func19 #[.agg #[.string ((uW jP qh).f0), .bool ((uW jP qh).f1), .int .i64 ((uW jP qh).f2), .slice zWi ((uW jP qh).f3).length zWl, .slice zWm ((uW jP qh).f4).length zWn, .slice zWo ((uW jP qh).f5).length zWp]] ?_; (with_reducible refine (jH.calls k1 ((uW jP qh).f0) ((uW jP qh).f1) ((uW jP qh).f2) _ _ ((uW jP qh).f3) _ _ ((uW jP qh).f4) _ _ ((uW jP qh).f5) zzg zzh t226 t227 PV t233 _ ?y8 ?qy ?vT ?vU ?uz ?uq A5.out).mono ?_); (case y8 => repeat (first | exact (by repeat (first | (with_reducible exact KW.out) | (with_reducible refine Kd.zS ?_ _) | (with_reducible refine Kd.zT ?_ _) | (with_reducible refine Kd.yc ?_) | exact KW.out)) | (with_reducible refine Kd.zS ?_ _) | (with_reducible refine Kd.zT ?_ _) | (with_reducible refine Kd.yc ?_))); (case qy => exact zV2.out); (case vT => repeat (first | exact (by repeat (first | (with_reducible exact Ka.out) | (with_reducible refine Kd.zS ?_ _) | (with_reducible refine Kd.zT ?_ _) | (with_reducible refine Kd.yc ?_) | exact Ka.out)) | (with_reducible refine Kd.zS ?_ _) | (with_reducible refine Kd.zT ?_ _) | (with_reducible refine Kd.yc ?_))); (case vU => exact zV3.out); (case uz => repeat (first | exact (by repeat (first | (with_reducible exact Ke.out) | (with_reducible refine Kd.zS ?_ _) | (with_reducible refine Kd.zT ?_ _) | (with_reducible refine Kd.yc ?_) | exact Ke.out)) | (with_reducible refine Kd.zS ?_ _) | (with_reducible refine Kd.zT ?_ _) | (with_reducible refine Kd.yc ?_))); (case uq => exact zV4.out); rintro e w8 ⟨v228, zmz, v234, rfl, ho0, ho1, ho2, hb⟩; refine ⟨_, rfl, ?_⟩; have zf := zx.mk (Kd.Xi (Kd.PG (Kd.PG (Kd.PG (Kd.zX9 (by (with_reducible repeat (first | apply Kd.Xp | apply Kd.Xr | apply Kd.QC)); exact Jp.out) hb) (Kd.xB ho0)) (Kd.xB ho1)) (Kd.xB ho2)) (fun _ h_ => h_.1)); have zh := zx.mk (Kd.Xi (Kd.PG (Kd.PG (Kd.PG (Kd.zX9 (by (with_reducible repeat (first | apply Kd.Xp | apply Kd.Xr | apply Kd.QC)); exact Xc.out) hb) (Kd.xB ho0)) (Kd.xB ho1)) (Kd.xB ho2)) (fun _ h_ => h_.1)); have zA := zx.mk (Kd.Xl (Kd.VA (Kd.VA (Kd.VA (Kd.zy7 (by (with_reducible repeat (first | apply Kd.QJ | apply Kd.QV | apply Kd.Vu)); exact KJ.out) hb) (Kd.xB ho0)) (Kd.xB ho1)) (Kd.xB ho2)) (fun _ h_ => h_.1)); have zR := zx.mk (Kd.Xl (Kd.VA (Kd.VA (Kd.VA (Kd.zy7 (by (with_reducible repeat (first | apply Kd.QJ | apply Kd.QV | apply Kd.Vu)); exact KV.out) hb) (Kd.xB ho0)) (Kd.xB ho1)) (Kd.xB ho2)) (fun _ h_ => h_.1)); have qV := zx.mk (Kd.Xl (Kd.VA (Kd.VA (Kd.VA (Kd.zy7 (by (with_reducible repeat (first | apply Kd.QJ | apply Kd.QV | apply Kd.Vu)); exact KY.out) hb) (Kd.xB ho0)) (Kd.xB ho1)) (Kd.xB ho2)) (fun _ h_ => h_.1)); have xD := zx.mk (Kd.xI (Kd.wM (M := fun k_ => (w.heap.size ≤ k_)) ho0 (zV (zD HB.out)) (fun k_ h_ => h_)) (zV (zD HB.out))); have vE := zx.mk (Kd.xI (Kd.wM (M := fun k_ => (w.heap.size ≤ k_)) ho1 (zV (zD HB.out)) (fun k_ h_ => h_)) (zV (zD HB.out))); have vR := zx.mk (Kd.xI (Kd.wM (M := fun k_ => (w.heap.size ≤ k_)) ho2 (zV (zD HB.out)) (fun k_ h_ => h_)) (zV (zD HB.out))); have uK := zx.mk (Kd.zY (by repeat (first | (with_reducible exact KW.out) | (with_reducible refine Kd.zS ?_ _) | (with_reducible refine Kd.zT ?_ _) | (with_reducible refine Kd.yc ?_) | exact KW.out)) hb); have uo := zx.mk (Kd.zY (by repeat (first | (with_reducible exact Ka.out) | (with_reducible refine Kd.zS ?_ _) | (with_reducible refine Kd.zT ?_ _) | (with_reducible refine Kd.yc ?_) | exact Ka.out)) hb); have vH := zx.mk (Kd.zY (by repeat (first | (with_reducible exact Ke.out) | (with_reducible refine Kd.zS ?_ _) | (with_reducible refine Kd.zT ?_ _) | (with_reducible refine Kd.yc ?_) | exact Ke.out)) hb); have uM := zx.mk (zI (zD HB.out) hb); clear Jp; clear Xc; clear KJ; clear KV; clear KY; clear KW; clear Ka; clear Ke; clear HB; have Jp := zf; have Xc := zh; have KJ := zA; have KV := zR; have KY := qV; have zxk := xD; have zxy := vE; have zxw := vR; have KW := uK; have Ka := uo; have Ke := vH; have HB := uM; clear zf zh zA zR qV xD vE vR uK uo vH uM; (try clear hb); (try clear hb2); (try clear hk); (try clear hi); (try clear ho0); (try clear ho1); (try clear ho2); obtain ⟨ay, aZ, zjx⟩ := Kd.y9 zxk.out; subst zjx; obtain ⟨zjj, zjv, ze0⟩ := Kd.y9 zxy.out; subst ze0; obtain ⟨zjk, zjy, ze1⟩ := Kd.y9 zxw.out; subst ze1) | ((with_reducible refine vN (b := .append) (xs := #[.tmp 11, .tmp 17]) rfl ?_); at_builtin; refine Kd.zQC k26 (w0 := w) w.heap.size rfl (.tmp 11) (.tmp 17) 27 26 (.agg #[(.string ⟨#[]⟩), (.bool false), (.int .i64 0), (.slice none 0 0), (.slice none 0 0), (.slice none 0 0)]) 104 rfl Tryz.underlying27 zYH rfl (by decide) (by omega) u1 mO (⟨zzg, zzh, t226, t227, PV, t233⟩ : pq) [.string zzg, .bool zzh, .int .i64 t226, .slice ay t227.length aZ, .slice zjj PV.length zjv, .slice zjk t233.length zjy] (fun k_ => (w.heap.size ≤ k_) ∧ some k_ ≠ (.slice (some V4) jP.length gD : Value).ownBlock) (fun k_ => ((fun k_ => (w.heap.size ≤ k_) ∧ some k_ ≠ (.slice (some V4) jP.length gD : Value).ownBlock)) k_ ∧ some k_ ≠ (u1 : Value).ownBlock) rfl rfl ?aP (fun _ hk => hk) ?aF ?aO ?aB ?aS ?aL ?_; (case aP => exact (zVV _ _ (⟨zzg, zzh, t226, t227, PV, t233⟩ : pq) (Kd.qU (Kd.zL (ok' := (fun k_ => ((fun k_ => (w.heap.size ≤ k_) ∧ some k_ ≠ (.slice (some V4) jP.length gD : Value).ownBlock)) k_ ∧ some k_ ≠ (u1 : Value).ownBlock)) (Kd.kJ (Kd.kJ (zxk.out) (Kd.Ye Xc.out) (by decide)) (Kd.Ye Jp.out) (by decide)) (fun k_ hk => ⟨⟨hk.1.1.1, hk.1.2⟩, hk.2⟩))).2.1 (Kd.gK (Kd.zL (ok' := (fun k_ => ((fun k_ => (w.heap.size ≤ k_) ∧ some k_ ≠ (.slice (some V4) jP.length gD : Value).ownBlock)) k_ ∧ some k_ ≠ (u1 : Value).ownBlock)) (Kd.kJ (Kd.kJ (zxk.out) (Kd.Ye Xc.out) (by decide)) (Kd.Ye Jp.out) (by decide)) (fun k_ hk => ⟨⟨hk.1.1.1, hk.1.2⟩, hk.2⟩))) (Kd.qU (Kd.zL (ok' := (fun k_ => ((fun k_ => (w.heap.size ≤ k_) ∧ some k_ ≠ (.slice (some V4) jP.length gD : Value).ownBlock)) k_ ∧ some k_ ≠ (u1 : Value).ownBlock)) (Kd.kJ (Kd.kJ (zxy.out) (Kd.Ye Xc.out) (by decide)) (Kd.Ye Jp.out) (by decide)) (fun k_ hk => ⟨⟨hk.1.1.1, hk.1.2⟩, hk.2⟩))).2.1 (Kd.gK (Kd.zL (ok' := (fun k_ => ((fun k_ => (w.heap.size ≤ k_) ∧ some k_ ≠ (.slice (some V4) jP.length gD : Value).ownBlock)) k_ ∧ some k_ ≠ (u1 : Value).ownBlock)) (Kd.kJ (Kd.kJ (zxy.out) (Kd.Ye Xc.out) (by decide)) (Kd.Ye Jp.out) (by decide)) (fun k_ hk => ⟨⟨hk.1.1.1, hk.1.2⟩, hk.2⟩))) (Kd.qU (Kd.zL (ok' := (fun k_ => ((fun k_ => (w.heap.size ≤ k_) ∧ some k_ ≠ (.slice (some V4) jP.length gD : Value).ownBlock)) k_ ∧ some k_ ≠ (u1 : Value).ownBlock)) (Kd.kJ (Kd.kJ (zxw.out) (Kd.Ye Xc.out) (by decide)) (Kd.Ye Jp.out) (by decide)) (fun k_ hk => ⟨⟨hk.1.1.1, hk.1.2⟩, hk.2⟩))).2.1 (Kd.gK (Kd.zL (ok' := (fun k_ => ((fun k_ => (w.heap.size ≤ k_) ∧ some k_ ≠ (.slice (some V4) jP.length gD : Value).ownBlock)) k_ ∧ some k_ ≠ (u1 : Value).ownBlock)) (Kd.kJ (Kd.kJ (zxw.out) (Kd.Ye Xc.out) (by decide)) (Kd.Ye Jp.out) (by decide)) (fun k_ hk => ⟨⟨hk.1.1.1, hk.1.2⟩, hk.2⟩))))); (case aB => exact (zD HB.out)); (case aF => exact (fun k_ hk => ⟨(Nat.le_trans (zV (zD HB.out)) hk), Kd.fresh' (Kd.zYB (by (with_reducible repeat (first | apply Kd.Xp | apply Kd.Xr | apply Kd.QC)); exact Xc.out)) k_ hk⟩)); (case aO => exact (by (with_reducible repeat (first | apply Kd.Xp | apply Kd.Xr | apply Kd.QC)); exact Kd.Xi Jp.out (fun _ hk => ⟨hk.1.1.1.1, hk.1.1.1.2⟩))); (case aS => exact (zV (zD HB.out))); (case aL => have := zeU.out; omega); intro zmq w9 ho hb hg hat; rw [← zba.out] at ho; have zf := zx.mk (Kd.zQE (ok := (fun k_ => (w.heap.size ≤ k_) ∧ some k_ ≠ (.slice ay t227.length aZ : Value).ownBlock ∧ some k_ ≠ (.slice zjj PV.length zjv : Value).ownBlock ∧ some k_ ≠ (.slice zjk t233.length zjy : Value).ownBlock)) (by (with_reducible repeat (first | apply Kd.Xp | apply Kd.Xr | apply Kd.QC)); exact Kd.Xi Xc.out (fun _ hk => ⟨⟨hk.1.1.1.1, ⟨hk.1.1.2, ⟨hk.1.2, hk.2⟩⟩⟩, hk.1.1.1.2⟩)) hg hat); have zh := zx.mk (Kd.sU (ok := (fun k_ => (w.heap.size ≤ k_) ∧ some k_ ≠ (.slice (some V4) jP.length gD : Value).ownBlock ∧ some k_ ≠ (.slice ay t227.length aZ : Value).ownBlock ∧ some k_ ≠ (.slice zjj PV.length zjv : Value).ownBlock ∧ some k_ ≠ (.slice zjk t233.length zjy : Value).ownBlock)) (by (with_reducible repeat (first | apply Kd.QJ | apply Kd.QV | apply Kd.Vu)); exact Kd.Xl KJ.out (fun _ hk => ⟨⟨hk.1.1.1.1.1, ⟨hk.1.1.1.2, ⟨hk.1.1.2, ⟨hk.1.2, hk.2⟩⟩⟩⟩, hk.1.1.1.1.2⟩)) hg hat); have zA := zx.mk (Kd.sU (ok := (fun k_ => (w.heap.size ≤ k_) ∧ some k_ ≠ (.slice (some V4) jP.length gD : Value).ownBlock ∧ some k_ ≠ (.slice ay t227.length aZ : Value).ownBlock ∧ some k_ ≠ (.slice zjj PV.length zjv : Value).ownBlock ∧ some k_ ≠ (.slice zjk t233.length zjy : Value).ownBlock)) (by (with_reducible repeat (first | apply Kd.QJ | apply Kd.QV | apply Kd.Vu)); exact Kd.Xl KV.out (fun _ hk => ⟨⟨hk.1.1.1.1.1, ⟨hk.1.1.1.2, ⟨hk.1.1.2, ⟨hk.1.2, hk.2⟩⟩⟩⟩, hk.1.1.1.1.2⟩)) hg hat); have zR := zx.mk (Kd.sU (ok := (fun k_ => (w.heap.size ≤ k_) ∧ some k_ ≠ (.slice (some V4) jP.length gD : Value).ownBlock ∧ some k_ ≠ (.slice ay t227.length aZ : Value).ownBlock ∧ some k_ ≠ (.slice zjj PV.length zjv : Value).ownBlock ∧ some k_ ≠ (.slice zjk t233.length zjy : Value).ownBlock)) (by (with_reducible repeat (first | apply Kd.QJ | apply Kd.QV | apply Kd.Vu)); exact Kd.Xl KY.out (fun _ hk => ⟨⟨hk.1.1.1.1.1, ⟨hk.1.1.1.2, ⟨hk.1.1.2, ⟨hk.1.2, hk.2⟩⟩⟩⟩, hk.1.1.1.1.2⟩)) hg hat); have qV := zx.mk (hb); have xD := zx.mk (ho); clear Xc; clear KJ; clear KV; clear KY; clear HB; clear Jp; clear zxk; clear zxy; clear zxw; have Xc := zf; have KJ := zh; have KV := zA; have KY := zR; have HB := qV; have zbb := xD; clear zf zh zA zR qV xD; clear ho hb hg hat))
      go_roundg k1
      case measure => have := jv.out; omega
      case rel => exact ⟨(zWh), (wrap64 (qh + 1)), (by first | rfl | (simp; done) | (simp [*]; done)), H', ⟨by have := jv.out; omega⟩, ⟨by (with_reducible repeat (first | apply Kd.Xp | apply Kd.Xr | apply Kd.QC)); exact zbb.out⟩, ⟨by (with_reducible repeat (first | apply Kd.Xp | apply Kd.Xr | apply Kd.QC)); exact Kd.Xi Xc.out (fun _ hk => ⟨hk.1.1, hk.2⟩)⟩, ⟨zD HB.out⟩⟩
     ·rw [if_neg c6] at H
      exact absurd H (by simp)
    ·rw [if_neg c4] at H
     exact absurd H (by simp)
   ·rw [if_neg c3] at H
    have ZR : decide (qh < (jP.length : Int)) = false := decide_eq_false c3
    clear c3
    obtain rfl := Option.some.inj H
    obtain ⟨QU, Q0, zjw⟩ := Kd.oW Xc.out
    subst zjw
    go_wp2
    go_ret
    exact ⟨_, by first | rfl | (simp [zU, z8] <;> rfl) | (simp [*, zU, z8] <;> rfl), by (with_reducible repeat (first | apply Kd.Xp | apply Kd.Xr | apply Kd.QC)); exact Kd.Xi Jp.out (fun _ hk => hk.1), by repeat (first | (with_reducible first | exact HB.out | apply yu | apply zP | apply yT) | exact HB.out)⟩
end Go.Proofs.YtaifemkokfoadaaGreatDoor.PX
namespace Go.Proofs
end Go.Proofs
namespace Go.Proofs.YtaifemkokfoadaaGreatDoor
open Go.RowKit Go.Shelf Go.Sort Go.Proofs.zy.zu Go.Proofs.zy.yD Go.Proofs.YtaifemkokfoadaaGreatDoor.PX
theorem zXf (x : qg) : (Za x).length = 2 := rfl
theorem zXg (x : qg) : ∀ v ∈ Za x, v.oneCell' = true := by
 intro v hv
 simp only [Za, List.mem_cons, List.mem_nil_iff, or_false] at hv
 rcases hv with rfl | rfl <;> rfl
theorem zWt {w : World} {g : Nat} {cur : Array Value} {e : TypeId} {F : Array Value} (hb : w.heap[g]? = some (.cells cur e (0, 0))) (ht : cur.toList.take F.size = F.toList) : Holds id w g 0 F := by
 intro j hj
 refine ⟨?_, by simp [World.frozen?, hb]⟩
 have h1 : (cur.toList.take F.size)[j]? = F.toList[j]? := by rw [ht]
 rw [List.getElem?_take_of_lt hj] at h1
 simp only [World.cell?, hb, Nat.zero_add]
 simp only [Option.isSome_none, Bool.false_eq_true, if_false]
 rw [← Array.getElem?_toList, h1]
 simp [hj]
theorem zbc {w : World} {g n : Nat} {os : Array Obj} {cur : Array Value} {e : TypeId} {fr : Nat × Nat} (d : Array Value) (hb : w.heap[g]? = some (.cells cur e fr)) :
  (Sort.grow (Sort.putRow id (Sort.ahead w n) g 0 d) os).heap[g]? = some (.cells (Sort.putCells id 0 d cur) e fr) := by
 have hg : g < w.heap.size := (Array.getElem?_eq_some_iff.1 hb).1
 rw [heap_grow_old _ _ (by simpa using hg)]
 simp [Sort.putRow, Sort.mapBlock, Sort.ahead, Array.getElem?_modify, hb, Sort.onCells]
theorem zWu {w : World} {g n : Nat} {os : Array Obj} (d : Array Value) : w.grownBy (Sort.grow (Sort.putRow id (Sort.ahead w n) g 0 d) os) (some g) := by
 refine ⟨rfl, rfl, rfl, by simp, fun k hk hne => ?_⟩
 rw [heap_grow_old _ _ (by simpa using hk)]
 have : g ≠ k := fun e => hne (by rw [e])
 simp [Sort.putRow, Sort.mapBlock, Sort.ahead, Array.getElem?_modify, this]
theorem zbd (cur : Array Value) (F : Array Value) (h : F.size ≤ cur.size) : (Sort.putCells id 0 F cur).toList.take F.size = F.toList := by
 apply List.ext_getElem?
 intro j
 by_cases hj : j < F.size
 ·rw [List.getElem?_take_of_lt hj, Array.getElem?_toList]
  simp [Sort.putCells, hj, show j < cur.size by omega]
 ·rw [List.getElem?_take_eq_none (by omega), List.getElem?_eq_none (by simp; omega)]
theorem flat_get (xs : List qg) (j : Nat) (hj : j < xs.length) : ((flatK Za 2 xs.toArray).toList.drop (j * 2)).take 2 = Za xs[j] := by
 have hsz : (flatK Za 2 xs.toArray).toList.length = xs.length * 2 := by simp
 have key : ∀ t, t < xs.length * 2 → (flatK Za 2 xs.toArray).toList[t]? = some ((Za xs.toArray[t / 2]!)[t % 2]!) := by
  intro t ht
  have h := get_flatK Za 2 xs.toArray t (by simpa using ht)
  rw [Array.getElem?_toList]
  rw [← h]
  simp [show t < xs.length * 2 by omega]
 apply List.ext_getElem?
 intro i
 rcases Nat.lt_or_ge i 2 with hi | hi
 ·rw [List.getElem?_take_of_lt hi, List.getElem?_drop, key _ (by omega)]
  have e1 : (j * 2 + i) / 2 = j := by omega
  have e2 : (j * 2 + i) % 2 = i := by omega
  rw [e1, e2]
  have e3 : xs.toArray[j]! = xs[j] := by simp [hj]
  rw [e3]
  rcases i with _ | _ | i
  ·rfl
  ·rfl
  ·omega
 ·rw [List.getElem?_take_eq_none hi, List.getElem?_eq_none (by simp [Za]; omega)]
theorem zwu {w : World} {b : Nat} {ok : Nat → Prop} {xs : List qg} {inner : List Value} (h : yS (uf.M w b ok) 2 xs inner) : inner = (flatK Za 2 xs.toArray).toList := by
 have hsz : (flatK Za 2 xs.toArray).toList.length = xs.length * 2 := by simp
 apply List.ext_getElem?
 intro t
 rcases Nat.lt_or_ge t (xs.length * 2) with ht | ht
 ·have hj : t / 2 < xs.length := by omega
  have h1 := h.2 (t / 2) _ (List.getElem?_eq_getElem hj)
  have h2 : (inner.drop (t / 2 * 2)).take 2 = Za xs[t / 2] := zZC h1
  have h3 := flat_get xs (t / 2) hj
  have h4 := h2.trans h3.symm
  have h5 := congrArg (fun l : List Value => l[t % 2]?) h4
  simp only [List.getElem?_take_of_lt (show t % 2 < 2 by omega), List.getElem?_drop] at h5
  rw [show t / 2 * 2 + t % 2 = t by omega] at h5
  exact h5
 ·rw [List.getElem?_eq_none (by have := h.1; omega), List.getElem?_eq_none (by omega)]
theorem zQq (w : World) (b : Nat) (ok : Nat → Prop) (xs : List qg) : yS (uf.M w b ok) 2 xs (flatK Za 2 xs.toArray).toList := by
 refine ⟨by simp, fun j p hj => ?_⟩
 obtain ⟨hl, rfl⟩ := List.getElem?_eq_some_iff.1 hj
 rw [flat_get xs j hl]
 exact UY _ _ _ _
set_option maxRecDepth 100000 in
theorem zjE (x y : qg) (w : World) :
  Calls Tryz.prog 90 #[.agg #[.string x.f0, .int .i64 x.f1], .agg #[.string y.f0, .int .i64 y.f1]] w fun e w' => e = .returned (.int .i64 (uF x.f0 y.f0)) ∧ ∃ q os, w' = Sort.grow (w.drewN q) os := by
 have hc := jX.calls x.f0 y.f0 _ ((w.alloc (.cells #[.string x.f0, .int .i64 x.f1] 31)).alloc (.cells #[.string y.f0, .int .i64 y.f1] 31)) (Vq x.f0 y.f0)
 generalize uF x.f0 y.f0 = r at hc ⊢
 go_enter Tryz.func90, Tryz.ntmps90
 go_wp2_with (go_at_call 47; refine hc.mono ?_; rintro e w2 ⟨rfl, nd, rfl⟩)
 go_ret
 refine ⟨rfl, nd, #[.cells #[.string x.f0, .int .i64 x.f1] 31] ++ #[.cells #[.string y.f0, .int .i64 y.f1] 31], ?_⟩
 rw [← Sort.grow_grow, Sort.alloc_eq_grow, Sort.alloc_eq_grow]
 rfl
theorem zV5 (a b : ByteArray) : decide (uF a b < 0) = Op.bytesLess a.toList b.toList := by
 unfold uF
 cases h1 : Op.bytesLess a.toList b.toList
 ·cases h2 : Op.bytesLess b.toList a.toList <;> simp
 ·simp
theorem zjZ (x y : qg) : ltOf (fun x y : qg => uF x.f0 y.f0) x y = decide (x.f0.toList < y.f0.toList) := by
 show decide (uF x.f0 y.f0 < 0) = _
 rw [zV5, bytesLess_eq]
theorem zXh : SWO (ltOf (fun x y : qg => uF x.f0 y.f0)) where
 irrefl x := by rw [zjZ]; simp [List.lt_irrefl]
 trans x y z h1 h2 := by
  rw [zjZ] at *
  simp only [decide_eq_true_eq] at *
  exact List.lt_trans h1 h2
 ntrans x y z h1 h2 := by
  rw [zjZ] at *
  simp only [decide_eq_false_iff_not, List.not_lt] at *
  exact List.le_trans h2 h1
theorem zwA (xs ys : List qg) (d' : Array qg) (hp : ys.Perm xs) (hs : ys.Pairwise fun a b => uF a.f0 b.f0 < 0)
  (hP : PermIn 0 xs.toArray.size xs.toArray d') (hS : SortedIn (ltOf (fun x y : qg => uF x.f0 y.f0)) 0 xs.toArray.size d') : d'.toList = ys := by
 obtain ⟨hsz, _, hperm⟩ := hP
 have e1 : d'.extract 0 xs.toArray.size = d' := by rw [← hsz]; exact Array.extract_size
 rw [e1, Array.extract_size] at hperm
 refine List.Perm.eq_of_pairwise (le := fun x y => (!ltOf (fun x y : qg => uF x.f0 y.f0) y x) = true) ?_ ?_ ?_ (hperm.trans hp.symm)
 ·intro a b ha hb h1 h2
  have ha' : a ∈ ys := (hperm.trans hp.symm).mem_iff.1 ha
  obtain ⟨i, hi, rfl⟩ := List.getElem_of_mem ha'
  obtain ⟨j, hj, rfl⟩ := List.getElem_of_mem hb
  simp only [Bool.not_eq_true', ltOf, decide_eq_false_iff_not] at h1 h2
  rcases Nat.lt_trichotomy i j with h | h | h
  ·exact absurd (List.pairwise_iff_getElem.1 hs i j hi hj h) h2
  ·subst h; rfl
  ·exact absurd (List.pairwise_iff_getElem.1 hs j i hj hi h) h1
 ·rw [List.pairwise_iff_getElem]
  intro i j hi hj hij
  have h := hS i j (Nat.zero_le _) hij (by rw [← hsz]; simpa using hj)
  have hi' : i < d'.size := by simpa using hi
  have hj' : j < d'.size := by simpa using hj
  rw [getElem!_pos d' i hi', getElem!_pos d' j hj'] at h
  simpa using h
 ·refine hs.imp ?_
  intro a b h
  have h1 : ltOf (fun x y : qg => uF x.f0 y.f0) a b = true := decide_eq_true h
  cases h2 : ltOf (fun x y : qg => uF x.f0 y.f0) b a with
  | false => rfl
  | true => exact absurd (zXh.trans _ _ _ h1 h2) (by rw [zXh.irrefl]; simp)
theorem zV6 (w : World) (b0 : Nat) (u : Value) (xs ys : List qg) (hR : Kd.R uf 31 w b0 (fun _ => True) u xs) (h0 : 0 < xs.length) (hl : xs.length ≤ 1000) (hp : ys.Perm xs) (hs : ys.Pairwise fun a b => uF a.f0 b.f0 < 0) :
  Calls Tryz.prog 89 #[u, .func (.func 90) #[] #[]] w fun e w' => e = .returned (.tuple #[]) ∧ Kd.R uf 31 w' b0 (fun _ => True) u ys ∧ w.grownBy w' u.ownBlock := by
 obtain ⟨hok, inner, ho, hr⟩ := hR
 have hin := zwu hr
 subst hin
 rcases ho.2 with ⟨_, h⟩ | ⟨g, cap, cur, rfl, hbase, hb, h1, h2, h3, h4⟩
 ·omega
 have hg : g < w.heap.size := (Array.getElem?_eq_some_iff.1 hb).1
 have hk2 : uf.sz = 2 := rfl
 rw [hk2] at h3 h4
 have hH : HoldsK Za 2 w g 0 xs.toArray := zWt hb (by rw [size_flatK]; exact h4)
 have hlen := hp.length_eq
 refine (AnyQ.slices_SortFunc Tryz.sortG 2 (fun w => by kernel_rfl) (fun w => by kernel_rfl) Za zXf zXg (fun x y => uF x.f0 y.f0) zXh 90 #[] g 0 cap xs.toArray w (Go.Proofs.zy.yI.JF Tryz.func90 (by kernel_rfl) rfl)
  (fun m os dk hdk x y => zjE x y _) hH hg (by simp; omega)).mono fun e w' ⟨he, d', n, os, hP, hS, hw⟩ => ?_
 have hd := zwA xs ys d' hp hs hP hS
 have hd' : d' = ys.toArray := by rw [← hd]
 subst hd'
 subst hw
 refine ⟨he, ⟨fun _ _ => trivial, (flatK Za 2 ys.toArray).toList, ⟨by rw [hk2]; simp, .inr ⟨g, cap, _, by rw [hlen], hbase, zbc _ hb, by rw [hlen]; exact h1, h2, by rw [hk2]; simp [Sort.putCells, h3], ?_⟩⟩, zQq _ _ _ _⟩, ?_⟩
 ·have := zbd cur (flatK Za 2 ys.toArray) (by rw [size_flatK, h3]; simp; omega)
  rw [size_flatK] at this
  rw [hk2]
  simpa using this
 ·exact zWu (w := w) (g := g) (n := n) (os := os) (flatK Za 2 ys.toArray)
end Go.Proofs.YtaifemkokfoadaaGreatDoor
