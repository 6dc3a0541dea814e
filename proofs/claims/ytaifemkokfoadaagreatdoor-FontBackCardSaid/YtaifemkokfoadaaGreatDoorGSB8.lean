/-
  Texts that lean on one another, laid in one file. No condition.
-/
import Derived.Test.YtaifemkokfoadaaGreatDoorGSB1
import Derived.Test.YtaifemkokfoadaaGreatDoorGSB4
import Derived.Test.YtaifemkokfoadaaGreatDoorGSB5
import Derived.RangeFuncNested
import Derived.RangeFuncBound
import Derived.RangeFuncCalls
import Derived.RangeFuncLeaves
import Derived.Test.YtaifemkokfoadaaGreatDoorGSB6
import Derived.Deep.QuietTactic
import Derived.BigQuiet
import Derived.Test.YtaifemkokfoadaaGreatDoorGSB2
import Derived.RangeFuncBox
import Derived.RangeFuncWrites
import Derived.RangeFuncOne
import Derived.RangeFuncFrom
import Derived.BigRegionIn
import Derived.Shelf.Abstract
import Derived.WalkKit
import Derived.OwnWalkIn
import Derived.TacticsInMore
import Derived.LoopNIn
import Derived.LoopIn
import Derived.Lib.Hide
import Derived.Lib.IndexLaws
import Derived.IntWalk
import Derived.WideLaws
import Derived.Test.YtaifemkokfoadaaGreatDoorGSB3
import Derived.Deep.Slices
import Derived.ChangeArms
import Derived.ChangeSlices
import Derived.SizedLaws
import Derived.WideShapes
import Derived.Lib.LaidU8
import Derived.Shelf.Vars
import Derived.Test.YtaifemkokfoadaaGreatDoorGSB7

set_option linter.unusedVariables false
set_option linter.unusedSimpArgs false

namespace Go.Proofs.YtaifemkokfoadaaGreatDoor.PX
open Go.RowKit Go.Proofs.zx.zK Go.Proofs.zx.zU Go.Proofs.zx.zN
attribute [local go_sem] qF qG xC xD qY qW qH qI   -- for this text's walks alone
set_option linter.unusedVariables false
set_option linter.unusedSimpArgs false
end Go.Proofs.YtaifemkokfoadaaGreatDoor.PX
namespace Go.Proofs.YtaifemkokfoadaaGreatDoor
open Go.RowKit Go.Proofs.zx.zK Go.Proofs.YtaifemkokfoadaaGreatDoor.PX
set_option linter.unusedVariables false
def resT (p : vZ × Int) : ByteArray × Bool × Int × List qJ × List xK × List xY × Int := (p.1.a, p.1.b, p.1.c, p.1.l3.map jG, p.1.l4.map kL, p.1.l5.map kM, p.2)
theorem zVZ (s : ByteArray) (hs : s.size ≤ 100000) : Ev (fun k => zZ.f k s) (resT (vS s)) := by
 by_cases h : ∃ f, zjs f = true ∧ zjt f = s.data.toList
 ·obtain ⟨f, h1, h2⟩ := h
  rw [bH h1 h2]
  exact zya f s h1 h2 hs
 ·have hp : vS s = (vZ.zero, 4) := by
   unfold vS
   cases hg : uE vZ.zero ((Zp s.data.toList).map bar) with
   | none => rfl
   | some f => exact if_neg (fun hh => h ⟨f, hh⟩)
  rw [hp]
  obtain ⟨r, he, hr⟩ := zyK s hs
  rcases hr with rfl | ⟨g, rfl, h1, h2⟩
  ·exact he
  ·exact absurd ⟨toP g, by rw [zq9]; exact h1, by rw [zxz]; exact h2⟩ h
theorem zjS (s : ByteArray) : (vS s).1.l3.length ≤ 1000000 ∧ (vS s).1.l4.length ≤ 1000000 ∧ (vS s).1.l5.length ≤ 1000000 := by
 unfold vS
 split
 ·exact ⟨by decide, by decide, by decide⟩
 ·split
  ·rename_i f _ hv
   have := Kh hv.1
   have h3 := this.n3
   have h4 := this.n4
   have h5 := this.n5
   exact ⟨by show f.l3.length ≤ _; omega, by show f.l4.length ≤ _; omega, by show f.l5.length ≤ _; omega⟩
  ·exact ⟨by decide, by decide, by decide⟩
end Go.Proofs.YtaifemkokfoadaaGreatDoor
namespace Go.Proofs.YtaifemkokfoadaaGreatDoor
open Go.RowKit Go.Proofs.zx.zK Go.Proofs.zx.zU Go.Proofs.zx.zN Go.Proofs.YtaifemkokfoadaaGreatDoor.PX
set_option linter.unusedSimpArgs false
set_option linter.unusedVariables false
set_option maxRecDepth 100000 in
set_option maxHeartbeats 8000000 in
theorem zjT (a : ByteArray) (b : Bool) (c : Int) (A3 : Option Addr) (c3 : Nat) (l3 : List qJ) (A4 : Option Addr) (c4 : Nat) (l4 : List xK) (A5 : Option Addr) (c5 : Nat) (l5 : List xY) (B3 : Option Addr) (d3 : Nat) (B4 : Option Addr) (d4 : Nat) (B5 : Option Addr) (d5 : Nat) (w : World)
  (h3 : Kd.C jC w A3 l3.length l3) (h4 : Kd.C kR w A4 l4.length l4) (h5 : Kd.C kE w A5 l5.length l5) (k3 : Kd.C jC w B3 l3.length l3) (k4 : Kd.C kR w B4 l4.length l4) (k5 : Kd.C kE w B5 l5.length l5) (hl3 : l3.length ≤ 1000000) (hl4 : l4.length ≤ 1000000) (hl5 : l5.length ≤ 1000000) :
  Calls Tryz.prog 15 #[.agg #[.string a, .bool b, .int .i64 c, .slice A3 l3.length c3, .slice A4 l4.length c4, .slice A5 l5.length c5], .agg #[.string a, .bool b, .int .i64 c, .slice B3 l3.length d3, .slice B4 l4.length d4, .slice B5 l5.length d5]] w fun e w' => e = .returned (.bool true) ∧ Below w.heap.size w w' := by
 have e1 : (w.alloc (.cells #[.string a, .bool b, .int .i64 c, .slice A3 l3.length c3, .slice A4 l4.length c4, .slice A5 l5.length c5] 44)).heap.size = w.heap.size + 1 := by simp
 have hbf : ((w.alloc (.cells #[.string a, .bool b, .int .i64 c, .slice A3 l3.length c3, .slice A4 l4.length c4, .slice A5 l5.length c5] 44)).alloc (.cells #[.string a, .bool b, .int .i64 c, .slice B3 l3.length d3, .slice B4 l4.length d4, .slice B5 l5.length d5] 44)).heap[w.heap.size]? = some (.cells #[.string a, .bool b, .int .i64 c, .slice A3 l3.length c3, .slice A4 l4.length c4, .slice A5 l5.length c5] 44 (0, 0)) := zV (vY _ _) _
 have hbg : ((w.alloc (.cells #[.string a, .bool b, .int .i64 c, .slice A3 l3.length c3, .slice A4 l4.length c4, .slice A5 l5.length c5] 44)).alloc (.cells #[.string a, .bool b, .int .i64 c, .slice B3 l3.length d3, .slice B4 l4.length d4, .slice B5 l5.length d5] 44)).heap[w.heap.size + 1]? = some (.cells #[.string a, .bool b, .int .i64 c, .slice B3 l3.length d3, .slice B4 l4.length d4, .slice B5 l5.length d5] 44 (0, 0)) := by
  have := vY (w.alloc (.cells #[.string a, .bool b, .int .i64 c, .slice A3 l3.length c3, .slice A4 l4.length c4, .slice A5 l5.length c5] 44)) (.cells #[.string a, .bool b, .int .i64 c, .slice B3 l3.length d3, .slice B4 l4.length d4, .slice B5 l5.length d5] 44)
  rwa [e1] at this
 have hb0 : Below w.heap.size w ((w.alloc (.cells #[.string a, .bool b, .int .i64 c, .slice A3 l3.length c3, .slice A4 l4.length c4, .slice A5 l5.length c5] 44)).alloc (.cells #[.string a, .bool b, .int .i64 c, .slice B3 l3.length d3, .slice B4 l4.length d4, .slice B5 l5.length d5] 44)) := ((Below.refl _ w).alloc (Nat.le_refl _) _).alloc (by rw [e1]; omega) _
 have HF := zy.mk (fun (W : World) (h : Below ((w.alloc (.cells #[.string a, .bool b, .int .i64 c, .slice A3 l3.length c3, .slice A4 l4.length c4, .slice A5 l5.length c5] 44)).alloc (.cells #[.string a, .bool b, .int .i64 c, .slice B3 l3.length d3, .slice B4 l4.length d4, .slice B5 l5.length d5] 44)).heap.size ((w.alloc (.cells #[.string a, .bool b, .int .i64 c, .slice A3 l3.length c3, .slice A4 l4.length c4, .slice A5 l5.length c5] 44)).alloc (.cells #[.string a, .bool b, .int .i64 c, .slice B3 l3.length d3, .slice B4 l4.length d4, .slice B5 l5.length d5] 44)) W) => zf hbf h)
 have HG := zy.mk (fun (W : World) (h : Below ((w.alloc (.cells #[.string a, .bool b, .int .i64 c, .slice A3 l3.length c3, .slice A4 l4.length c4, .slice A5 l5.length c5] 44)).alloc (.cells #[.string a, .bool b, .int .i64 c, .slice B3 l3.length d3, .slice B4 l4.length d4, .slice B5 l5.length d5] 44)).heap.size ((w.alloc (.cells #[.string a, .bool b, .int .i64 c, .slice A3 l3.length c3, .slice A4 l4.length c4, .slice A5 l5.length c5] 44)).alloc (.cells #[.string a, .bool b, .int .i64 c, .slice B3 l3.length d3, .slice B4 l4.length d4, .slice B5 l5.length d5] 44)) W) => zf hbg h)
 have HW := zy.mk (fun (W : World) (h : Below ((w.alloc (.cells #[.string a, .bool b, .int .i64 c, .slice A3 l3.length c3, .slice A4 l4.length c4, .slice A5 l5.length c5] 44)).alloc (.cells #[.string a, .bool b, .int .i64 c, .slice B3 l3.length d3, .slice B4 l4.length d4, .slice B5 l5.length d5] 44)).heap.size ((w.alloc (.cells #[.string a, .bool b, .int .i64 c, .slice A3 l3.length c3, .slice A4 l4.length c4, .slice A5 l5.length c5] 44)).alloc (.cells #[.string a, .bool b, .int .i64 c, .slice B3 l3.length d3, .slice B4 l4.length d4, .slice B5 l5.length d5] 44)) W) => hb0.trans (h.mono hb0.size))
 have H3 := zy.mk h3; have H4 := zy.mk h4; have H5 := zy.mk h5; have K3 := zy.mk k3; have K4 := zy.mk k4; have K5 := zy.mk k5
 clear h3 h4 h5 k3 k4 k5 hbf hbg hb0 e1
 go_enter Tryz.func15, Tryz.ntmps15
 go_wp2
 go_loopw [5] (fun y W => ∃ i : Nat, y = .int .i64 (i : Int) ∧ i ≤ l3.length ∧ zy (Below ((w.alloc (.cells #[.string a, .bool b, .int .i64 c, .slice A3 l3.length c3, .slice A4 l4.length c4, .slice A5 l5.length c5] 44)).alloc (.cells #[.string a, .bool b, .int .i64 c, .slice B3 l3.length d3, .slice B4 l4.length d4, .slice B5 l5.length d5] 44)).heap.size ((w.alloc (.cells #[.string a, .bool b, .int .i64 c, .slice A3 l3.length c3, .slice A4 l4.length c4, .slice A5 l5.length c5] 44)).alloc (.cells #[.string a, .bool b, .int .i64 c, .slice B3 l3.length d3, .slice B4 l4.length d4, .slice B5 l5.length d5] 44)) W)) (fun y _ => l3.length - (intOf y).toNat)
 case atStart => exact ⟨0, rfl, Nat.zero_le _, ⟨Below.refl _ _⟩⟩
 case round =>
  obtain ⟨i, rfl, hi, HB3⟩ := hrel
  have hcf : wr.cell? ⟨w.heap.size, 3, none⟩ = some (.slice A3 l3.length c3) := (zk (HF.out _ HB3.out) 3).trans rfl
  have hcg : wr.cell? ⟨w.heap.size + 1, 3, none⟩ = some (.slice B3 l3.length d3) := (zk (HG.out _ HB3.out) 3).trans rfl
  by_cases hlt : i < l3.length
  ·obtain ⟨ad, e, x0, x1⟩ := YL (Kd.zh H3.out (HW.out _ HB3.out)) (i : Int) (by omega) (by omega)
   cases e
   obtain ⟨bd, e, y0, y1⟩ := YL (Kd.zh K3.out (HW.out _ HB3.out)) (i : Int) (by omega) (by omega)
   cases e
   rw [Int.toNat_natCast] at x0 y0 x1 y1
   generalize zS l3 (i : Int) = x at x0 y0 x1 y1
   have q1 : (i : Int) < (l3.length : Int) := by omega
   have q0 : (0 : Int) ≤ (i : Int) := by omega
   have q3 : ((i : Int)).toNat = i := Int.toNat_natCast i
   have q2 : decide ((i : Int) < (l3.length : Int)) = true := decide_eq_true q1
   go_wp2
   go_quiet (fail)
   have HB2 := zy.mk (zM HB3.out nq)
   go_wp2
   go_roundw
   case rel => exact ⟨i + 1, by first | rfl | (simp; done) | go_num, by omega, HB2⟩
   case measure => simp [intOf]; omega
  ·have q2 : decide ((i : Int) < (l3.length : Int)) = false := decide_eq_false (by omega)
   have q1 : ¬ (i : Int) < (l3.length : Int) := by omega
   go_wp2
   go_loopw [6] (fun y W => ∃ i : Nat, y = .int .i64 (i : Int) ∧ i ≤ l4.length ∧ zy (Below ((w.alloc (.cells #[.string a, .bool b, .int .i64 c, .slice A3 l3.length c3, .slice A4 l4.length c4, .slice A5 l5.length c5] 44)).alloc (.cells #[.string a, .bool b, .int .i64 c, .slice B3 l3.length d3, .slice B4 l4.length d4, .slice B5 l5.length d5] 44)).heap.size ((w.alloc (.cells #[.string a, .bool b, .int .i64 c, .slice A3 l3.length c3, .slice A4 l4.length c4, .slice A5 l5.length c5] 44)).alloc (.cells #[.string a, .bool b, .int .i64 c, .slice B3 l3.length d3, .slice B4 l4.length d4, .slice B5 l5.length d5] 44)) W)) (fun y _ => l4.length - (intOf y).toNat)
   case atStart => exact ⟨0, rfl, Nat.zero_le _, HB3⟩
   case round =>
    obtain ⟨i, rfl, hi, kI⟩ := hrel
    have hcf : wr.cell? ⟨w.heap.size, 4, none⟩ = some (.slice A4 l4.length c4) := (zk (HF.out _ kI.out) 4).trans rfl
    have hcg : wr.cell? ⟨w.heap.size + 1, 4, none⟩ = some (.slice B4 l4.length d4) := (zk (HG.out _ kI.out) 4).trans rfl
    by_cases hlt : i < l4.length
    ·obtain ⟨ad, e, x0, x1, x2⟩ := Ji (Kd.zh H4.out (HW.out _ kI.out)) (i : Int) (by omega) (by omega)
     cases e
     obtain ⟨bd, e, y0, y1, y2⟩ := Ji (Kd.zh K4.out (HW.out _ kI.out)) (i : Int) (by omega) (by omega)
     cases e
     rw [Int.toNat_natCast] at x0 y0 x1 y1 x2 y2
     generalize vP l4 (i : Int) = x at x0 y0 x1 y1 x2 y2
     have q1 : (i : Int) < (l4.length : Int) := by omega
     have q0 : (0 : Int) ≤ (i : Int) := by omega
     have q3 : ((i : Int)).toNat = i := Int.toNat_natCast i
     have q2 : decide ((i : Int) < (l4.length : Int)) = true := decide_eq_true q1
     go_wp2
     go_quiet (fail)
     have HB2 := zy.mk (zM kI.out nq)
     go_wp2
     go_roundw
     case rel => exact ⟨i + 1, by first | rfl | (simp; done) | go_num, by omega, HB2⟩
     case measure => simp [intOf]; omega
    ·have q2 : decide ((i : Int) < (l4.length : Int)) = false := decide_eq_false (by omega)
     have q1 : ¬ (i : Int) < (l4.length : Int) := by omega
     go_wp2
     go_loopw [7] (fun y W => ∃ i : Nat, y = .int .i64 (i : Int) ∧ i ≤ l5.length ∧ zy (Below ((w.alloc (.cells #[.string a, .bool b, .int .i64 c, .slice A3 l3.length c3, .slice A4 l4.length c4, .slice A5 l5.length c5] 44)).alloc (.cells #[.string a, .bool b, .int .i64 c, .slice B3 l3.length d3, .slice B4 l4.length d4, .slice B5 l5.length d5] 44)).heap.size ((w.alloc (.cells #[.string a, .bool b, .int .i64 c, .slice A3 l3.length c3, .slice A4 l4.length c4, .slice A5 l5.length c5] 44)).alloc (.cells #[.string a, .bool b, .int .i64 c, .slice B3 l3.length d3, .slice B4 l4.length d4, .slice B5 l5.length d5] 44)) W)) (fun y _ => l5.length - (intOf y).toNat)
     case atStart => exact ⟨0, rfl, Nat.zero_le _, kI⟩
     case round =>
      obtain ⟨i, rfl, hi, Zi⟩ := hrel
      have hcf : wr.cell? ⟨w.heap.size, 5, none⟩ = some (.slice A5 l5.length c5) := (zk (HF.out _ Zi.out) 5).trans rfl
      have hcg : wr.cell? ⟨w.heap.size + 1, 5, none⟩ = some (.slice B5 l5.length d5) := (zk (HG.out _ Zi.out) 5).trans rfl
      by_cases hlt : i < l5.length
      ·obtain ⟨ad, e, x0, x1, x2⟩ := Jl (Kd.zh H5.out (HW.out _ Zi.out)) (i : Int) (by omega) (by omega)
       cases e
       obtain ⟨bd, e, y0, y1, y2⟩ := Jl (Kd.zh K5.out (HW.out _ Zi.out)) (i : Int) (by omega) (by omega)
       cases e
       rw [Int.toNat_natCast] at x0 y0 x1 y1 x2 y2
       generalize vJ l5 (i : Int) = x at x0 y0 x1 y1 x2 y2
       have q1 : (i : Int) < (l5.length : Int) := by omega
       have q0 : (0 : Int) ≤ (i : Int) := by omega
       have q3 : ((i : Int)).toNat = i := Int.toNat_natCast i
       have q2 : decide ((i : Int) < (l5.length : Int)) = true := decide_eq_true q1
       go_wp2
       go_quiet (fail)
       have HB2 := zy.mk (zM Zi.out nq)
       go_wp2
       go_roundw
       case rel => exact ⟨i + 1, by first | rfl | (simp; done) | go_num, by omega, HB2⟩
       case measure => simp [intOf]; omega
      ·have q2 : decide ((i : Int) < (l5.length : Int)) = false := decide_eq_false (by omega)
       have q1 : ¬ (i : Int) < (l5.length : Int) := by omega
       go_wp2
       go_ret
       exact ⟨rfl, HW.out _ Zi.out⟩
end Go.Proofs.YtaifemkokfoadaaGreatDoor
namespace Go.Proofs.YtaifemkokfoadaaGreatDoor
open Go.RowKit Go.Proofs.zx.zK Go.Proofs.YtaifemkokfoadaaGreatDoor.PX
set_option linter.unusedVariables false
set_option linter.unusedSimpArgs false
theorem zv0 {a : ByteArray} {b : Bool} {c : Int} {l3 : List qw} {l4 : List qh} {l5 : List xq} (h : uw a c l3 l4 l5 = true) (z3 : l3.length ≤ 8) (z4 : l4.length ≤ 8) (z5 : l5.length ≤ 8) : (jf a b c l3 l4 l5).length ≤ 100000 := by
 obtain ⟨na, n3, n4, n5⟩ := JQ h
 obtain ⟨hc, hk⟩ := nE h
 have hw := mP h
 have b3 := XQ jB 4000 l3 (fun x hx => by
  have p := n3 x hx; have q := hw x hx; have r := XJ x.f1 (by omega) (by omega)
  simp [jB, XA, uq, Zj, Y6]; omega)
 have b4 := XQ kP 4000 l4 (fun x hx => by
  have p := n4 x hx
  simp [kP, XB, uq, Zj, Y6]; omega)
 have b5 := XQ ZX 4000 l5 (fun x hx => by
  have p := n5 x hx; have q := hk x hx; have r := XJ x.f2 (by omega) (by omega)
  simp [ZX, XC, uq, Zj, Y6]; omega)
 have b0 : (uZ a b c).length ≤ 4000 := by
  have r := XJ c (by omega) (by omega)
  unfold uZ wm Zu
  rw [List.length_append, List.length_append, List.length_append]
  have : (uq (Zv c)).length = 7 + (Lib.itoa c).length + 1 := by simp [uq, Zv, Zj]; omega
  rw [this, Y6]
  split <;> simp only [List.length_cons, List.length_nil] <;> omega
 unfold jf
 simp only [List.length_append]
 omega
theorem zym (a n : Int) (h0 : 0 < n) (h1 : n ≤ 1000000000) : ∃ i : Nat, (i : Int) < n ∧ wrap64 ((IntKind.u64.wrap a).tmod n) = (i : Int) := by
 have hu : 0 ≤ IntKind.u64.wrap a := by
  show 0 ≤ a % 18446744073709551616
  exact Int.emod_nonneg _ (by decide)
 generalize IntKind.u64.wrap a = u at hu
 rw [Int.tmod_eq_emod_of_nonneg hu]
 have e0 := Int.emod_nonneg u (by omega : n ≠ 0)
 have e1 := Int.emod_lt_of_pos u h0
 refine ⟨(u % n).toNat, by omega, ?_⟩
 rw [YA (by omega) (by omega)]; omega
theorem zWg (q : Int) : ∃ u : UInt8, IntKind.u8.wrap q = (u.toNat : Int) := by
 refine ⟨UInt8.ofNat (q % 256).toNat, ?_⟩
 show q % 256 = _
 have h0 := Int.emod_nonneg q (by decide : (256 : Int) ≠ 0)
 have h1 := Int.emod_lt_of_pos q (by decide : (0 : Int) < 256)
 rw [UInt8.toNat_ofNat']
 omega
set_option maxRecDepth 100000 in
theorem zjU (A0 : Option Addr) (c0 : Nat) (l0 : List Int) (p q : Int) (w : World) (hG : GW w) (h0 : Kd.C (Kd.int .i64) w A0 l0.length l0) (g0 : l0.length ≤ c0) :
  Calls Tryz.prog 9 #[.slice A0 l0.length c0, .int .i64 p, .int .i64 q] w fun e w' => e = .returned (.bool true) ∧ Below w.heap.size w w' := by
 obtain ⟨⟨na, nb, nc, l3, l4, l5⟩, hgr, hv, z3, z4, z5⟩ := zzF l0
 replace hv : uw na nc l3 l4 l5 = true := hv
 replace z3 : l3.length ≤ 8 := z3
 replace z4 : l4.length ≤ 8 := z4
 replace z5 : l5.length ≤ 8 := z5
 obtain ⟨kg, hkg⟩ := hgr.rounds
 have zlC := zv0 (b := nb) hv z3 z4 z5
 have hne : 0 < (jf na nb nc l3 l4 l5).length := by
  rw [show jf na nb nc l3 l4 l5 = Ve ⟨na, nb, nc, l3, l4, l5⟩ from Vf ⟨na, nb, nc, l3, l4, l5⟩]
  unfold Ve
  simp only [List.length_append, List.length_cons, List.length_nil]
  omega
 have hps : vS (bar (jf na nb nc l3 l4 l5)) = (⟨na, nb, nc, l3, l4, l5⟩, 0) := bH hv rfl
 have hsz : (bar (jf na nb nc l3 l4 l5)).size = (jf na nb nc l3 l4 l5).length := vC _
 have hwr := fun W A3 c3 A4 c4 A5 c5 (g : GW W) k3 s3 k4 s4 k5 s5 => zzf na nb nc A3 c3 l3 A4 c4 l4 A5 c5 l5 s3 s4 s5 W g k3 k4 k5 (by omega) (by omega) (by omega) hv (by omega)
 generalize bar (jf na nb nc l3 l4 l5) = s at hps hsz hwr
 obtain ⟨i, hi, hI⟩ := zym p (s.size : Int) (by omega) (by omega)
 obtain ⟨u, hu⟩ := zWg q
 have ht : (turned s i u).size = s.size := by
  show (s.data.toList.set i u).toArray.size = s.size
  rw [List.size_toArray, List.length_set]; exact Array.length_toList
 have hp1 : pJ.f s = some (na, nb, nc, l3, l4, l5, 0) := by
  unfold pJ.f; rw [if_pos (by omega), hps]
 obtain ⟨b, hsame, hb⟩ := zzE na nb nc l3 l4 l5 na nb nc l3 l4 l5 (by omega) (by omega) (by omega)
 have hb1 : b = true := hb.2 ⟨rfl, rfl, rfl, rfl, rfl, rfl⟩
 subst hb1
 obtain ⟨ks, hks⟩ := hsame.rounds
 have hp2 : pJ.f (turned s i u) = some ((vS (turned s i u)).1.a, (vS (turned s i u)).1.b, (vS (turned s i u)).1.c, (vS (turned s i u)).1.l3, (vS (turned s i u)).1.l4, (vS (turned s i u)).1.l5, (vS (turned s i u)).2) := by
  unfold pJ.f; rw [if_pos (by omega)]
 obtain ⟨y3, y4, y5⟩ := zjS (turned s i u)
 obtain ⟨kr, hkr⟩ := (zVZ (turned s i u) (by omega)).rounds
 generalize vS (turned s i u) = pp at hp2 y3 y4 y5 hkr
 obtain ⟨⟨xa, xb, xc, x3, x4, x5⟩, er⟩ := pp
 replace hkr : zZ.f kr (turned s i u) = some (xa, xb, xc, x3.map jG, x4.map kL, x5.map kM, er) := hkr
 exact zvn A0 c0 l0 p q na nb nc l3 l4 l5 s i u xa xb xc x3 x4 x5 xa xb xc (x3.map jG) (x4.map kL) (x5.map kM) xa xb xc (x3.map jG) (x4.map kL) (x5.map kM) er (by omega) hI (by omega) hu
  (fun W hC => zJ.calls kg A0 c0 l0 na nb nc l3 l4 l5 W hC g0 hkg)
  hwr
  (fun W g => pJ.calls s na nb nc l3 l4 l5 0 W g hp1)
  (fun W A3 c3 A4 c4 A5 c5 B3 d3 B4 d4 B5 d5 k3 s3 k4 s4 k5 s5 m3 t3 m4 t4 m5 t5 => Zn.calls ks na nb nc A3 c3 l3 A4 c4 l4 A5 c5 l5 na nb nc B3 d3 l3 B4 d4 l4 B5 d5 l5 true W k3 s3 k4 s4 k5 s5 m3 t3 m4 t4 m5 t5 hks)
  (fun W g => pJ.calls (turned s i u) xa xb xc x3 x4 x5 er W g hp2)
  (fun W => zZ.calls kr (turned s i u) xa xb xc _ _ _ er W hkr)
  (fun W A3 c3 A4 c4 A5 c5 k3 s3 k4 s4 k5 s5 => zQf xa xb xc A3 c3 x3 A4 c4 x4 A5 c5 x5 W k3 k4 k5 y3 y4 y5)
  (fun W A3 c3 A4 c4 A5 c5 B3 d3 B4 d4 B5 d5 k3 s3 k4 s4 k5 s5 m3 t3 m4 t4 m5 t5 => zjT xa xb xc A3 c3 _ A4 c4 _ A5 c5 _ B3 d3 B4 d4 B5 d5 W k3 k4 k5 m3 m4 m5 (by rw [List.length_map]; exact y3) (by rw [List.length_map]; exact y4) (by rw [List.length_map]; exact y5))
  (fun W g => ZR.calls true W g zQJ)
  w hG h0
end Go.Proofs.YtaifemkokfoadaaGreatDoor
namespace Go.Proofs.YtaifemkokfoadaaGreatDoor
open Go.ChangeShapes Go.WideShapes Go.RowKit Go.Deep Go.Proofs.zx.zK
section
variable {H : Type} {enc : TypeId × Value → H} {P : Program} {w : World} {sp : Nat → Bool} {held : Bool} {α : Type}
theorem zv1 [Inhabited α] (d : Kd α) {t e : TypeId} (Good : α → DataW H → Prop) {r : Reach} {b0 : Nat} {v : Value} {d0 : DataW H} {ps : List MemPlace} (ht : P.underlying t = some (.slice e)) (hc : P.cellsOf e = d.sz)
  (dec : ∀ n cs x, DataW.trod enc P w 0 sp held n e cs = some x → ∃ y : α, d.K w y cs ∧ Good y x.1)
  (hval : Value.okWide P w r b0 t v) (h : DataW.Trod enc P w 0 sp held t v d0 ps) :
  ∃ A c l, v = .slice A l.length c ∧ l.length ≤ c ∧ Kd.C d w A l.length l ∧ (l = [] ∨ ∃ elems spare, d0 = .slice elems spare ∧ elems.length = l.length ∧ ∀ x ∈ l, ∃ D ∈ elems, Good x D) := by
 obtain ⟨a0, zj0, cap0, rfl⟩ := okWide_slice ht hval
 obtain ⟨fuel, hf⟩ := h
 rcases open_slice ht hf with ⟨hcs, _⟩ | ⟨a, len, cap, m, n, D, Pl, hcs, _, hl, hm, hmm, hx, hel⟩
 ·simp [Value.cells] at hcs
  obtain ⟨rfl, rfl, rfl⟩ := hcs
  exact ⟨none, 0, [], rfl, Nat.le_refl _, ⟨rfl, by simp, fun h => by simp at h⟩, .inl rfl⟩
 ·simp [Value.cells] at hcs
  obtain ⟨rfl, rfl, rfl⟩ := hcs
  have hlm : zj0 ≤ m := by rw [hmm]; split <;> omega
  obtain ⟨F, hF⟩ := choose_lt (α := α) (p := fun i y => ∃ cs', w.cells? 0 (a.add (i * d.sz)) d.sz = some cs' ∧ d.K w y cs' ∧ Good y (D i)) (n := m) (fun i hi => by
   obtain ⟨cs', h1, h2⟩ := hel i hi
   rw [hc] at h1
   obtain ⟨y, hy, hg⟩ := dec _ _ _ h2
   exact ⟨y, cs', h1, hy, hg⟩)
  refine ⟨some a, cap0, (List.range zj0).map F, by simp, by simpa using hl, ⟨rfl, ?_, fun _ => ⟨a, rfl, fun j p hj => ?_⟩⟩, .inr ⟨_, _, (Prod.mk.inj hx).1, by simp, fun x hx => ?_⟩⟩
  ·have : maxLen = 9223372036854775807 := rfl
   simp; omega
  ·have hj2 : j < zj0 := by
    rcases Nat.lt_or_ge j zj0 with h1 | h1
    ·exact h1
    ·rw [List.getElem?_eq_none (by simpa using h1)] at hj; cases hj
   rw [List.getElem?_map, List.getElem?_range hj2] at hj
   cases hj
   obtain ⟨cs', h1, h2, _⟩ := hF j (by omega)
   obtain ⟨_, h3, h4⟩ := World.cells?_some h1
   refine ⟨cs', h3, h2, fun i u hu => ?_⟩
   have hi : i < d.sz := by
    rw [← h3]
    rcases Nat.lt_or_ge i cs'.length with h1 | h1
    ·exact h1
    ·rw [List.getElem?_eq_none h1] at hu; cases hu
   have := h4 i hi
   rw [Go.Deep.add_add] at this
   rw [this, hu]
  ·obtain ⟨i, hi, rfl⟩ := List.mem_map.1 hx
   have hi2 := List.mem_range.1 hi
   obtain ⟨_, _, _, hg⟩ := hF i (by omega)
   exact ⟨D i, List.mem_map.2 ⟨i, hi, rfl⟩, hg⟩
end
end Go.Proofs.YtaifemkokfoadaaGreatDoor
namespace Go.Proofs.YtaifemkokfoadaaGreatDoor
open Go.ChangeShapes Go.WideShapes Go.RowKit Go.Deep Go.Proofs.zx.zK Go.Proofs.YtaifemkokfoadaaGreatDoor.PX
section
variable {H : Type} {enc : TypeId × Value → H} {w : World} {sp : Nat → Bool} {held : Bool}
end
end Go.Proofs.YtaifemkokfoadaaGreatDoor
namespace Go.Proofs.YtaifemkokfoadaaGreatDoor
open Go.ChangeShapes Go.WideShapes Go.RowKit Go.Deep Go.Proofs.zx.zK Go.Proofs.YtaifemkokfoadaaGreatDoor.PX
set_option linter.unusedSimpArgs false
set_option linter.unusedVariables false
section
variable {H : Type} {enc : TypeId × Value → H} {w : World} {sp : Nat → Bool} {held : Bool}
theorem zdY (n : Nat) (cs : List Value) (x : DataW H × List MemPlace) (h : DataW.trod enc Tryz.prog w 0 sp held n 3 cs = some x) : ∃ y : Int, (Kd.int .i64).K w y cs := by
 obtain ⟨n0, e0, _⟩ := DataW.trod_int Tryz.underlying3 h
 exact ⟨n0, e0⟩
end
end Go.Proofs.YtaifemkokfoadaaGreatDoor
namespace Go.Proofs.YtaifemkokfoadaaGreatDoor
open Go.RowKit Go.ChangeShapes Go.WideShapes Go.Proofs.zx.zK
theorem Wj {P : Program} {w : World} {l : List (String × DataW Unit)} {n nm : String} {d : DataW Unit} {g : Nat} {t : TypeId} {ms : Array (String × TypeId)} (h : laidMet P l w) (hm : (n, .iface nm d) ∈ l)
  (hg : P.globalNamed n = some g) (ht : (P.globals[g]?).map (·.type) = some t) (hu : P.underlying t = some (.interface ms)) : ∃ tp p, w.var? P n = some #[.iface tp p] := by
 obtain ⟨g', t', cs, fuel, p, e1, e2, e3, e4⟩ := Lib.laidMet.reads h hm
 obtain rfl : g' = g := Option.some.inj (e1.symm.trans hg)
 obtain rfl : t' = t := Option.some.inj (e2.symm.trans ht)
 cases fuel with
 | zero => simp [DataW.trod] at e4
 | succ k =>
  unfold DataW.trod at e4
  rw [hu] at e4
  obtain ⟨cl⟩ := cs
  rw [e3]
  match cl, e4 with
  | [], e4 => simp at e4
  | [v], e4 =>
   cases v <;> simp at e4
   exact ⟨_, _, rfl⟩
  | _ :: _ :: _, e4 => simp at e4
theorem zWh {W : World} {l : List (String × DataW Unit)} {ds : DataW Unit} {dr : DataW Unit} {n1 n2 : String} (h : laidMet Tryz.prog l W) (hsh : W.ShapedOpen Tryz.prog) (h1 : ("internal/strconv.uint64pow10", Lib.tabData .u64 Lib.pow10Tab) ∈ l) (h2 : ("strconv.ErrSyntax", .iface n1 ds) ∈ l) (h3 : ("strconv.ErrRange", .iface n2 dr) ∈ l) (h4 : ("strings.asciiSpace", Lib.tabData .u8 Lib.asciiSpaceTab) ∈ l) : GW W := by
 have htab : Lib.TabIs Tryz.prog W "internal/strconv.uint64pow10" .u64 Lib.pow10Tab := KM (g := 7) (t := 244) (e := 186) (n := 20) (by kernel_rfl) (by kernel_rfl) Tryz.underlying244 Tryz.underlying186 (by kernel_rfl) (by kernel_rfl) h h1
 have zdW : Lib.TabIs Tryz.prog W "strings.asciiSpace" .u8 Lib.asciiSpaceTab := KM (g := 0) (t := 140) (e := 5) (n := 256) (by kernel_rfl) (by kernel_rfl) Tryz.underlying140 Tryz.underlying5 (by kernel_rfl) (by kernel_rfl) h h4
 refine ⟨htab, Wj (g := 3) h h2 (by kernel_rfl) (t := 131) (by kernel_rfl) Tryz.underlying131, Wj (g := 4) h h3 (by kernel_rfl) (t := 131) (by kernel_rfl) Tryz.underlying131, zdW,
  cell_of_shapedOpen_int (t := 3) (zero := #[.int .i64 0]) hsh (of_decide_eq_true (by kernel_rfl)) (by kernel_rfl) rfl (by kernel_rfl) (by kernel_rfl) Tryz.underlying3, ?_⟩
 obtain ⟨o, _, h4, _⟩ := hsh.2 11 (of_decide_eq_true (by kernel_rfl)) (of_decide_eq_true (by kernel_rfl))
 rcases Nat.lt_or_ge 11 W.heap.size with h5 | h5
 ·omega
 ·rw [Array.getElem?_eq_none h5] at h4; cases h4
end Go.Proofs.YtaifemkokfoadaaGreatDoor
