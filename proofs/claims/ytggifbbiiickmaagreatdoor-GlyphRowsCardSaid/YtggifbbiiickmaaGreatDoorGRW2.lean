/-
  Texts that lean on one another, laid in one file. No condition.
-/
import Derived.Test.YtggifbbiiickmaaGreatDoorGRW1
import Derived.StillTailTactics
import Derived.StillTactics
import Derived.Deep.RegionHeld3
import Derived.Shelf.SlicesQ.IndexFunc
import Derived.RangeFuncRecord
import Derived.Laws.EntriesVeiled
import Derived.Sort.Walk0
import Derived.WalkKit
import Derived.WalkSpells
import Derived.WalkLawsBesides
import Derived.Deep.QuietTactic
import Derived.BigQuiet
import Derived.RangeFuncBox
import Derived.Deep.DeepCutAuto
import Derived.RangeFuncNested
import Derived.RangeFuncBound
import Derived.RangeFuncCalls
import Derived.RangeFuncLeaves
import Derived.OwnWalkIn
import Derived.TacticsInMore
import Derived.LoopNIn
import Derived.LoopIn
import Derived.WideLaws
import Derived.Maps.Own
import Derived.Maps.OwnOps
import Derived.Maps.Views
import Derived.Maps.StringElems
import Derived.StringKeys
namespace Go.Proofs.YtggifbbiiickmaaGreatDoor
open Go.RowKit Go.Shelf Go.Proofs.zk.zK Go.Proofs.zk.yX Go.Proofs.YtggifbbiiickmaaGreatDoor.PX
def ZV (c : Nat → Nat → Int) (n : Nat) : Bool := (List.range (n - 1)).all fun i => decide (c i (i + 1) < 0)
theorem Vf {c : Nat → Nat → Int} {n : Nat} (h : ∀ i, i + 1 < n → c i (i + 1) < 0) : ZV c n = true := by
 unfold ZV
 rw [List.all_eq_true]
 intro i hi
 have := List.mem_range.1 hi
 simpa using h i (by omega)
theorem Q8 {c : Nat → Nat → Int} {n i : Nat} (hi : i + 1 < n) (h : ¬ c i (i + 1) < 0) : ZV c n = false := by
 unfold ZV
 rw [List.all_eq_false]
 exact ⟨i, List.mem_range.2 (by omega), by simpa using h⟩
def YN (x y : yB) : Int := xD x.f0 y.f0
def gL (a b : Int) : Int := if a = 0 then b else a
def cmpL (x y : qJ) : Int := gL (xD x.f0 y.f0) (xD x.f1 y.f1)
def XR (x y : qB) : Int := gL (xD x.f0 y.f0) (xD x.f1 y.f1)
set_option maxRecDepth 100000 in
theorem zjg (x y : yB) (w : World) :
  Calls Tryz.prog 90 #[.agg #[.string x.f0, .int .i64 x.f1], .agg #[.string y.f0, .int .i64 y.f1]] w fun e w' => e = .returned (.int .i64 (YN x y)) ∧ Below w.heap.size w w' := by
 unfold YN
 have hb0 : Below w.heap.size w ((w.alloc (.cells #[.string x.f0, .int .i64 x.f1] 105)).alloc (.cells #[.string y.f0, .int .i64 y.f1] 105)) := ((Below.refl _ w).alloc (Nat.le_refl _) _).alloc (by simp) _
 have hc := Uf x.f0 y.f0 ((w.alloc (.cells #[.string x.f0, .int .i64 x.f1] 105)).alloc (.cells #[.string y.f0, .int .i64 y.f1] 105))
 generalize xD x.f0 y.f0 = r at hc ⊢
 go_enter Tryz.func90, Tryz.ntmps90
 go_wp2_with (go_at_call 91; refine hc.mono ?_; rintro e w2 ⟨rfl, hb2⟩)
 go_ret
 exact ⟨rfl, hb0.trans (hb2.mono (by simp; omega))⟩
def zws (l : List yB) (w : World) (x : Value) (wr : World) : Prop :=
 ∃ k : Nat, x = .int .i64 k ∧ 1 ≤ k ∧ k ≤ l.length + 1 ∧ (∀ i, i + 1 < k → i + 1 < l.length → YN (qK l (i : Int)) (qK l ((i + 1 : Nat) : Int)) < 0) ∧ Below w.heap.size w wr
set_option maxRecDepth 100000 in
set_option maxHeartbeats 1000000 in
theorem zjh (A0 : Option Addr) (c0 : Nat) (l : List yB) (w : World) (hr : Kd.C xB w A0 l.length l) (hl : l.length ≤ 1000000000) :
  Calls Tryz.prog 89 #[.slice A0 l.length c0, .func (.func 90) #[] #[]] w fun e w' => e = .returned (.bool (ZV (fun i j => YN (qK l (i : Int)) (qK l (j : Int))) l.length)) ∧ Below w.heap.size w w' := by
 generalize hV : ZV (fun i j => YN (qK l (i : Int)) (qK l (j : Int))) l.length = V
 have HV := Lib.hid hV
 clear hV
 go_enter Tryz.func89, Tryz.ntmps89
 go_wp2
 go_loopw [5] (fun x wr => zws l w x wr) (fun x _ => l.length + 1 - (intOf x).toNat)
 case atStart => exact ⟨1, rfl, by omega, by omega, (fun i h => by omega), Below.refl _ _⟩
 case round =>
  obtain ⟨k, rfl, hk1, hk, hA, hb⟩ := hrel
  have HA := Lib.hid hA
  clear hA
  by_cases hlt : k < l.length
  ·obtain ⟨m, rfl⟩ : ∃ m, k = m + 1 := ⟨k - 1, by omega⟩
   have hC := Kd.zC hr hb
   obtain ⟨ad, e, HH0⟩ := Qn hC (m : Int) (by omega) (by omega)
   obtain ⟨ad2, e2, HH1⟩ := Qn hC ((m + 1 : Nat) : Int) (by omega) (by omega)
   cases e
   cases e2
   obtain ⟨h0, h1⟩ := HH0
   obtain ⟨h2, h3⟩ := HH1
   rw [Int.toNat_natCast] at h0 h1 h2 h3
   have hstep : ∀ i, i + 1 = m + 1 → YN (qK l (i : Int)) (qK l ((i + 1 : Nat) : Int)) = YN (qK l (m : Int)) (qK l ((m + 1 : Nat) : Int)) := fun i hi => by obtain rfl : i = m := (by omega); rfl
   have hbad : ¬ YN (qK l (m : Int)) (qK l ((m + 1 : Nat) : Int)) < 0 → V = false := fun h => by rw [← HV.out]; exact Q8 (i := m) (by omega) h
   have hcm := fun W => zjg (qK l (m : Int)) (qK l ((m + 1 : Nat) : Int)) W
   generalize qK l (m : Int) = x at h0 h1 hstep hcm hbad
   generalize qK l ((m + 1 : Nat) : Int) = y at h2 h3 hstep hcm hbad
   generalize YN x y = r at hcm hstep hbad
   have HS := Lib.hid hstep
   have HB := Lib.hid hbad
   have e1 : IntKind.i64.wrap (((m : Int) + 1) - 1) = (m : Int) := by rw [Int.add_sub_cancel]; exact IntWalk.i64_in _ (by omega)
   have q1 : (m : Int) < (l.length : Int) := by omega
   have q2 : (m : Int) + 1 < (l.length : Int) := by omega
   have q3 : ((m : Int) + 1).toNat = m + 1 := by omega
   have q4 : (0 : Int) ≤ (m : Int) + 1 := by omega
   clear hC hr hstep hbad
   have e0 : IntKind.i64.wrap (m : Int) = (m : Int) := IntWalk.i64_in _ (by omega)
   have q5 : (0 : Int) ≤ (m : Int) := by omega
   by_cases hr0 : r < 0
   ·have d1 : decide (0 ≤ r) = false := by simp; omega
    have HR := Lib.hid hr0
    clear hr0
    go_wp2_with fail
    go_region_held3 (fun W => W.cell? (ad.add (m * 2)) = some (.string x.f0) ∧ W.cell? ⟨(ad.add (m * 2)).block, (ad.add (m * 2)).off + 1, none⟩ = some (.int .i64 x.f1) ∧ W.cell? (ad.add ((m + 1) * 2)) = some (.string y.f0) ∧ W.cell? ⟨(ad.add ((m + 1) * 2)).block, (ad.add ((m + 1) * 2)).off + 1, none⟩ = some (.int .i64 y.f1)) (first | go_keep | exact ⟨(hb2.cell (World.block_lt_of_cell? wr _ h0)).trans h0, (hb2.cell (World.block_lt_of_cell? wr _ h1)).trans h1, (hb2.cell (World.block_lt_of_cell? wr _ h2)).trans h2, (hb2.cell (World.block_lt_of_cell? wr _ h3)).trans h3⟩) ((go_at_call 90; refine (hcm _).mono ?_; rintro e w2 ⟨rfl, hb2⟩))
    clear e0 e1
    have hb3 : Below w.heap.size w w2 := (hb.drew).trans (hb2.mono hb.size)
    clear hb2
    go_wp2
    refine ⟨⟨m + 1 + 1, by go_num, by omega, by omega, (fun i h1 h2 => ?_), hb3⟩, by simp [intOf]; omega⟩
    by_cases e : i + 1 = m + 1
    ·rw [HS.out i e]; exact HR.out
    ·exact HA.out i (by omega) h2
   ·have d1 : decide (0 ≤ r) = true := by simp; omega
    have hv : V = false := HB.out hr0
    have Vg := Lib.hid hv
    clear hr0 hv
    go_wp2_with fail
    go_region_held3 (fun W => W.cell? (ad.add (m * 2)) = some (.string x.f0) ∧ W.cell? ⟨(ad.add (m * 2)).block, (ad.add (m * 2)).off + 1, none⟩ = some (.int .i64 x.f1) ∧ W.cell? (ad.add ((m + 1) * 2)) = some (.string y.f0) ∧ W.cell? ⟨(ad.add ((m + 1) * 2)).block, (ad.add ((m + 1) * 2)).off + 1, none⟩ = some (.int .i64 y.f1)) (first | go_keep | exact ⟨(hb2.cell (World.block_lt_of_cell? wr _ h0)).trans h0, (hb2.cell (World.block_lt_of_cell? wr _ h1)).trans h1, (hb2.cell (World.block_lt_of_cell? wr _ h2)).trans h2, (hb2.cell (World.block_lt_of_cell? wr _ h3)).trans h3⟩) ((go_at_call 90; refine (hcm _).mono ?_; rintro e w2 ⟨rfl, hb2⟩))
    clear e0 e1
    have hb3 : Below w.heap.size w w2 := (hb.drew).trans (hb2.mono hb.size)
    clear hb2
    go_wp2
    go_ret
    exact ⟨by rw [Vg.out]; rfl, hb3⟩
  ·have hv : V = true := by rw [← HV.out]; exact Vf (fun i hi => HA.out i (by omega) hi)
   have Vg := Lib.hid hv
   have q1 : decide ((k : Int) < (l.length : Int)) = false := decide_eq_false (by omega)
   clear hv hr
   go_wp2
   go_ret
   exact ⟨by rw [Vg.out]; rfl, hb⟩
theorem zqb {w w' : World} (h : y9 w w') : Below w.heap.size w w' := by
 obtain ⟨n, rfl⟩ := h
 exact ⟨rfl, rfl, rfl, Nat.le_refl _, fun _ _ => rfl⟩
theorem zyb (a b : Int) : Ev (fun k => vU.f k [a, b]) (gL a b) := by
 unfold vU.f gL
 have e1 : wrap64 (0 + 1) = 1 := by rw [ZG (by omega) (by omega)]; rfl
 have e2 : wrap64 (1 + 1) = 2 := by rw [ZG (by omega) (by omega)]; rfl
 have hl : (([a, b] : List Int).length : Int) = 2 := rfl
 refine Ev.step (fun k => by rw [vU.l0]) ?_
 rw [hl]
 refine qc (by omega) (qc (by omega) (qc (by omega) ?_))
 rw [show rd [a, b] 0 = a from rfl, e1]
 by_cases h1 : a = 0
 ·refine qc h1 ?_
  rw [if_pos h1]
  refine Ev.step (fun k => by rw [vU.l0]) ?_
  rw [hl]
  refine qc (by omega) (qc (by omega) (qc (by omega) ?_))
  rw [show rd [a, b] 1 = b from rfl, e2]
  by_cases h2 : b = 0
  ·refine qc h2 ?_
   rw [h2]
   refine Ev.step (fun k => by rw [vU.l0]) ?_
   exact jP (by omega) (Ev.now _)
  ·exact jP h2 (Ev.now _)
 ·refine jP h1 ?_
  rw [if_neg h1]; exact Ev.now _
theorem zji (B : Nat) (a b : Int) (w : World) (h0 : w.cell? ⟨B, 0, none⟩ = some (.int .i64 a)) (h1 : w.cell? ⟨B, 1, none⟩ = some (.int .i64 b)) : Kd.C (Kd.int .i64) w (some ⟨B, 0, none⟩) 2 [a, b] := by
 have hs : (Kd.int .i64).sz = 1 := rfl
 refine ⟨rfl, by decide, fun _ => ⟨_, rfl, fun j p hj => ?_⟩⟩
 rcases j with _ | _ | j
 ·cases hj
  exact ⟨[.int .i64 a], rfl, rfl, fun i u hi => by rcases i with _ | i; cases hi; simpa [Addr.add_lit] using h0; simp at hi⟩
 ·cases hj
  exact ⟨[.int .i64 b], rfl, rfl, fun i u hi => by rcases i with _ | i; cases hi; simpa [Addr.add_lit, hs] using h1; simp at hi⟩
 ·simp at hj
theorem zxl (a b : Int) (B : Nat) (w : World) (h0 : w.cell? ⟨B, 0, none⟩ = some (.int .i64 a)) (h1 : w.cell? ⟨B, 1, none⟩ = some (.int .i64 b)) :
  Calls Tryz.prog 97 #[.slice (some ⟨B, 0, none⟩) 2 2] w fun e w' => e = .returned (.int .i64 (gL a b)) ∧ Below w.heap.size w w' := by
 obtain ⟨k, hk⟩ := (zyb a b).rounds
 exact (vU.calls k (some ⟨B, 0, none⟩) 2 [a, b] _ w (zji B a b w h0 h1) (Nat.le_refl _) hk).mono fun e w' h => ⟨h.1, zqb h.2⟩
theorem zQi (W : World) (a b : Value) (t : TypeId) : (W.alloc (.cells #[a, b] t)).cell? ⟨W.heap.size, 0, none⟩ = some a := by simp
theorem zyc (W : World) (a b : Value) (t : TypeId) : (W.alloc (.cells #[a, b] t)).cell? ⟨W.heap.size, 1, none⟩ = some b := by simp
theorem zyd (W : World) (n : Nat) (a b : Value) (t : TypeId) : ((W.drewN n).alloc (.cells #[a, b] t)).cell? ⟨W.heap.size, 0, none⟩ = some a := zQi (W.drewN n) a b t
theorem zye (W : World) (n : Nat) (a b : Value) (t : TypeId) : ((W.drewN n).alloc (.cells #[a, b] t)).cell? ⟨W.heap.size, 1, none⟩ = some b := zyc (W.drewN n) a b t
theorem YK {W w2 : World} {n : Nat} {o : Obj} {B i : Nat} {v : Value} (h : Below ((W.drewN n).alloc o).heap.size ((W.drewN n).alloc o) w2) (hc : W.cell? ⟨B, i, none⟩ = some v) : w2.cell? ⟨B, i, none⟩ = some v := by
 have hb : Below W.heap.size W ((W.drewN n).alloc o) := Below.trans (⟨rfl, rfl, rfl, Nat.le_refl _, fun _ _ => rfl⟩ : Below W.heap.size W (W.drewN n)) ((Below.refl _ (W.drewN n)).alloc (Nat.le_refl _) o)
 have hl := World.block_lt_of_cell? W _ hc
 exact (h.cell (p := ⟨B, i, none⟩) (Nat.lt_of_lt_of_le hl hb.size)).trans ((hb.cell (p := ⟨B, i, none⟩) hl).trans hc)
theorem dz {W w2 : World} {n : Nat} {o : Obj} (h : Below ((W.drewN n).alloc o).heap.size ((W.drewN n).alloc o) w2) : Below W.heap.size W w2 := by
 have hb : Below W.heap.size W ((W.drewN n).alloc o) := Below.trans (⟨rfl, rfl, rfl, Nat.le_refl _, fun _ _ => rfl⟩ : Below W.heap.size W (W.drewN n)) ((Below.refl _ (W.drewN n)).alloc (Nat.le_refl _) o)
 exact hb.trans (h.mono hb.size)
set_option maxRecDepth 100000 in
set_option maxHeartbeats 1000000 in
theorem zjl (x y : qJ) (w : World) :
  Calls Tryz.prog 96 #[.agg #[.string x.f0, .string x.f1, .string x.f2], .agg #[.string y.f0, .string y.f1, .string y.f2]] w fun e w' => e = .returned (.int .i64 (cmpL x y)) ∧ Below w.heap.size w w' := by
 unfold cmpL
 have hb0 : Below w.heap.size w ((w.alloc (.cells #[.string x.f0, .string x.f1, .string x.f2] 108)).alloc (.cells #[.string y.f0, .string y.f1, .string y.f2] 108)) := ((Below.refl _ w).alloc (Nat.le_refl _) _).alloc (by simp) _
 have hz : ((w.alloc (.cells #[.string x.f0, .string x.f1, .string x.f2] 108)).alloc (.cells #[.string y.f0, .string y.f1, .string y.f2] 108)).heap.size = w.heap.size + 2 := by simp
 have c0 : ((w.alloc (.cells #[.string x.f0, .string x.f1, .string x.f2] 108)).alloc (.cells #[.string y.f0, .string y.f1, .string y.f2] 108)).cell? ⟨w.heap.size, 0, none⟩ = some (.string x.f0) := by simp
 have c1 : ((w.alloc (.cells #[.string x.f0, .string x.f1, .string x.f2] 108)).alloc (.cells #[.string y.f0, .string y.f1, .string y.f2] 108)).cell? ⟨w.heap.size, 1, none⟩ = some (.string x.f1) := by simp
 have c2 : ((w.alloc (.cells #[.string x.f0, .string x.f1, .string x.f2] 108)).alloc (.cells #[.string y.f0, .string y.f1, .string y.f2] 108)).cell? ⟨w.heap.size + 1, 0, none⟩ = some (.string y.f0) := by simp
 have c3 : ((w.alloc (.cells #[.string x.f0, .string x.f1, .string x.f2] 108)).alloc (.cells #[.string y.f0, .string y.f1, .string y.f2] 108)).cell? ⟨w.heap.size + 1, 1, none⟩ = some (.string y.f1) := by simp
 have hc1 := fun W => xL.calls x.f0 y.f0 _ W (YV x.f0 y.f0)
 have hc2 := fun W => xL.calls x.f1 y.f1 _ W (YV x.f1 y.f1)
 generalize xD x.f0 y.f0 = r1 at hc1 ⊢
 generalize xD x.f1 y.f1 = r2 at hc2 ⊢
 have hor := fun B W h0 h1 => zxl r1 r2 B W h0 h1
 generalize gL r1 r2 = R at hor ⊢
 go_enter Tryz.func96, Tryz.ntmps96
 go_wp2_with fail
 generalize ((w.alloc (.cells #[.string x.f0, .string x.f1, .string x.f2] 108)).alloc (.cells #[.string y.f0, .string y.f1, .string y.f2] 108)) = W0 at hb0 hz c0 c1 c2 c3 ⊢
 have hz1 := Nat.le_of_eq hz
 have hz2 := Nat.le_of_eq hz.symm
 clear hz
 go_region_held3 (fun W => W.cell? ⟨w.heap.size, 0, none⟩ = some (.string x.f0) ∧ W.cell? ⟨w.heap.size, 1, none⟩ = some (.string x.f1) ∧ W.cell? ⟨w.heap.size + 1, 0, none⟩ = some (.string y.f0) ∧ W.cell? ⟨w.heap.size + 1, 1, none⟩ = some (.string y.f1))
  (first | go_keep | exact ⟨YK hb2 c0, YK hb2 c1, YK hb2 c2, YK hb2 c3⟩)
  (first | (go_at_call 91; ((with_reducible refine (hc1 _).mono ?_); rintro e w2 ⟨rfl, nd, rfl⟩)) | (go_at_call 91; ((with_reducible refine (hc2 _).mono ?_); rintro e w2 ⟨rfl, nd, rfl⟩)) | (go_at_call 97; ((refine (hor _ _ (zyd _ _ _ _ _) (zye _ _ _ _ _)).mono ?_); rintro e w2 ⟨rfl, hb2⟩)))
 all_goals
  have hb3 := hb0.trans ((dz hb2).mono hb0.size)
  clear hb2 c0 c1 c2 c3
  go_wp2
  go_ret
  exact ⟨rfl, hb3⟩
set_option maxRecDepth 100000 in
set_option maxHeartbeats 1000000 in
theorem zjm (x y : qB) (w : World) :
  Calls Tryz.prog 101 #[.agg #[.string x.f0, .string x.f1, .int .i64 x.f2], .agg #[.string y.f0, .string y.f1, .int .i64 y.f2]] w fun e w' => e = .returned (.int .i64 (XR x y)) ∧ Below w.heap.size w w' := by
 unfold XR
 have hb0 : Below w.heap.size w ((w.alloc (.cells #[.string x.f0, .string x.f1, .int .i64 x.f2] 111)).alloc (.cells #[.string y.f0, .string y.f1, .int .i64 y.f2] 111)) := ((Below.refl _ w).alloc (Nat.le_refl _) _).alloc (by simp) _
 have hz : ((w.alloc (.cells #[.string x.f0, .string x.f1, .int .i64 x.f2] 111)).alloc (.cells #[.string y.f0, .string y.f1, .int .i64 y.f2] 111)).heap.size = w.heap.size + 2 := by simp
 have c0 : ((w.alloc (.cells #[.string x.f0, .string x.f1, .int .i64 x.f2] 111)).alloc (.cells #[.string y.f0, .string y.f1, .int .i64 y.f2] 111)).cell? ⟨w.heap.size, 0, none⟩ = some (.string x.f0) := by simp
 have c1 : ((w.alloc (.cells #[.string x.f0, .string x.f1, .int .i64 x.f2] 111)).alloc (.cells #[.string y.f0, .string y.f1, .int .i64 y.f2] 111)).cell? ⟨w.heap.size, 1, none⟩ = some (.string x.f1) := by simp
 have c2 : ((w.alloc (.cells #[.string x.f0, .string x.f1, .int .i64 x.f2] 111)).alloc (.cells #[.string y.f0, .string y.f1, .int .i64 y.f2] 111)).cell? ⟨w.heap.size + 1, 0, none⟩ = some (.string y.f0) := by simp
 have c3 : ((w.alloc (.cells #[.string x.f0, .string x.f1, .int .i64 x.f2] 111)).alloc (.cells #[.string y.f0, .string y.f1, .int .i64 y.f2] 111)).cell? ⟨w.heap.size + 1, 1, none⟩ = some (.string y.f1) := by simp
 have hc1 := fun W => xL.calls x.f0 y.f0 _ W (YV x.f0 y.f0)
 have hc2 := fun W => xL.calls x.f1 y.f1 _ W (YV x.f1 y.f1)
 generalize xD x.f0 y.f0 = r1 at hc1 ⊢
 generalize xD x.f1 y.f1 = r2 at hc2 ⊢
 have hor := fun B W h0 h1 => zxl r1 r2 B W h0 h1
 generalize gL r1 r2 = R at hor ⊢
 go_enter Tryz.func101, Tryz.ntmps101
 go_wp2_with fail
 generalize ((w.alloc (.cells #[.string x.f0, .string x.f1, .int .i64 x.f2] 111)).alloc (.cells #[.string y.f0, .string y.f1, .int .i64 y.f2] 111)) = W0 at hb0 hz c0 c1 c2 c3 ⊢
 have hz1 := Nat.le_of_eq hz
 have hz2 := Nat.le_of_eq hz.symm
 clear hz
 go_region_held3 (fun W => W.cell? ⟨w.heap.size, 0, none⟩ = some (.string x.f0) ∧ W.cell? ⟨w.heap.size, 1, none⟩ = some (.string x.f1) ∧ W.cell? ⟨w.heap.size + 1, 0, none⟩ = some (.string y.f0) ∧ W.cell? ⟨w.heap.size + 1, 1, none⟩ = some (.string y.f1))
  (first | go_keep | exact ⟨YK hb2 c0, YK hb2 c1, YK hb2 c2, YK hb2 c3⟩)
  (first | (go_at_call 91; ((with_reducible refine (hc1 _).mono ?_); rintro e w2 ⟨rfl, nd, rfl⟩)) | (go_at_call 91; ((with_reducible refine (hc2 _).mono ?_); rintro e w2 ⟨rfl, nd, rfl⟩)) | (go_at_call 97; ((refine (hor _ _ (zyd _ _ _ _ _) (zye _ _ _ _ _)).mono ?_); rintro e w2 ⟨rfl, hb2⟩)))
 all_goals
  have hb3 := hb0.trans ((dz hb2).mono hb0.size)
  clear hb2 c0 c1 c2 c3
  go_wp2
  go_ret
  exact ⟨rfl, hb3⟩
def zwt (l : List qJ) (w : World) (x : Value) (wr : World) : Prop :=
 ∃ k : Nat, x = .int .i64 k ∧ 1 ≤ k ∧ k ≤ l.length + 1 ∧ (∀ i, i + 1 < k → i + 1 < l.length → cmpL (vQ l (i : Int)) (vQ l ((i + 1 : Nat) : Int)) < 0) ∧ Below w.heap.size w wr
set_option maxRecDepth 100000 in
set_option maxHeartbeats 1000000 in
theorem zjn (A0 : Option Addr) (c0 : Nat) (l : List qJ) (w : World) (hr : Kd.C uV w A0 l.length l) (hl : l.length ≤ 1000000000) :
  Calls Tryz.prog 95 #[.slice A0 l.length c0, .func (.func 96) #[] #[]] w fun e w' => e = .returned (.bool (ZV (fun i j => cmpL (vQ l (i : Int)) (vQ l (j : Int))) l.length)) ∧ Below w.heap.size w w' := by
 generalize hV : ZV (fun i j => cmpL (vQ l (i : Int)) (vQ l (j : Int))) l.length = V
 have HV := Lib.hid hV
 clear hV
 go_enter Tryz.func95, Tryz.ntmps95
 go_wp2
 go_loopw [5] (fun x wr => zwt l w x wr) (fun x _ => l.length + 1 - (intOf x).toNat)
 case atStart => exact ⟨1, rfl, by omega, by omega, (fun i h => by omega), Below.refl _ _⟩
 case round =>
  obtain ⟨k, rfl, hk1, hk, hA, hb⟩ := hrel
  have HA := Lib.hid hA
  clear hA
  by_cases hlt : k < l.length
  ·obtain ⟨m, rfl⟩ : ∃ m, k = m + 1 := ⟨k - 1, by omega⟩
   have hC := Kd.zC hr hb
   obtain ⟨ad, e, HH0⟩ := Km hC (m : Int) (by omega) (by omega)
   obtain ⟨ad2, e2, HH1⟩ := Km hC ((m + 1 : Nat) : Int) (by omega) (by omega)
   cases e
   cases e2
   obtain ⟨h0, h1, h2⟩ := HH0
   obtain ⟨h3, h4, h5⟩ := HH1
   rw [Int.toNat_natCast] at h0 h1 h2 h3 h4 h5
   have hstep : ∀ i, i + 1 = m + 1 → cmpL (vQ l (i : Int)) (vQ l ((i + 1 : Nat) : Int)) = cmpL (vQ l (m : Int)) (vQ l ((m + 1 : Nat) : Int)) := fun i hi => by obtain rfl : i = m := (by omega); rfl
   have hbad : ¬ cmpL (vQ l (m : Int)) (vQ l ((m + 1 : Nat) : Int)) < 0 → V = false := fun h => by rw [← HV.out]; exact Q8 (i := m) (by omega) h
   have hcm := fun W => zjl (vQ l (m : Int)) (vQ l ((m + 1 : Nat) : Int)) W
   generalize vQ l (m : Int) = x at h0 h1 h2 hstep hcm hbad
   generalize vQ l ((m + 1 : Nat) : Int) = y at h3 h4 h5 hstep hcm hbad
   generalize cmpL x y = r at hcm hstep hbad
   have HS := Lib.hid hstep
   have HB := Lib.hid hbad
   have e1 : IntKind.i64.wrap (((m : Int) + 1) - 1) = (m : Int) := by rw [Int.add_sub_cancel]; exact IntWalk.i64_in _ (by omega)
   have q1 : (m : Int) < (l.length : Int) := by omega
   have q2 : (m : Int) + 1 < (l.length : Int) := by omega
   have q3 : ((m : Int) + 1).toNat = m + 1 := by omega
   have q4 : (0 : Int) ≤ (m : Int) + 1 := by omega
   clear hC hr hstep hbad
   have e0 : IntKind.i64.wrap (m : Int) = (m : Int) := IntWalk.i64_in _ (by omega)
   have q5 : (0 : Int) ≤ (m : Int) := by omega
   by_cases hr0 : r < 0
   ·have d1 : decide (0 ≤ r) = false := by simp; omega
    have HR := Lib.hid hr0
    clear hr0
    go_wp2_with fail
    go_region_held3 (fun W => W.cell? (ad.add (m * 3)) = some (.string x.f0) ∧ W.cell? ⟨(ad.add (m * 3)).block, (ad.add (m * 3)).off + 1, none⟩ = some (.string x.f1) ∧ W.cell? ⟨(ad.add (m * 3)).block, (ad.add (m * 3)).off + 2, none⟩ = some (.string x.f2) ∧ W.cell? (ad.add ((m + 1) * 3)) = some (.string y.f0) ∧ W.cell? ⟨(ad.add ((m + 1) * 3)).block, (ad.add ((m + 1) * 3)).off + 1, none⟩ = some (.string y.f1) ∧ W.cell? ⟨(ad.add ((m + 1) * 3)).block, (ad.add ((m + 1) * 3)).off + 2, none⟩ = some (.string y.f2)) (first | go_keep | exact ⟨(hb2.cell (World.block_lt_of_cell? wr _ h0)).trans h0, (hb2.cell (World.block_lt_of_cell? wr _ h1)).trans h1, (hb2.cell (World.block_lt_of_cell? wr _ h2)).trans h2, (hb2.cell (World.block_lt_of_cell? wr _ h3)).trans h3, (hb2.cell (World.block_lt_of_cell? wr _ h4)).trans h4, (hb2.cell (World.block_lt_of_cell? wr _ h5)).trans h5⟩) ((go_at_call 96; refine (hcm _).mono ?_; rintro e w2 ⟨rfl, hb2⟩))
    clear e0 e1
    have hb3 : Below w.heap.size w w2 := (hb.drew).trans (hb2.mono hb.size)
    clear hb2
    go_wp2
    refine ⟨⟨m + 1 + 1, by go_num, by omega, by omega, (fun i h1 h2 => ?_), hb3⟩, by simp [intOf]; omega⟩
    by_cases e : i + 1 = m + 1
    ·rw [HS.out i e]; exact HR.out
    ·exact HA.out i (by omega) h2
   ·have d1 : decide (0 ≤ r) = true := by simp; omega
    have hv : V = false := HB.out hr0
    have Vg := Lib.hid hv
    clear hr0 hv
    go_wp2_with fail
    go_region_held3 (fun W => W.cell? (ad.add (m * 3)) = some (.string x.f0) ∧ W.cell? ⟨(ad.add (m * 3)).block, (ad.add (m * 3)).off + 1, none⟩ = some (.string x.f1) ∧ W.cell? ⟨(ad.add (m * 3)).block, (ad.add (m * 3)).off + 2, none⟩ = some (.string x.f2) ∧ W.cell? (ad.add ((m + 1) * 3)) = some (.string y.f0) ∧ W.cell? ⟨(ad.add ((m + 1) * 3)).block, (ad.add ((m + 1) * 3)).off + 1, none⟩ = some (.string y.f1) ∧ W.cell? ⟨(ad.add ((m + 1) * 3)).block, (ad.add ((m + 1) * 3)).off + 2, none⟩ = some (.string y.f2)) (first | go_keep | exact ⟨(hb2.cell (World.block_lt_of_cell? wr _ h0)).trans h0, (hb2.cell (World.block_lt_of_cell? wr _ h1)).trans h1, (hb2.cell (World.block_lt_of_cell? wr _ h2)).trans h2, (hb2.cell (World.block_lt_of_cell? wr _ h3)).trans h3, (hb2.cell (World.block_lt_of_cell? wr _ h4)).trans h4, (hb2.cell (World.block_lt_of_cell? wr _ h5)).trans h5⟩) ((go_at_call 96; refine (hcm _).mono ?_; rintro e w2 ⟨rfl, hb2⟩))
    clear e0 e1
    have hb3 : Below w.heap.size w w2 := (hb.drew).trans (hb2.mono hb.size)
    clear hb2
    go_wp2
    go_ret
    exact ⟨by rw [Vg.out]; rfl, hb3⟩
  ·have hv : V = true := by rw [← HV.out]; exact Vf (fun i hi => HA.out i (by omega) hi)
   have Vg := Lib.hid hv
   have q1 : decide ((k : Int) < (l.length : Int)) = false := decide_eq_false (by omega)
   clear hv hr
   go_wp2
   go_ret
   exact ⟨by rw [Vg.out]; rfl, hb⟩
def zwu (l : List qB) (w : World) (x : Value) (wr : World) : Prop :=
 ∃ k : Nat, x = .int .i64 k ∧ 1 ≤ k ∧ k ≤ l.length + 1 ∧ (∀ i, i + 1 < k → i + 1 < l.length → XR (vX l (i : Int)) (vX l ((i + 1 : Nat) : Int)) < 0) ∧ Below w.heap.size w wr
set_option maxRecDepth 100000 in
set_option maxHeartbeats 1000000 in
theorem zjo (A0 : Option Addr) (c0 : Nat) (l : List qB) (w : World) (hr : Kd.C ug w A0 l.length l) (hl : l.length ≤ 1000000000) :
  Calls Tryz.prog 100 #[.slice A0 l.length c0, .func (.func 101) #[] #[]] w fun e w' => e = .returned (.bool (ZV (fun i j => XR (vX l (i : Int)) (vX l (j : Int))) l.length)) ∧ Below w.heap.size w w' := by
 generalize hV : ZV (fun i j => XR (vX l (i : Int)) (vX l (j : Int))) l.length = V
 have HV := Lib.hid hV
 clear hV
 go_enter Tryz.func100, Tryz.ntmps100
 go_wp2
 go_loopw [5] (fun x wr => zwu l w x wr) (fun x _ => l.length + 1 - (intOf x).toNat)
 case atStart => exact ⟨1, rfl, by omega, by omega, (fun i h => by omega), Below.refl _ _⟩
 case round =>
  obtain ⟨k, rfl, hk1, hk, hA, hb⟩ := hrel
  have HA := Lib.hid hA
  clear hA
  by_cases hlt : k < l.length
  ·obtain ⟨m, rfl⟩ : ∃ m, k = m + 1 := ⟨k - 1, by omega⟩
   have hC := Kd.zC hr hb
   obtain ⟨ad, e, HH0⟩ := Kn hC (m : Int) (by omega) (by omega)
   obtain ⟨ad2, e2, HH1⟩ := Kn hC ((m + 1 : Nat) : Int) (by omega) (by omega)
   cases e
   cases e2
   obtain ⟨h0, h1, h2⟩ := HH0
   obtain ⟨h3, h4, h5⟩ := HH1
   rw [Int.toNat_natCast] at h0 h1 h2 h3 h4 h5
   have hstep : ∀ i, i + 1 = m + 1 → XR (vX l (i : Int)) (vX l ((i + 1 : Nat) : Int)) = XR (vX l (m : Int)) (vX l ((m + 1 : Nat) : Int)) := fun i hi => by obtain rfl : i = m := (by omega); rfl
   have hbad : ¬ XR (vX l (m : Int)) (vX l ((m + 1 : Nat) : Int)) < 0 → V = false := fun h => by rw [← HV.out]; exact Q8 (i := m) (by omega) h
   have hcm := fun W => zjm (vX l (m : Int)) (vX l ((m + 1 : Nat) : Int)) W
   generalize vX l (m : Int) = x at h0 h1 h2 hstep hcm hbad
   generalize vX l ((m + 1 : Nat) : Int) = y at h3 h4 h5 hstep hcm hbad
   generalize XR x y = r at hcm hstep hbad
   have HS := Lib.hid hstep
   have HB := Lib.hid hbad
   have e1 : IntKind.i64.wrap (((m : Int) + 1) - 1) = (m : Int) := by rw [Int.add_sub_cancel]; exact IntWalk.i64_in _ (by omega)
   have q1 : (m : Int) < (l.length : Int) := by omega
   have q2 : (m : Int) + 1 < (l.length : Int) := by omega
   have q3 : ((m : Int) + 1).toNat = m + 1 := by omega
   have q4 : (0 : Int) ≤ (m : Int) + 1 := by omega
   clear hC hr hstep hbad
   have e0 : IntKind.i64.wrap (m : Int) = (m : Int) := IntWalk.i64_in _ (by omega)
   have q5 : (0 : Int) ≤ (m : Int) := by omega
   by_cases hr0 : r < 0
   ·have d1 : decide (0 ≤ r) = false := by simp; omega
    have HR := Lib.hid hr0
    clear hr0
    go_wp2_with fail
    go_region_held3 (fun W => W.cell? (ad.add (m * 3)) = some (.string x.f0) ∧ W.cell? ⟨(ad.add (m * 3)).block, (ad.add (m * 3)).off + 1, none⟩ = some (.string x.f1) ∧ W.cell? ⟨(ad.add (m * 3)).block, (ad.add (m * 3)).off + 2, none⟩ = some (.int .i64 x.f2) ∧ W.cell? (ad.add ((m + 1) * 3)) = some (.string y.f0) ∧ W.cell? ⟨(ad.add ((m + 1) * 3)).block, (ad.add ((m + 1) * 3)).off + 1, none⟩ = some (.string y.f1) ∧ W.cell? ⟨(ad.add ((m + 1) * 3)).block, (ad.add ((m + 1) * 3)).off + 2, none⟩ = some (.int .i64 y.f2)) (first | go_keep | exact ⟨(hb2.cell (World.block_lt_of_cell? wr _ h0)).trans h0, (hb2.cell (World.block_lt_of_cell? wr _ h1)).trans h1, (hb2.cell (World.block_lt_of_cell? wr _ h2)).trans h2, (hb2.cell (World.block_lt_of_cell? wr _ h3)).trans h3, (hb2.cell (World.block_lt_of_cell? wr _ h4)).trans h4, (hb2.cell (World.block_lt_of_cell? wr _ h5)).trans h5⟩) ((go_at_call 101; refine (hcm _).mono ?_; rintro e w2 ⟨rfl, hb2⟩))
    clear e0 e1
    have hb3 : Below w.heap.size w w2 := (hb.drew).trans (hb2.mono hb.size)
    clear hb2
    go_wp2
    refine ⟨⟨m + 1 + 1, by go_num, by omega, by omega, (fun i h1 h2 => ?_), hb3⟩, by simp [intOf]; omega⟩
    by_cases e : i + 1 = m + 1
    ·rw [HS.out i e]; exact HR.out
    ·exact HA.out i (by omega) h2
   ·have d1 : decide (0 ≤ r) = true := by simp; omega
    have hv : V = false := HB.out hr0
    have Vg := Lib.hid hv
    clear hr0 hv
    go_wp2_with fail
    go_region_held3 (fun W => W.cell? (ad.add (m * 3)) = some (.string x.f0) ∧ W.cell? ⟨(ad.add (m * 3)).block, (ad.add (m * 3)).off + 1, none⟩ = some (.string x.f1) ∧ W.cell? ⟨(ad.add (m * 3)).block, (ad.add (m * 3)).off + 2, none⟩ = some (.int .i64 x.f2) ∧ W.cell? (ad.add ((m + 1) * 3)) = some (.string y.f0) ∧ W.cell? ⟨(ad.add ((m + 1) * 3)).block, (ad.add ((m + 1) * 3)).off + 1, none⟩ = some (.string y.f1) ∧ W.cell? ⟨(ad.add ((m + 1) * 3)).block, (ad.add ((m + 1) * 3)).off + 2, none⟩ = some (.int .i64 y.f2)) (first | go_keep | exact ⟨(hb2.cell (World.block_lt_of_cell? wr _ h0)).trans h0, (hb2.cell (World.block_lt_of_cell? wr _ h1)).trans h1, (hb2.cell (World.block_lt_of_cell? wr _ h2)).trans h2, (hb2.cell (World.block_lt_of_cell? wr _ h3)).trans h3, (hb2.cell (World.block_lt_of_cell? wr _ h4)).trans h4, (hb2.cell (World.block_lt_of_cell? wr _ h5)).trans h5⟩) ((go_at_call 101; refine (hcm _).mono ?_; rintro e w2 ⟨rfl, hb2⟩))
    clear e0 e1
    have hb3 : Below w.heap.size w w2 := (hb.drew).trans (hb2.mono hb.size)
    clear hb2
    go_wp2
    go_ret
    exact ⟨by rw [Vg.out]; rfl, hb3⟩
  ·have hv : V = true := by rw [← HV.out]; exact Vf (fun i hi => HA.out i (by omega) hi)
   have Vg := Lib.hid hv
   have q1 : decide ((k : Int) < (l.length : Int)) = false := decide_eq_false (by omega)
   clear hv hr
   go_wp2
   go_ret
   exact ⟨by rw [Vg.out]; rfl, hb⟩
end Go.Proofs.YtggifbbiiickmaaGreatDoor
namespace Go.Proofs.YtggifbbiiickmaaGreatDoor.PX
open Go.RowKit Go.Proofs.zk.zK Go.Proofs.zk.yQ Go.Proofs.zk.yX
attribute [local go_sem] jZ jQ jL jM uD uE jX jJ   -- for this text's walks alone
set_option linter.unusedVariables false
set_option linter.unusedSimpArgs false
def jV.l0 : Nat → List ByteArray → Int → Int → ByteArray → Bool → Int → List (yB) → List (qJ) → List (qB) → Option (Bool)
 | 0, _, _, _, _, _, _, _, _, _ => none
 | k + 1, x9, x10, dw, ay, aZ, aQ, aX, aJ, aV => if dw < x10 then (if 0 ≤ dw then (if dw < (x9.length : Int) then ((uU.f ay aZ aQ aX aJ aV (jH ByteArray.empty x9 dw)).bind fun zwA => (if zwA.2 = true then (jV.l0 k x9 x10 (wrap64 (dw + 1)) ay aZ aQ aX aJ aV) else (some false))) else (none)) else (none)) else (some true)
def jV.f (k : Nat) (zI : ByteArray) (zM : Bool) (zL : Int) (zS : List (yB)) (yt : List (qJ)) (yu : List (qB)) (l1 : List ByteArray) : Option (Bool) := jV.l0 k l1 (l1.length : Int) 0 zI zM zL zS yt yu
set_option maxHeartbeats 8000000 in
set_option maxRecDepth 100000 in
theorem jV.calls (k : Nat) (zI : ByteArray) (zM : Bool) (zL : Int) (qP : Option Addr) (qR : Nat) (zS : List (yB)) (xq : Option Addr) (xk : Nat) (yt : List (qJ)) (xw : Option Addr) (xZ : Nat) (yu : List (qB)) (A1 : Option Addr) (c1 : Nat) (l1 : List ByteArray) (r : Bool) (w : World) (wC : Kd.C xB w qP zS.length zS) (Y6 : zS.length ≤ qR) (Y7 : Kd.C uV w xq yt.length yt) (Y8 : yt.length ≤ xk) (Y9 : Kd.C ug w xw yu.length yu) (Xz : yu.length ≤ xZ) (hr1 : Kd.C Kd.string w A1 l1.length l1) (hc1 : l1.length ≤ c1) (hG : GW w) (h : jV.f k zI zM zL zS yt yu l1 = some r) :
  Calls Tryz.prog 94 #[.agg #[.string zI, .bool zM, .int .i64 zL, .slice qP zS.length qR, .slice xq yt.length xk, .slice xw yu.length xZ], .slice A1 l1.length c1] w fun e w' => e = .returned (.bool r) ∧ Below w.heap.size w w' := by
 have zyf := Tryz.underlying60
 have HG := zx.mk hG
 clear hG
 have Yi := zx.mk wC
 have Xq := zx.mk Y6
 clear wC Y6
 have Xx := zx.mk Y7
 have Xj := zx.mk Y8
 clear Y7 Y8
 have Xv := zx.mk Y9
 have Xk := zx.mk Xz
 clear Y9 Xz
 have HR1 := zx.mk hr1
 have HC1 := zx.mk hc1
 clear hr1 hc1
 have HB := zx.mk (Below.refl w.heap.size w)
 have H : (jV.l0 k l1 (l1.length : Int) 0 zI zM zL zS yt yu) = some r := h
 clear h
 have H' := zx.mk H
 clear H
 go_enter Tryz.func94, Tryz.ntmps94
 go_wp2_with (first | ((with_reducible refine qw (N := 2) rfl ?_); refine qL ?hg (N := 2) ?hd (cs := #[.string zI, .bool zM, .int .i64 zL, .slice qP zS.length qR, .slice xq yt.length xk, .slice xw yu.length xZ]) (t := 60) ?hr ?_; (case hd => rfl); (case hg => rfl); (case hr => first | (go_simp; done) | (go_simp; rfl)); intro wJ hg w3 qN hb; have zX := zx.mk (zA (zB HB.out) hb); have zV := zx.mk (qN); have zf := zx.mk ((by rw [hg]; exact (zW (zB HB.out)) : w.heap.size ≤ wJ)); have zu := zx.mk ((by rw [hg]; exact (zW (zB HB.out)) : w.heap.size ≤ wJ)); clear HB; have HB := zX; have vG := zV; have zK3 := zf; have zvH := zu; clear zX zV zf zu; clear hb qN hg))
 go_loopg [11] k (fun kq v11 w' => ∃ (je : Int), v11 = .int .i64 je ∧ zx (jV.l0 kq l1 (l1.length : Int) je zI zM zL zS yt yu = some r) ∧ zx (kq ≤ k) ∧ zx (w'.heap[wJ]? = some (.cells #[.string zI, .bool zM, .int .i64 zL, (.slice qP zS.length qR), (.slice xq yt.length xk), (.slice xw yu.length xZ)] 60 (0, 0))) ∧ zx (Below w.heap.size w w'))
 case atStart => exact ⟨(0), (by first | rfl | (simp; done) | (simp [*]; done)), H', ⟨Nat.le_refl _⟩, ⟨zU vG.out⟩, ⟨zB HB.out⟩⟩
 case round =>
  clear H'
  try clear c1
  try clear p2
  obtain ⟨je, rfl, HA, Xc, vG, HB⟩ := hrel
  cases gk with
  | zero => exact absurd HA.out (by simp [jV.l0])
  | succ k1 =>
   have H := HA.out
   clear HA
   simp only [jV.l0] at H
   by_cases c4 : je < (l1.length : Int)
   ·rw [if_pos c4] at H
    have Xg : decide (je < (l1.length : Int)) = true := decide_eq_true c4
    clear c4
    by_cases c5 : 0 ≤ je
    ·rw [if_pos c5] at H
     have UG : decide (0 ≤ je) = true := decide_eq_true c5
     clear c5
     by_cases c6 : je < (l1.length : Int)
     ·rw [if_pos c6] at H
      have YO : decide (je < (l1.length : Int)) = true := decide_eq_true c6
      clear c6
      replace H := Option.bind_eq_some_iff.mp H
      obtain ⟨⟨zyg, zyh⟩, A70, H⟩ := H
      replace H : (if zyh = true then (jV.l0 k1 l1 (l1.length : Int) (wrap64 (je + 1)) zI zM zL zS yt yu) else (some false)) = some r := H
      have A7 := zx.mk A70
      clear A70
      by_cases c8 : zyh = true
      ·subst c8
       have H1 : (jV.l0 k1 l1 (l1.length : Int) (wrap64 (je + 1)) zI zM zL zS yt yu) = some r := by rw [if_pos rfl] at H; exact H
       clear H
       have H := H1
       clear H1
       have H' := zx.mk H
       clear H
       have UM : 0 ≤ (je : Int) := of_decide_eq_true (by first | (with_reducible assumption) | assumption)
       have UN : je < (l1.length : Int) := of_decide_eq_true (by first | (with_reducible assumption) | assumption)
       obtain ⟨zwB, zjr, YP⟩ := Kd.wQ HR1.out je UM UN
       cases zjr
       replace YP := (HB.out.cell (World.block_lt_of_cell? w _ YP)).trans YP
       replace UM := eq_true UM
       replace UN := eq_true UN
       have zKX : wr.cell? ⟨wJ, 0, none⟩ = some (.string zI) := (zy vG.out 0).trans rfl
       have zKJ : wr.cell? ⟨wJ, 1, none⟩ = some (.bool zM) := (zy vG.out 1).trans rfl
       have zKV : wr.cell? ⟨wJ, 2, none⟩ = some (.int .i64 zL) := (zy vG.out 2).trans rfl
       have zKK : wr.cell? ⟨wJ, 3, none⟩ = some (.slice qP zS.length qR) := (zy vG.out 3).trans rfl
       have zKY : wr.cell? ⟨wJ, 4, none⟩ = some (.slice xq yt.length xk) := (zy vG.out 4).trans rfl
       have zKW : wr.cell? ⟨wJ, 5, none⟩ = some (.slice xw yu.length xZ) := (zy vG.out 5).trans rfl
       have zKa := zw vG.out 0
       have zKb := zw vG.out 1
       have zKc := zw vG.out 2
       have zKd := zw vG.out 3
       have zKe := zw vG.out 4
       have zKf := zw vG.out 5
       go_wp2_with (first | ((with_reducible refine yL (f := 64) rfl ?_); refine kF (some 18) Tryz.func64 #[.agg #[.string zI, .bool zM, .int .i64 zL, .slice qP zS.length qR, .slice xq yt.length xk, .slice xw yu.length xZ], .string (jH ByteArray.empty l1 je)] ?_; (with_reducible refine (uU.calls zI zM zL _ _ zS _ _ yt _ _ yu (jH ByteArray.empty l1 je) zyg true _ ?yO ?qd ?q8 ?q9 ?uK ?uY ?uW A7.out).mono ?_); (case yO => repeat (first | exact (Kd.zC Yi.out HB.out) | (with_reducible refine Kd.yJ ?_ _) | (with_reducible refine Kd.yV ?_ _) | (with_reducible refine Kd.yH ?_))); (case qd => exact Xq.out); (case q8 => repeat (first | exact (Kd.zC Xx.out HB.out) | (with_reducible refine Kd.yJ ?_ _) | (with_reducible refine Kd.yV ?_ _) | (with_reducible refine Kd.yH ?_))); (case q9 => exact Xj.out); (case uK => repeat (first | exact (Kd.zC Xv.out HB.out) | (with_reducible refine Kd.yJ ?_ _) | (with_reducible refine Kd.yV ?_ _) | (with_reducible refine Kd.yH ?_))); (case uY => exact Xk.out); (case uW => exact GW.under HG.out (zB HB.out)); rintro e Uh ⟨rfl, hb⟩; refine ⟨_, rfl, ?_⟩; have zX := zx.mk (zm (g := wJ) (o := .cells #[.string zI, .bool zM, .int .i64 zL, .slice qP zS.length qR, .slice xq yt.length xk, .slice xw yu.length xZ] 60 (0, 0)) (zU vG.out) hb); have zV := zx.mk (zA (zB HB.out) hb); clear vG; clear HB; have vG := zX; have HB := zV; clear zX zV; (try clear hb); (try clear hb2); (try clear hk); (try clear hi)))
       go_roundg k1
       case measure => have := Xc.out; omega
       case rel => exact ⟨(wrap64 (je + 1)), (by first | rfl | (simp; done) | (simp [*]; done)), H', ⟨by have := Xc.out; omega⟩, ⟨zU vG.out⟩, ⟨zB HB.out⟩⟩
      ·replace c8 := Bool.eq_false_iff.mpr c8
       subst c8
       have H1 : (some false) = some r := by rw [if_neg (show ¬ (false = true) by decide)] at H; exact H
       clear H
       have H := H1
       clear H1
       obtain rfl := Option.some.inj H
       have UM : 0 ≤ (je : Int) := of_decide_eq_true (by first | (with_reducible assumption) | assumption)
       have UN : je < (l1.length : Int) := of_decide_eq_true (by first | (with_reducible assumption) | assumption)
       obtain ⟨zwB, zjr, YP⟩ := Kd.wQ HR1.out je UM UN
       cases zjr
       replace YP := (HB.out.cell (World.block_lt_of_cell? w _ YP)).trans YP
       replace UM := eq_true UM
       replace UN := eq_true UN
       have zJy : wr.cell? ⟨wJ, 0, none⟩ = some (.string zI) := (zy vG.out 0).trans rfl
       have zJw : wr.cell? ⟨wJ, 1, none⟩ = some (.bool zM) := (zy vG.out 1).trans rfl
       have zJZ : wr.cell? ⟨wJ, 2, none⟩ = some (.int .i64 zL) := (zy vG.out 2).trans rfl
       have zJQ : wr.cell? ⟨wJ, 3, none⟩ = some (.slice qP zS.length qR) := (zy vG.out 3).trans rfl
       have zJX : wr.cell? ⟨wJ, 4, none⟩ = some (.slice xq yt.length xk) := (zy vG.out 4).trans rfl
       have zJJ : wr.cell? ⟨wJ, 5, none⟩ = some (.slice xw yu.length xZ) := (zy vG.out 5).trans rfl
       have zJV := zw vG.out 0
       have zJK := zw vG.out 1
       have zJY := zw vG.out 2
       have zJW := zw vG.out 3
       have zJa := zw vG.out 4
       have zJb := zw vG.out 5
       go_wp2_with (first | ((with_reducible refine yL (f := 64) rfl ?_); refine kF (some 18) Tryz.func64 #[.agg #[.string zI, .bool zM, .int .i64 zL, .slice qP zS.length qR, .slice xq yt.length xk, .slice xw yu.length xZ], .string (jH ByteArray.empty l1 je)] ?_; (with_reducible refine (uU.calls zI zM zL _ _ zS _ _ yt _ _ yu (jH ByteArray.empty l1 je) zyg false _ ?yO ?qd ?q8 ?q9 ?uK ?uY ?uW A7.out).mono ?_); (case yO => repeat (first | exact (Kd.zC Yi.out HB.out) | (with_reducible refine Kd.yJ ?_ _) | (with_reducible refine Kd.yV ?_ _) | (with_reducible refine Kd.yH ?_))); (case qd => exact Xq.out); (case q8 => repeat (first | exact (Kd.zC Xx.out HB.out) | (with_reducible refine Kd.yJ ?_ _) | (with_reducible refine Kd.yV ?_ _) | (with_reducible refine Kd.yH ?_))); (case q9 => exact Xj.out); (case uK => repeat (first | exact (Kd.zC Xv.out HB.out) | (with_reducible refine Kd.yJ ?_ _) | (with_reducible refine Kd.yV ?_ _) | (with_reducible refine Kd.yH ?_))); (case uY => exact Xk.out); (case uW => exact GW.under HG.out (zB HB.out)); rintro e w12 ⟨rfl, hb⟩; refine ⟨_, rfl, ?_⟩; have zX := zx.mk (zm (g := wJ) (o := .cells #[.string zI, .bool zM, .int .i64 zL, .slice qP zS.length qR, .slice xq yt.length xk, .slice xw yu.length xZ] 60 (0, 0)) (zU vG.out) hb); have zV := zx.mk (zA (zB HB.out) hb); clear vG; clear HB; have vG := zX; have HB := zV; clear zX zV; (try clear hb); (try clear hb2); (try clear hk); (try clear hi)))
       go_ret
       exact ⟨by first | rfl | (simp [zG, zH] <;> rfl) | (simp [*, zG, zH] <;> rfl), by repeat (first | (with_reducible first | exact HB.out | apply yj | apply zN | apply yY | refine qb ?_ zvH.out) | exact HB.out)⟩
     ·rw [if_neg c6] at H
      exact absurd H (by simp)
    ·rw [if_neg c5] at H
     exact absurd H (by simp)
   ·rw [if_neg c4] at H
    have Xg : decide (je < (l1.length : Int)) = false := decide_eq_false c4
    clear c4
    obtain rfl := Option.some.inj H
    go_wp2
    go_ret
    exact ⟨by first | rfl | (simp [zG, zH] <;> rfl) | (simp [*, zG, zH] <;> rfl), by repeat (first | (with_reducible first | exact HB.out | apply yj | apply zN | apply yY | refine qb ?_ zvH.out) | exact HB.out)⟩
end Go.Proofs.YtggifbbiiickmaaGreatDoor.PX
namespace Go.Proofs.YtggifbbiiickmaaGreatDoor
open Go.RowKit Go.Shelf Go.Proofs.zk.zK Go.Proofs.zk.yX Go.Proofs.YtggifbbiiickmaaGreatDoor.PX
instance : Inhabited yB := ⟨z105⟩
instance : Inhabited qJ := ⟨zjK⟩
instance : Inhabited qB := ⟨zjY⟩
def kQ (x : yB) : List Value := [.string x.f0, .int .i64 x.f1]
def gM (x : qJ) : List Value := [.string x.f0, .string x.f1, .string x.f2]
def gN (x : qB) : List Value := [.string x.f0, .string x.f1, .int .i64 x.f2]
theorem UO {α : Type} [Inhabited α] (d : Kd α) (enc : α → List Value) (hopen : ∀ (w : World) (x : α) (c : List Value), d.K w x c → c = enc x) (hne : ∀ x, enc x ≠ []) {w : World} {A : Option Addr} {l : List α} (h : Kd.C d w A l.length l) (h0 : l ≠ []) :
  ∃ b off, A = some ⟨b, off, none⟩ ∧ b < w.heap.size ∧ ∀ j, j < l.length → ∀ i v, (enc l[j]!)[i]? = some v → w.cell? ⟨b, off + j * d.sz + i, none⟩ = some v := by
 have hl : 0 < l.length := List.length_pos_iff.2 h0
 obtain ⟨_, _, h3⟩ := h
 obtain ⟨ad, rfl, hc⟩ := h3 hl
 obtain ⟨b, off, spot⟩ := ad
 have hcell : ∀ j, j < l.length → ∀ i v, (enc l[j]!)[i]? = some v → w.cell? ((⟨b, off, spot⟩ : Addr).add (j * d.sz + i)) = some v := by
  intro j hj i v hv
  obtain ⟨c, _, hK, hcc⟩ := hc j l[j] (List.getElem?_eq_getElem hj)
  have e := hopen w _ c hK
  rw [getElem!_pos l j hj, ← e] at hv
  exact hcc i v hv
 obtain ⟨v, hv⟩ : ∃ v, (enc l[0]!)[0]? = some v := by
  cases he : enc l[0]! with
  | nil => exact absurd he (hne _)
  | cons v r => exact ⟨v, rfl⟩
 have hc0 := hcell 0 hl 0 v hv
 have hspot : spot = none := by simpa [Addr.add] using World.cell?_spot hc0
 subst hspot
 refine ⟨b, off, rfl, ?_, fun j hj i v hv => ?_⟩
 ·have := World.block_lt_of_cell? w _ hc0
  simpa [Addr.add] using this
 ·have := hcell j hj i v hv
  rwa [Addr.add_lit, ← Nat.add_assoc] at this
set_option maxRecDepth 100000 in
theorem zxm (A0 : Option Addr) (c0 : Nat) (fv : Value) (w : World) : Calls Tryz.prog 130 #[.slice A0 0 c0, fv] w fun e w' => e = .returned (.int .i64 (-1)) ∧ Below w.heap.size w w' := by
 go_enter Tryz.func130, Tryz.ntmps130
 go_wp2
 go_loop [8] (fun i => i = .int .i64 0) (fun _ => 0)
 case atStart => rfl
 case round =>
  obtain rfl := hrel
  go_wp2
  go_ret
  exact ⟨rfl, Below.refl _ _⟩
set_option maxRecDepth 100000 in
theorem gP (A0 : Option Addr) (c0 : Nat) (l : List yB) (w : World) (hr : Kd.C xB w A0 l.length l) (hl : l.length ≤ 1000000000) (p : yB → Bool) (g : Nat) (lb : Array Value) (eg : ∀ args w, (callFunc g args).run Tryz.prog w = .ok (.enter g args) w)
  (hp : PredBelow Tryz.prog g lb (fun x => .agg (kQ x).toArray) p w) :
  Calls Tryz.prog 86 #[.slice A0 l.length c0, .func (.func g) #[] lb] w fun e w' => e = .returned (.bool (l.any p)) ∧ Below w.heap.size w w' := by
 by_cases h0 : l = []
 ·subst h0
  have h := zxm A0 c0 (.func (.func g) #[] lb) w
  go_enter Tryz.func86, Tryz.ntmps86
  go_wp2_with (go_at_call 130; refine h.mono ?_; rintro e w1 ⟨rfl, hb⟩)
  go_ret
  exact ⟨rfl, hb⟩
 ·obtain ⟨b, off, rfl, hb, hc⟩ := UO xB kQ (fun w x c h => bU h) (fun x => by simp [kQ]) hr h0
  have := AnyQ.slices_ContainsFunc Tryz.hasG 2 Tryz.isAgg105 Tryz.sizeOf105 kQ (fun _ => rfl) p g lb eg b off l.length c0 l w hp (Nat.le_refl _) (by omega) hb hc
  rw [List.take_length] at this
  exact this
set_option maxRecDepth 100000 in
theorem zxn (A0 : Option Addr) (c0 : Nat) (fv : Value) (w : World) : Calls Tryz.prog 133 #[.slice A0 0 c0, fv] w fun e w' => e = .returned (.int .i64 (-1)) ∧ Below w.heap.size w w' := by
 go_enter Tryz.func133, Tryz.ntmps133
 go_wp2
 go_loop [8] (fun i => i = .int .i64 0) (fun _ => 0)
 case atStart => rfl
 case round =>
  obtain rfl := hrel
  go_wp2
  go_ret
  exact ⟨rfl, Below.refl _ _⟩
set_option maxRecDepth 100000 in
theorem zjs (A0 : Option Addr) (c0 : Nat) (l : List qJ) (w : World) (hr : Kd.C uV w A0 l.length l) (hl : l.length ≤ 1000000000) (p : qJ → Bool) (g : Nat) (lb : Array Value) (eg : ∀ args w, (callFunc g args).run Tryz.prog w = .ok (.enter g args) w)
  (hp : PredBelow Tryz.prog g lb (fun x => .agg (gM x).toArray) p w) :
  Calls Tryz.prog 92 #[.slice A0 l.length c0, .func (.func g) #[] lb] w fun e w' => e = .returned (.bool (l.any p)) ∧ Below w.heap.size w w' := by
 by_cases h0 : l = []
 ·subst h0
  have h := zxn A0 c0 (.func (.func g) #[] lb) w
  go_enter Tryz.func92, Tryz.ntmps92
  go_wp2_with (go_at_call 133; refine h.mono ?_; rintro e w1 ⟨rfl, hb⟩)
  go_ret
  exact ⟨rfl, hb⟩
 ·obtain ⟨b, off, rfl, hb, hc⟩ := UO uV gM (fun w x c h => cZ h) (fun x => by simp [gM]) hr h0
  have := AnyQ.slices_ContainsFunc Tryz.hasL 3 Tryz.isAgg108 Tryz.sizeOf108 gM (fun _ => rfl) p g lb eg b off l.length c0 l w hp (Nat.le_refl _) (by omega) hb hc
  rw [List.take_length] at this
  exact this
set_option maxRecDepth 100000 in
theorem zxo (A0 : Option Addr) (c0 : Nat) (fv : Value) (w : World) : Calls Tryz.prog 134 #[.slice A0 0 c0, fv] w fun e w' => e = .returned (.int .i64 (-1)) ∧ Below w.heap.size w w' := by
 go_enter Tryz.func134, Tryz.ntmps134
 go_wp2
 go_loop [8] (fun i => i = .int .i64 0) (fun _ => 0)
 case atStart => rfl
 case round =>
  obtain rfl := hrel
  go_wp2
  go_ret
  exact ⟨rfl, Below.refl _ _⟩
set_option maxRecDepth 100000 in
theorem zjt (A0 : Option Addr) (c0 : Nat) (l : List qB) (w : World) (hr : Kd.C ug w A0 l.length l) (hl : l.length ≤ 1000000000) (p : qB → Bool) (g : Nat) (lb : Array Value) (eg : ∀ args w, (callFunc g args).run Tryz.prog w = .ok (.enter g args) w)
  (hp : PredBelow Tryz.prog g lb (fun x => .agg (gN x).toArray) p w) :
  Calls Tryz.prog 99 #[.slice A0 l.length c0, .func (.func g) #[] lb] w fun e w' => e = .returned (.bool (l.any p)) ∧ Below w.heap.size w w' := by
 by_cases h0 : l = []
 ·subst h0
  have h := zxo A0 c0 (.func (.func g) #[] lb) w
  go_enter Tryz.func99, Tryz.ntmps99
  go_wp2_with (go_at_call 134; refine h.mono ?_; rintro e w1 ⟨rfl, hb⟩)
  go_ret
  exact ⟨rfl, hb⟩
 ·obtain ⟨b, off, rfl, hb, hc⟩ := UO ug gN (fun w x c h => cB h) (fun x => by simp [gN]) hr h0
  have := AnyQ.slices_ContainsFunc Tryz.hasK 3 Tryz.isAgg111 Tryz.sizeOf111 gN (fun _ => rfl) p g lb eg b off l.length c0 l w hp (Nat.le_refl _) (by omega) hb hc
  rw [List.take_length] at this
  exact this
def Xu (n : Int) : Bool := decide (n < 0) || decide (3000 < n)
set_option maxRecDepth 100000 in
theorem gT (n : Int) (w : World) : Calls Tryz.prog 84 #[.int .i64 n] w fun e w' => e = .returned (.bool (Xu n)) ∧ w' = w := by
 unfold Xu
 by_cases h1 : n < 0
 ·have d1 : decide (n < 0) = true := decide_eq_true h1
  rw [d1]; clear h1
  go_enter Tryz.func84, Tryz.ntmps84
  go_wp2
  go_ret
  exact ⟨rfl, rfl⟩
 ·have d1 : decide (n < 0) = false := decide_eq_false h1
  rw [d1]; clear h1
  cases hd : decide (3000 < n) with
  | true =>
   go_enter Tryz.func84, Tryz.ntmps84
   go_wp2
   go_ret
   exact ⟨rfl, rfl⟩
  | false =>
   go_enter Tryz.func84, Tryz.ntmps84
   go_wp2
   go_ret
   exact ⟨rfl, rfl⟩
def Ku (x : yB) : Bool := !Y5 x.f0.data.toList || Xu x.f1
set_option maxRecDepth 100000 in
theorem zju (B : Nat) (w : World) (hB : w.cell? ⟨B, 0, none⟩ = some (.func (.func 84) #[] #[])) :
  PredBelow Tryz.prog 87 #[.pointer (some ⟨B, 0, none⟩)] (fun x => .agg (kQ x).toArray) Ku w := fun W x hb => by
 have hl := World.block_lt_of_cell? w _ hB
 have hc : W.cell? ⟨B, 0, none⟩ = some (.func (.func 84) #[] #[]) := (hb.cell hl).trans hB
 have hlW : B < W.heap.size := Nat.lt_of_lt_of_le hl hb.size
 show Calls Tryz.prog 87 #[.agg #[.string x.f0, .int .i64 x.f1], .pointer (some ⟨B, 0, none⟩)] W _
 have hb0 : Below w.heap.size w (W.alloc (.cells #[.string x.f0, .int .i64 x.f1] 105)) := hb.alloc hb.size _
 have hbW : Below W.heap.size W (W.alloc (.cells #[.string x.f0, .int .i64 x.f1] 105)) := (Below.refl _ W).alloc (Nat.le_refl _) _
 have hn := zxf x.f0 (W.alloc (.cells #[.string x.f0, .int .i64 x.f1] 105))
 have hw := fun W => gT x.f1 W
 have hv : Ku x = (!Y5 x.f0.data.toList || Xu x.f1) := rfl
 rw [hv]
 clear hv hb
 generalize Y5 x.f0.data.toList = b1 at hn ⊢
 generalize Xu x.f1 = b2 at hw ⊢
 cases b1 with
 | false =>
  go_enter Tryz.func87, Tryz.ntmps87
  go_wp2_with (go_at_call 88; refine hn.mono ?_; rintro e w1 ⟨rfl, hb1⟩)
  go_ret
  exact ⟨rfl, hb0.trans (hb1.mono hb0.size)⟩
 | true =>
  go_enter Tryz.func87, Tryz.ntmps87
  go_wp2_with (first | (go_at_call 88; refine hn.mono ?_; rintro e w1 ⟨rfl, hb1⟩; have hc1 := (hb1.cell (p := ⟨B, 0, none⟩) (by simp; omega)).trans ((hbW.cell (p := ⟨B, 0, none⟩) hlW).trans hc); have k1 := (hb1.cell (p := ⟨W.heap.size, 1, none⟩) (by simp)).trans (zyc W (.string x.f0) (.int .i64 x.f1) _)) | (go_at_call 84; refine (hw _).mono ?_; rintro e w2 ⟨rfl, rfl⟩))
  go_ret
  exact ⟨by first | rfl | (cases b2 <;> rfl), hb0.trans (hb1.mono hb0.size)⟩
def UR (l : List yB) (ns : List ByteArray) : Bool := ns.all fun n => (Ze l n).2
theorem zwC (a : ByteArray) (b : Bool) (c : Int) (l3 : List yB) (l4 : List qJ) (l5 : List qB) (h3 : l3.length ≤ 1000000000) (ns : List ByteArray) (hn : ns.length ≤ 1000) : ∀ (d i : Nat), i + d = ns.length →
  Ev (fun k => jV.l0 k ns (ns.length : Int) (i : Int) a b c l3 l4 l5) (UR l3 (ns.drop i)) := by
 intro d
 induction d with
 | zero =>
  intro i h
  rw [List.drop_eq_nil_of_le (by omega)]
  refine Ev.step (fun k => by rw [jV.l0]) ?_
  exact jP (by omega) (Ev.now _)
 | succ d ih =>
  intro i h
  have hi : i < ns.length := by omega
  have e2 : wrap64 ((i : Int) + 1) = ((i + 1 : Nat) : Int) := by rw [ZG (by omega) (by omega)]; rfl
  have hg : jH ByteArray.empty ns (i : Int) = ns[i] := by rw [zjc, List.getD_eq_getElem?_getD, List.getElem?_eq_getElem hi]; rfl
  have hd : ns.drop i = ns[i] :: ns.drop (i + 1) := List.drop_eq_getElem_cons hi
  refine Ev.step (fun k => by rw [jV.l0]) ?_
  refine qc (by omega) (qc (by omega) (qc (by omega) ?_))
  rw [hg, e2]
  refine uo (y := Ze l3 ns[i]) (by unfold uU.f; rw [if_pos h3]) ?_
  rw [hd]
  show Ev _ ((Ze l3 ns[i]).2 && UR l3 (ns.drop (i + 1)))
  cases hb : (Ze l3 ns[i]).2 with
  | true => exact qc rfl (ih (i + 1) (by omega))
  | false => exact jP (by simp) (Ev.now _)
theorem aK (a : ByteArray) (b : Bool) (c : Int) (A3 : Option Addr) (c3 : Nat) (l3 : List yB) (A4 : Option Addr) (c4 : Nat) (l4 : List qJ) (A5 : Option Addr) (c5 : Nat) (l5 : List qB) (A : Option Addr) (cn : Nat) (ns : List ByteArray) (w : World)
  (h3 : Kd.C xB w A3 l3.length l3) (g3 : l3.length ≤ c3) (h4 : Kd.C uV w A4 l4.length l4) (g4 : l4.length ≤ c4) (h5 : Kd.C ug w A5 l5.length l5) (g5 : l5.length ≤ c5) (hn : Kd.C Kd.string w A ns.length ns) (gn : ns.length ≤ cn) (hG : GW w) (hl3 : l3.length ≤ 1000000000) (hln : ns.length ≤ 1000) :
  Calls Tryz.prog 94 #[.agg #[.string a, .bool b, .int .i64 c, .slice A3 l3.length c3, .slice A4 l4.length c4, .slice A5 l5.length c5], .slice A ns.length cn] w fun e w' => e = .returned (.bool (UR l3 ns)) ∧ Below w.heap.size w w' := by
 obtain ⟨k, hk⟩ := (zwC a b c l3 l4 l5 hl3 ns hln ns.length 0 (by omega)).rounds
 exact jV.calls k a b c A3 c3 l3 A4 c4 l4 A5 c5 l5 A cn ns _ w h3 g3 h4 g4 h5 g5 hn gn hG hk
structure pO (w : World) (B : Nat) (a : ByteArray) (b : Bool) (c : Int) (A3 : Option Addr) (c3 : Nat) (l3 : List yB) (A4 : Option Addr) (c4 : Nat) (l4 : List qJ) (A5 : Option Addr) (c5 : Nat) (l5 : List qB) : Prop where
 blk : w.heap[B]? = some (.cells #[.string a, .bool b, .int .i64 c, .slice A3 l3.length c3, .slice A4 l4.length c4, .slice A5 l5.length c5] 60 (0, 0))
 h3 : Kd.C xB w A3 l3.length l3
 h4 : Kd.C uV w A4 l4.length l4
 h5 : Kd.C ug w A5 l5.length l5
 gw : GW w
theorem pO.below {w w' : World} {B : Nat} {a : ByteArray} {b : Bool} {c : Int} {A3 : Option Addr} {c3 : Nat} {l3 : List yB} {A4 : Option Addr} {c4 : Nat} {l4 : List qJ} {A5 : Option Addr} {c5 : Nat} {l5 : List qB}
  (h : pO w B a b c A3 c3 l3 A4 c4 l4 A5 c5 l5) (hb : Below w.heap.size w w') : pO w' B a b c A3 c3 l3 A4 c4 l4 A5 c5 l5 :=
 ⟨(hb.block B (Array.getElem?_eq_some_iff.1 h.blk).1).trans h.blk, Kd.zC h.h3 hb, Kd.zC h.h4 hb, Kd.zC h.h5 hb, h.gw.under hb⟩
theorem yR {w : World} {B : Nat} {cs : Array Value} {t : TypeId} (h : w.heap[B]? = some (.cells cs t (0, 0))) (i : Nat) (v : Value) (hv : cs[i]? = some v) : w.cell? ⟨B, i, none⟩ = some v := by
 simp only [World.cell?, h]
 exact hv
end Go.Proofs.YtggifbbiiickmaaGreatDoor
namespace Go.Proofs.YtggifbbiiickmaaGreatDoor
open Go.RowKit Go.Shelf Go.Proofs.zk.zK Go.Proofs.zk.yX Go.Proofs.YtggifbbiiickmaaGreatDoor.PX
set_option linter.unusedSimpArgs false
set_option linter.unusedVariables false
theorem aY {w : World} {g : Nat} {ns : List ByteArray} {t : TypeId} (h : w.heap[g]? = some (.cells (ns.map Value.string).toArray t (0, 0))) (hn : ns.length ≤ 1000) : Kd.C Kd.string w (some ⟨g, 0, none⟩) ns.length ns := by
 refine ⟨rfl, by omega, fun _ => ⟨_, rfl, fun j p hj => ⟨[.string p], rfl, rfl, fun i u hi => ?_⟩⟩⟩
 rcases i with _ | i
 ·cases hi
  have hs : Kd.string.sz = 1 := rfl
  rw [Addr.add_lit, hs]
  refine yR h _ _ ?_
  simp [hj]
 ·simp at hi
def gU (l3 : List yB) (x : qJ) : Bool := !UR l3 [x.f0, x.f1, x.f2]
def UU (l3 : List yB) (x : qB) : Bool := decide (x.f2 = 0) || (decide (x.f2 < -500) || (decide (500 < x.f2) || !UR l3 [x.f0, x.f1]))
set_option maxRecDepth 100000 in
set_option maxHeartbeats 1000000 in
theorem zjA (B : Nat) (a : ByteArray) (b : Bool) (c : Int) (A3 : Option Addr) (c3 : Nat) (l3 : List yB) (A4 : Option Addr) (c4 : Nat) (l4 : List qJ) (A5 : Option Addr) (c5 : Nat) (l5 : List qB) (g3 : l3.length ≤ c3) (g4 : l4.length ≤ c4) (g5 : l5.length ≤ c5) (hl3 : l3.length ≤ 1000000000) (w : World) (hF : pO w B a b c A3 c3 l3 A4 c4 l4 A5 c5 l5) :
  PredBelow Tryz.prog 93 #[.pointer (some ⟨B, 0, none⟩)] (fun x => .agg (gM x).toArray) (gU l3) w := fun W x hb => by
 have hl := (Array.getElem?_eq_some_iff.1 hF.blk).1
 have YW := hF.below hb
 have hlW : B < W.heap.size := Nat.lt_of_lt_of_le hl hb.size
 show Calls Tryz.prog 93 #[.agg #[.string x.f0, .string x.f1, .string x.f2], .pointer (some ⟨B, 0, none⟩)] W _
 have hbW : Below W.heap.size W ((W.alloc (.cells #[.string x.f0, .string x.f1, .string x.f2] 108)).alloc (.cells #[.string x.f0, .string x.f1, .string x.f2] 9)) := ((Below.refl _ W).alloc (Nat.le_refl _) _).alloc (by simp) _
 have hF2 := YW.below hbW
 have hblk : ((W.alloc (.cells #[.string x.f0, .string x.f1, .string x.f2] 108)).alloc (.cells #[.string x.f0, .string x.f1, .string x.f2] 9)).heap[W.heap.size + 1]? = some (.cells (([x.f0, x.f1, x.f2].map Value.string).toArray) 9 (0, 0)) := by
  have := World.alloc_heap_new (W.alloc (.cells #[.string x.f0, .string x.f1, .string x.f2] 108)) (.cells #[.string x.f0, .string x.f1, .string x.f2] 9)
  rwa [World.size_alloc] at this
 have ha := aK a b c A3 c3 l3 A4 c4 l4 A5 c5 l5 _ 3 [x.f0, x.f1, x.f2] _ hF2.h3 g3 hF2.h4 g4 hF2.h5 g5 (aY hblk (by simp)) (by simp) hF2.gw hl3 (by simp)
 have k0 := yR YW.blk 0 _ rfl
 have k1 := yR YW.blk 1 _ rfl
 have k2 := yR YW.blk 2 _ rfl
 have k3 := yR YW.blk 3 _ rfl
 have k4 := yR YW.blk 4 _ rfl
 have k5 := yR YW.blk 5 _ rfl
 have hend := hb.trans (hbW.mono hb.size)
 unfold gU
 generalize UR l3 [x.f0, x.f1, x.f2] = r at ha ⊢
 clear hF YW hF2 hblk hb g3 g4 g5
 go_enter Tryz.func93, Tryz.ntmps93
 go_wp2_with (go_at_call 94; refine ha.mono ?_; rintro e w1 ⟨rfl, hb1⟩)
 go_ret
 exact ⟨rfl, hend.trans (hb1.mono hend.size)⟩
set_option maxRecDepth 100000 in
set_option maxHeartbeats 1000000 in
theorem zjB (B : Nat) (a : ByteArray) (b : Bool) (c : Int) (A3 : Option Addr) (c3 : Nat) (l3 : List yB) (A4 : Option Addr) (c4 : Nat) (l4 : List qJ) (A5 : Option Addr) (c5 : Nat) (l5 : List qB) (g3 : l3.length ≤ c3) (g4 : l4.length ≤ c4) (g5 : l5.length ≤ c5) (hl3 : l3.length ≤ 1000000000) (w : World) (hF : pO w B a b c A3 c3 l3 A4 c4 l4 A5 c5 l5) :
  PredBelow Tryz.prog 98 #[.pointer (some ⟨B, 0, none⟩)] (fun x => .agg (gN x).toArray) (UU l3) w := fun W x hb => by
 have hl := (Array.getElem?_eq_some_iff.1 hF.blk).1
 have YW := hF.below hb
 have hlW : B < W.heap.size := Nat.lt_of_lt_of_le hl hb.size
 show Calls Tryz.prog 98 #[.agg #[.string x.f0, .string x.f1, .int .i64 x.f2], .pointer (some ⟨B, 0, none⟩)] W _
 have hb1 : Below w.heap.size w (W.alloc (.cells #[.string x.f0, .string x.f1, .int .i64 x.f2] 111)) := hb.alloc hb.size _
 unfold UU
 by_cases q0 : x.f2 = 0
 ·have d0 : (x.f2 == 0) = true := beq_iff_eq.2 q0
  rw [decide_eq_true q0]
  clear q0 hF YW
  go_enter Tryz.func98, Tryz.ntmps98
  go_wp2
  go_ret
  exact ⟨rfl, hb1⟩
 ·have d0 : (x.f2 == 0) = false := beq_eq_false_iff_ne.2 q0
  rw [decide_eq_false q0, Bool.false_or]
  clear q0
  by_cases q1 : x.f2 < -500
  ·have d1 : decide (x.f2 < -500) = true := decide_eq_true q1
   rw [d1]
   clear q1 hF YW
   go_enter Tryz.func98, Tryz.ntmps98
   go_wp2
   go_ret
   exact ⟨rfl, hb1⟩
  ·have d1 : decide (x.f2 < -500) = false := decide_eq_false q1
   rw [d1, Bool.false_or]
   clear q1
   by_cases q2 : 500 < x.f2
   ·have d2 : decide (500 < x.f2) = true := decide_eq_true q2
    rw [d2]
    clear q2 hF YW
    go_enter Tryz.func98, Tryz.ntmps98
    go_wp2
    go_ret
    exact ⟨rfl, hb1⟩
   ·have d2 : decide (500 < x.f2) = false := decide_eq_false q2
    rw [d2, Bool.false_or]
    clear q2
    have hbW : Below W.heap.size W ((W.alloc (.cells #[.string x.f0, .string x.f1, .int .i64 x.f2] 111)).alloc (.cells #[.string x.f0, .string x.f1] 9)) := ((Below.refl _ W).alloc (Nat.le_refl _) _).alloc (by simp) _
    have hF2 := YW.below hbW
    have hblk : ((W.alloc (.cells #[.string x.f0, .string x.f1, .int .i64 x.f2] 111)).alloc (.cells #[.string x.f0, .string x.f1] 9)).heap[W.heap.size + 1]? = some (.cells (([x.f0, x.f1].map Value.string).toArray) 9 (0, 0)) := by
     have := World.alloc_heap_new (W.alloc (.cells #[.string x.f0, .string x.f1, .int .i64 x.f2] 111)) (.cells #[.string x.f0, .string x.f1] 9)
     rwa [World.size_alloc] at this
    have ha := aK a b c A3 c3 l3 A4 c4 l4 A5 c5 l5 _ 2 [x.f0, x.f1] _ hF2.h3 g3 hF2.h4 g4 hF2.h5 g5 (aY hblk (by simp)) (by simp) hF2.gw hl3 (by simp)
    have k0 := yR YW.blk 0 _ rfl
    have k1 := yR YW.blk 1 _ rfl
    have k2 := yR YW.blk 2 _ rfl
    have k3 := yR YW.blk 3 _ rfl
    have k4 := yR YW.blk 4 _ rfl
    have k5 := yR YW.blk 5 _ rfl
    have hend := hb.trans (hbW.mono hb.size)
    generalize UR l3 [x.f0, x.f1] = r at ha ⊢
    clear hF YW hF2 hblk hb g3 g4 g5
    go_enter Tryz.func98, Tryz.ntmps98
    go_wp2_with (go_at_call 94; refine ha.mono ?_; rintro e w1 ⟨rfl, hb1⟩)
    go_ret
    exact ⟨rfl, hend.trans (hb1.mono hend.size)⟩
def xM (a : ByteArray) (c : Int) (l3 : List yB) (l4 : List qJ) (l5 : List qB) : Bool :=
 if (!Ju a.data.toList || (Xu c || (decide (400 < l3.length) || (decide (50 < l4.length) || decide (500 < l5.length))))) = true then false
 else if (l3.any Ku || !ZV (fun i j => YN (qK l3 (i : Int)) (qK l3 (j : Int))) l3.length) = true then false
 else if (l4.any (gU l3) || !ZV (fun i j => cmpL (vQ l4 (i : Int)) (vQ l4 (j : Int))) l4.length) = true then false
 else !l5.any (UU l3) && ZV (fun i j => XR (vX l5 (i : Int)) (vX l5 (j : Int))) l5.length
set_option maxRecDepth 100000 in
set_option maxHeartbeats 4000000 in
theorem zxp (a : ByteArray) (b : Bool) (c : Int) (A3 : Option Addr) (c3 : Nat) (l3 : List yB) (A4 : Option Addr) (c4 : Nat) (l4 : List qJ) (A5 : Option Addr) (c5 : Nat) (l5 : List qB) (g3 : l3.length ≤ c3) (g4 : l4.length ≤ c4) (g5 : l5.length ≤ c5) (hl3 : l3.length ≤ 1000000000) (hl4 : l4.length ≤ 1000000000) (hl5 : l5.length ≤ 1000000000) (w : World) (h3 : Kd.C xB w A3 l3.length l3) (h4 : Kd.C uV w A4 l4.length l4) (h5 : Kd.C ug w A5 l5.length l5) (hG : GW w) :
  Calls Tryz.prog 39 #[.agg #[.string a, .bool b, .int .i64 c, .slice A3 l3.length c3, .slice A4 l4.length c4, .slice A5 l5.length c5]] w fun e w' => e = .returned (.bool (xM a c l3 l4 l5)) ∧ Below w.heap.size w w' := by
 have hw1 : Below w.heap.size w ((w.alloc (.cells #[.string a, .bool b, .int .i64 c, .slice A3 l3.length c3, .slice A4 l4.length c4, .slice A5 l5.length c5] 60)).alloc (.cells #[.func (.func 84) #[] #[]] 138)) := ((Below.refl _ w).alloc (Nat.le_refl _) _).alloc (by simp) _
 have hblk : ((w.alloc (.cells #[.string a, .bool b, .int .i64 c, .slice A3 l3.length c3, .slice A4 l4.length c4, .slice A5 l5.length c5] 60)).alloc (.cells #[.func (.func 84) #[] #[]] 138)).heap[w.heap.size]? = some (.cells #[.string a, .bool b, .int .i64 c, .slice A3 l3.length c3, .slice A4 l4.length c4, .slice A5 l5.length c5] 60 (0, 0)) :=
  (Below.heap_alloc _ _ _ (by simp)).trans (World.alloc_heap_new w _)
 have Qp : ((w.alloc (.cells #[.string a, .bool b, .int .i64 c, .slice A3 l3.length c3, .slice A4 l4.length c4, .slice A5 l5.length c5] 60)).alloc (.cells #[.func (.func 84) #[] #[]] 138)).heap[w.heap.size + 1]? = some (.cells #[.func (.func 84) #[] #[]] 138 (0, 0)) := by
  have := World.alloc_heap_new (w.alloc (.cells #[.string a, .bool b, .int .i64 c, .slice A3 l3.length c3, .slice A4 l4.length c4, .slice A5 l5.length c5] 60)) (.cells #[.func (.func 84) #[] #[]] 138)
  rwa [World.size_alloc] at this
 have hF : pO ((w.alloc (.cells #[.string a, .bool b, .int .i64 c, .slice A3 l3.length c3, .slice A4 l4.length c4, .slice A5 l5.length c5] 60)).alloc (.cells #[.func (.func 84) #[] #[]] 138)) w.heap.size a b c A3 c3 l3 A4 c4 l4 A5 c5 l5 := ⟨hblk, Kd.zC h3 hw1, Kd.zC h4 hw1, Kd.zC h5 hw1, hG.under hw1⟩
 have hfn := dG a ((w.alloc (.cells #[.string a, .bool b, .int .i64 c, .slice A3 l3.length c3, .slice A4 l4.length c4, .slice A5 l5.length c5] 60)).alloc (.cells #[.func (.func 84) #[] #[]] 138))
 have hwd := fun W => gT c W
 have hhG := fun W (hF : pO W w.heap.size a b c A3 c3 l3 A4 c4 l4 A5 c5 l5) (hB : W.cell? ⟨w.heap.size + 1, 0, none⟩ = some (.func (.func 84) #[] #[])) => gP A3 c3 l3 W hF.h3 hl3 Ku 87 #[.pointer (some ⟨w.heap.size + 1, 0, none⟩)] (enters_of Tryz.func87 (by kernel_rfl) rfl) (zju _ W hB)
 have haG := fun W (hF : pO W w.heap.size a b c A3 c3 l3 A4 c4 l4 A5 c5 l5) => zjh A3 c3 l3 W hF.h3 hl3
 have hhL := fun W (hF : pO W w.heap.size a b c A3 c3 l3 A4 c4 l4 A5 c5 l5) => zjs A4 c4 l4 W hF.h4 hl4 (gU l3) 93 #[.pointer (some ⟨w.heap.size, 0, none⟩)] (enters_of Tryz.func93 (by kernel_rfl) rfl) (zjA _ a b c A3 c3 l3 A4 c4 l4 A5 c5 l5 g3 g4 g5 hl3 W hF)
 have haL := fun W (hF : pO W w.heap.size a b c A3 c3 l3 A4 c4 l4 A5 c5 l5) => zjn A4 c4 l4 W hF.h4 hl4
 have hhK := fun W (hF : pO W w.heap.size a b c A3 c3 l3 A4 c4 l4 A5 c5 l5) => zjt A5 c5 l5 W hF.h5 hl5 (UU l3) 98 #[.pointer (some ⟨w.heap.size, 0, none⟩)] (enters_of Tryz.func98 (by kernel_rfl) rfl) (zjB _ a b c A3 c3 l3 A4 c4 l4 A5 c5 l5 g3 g4 g5 hl3 W hF)
 have haK := fun W (hF : pO W w.heap.size a b c A3 c3 l3 A4 c4 l4 A5 c5 l5) => zjo A5 c5 l5 W hF.h5 hl5
 generalize hR : xM a c l3 l4 l5 = R
 have HR := Lib.hid hR
 unfold xM at hR
 generalize Ju a.data.toList = b1 at hfn hR
 generalize Xu c = b2 at hwd hR
 generalize l3.any Ku = b6 at hhG hR
 generalize ZV (fun i j => YN (qK l3 (i : Int)) (qK l3 (j : Int))) l3.length = b7 at haG hR
 generalize l4.any (gU l3) = b8 at hhL hR
 generalize ZV (fun i j => cmpL (vQ l4 (i : Int)) (vQ l4 (j : Int))) l4.length = b9 at haL hR
 generalize l5.any (UU l3) = b10 at hhK hR
 generalize ZV (fun i j => XR (vX l5 (i : Int)) (vX l5 (j : Int))) l5.length = b11 at haK hR
 clear g3 g4 g5 h3 h4 h5 hG HR
 go_enter Tryz.func39, Tryz.ntmps39
 have HF0 := Lib.hid hF
 have K0 := Lib.hid (yR Qp 0 _ rfl)
 have HW0 := Lib.hid hw1
 have c0 := yR hblk 0 _ rfl
 have c2 := yR hblk 2 _ rfl
 have Qx := yR hblk 3 _ rfl
 have Qj := yR hblk 4 _ rfl
 have Qv := yR hblk 5 _ rfl
 clear hF hblk Qp hw1
 go_wp2_with fail
 generalize ((w.alloc (.cells #[.string a, .bool b, .int .i64 c, .slice A3 l3.length c3, .slice A4 l4.length c4, .slice A5 l5.length c5] 60)).alloc (.cells #[.func (.func 84) #[] #[]] 138)) = W0 at hfn HF0 K0 HW0 c0 c2 Qx Qj Qv ⊢
 refine hfn.mono ?_; rintro e W1 ⟨rfl, hb1⟩
 clear hfn c0 c2 Qx Qj Qv
 have aW := Lib.hid (HF0.out.below hb1)
 have K1 := Lib.hid ((hb1.cell (World.block_lt_of_cell? _ _ K0.out)).trans K0.out)
 have HW1 := Lib.hid (HW0.out.trans (hb1.mono HW0.out.size))
 clear hb1
 have c2 := yR aW.out.blk 2 _ rfl
 have Qx := yR aW.out.blk 3 _ rfl
 have Qj := yR aW.out.blk 4 _ rfl
 have Qv := yR aW.out.blk 5 _ rfl
 have cb := K1.out
 cases b1 with
 | false =>
  obtain rfl : false = R := by simpa using hR
  clear hR
  go_wp2_with fail
  go_ret
  exact ⟨rfl, HW1.out⟩
 | true =>
  go_wp2_with fail
  refine (hwd _).mono ?_; rintro e W1x ⟨rfl, hx⟩; subst hx
  cases b2 with
  | false =>
   by_cases q3 : 400 < l3.length
   ·have dq3 : decide ((400 : Int) < (l3.length : Int)) = true := decide_eq_true (by omega)
    rw [decide_eq_true q3] at hR
    clear q3
    obtain rfl : false = R := by simpa using hR
    clear hR
    go_wp2_with fail
    go_ret
    exact ⟨rfl, HW1.out⟩
   ·have dq3 : decide ((400 : Int) < (l3.length : Int)) = false := decide_eq_false (by omega)
    rw [decide_eq_false q3] at hR
    clear q3
    by_cases q4 : 50 < l4.length
    ·have dq4 : decide ((50 : Int) < (l4.length : Int)) = true := decide_eq_true (by omega)
     rw [decide_eq_true q4] at hR
     clear q4
     obtain rfl : false = R := by simpa using hR
     clear hR
     go_wp2_with fail
     go_ret
     exact ⟨rfl, HW1.out⟩
    ·have dq4 : decide ((50 : Int) < (l4.length : Int)) = false := decide_eq_false (by omega)
     rw [decide_eq_false q4] at hR
     clear q4
     by_cases q5 : 500 < l5.length
     ·have dq5 : decide ((500 : Int) < (l5.length : Int)) = true := decide_eq_true (by omega)
      rw [decide_eq_true q5] at hR
      clear q5
      obtain rfl : false = R := by simpa using hR
      clear hR
      go_wp2_with fail
      go_ret
      exact ⟨rfl, HW1.out⟩
     ·have dq5 : decide ((500 : Int) < (l5.length : Int)) = false := decide_eq_false (by omega)
      rw [decide_eq_false q5] at hR
      clear q5
      simp only [Bool.not_true, Bool.or_self, Bool.false_eq_true, if_false, Bool.or_false] at hR
      go_wp2_with fail
      refine (hhG _ aW.out K1.out).mono ?_; rintro e W2 ⟨rfl, hb2⟩
      clear c2 Qx Qj Qv cb
      have JB := Lib.hid (aW.out.below hb2)
      have K2 := Lib.hid ((hb2.cell (World.block_lt_of_cell? _ _ K1.out)).trans K1.out)
      have HW2 := Lib.hid (HW1.out.trans (hb2.mono HW1.out.size))
      clear hb2
      have c2 := yR JB.out.blk 2 _ rfl
      have Qx := yR JB.out.blk 3 _ rfl
      have Qj := yR JB.out.blk 4 _ rfl
      have Qv := yR JB.out.blk 5 _ rfl
      have cb := K2.out
      cases b6 with
      | false =>
       go_wp2_with fail
       refine (haG _ JB.out).mono ?_; rintro e W3 ⟨rfl, hb3⟩
       clear c2 Qx Qj Qv cb
       have ah := Lib.hid (JB.out.below hb3)
       have K3 := Lib.hid ((hb3.cell (World.block_lt_of_cell? _ _ K2.out)).trans K2.out)
       have HW3 := Lib.hid (HW2.out.trans (hb3.mono HW2.out.size))
       clear hb3
       have c2 := yR ah.out.blk 2 _ rfl
       have Qx := yR ah.out.blk 3 _ rfl
       have Qj := yR ah.out.blk 4 _ rfl
       have Qv := yR ah.out.blk 5 _ rfl
       have cb := K3.out
       cases b7 with
       | false =>
        obtain rfl : false = R := by simpa using hR
        clear hR
        go_wp2_with fail
        go_ret
        exact ⟨rfl, HW3.out⟩
       | true =>
        go_wp2_with fail
        refine (hhL _ ah.out).mono ?_; rintro e W4 ⟨rfl, hb4⟩
        clear c2 Qx Qj Qv cb
        have au := Lib.hid (ah.out.below hb4)
        have K4 := Lib.hid ((hb4.cell (World.block_lt_of_cell? _ _ K3.out)).trans K3.out)
        have HW4 := Lib.hid (HW3.out.trans (hb4.mono HW3.out.size))
        clear hb4
        have c2 := yR au.out.blk 2 _ rfl
        have Qx := yR au.out.blk 3 _ rfl
        have Qj := yR au.out.blk 4 _ rfl
        have Qv := yR au.out.blk 5 _ rfl
        have cb := K4.out
        cases b8 with
        | false =>
         go_wp2_with fail
         refine (haL _ au.out).mono ?_; rintro e W5 ⟨rfl, hb5⟩
         clear c2 Qx Qj Qv cb
         have aA := Lib.hid (au.out.below hb5)
         have K5 := Lib.hid ((hb5.cell (World.block_lt_of_cell? _ _ K4.out)).trans K4.out)
         have HW5 := Lib.hid (HW4.out.trans (hb5.mono HW4.out.size))
         clear hb5
         have c2 := yR aA.out.blk 2 _ rfl
         have Qx := yR aA.out.blk 3 _ rfl
         have Qj := yR aA.out.blk 4 _ rfl
         have Qv := yR aA.out.blk 5 _ rfl
         have cb := K5.out
         cases b9 with
         | false =>
          obtain rfl : false = R := by simpa using hR
          clear hR
          go_wp2_with fail
          go_ret
          exact ⟨rfl, HW5.out⟩
         | true =>
          go_wp2_with fail
          refine (hhK _ aA.out).mono ?_; rintro e W6 ⟨rfl, hb6⟩
          clear c2 Qx Qj Qv cb
          have aC := Lib.hid (aA.out.below hb6)
          have K6 := Lib.hid ((hb6.cell (World.block_lt_of_cell? _ _ K5.out)).trans K5.out)
          have HW6 := Lib.hid (HW5.out.trans (hb6.mono HW5.out.size))
          clear hb6
          have c2 := yR aC.out.blk 2 _ rfl
          have Qx := yR aC.out.blk 3 _ rfl
          have Qj := yR aC.out.blk 4 _ rfl
          have Qv := yR aC.out.blk 5 _ rfl
          have cb := K6.out
          cases b10 with
          | false =>
           go_wp2_with fail
           refine (haK _ aC.out).mono ?_; rintro e W7 ⟨rfl, hb7⟩
           clear c2 Qx Qj Qv cb
           have HF7 := Lib.hid (aC.out.below hb7)
           have K7 := Lib.hid ((hb7.cell (World.block_lt_of_cell? _ _ K6.out)).trans K6.out)
           have HW7 := Lib.hid (HW6.out.trans (hb7.mono HW6.out.size))
           clear hb7
           obtain rfl : b11 = R := by simpa using hR
           clear hR
           go_wp2_with fail
           go_ret
           exact ⟨rfl, HW7.out⟩
          | true =>
           obtain rfl : false = R := by simpa using hR
           clear hR
           go_wp2_with fail
           go_ret
           exact ⟨rfl, HW6.out⟩
        | true =>
         obtain rfl : false = R := by simpa using hR
         clear hR
         go_wp2_with fail
         go_ret
         exact ⟨rfl, HW4.out⟩
      | true =>
       obtain rfl : false = R := by simpa using hR
       clear hR
       go_wp2_with fail
       go_ret
       exact ⟨rfl, HW2.out⟩
  | true =>
   obtain rfl : false = R := by simpa using hR
   clear hR
   go_wp2_with fail
   go_ret
   exact ⟨rfl, HW1.out⟩
def jf.f (zI : ByteArray) (_ : Bool) (zL : Int) (zS : List yB) (yt : List qJ) (yu : List qB) : Option Bool := if zS.length ≤ 1000000000 ∧ yt.length ≤ 1000000000 ∧ yu.length ≤ 1000000000 then some (xM zI zL zS yt yu) else none
theorem jf.calls (zI : ByteArray) (zM : Bool) (zL : Int) (qP : Option Addr) (qR : Nat) (zS : List yB) (xq : Option Addr) (xk : Nat) (yt : List qJ) (xw : Option Addr) (xZ : Nat) (yu : List qB) (r : Bool) (w : World) (wC : Kd.C xB w qP zS.length zS) (Y6 : zS.length ≤ qR) (Y7 : Kd.C uV w xq yt.length yt) (Y8 : yt.length ≤ xk) (Y9 : Kd.C ug w xw yu.length yu) (Xz : yu.length ≤ xZ) (hG : GW w) (h : jf.f zI zM zL zS yt yu = some r) :
  Calls Tryz.prog 39 #[.agg #[.string zI, .bool zM, .int .i64 zL, .slice qP zS.length qR, .slice xq yt.length xk, .slice xw yu.length xZ]] w fun e w' => e = .returned (.bool r) ∧ Below w.heap.size w w' := by
 unfold jf.f at h
 split at h
 ·rename_i hl
  obtain rfl := Option.some.inj h
  exact zxp zI zM zL qP qR zS xq xk yt xw xZ yu Y6 Y8 Xz hl.1 hl.2.1 hl.2.2 w wC Y7 Y9 hG
 ·cases h
end Go.Proofs.YtggifbbiiickmaaGreatDoor
namespace Go.Proofs.YtggifbbiiickmaaGreatDoor
open Go.RowKit Go.Proofs.zk.zK Go.Proofs.zk.yX Go.Proofs.YtggifbbiiickmaaGreatDoor.PX
set_option linter.unusedSimpArgs false
set_option linter.unusedVariables false
theorem mq (a b : ByteArray) : Op.bytesLess a.toList b.toList = true ↔ a.toList < b.toList := by rw [Go.Proofs.bytesLess_eq]; exact decide_eq_true_iff
theorem U0 {a b : ByteArray} : xD a b < 0 ↔ a.toList < b.toList := by
 rw [← mq]
 unfold xD
 by_cases h1 : Op.bytesLess a.toList b.toList = true
 ·simp [h1]
 ·by_cases h2 : Op.bytesLess b.toList a.toList = true <;> simp [h1, h2]
theorem Ui {a b : ByteArray} : a.toList = b.toList ↔ a = b := by
 constructor
 ·intro h
  rw [Lib.toList_data, Lib.toList_data] at h
  exact ByteArray.ext (Array.toList_inj.1 h)
 ·rintro rfl
  rfl
theorem dZ (a : ByteArray) : xD a a = 0 := by
 unfold xD
 have h : ¬ Op.bytesLess a.toList a.toList = true := by rw [mq]; exact List.lt_irrefl _
 rw [if_neg h, if_neg h]
theorem zxr {a b : ByteArray} : xD a b = 0 ↔ a = b := by
 constructor
 ·intro h
  unfold xD at h
  by_cases h1 : Op.bytesLess a.toList b.toList = true
  ·rw [if_pos h1] at h; cases h
  ·rw [if_neg h1] at h
   by_cases h2 : Op.bytesLess b.toList a.toList = true
   ·rw [if_pos h2] at h; cases h
   ·rw [mq] at h1 h2
    exact Ui.1 (List.le_antisymm (List.not_lt.1 h2) (List.not_lt.1 h1))
 ·rintro rfl
  exact dZ a
theorem U1 (l : List yB) (i : Nat) (h : i < l.length) : qK l (i : Int) = l[i] := by simp [qK, List.getD_eq_getElem?_getD, h]
def Asc (l : List yB) : Prop := ∀ (i j : Nat) (hi : i < l.length) (hj : j < l.length), i < j → l[i].f0.toList < l[j].f0.toList
theorem zyi {l : List yB} (h : ZV (fun i j => YN (qK l (i : Int)) (qK l (j : Int))) l.length = true) : Asc l := by
 have h1 : ∀ (i : Nat) (hi : i + 1 < l.length), l[i].f0.toList < l[i + 1].f0.toList := by
  intro i hi
  have h2 := List.all_eq_true.1 h i (List.mem_range.2 (by omega))
  rw [decide_eq_true_iff] at h2
  have h2 : YN (qK l (i : Int)) (qK l ((i + 1 : Nat) : Int)) < 0 := h2
  rw [U1 l i (by omega), U1 l (i + 1) hi] at h2
  exact U0.1 h2
 have h3 : ∀ (d i : Nat) (hi : i + d + 1 < l.length), l[i].f0.toList < l[i + d + 1].f0.toList := by
  intro d
  induction d with
  | zero => intro i hi; exact h1 i hi
  | succ d ih => intro i hi; exact List.lt_trans (ih i (by omega)) (h1 (i + d + 1) hi)
 intro i j hi hj hij
 have h4 := h3 (j - i - 1) i (by omega)
 have e : i + (j - i - 1) + 1 = j := by omega
 simpa only [e] using h4
theorem zjC (l : List yB) (n : ByteArray) (ha : Asc l) (i j : Nat) (hij : i ≤ j) (hj : j ≤ l.length) (h1 : ∀ (m : Nat) (hm : m < l.length), m < i → l[m].f0.toList < n.toList) (h2 : ∀ (m : Nat) (hm : m < l.length), j ≤ m → ¬ l[m].f0.toList < n.toList) :
  (∀ (m : Nat) (hm : m < l.length), m < Xb l n i j → l[m].f0.toList < n.toList) ∧ (∀ (m : Nat) (hm : m < l.length), Xb l n i j ≤ m → ¬ l[m].f0.toList < n.toList) := by
 fun_induction Xb l n i j with
 | case1 i j hlt hc ih =>
  have hm : (i + j) / 2 < l.length := by omega
  rw [U1 l _ hm, U0] at hc
  refine ih (by omega) hj (fun m hml hmi => ?_) h2
  by_cases he : m = (i + j) / 2
  ·subst he; exact hc
  ·exact List.lt_trans (ha m _ hml hm (by omega)) hc
 | case2 i j hlt hc ih =>
  have hm : (i + j) / 2 < l.length := by omega
  rw [U1 l _ hm, U0] at hc
  refine ih (by omega) (by omega) h1 (fun m hml hmi hlt' => ?_)
  by_cases he : m = (i + j) / 2
  ·subst he; exact hc hlt'
  ·exact hc (List.lt_trans (ha _ m hm hml (by omega)) hlt')
 | case3 i j hlt =>
  obtain rfl : i = j := by omega
  exact ⟨h1, h2⟩
theorem zkA (l : List yB) (ha : Asc l) (m : Nat) (hm : m < l.length) : Ze l l[m].f0 = ((m : Int), true) := by
 obtain ⟨h1, h2⟩ := zjC l l[m].f0 ha 0 l.length (Nat.zero_le _) (Nat.le_refl _) (fun m _ h => absurd h (Nat.not_lt_zero _)) (fun m hm h => absurd hm (by omega))
 have e : Xb l l[m].f0 0 l.length = m := by
  rcases Nat.lt_trichotomy (Xb l l[m].f0 0 l.length) m with h | h | h
  ·exact absurd (ha _ m (by omega) hm h) (h2 _ (by omega) (Nat.le_refl _))
  ·exact h
  ·exact absurd (h1 m hm h) (List.lt_irrefl _)
 unfold Ze
 simp only [e, decide_eq_true hm, Bool.true_and, U1 l m hm]
 rw [dZ]
 rfl
theorem zkB (l : List yB) (n : ByteArray) (h : ∀ x ∈ l, x.f0 ≠ n) : (Ze l n).2 = false := by
 unfold Ze
 simp only
 by_cases hi : Xb l n 0 l.length < l.length
 ·rw [U1 l _ hi]
  have : ¬ xD l[Xb l n 0 l.length].f0 n = 0 := fun e => h _ (List.getElem_mem hi) (zxr.1 e)
  rw [decide_eq_false this, Bool.and_false]
 ·rw [decide_eq_false hi, Bool.false_and]
end Go.Proofs.YtggifbbiiickmaaGreatDoor
namespace Go.Proofs.YtggifbbiiickmaaGreatDoor
open Go.RowKit Go.Shelf Go.Proofs.zk.zK Go.Proofs.zk.yQ Go.Proofs.zk.yX Go.Proofs.YtggifbbiiickmaaGreatDoor.PX
set_option linter.unusedSimpArgs false
set_option linter.unusedVariables false
set_option maxRecDepth 100000 in
theorem zxs (B : Nat) (n : ByteArray) (w : World) (hB : w.cell? ⟨B, 0, none⟩ = some (.string n)) :
  PredBelow Tryz.prog 160 #[.pointer (some ⟨B, 0, none⟩)] (fun x => .agg (kQ x).toArray) (fun x : yB => x.f0.toList == n.toList) w := fun W x hb => by
 have hl := World.block_lt_of_cell? w _ hB
 have hlW : B < W.heap.size := Nat.lt_of_lt_of_le hl hb.size
 have hc : (W.alloc (.cells #[.string x.f0, .int .i64 x.f1] 105)).cell? ⟨B, 0, none⟩ = some (.string n) := (World.cell?_alloc_lt _ _ _ hlW).trans ((hb.cell hl).trans hB)
 have hb0 : Below w.heap.size w (W.alloc (.cells #[.string x.f0, .int .i64 x.f1] 105)) := hb.alloc hb.size _
 show Calls Tryz.prog 160 #[.agg #[.string x.f0, .int .i64 x.f1], .pointer (some ⟨B, 0, none⟩)] W _
 clear hb hB hl
 go_enter Tryz.func160, Tryz.ntmps160
 go_wp2
 go_ret
 exact ⟨by first | rfl | (simp; done), hb0⟩
def Q9 (l : List yB) (n : ByteArray) : Bool := l.any fun x => x.f0.toList == n.toList
def Yj.f (_ : ByteArray) (_ : Bool) (_ : Int) (zS : List yB) (_ : List qJ) (_ : List qB) (a1 : ByteArray) : Option Bool := if zS.length ≤ 1000000000 then some (Q9 zS a1) else none
theorem Yj.calls (zI : ByteArray) (zM : Bool) (zL : Int) (qP : Option Addr) (qR : Nat) (zS : List yB) (xq : Option Addr) (xk : Nat) (yt : List qJ) (xw : Option Addr) (xZ : Nat) (yu : List qB) (a1 : ByteArray) (r : Bool) (w : World) (wC : Kd.C xB w qP zS.length zS) (_ : zS.length ≤ qR) (_ : Kd.C uV w xq yt.length yt) (_ : yt.length ≤ xk) (_ : Kd.C ug w xw yu.length yu) (_ : yu.length ≤ xZ) (_ : GW w) (h : Yj.f zI zM zL zS yt yu a1 = some r) :
  Calls Tryz.prog 135 #[.agg #[.string zI, .bool zM, .int .i64 zL, .slice qP zS.length qR, .slice xq yt.length xk, .slice xw yu.length xZ], .string a1] w fun e w' => e = .returned (.bool r) ∧ Below w.heap.size w w' := by
 unfold Yj.f at h
 split at h
 ·rename_i hl
  obtain rfl := Option.some.inj h
  have hb0 : Below w.heap.size w ((w.alloc (.cells #[.string zI, .bool zM, .int .i64 zL, .slice qP zS.length qR, .slice xq yt.length xk, .slice xw yu.length xZ] 60)).alloc (.cells #[.string a1] 9)) := ((Below.refl _ w).alloc (Nat.le_refl _) _).alloc (by simp) _
  have hcell : ((w.alloc (.cells #[.string zI, .bool zM, .int .i64 zL, .slice qP zS.length qR, .slice xq yt.length xk, .slice xw yu.length xZ] 60)).alloc (.cells #[.string a1] 9)).cell? ⟨w.heap.size + 1, 0, none⟩ = some (.string a1) := by simp
  have hs := gP qP qR zS _ (Kd.zC wC hb0) hl (fun x => x.f0.toList == a1.toList) 160 #[.pointer (some ⟨w.heap.size + 1, 0, none⟩)] (pR Tryz.func160 (by kernel_rfl) rfl) (zxs (w.heap.size + 1) a1 _ hcell)
  unfold Q9
  generalize (zS.any fun x => x.f0.toList == a1.toList) = R at hs ⊢
  clear hcell wC hl h
  go_enter Tryz.func135, Tryz.ntmps135
  go_wp2_with fail
  refine hs.mono ?_; rintro e w2 ⟨rfl, hb2⟩
  go_wp2
  go_ret
  exact ⟨rfl, hb0.trans (hb2.mono hb0.size)⟩
 ·cases h
end Go.Proofs.YtggifbbiiickmaaGreatDoor
namespace Go.Proofs.YtggifbbiiickmaaGreatDoor.PX
open Go.RowKit Go.Proofs.zk.zK Go.Proofs.zk.yQ Go.Proofs.zk.yX
attribute [local go_sem] jZ jQ jL jM uD uE jX jJ   -- for this text's walks alone
set_option linter.unusedVariables false
set_option linter.unusedSimpArgs false
def kG.f (zI : ByteArray) (zM : Bool) (zL : Int) (zS : List (yB)) (yt : List (qJ)) (yu : List (qB)) (a1 : Int) : Option (Bool) := if a1 ≥ 1 then (if a1 ≤ 1000 then ((jf.f zI zM zL zS yt yu).bind fun KA => (some KA)) else (some false)) else (some false)
set_option maxHeartbeats 8000000 in
set_option maxRecDepth 100000 in
theorem kG.calls (zI : ByteArray) (zM : Bool) (zL : Int) (qP : Option Addr) (qR : Nat) (zS : List (yB)) (xq : Option Addr) (xk : Nat) (yt : List (qJ)) (xw : Option Addr) (xZ : Nat) (yu : List (qB)) (a1 : Int) (r : Bool) (w : World) (wC : Kd.C xB w qP zS.length zS) (Y6 : zS.length ≤ qR) (Y7 : Kd.C uV w xq yt.length yt) (Y8 : yt.length ≤ xk) (Y9 : Kd.C ug w xw yu.length yu) (Xz : yu.length ≤ xZ) (hG : GW w) (h : kG.f zI zM zL zS yt yu a1 = some r) :
  Calls Tryz.prog 62 #[.agg #[.string zI, .bool zM, .int .i64 zL, .slice qP zS.length qR, .slice xq yt.length xk, .slice xw yu.length xZ], .int .i64 a1] w fun e w' => e = .returned (.bool r) ∧ Below w.heap.size w w' := by
 have zyf := Tryz.underlying60
 have HG := zx.mk hG
 clear hG
 have Yi := zx.mk wC
 have Xq := zx.mk Y6
 clear wC Y6
 have Xx := zx.mk Y7
 have Xj := zx.mk Y8
 clear Y7 Y8
 have Xv := zx.mk Y9
 have Xk := zx.mk Xz
 clear Y9 Xz
 have HB := zx.mk (Below.refl w.heap.size w)
 have H : (if a1 ≥ 1 then (if a1 ≤ 1000 then ((jf.f zI zM zL zS yt yu).bind fun KA => (some KA)) else (some false)) else (some false)) = some r := h
 clear h
 by_cases c3 : a1 ≥ 1
 ·rw [if_pos c3] at H
  have Yh : decide (1 ≤ a1) = true := decide_eq_true c3
  clear c3
  by_cases c4 : a1 ≤ 1000
  ·rw [if_pos c4] at H
   have Xg : decide (a1 ≤ 1000) = true := decide_eq_true c4
   clear c4
   replace H := Option.bind_eq_some_iff.mp H
   obtain ⟨KA, A50, H⟩ := H
   replace H : (some KA) = some r := H
   have A5 := zx.mk A50
   clear A50
   obtain rfl := Option.some.inj H
   go_enter Tryz.func62, Tryz.ntmps62
   go_wp2_with (first | ((with_reducible refine qw (N := 2) rfl ?_); refine qL ?hg (N := 2) ?hd (cs := #[.string zI, .bool zM, .int .i64 zL, .slice qP zS.length qR, .slice xq yt.length xk, .slice xw yu.length xZ]) (t := 60) ?hr ?_; (case hd => rfl); (case hg => rfl); (case hr => first | (go_simp; done) | (go_simp; rfl)); intro pY hg w6 qN hb; have zX := zx.mk (zA (zB HB.out) hb); have zV := zx.mk (qN); have zf := zx.mk ((by rw [hg]; exact (zW (zB HB.out)) : w.heap.size ≤ pY)); have zu := zx.mk ((by rw [hg]; exact (zW (zB HB.out)) : w.heap.size ≤ pY)); clear HB; have HB := zX; have wV := zV; have zvI := zf; have JC := zu; clear zX zV zf zu; clear hb qN hg; have zyl : w6.cell? ⟨pY, 0, none⟩ = some (.string zI) := (zy wV.out 0).trans rfl; have zKg : w6.cell? ⟨pY, 1, none⟩ = some (.bool zM) := (zy wV.out 1).trans rfl; have zKh : w6.cell? ⟨pY, 2, none⟩ = some (.int .i64 zL) := (zy wV.out 2).trans rfl; have zKi : w6.cell? ⟨pY, 3, none⟩ = some (.slice qP zS.length qR) := (zy wV.out 3).trans rfl; have zKl : w6.cell? ⟨pY, 4, none⟩ = some (.slice xq yt.length xk) := (zy wV.out 4).trans rfl; have zKm : w6.cell? ⟨pY, 5, none⟩ = some (.slice xw yu.length xZ) := (zy wV.out 5).trans rfl; have zym := zw wV.out 0; have zKn := zw wV.out 1; have zKo := zw wV.out 2; have zKp := zw wV.out 3; have zKr := zw wV.out 4; have zKs := zw wV.out 5) | (go_at_call 39; (with_reducible refine (jf.calls zI zM zL _ _ zS _ _ yt _ _ yu KA _ ?yO ?qd ?q8 ?q9 ?uK ?uY ?uW A5.out).mono ?_); (case yO => repeat (first | exact (Kd.zC Yi.out HB.out) | (with_reducible refine Kd.yJ ?_ _) | (with_reducible refine Kd.yV ?_ _) | (with_reducible refine Kd.yH ?_))); (case qd => exact Xq.out); (case q8 => repeat (first | exact (Kd.zC Xx.out HB.out) | (with_reducible refine Kd.yJ ?_ _) | (with_reducible refine Kd.yV ?_ _) | (with_reducible refine Kd.yH ?_))); (case q9 => exact Xj.out); (case uK => repeat (first | exact (Kd.zC Xv.out HB.out) | (with_reducible refine Kd.yJ ?_ _) | (with_reducible refine Kd.yV ?_ _) | (with_reducible refine Kd.yH ?_))); (case uY => exact Xk.out); (case uW => exact GW.under HG.out (zB HB.out)); rintro e w8 ⟨rfl, hb⟩; have zX := zx.mk (zm (g := pY) (o := .cells #[.string zI, .bool zM, .int .i64 zL, .slice qP zS.length qR, .slice xq yt.length xk, .slice xw yu.length xZ] 60 (0, 0)) (zU wV.out) hb); have zV := zx.mk (zA (zB HB.out) hb); clear wV; clear HB; have wV := zX; have HB := zV; clear zX zV; (try clear hb); (try clear hb2); (try clear hk); (try clear hi)))
   go_ret
   exact ⟨by first | rfl | (simp [zG, zH] <;> rfl) | (simp [*, zG, zH] <;> rfl), by repeat (first | (with_reducible first | exact HB.out | apply yj | apply zN | apply yY | refine qb ?_ JC.out) | exact HB.out)⟩
  ·rw [if_neg c4] at H
   have Xg : decide (a1 ≤ 1000) = false := decide_eq_false c4
   clear c4
   obtain rfl := Option.some.inj H
   go_enter Tryz.func62, Tryz.ntmps62
   go_wp2_with (first | ((with_reducible refine qw (N := 2) rfl ?_); refine qL ?hg (N := 2) ?hd (cs := #[.string zI, .bool zM, .int .i64 zL, .slice qP zS.length qR, .slice xq yt.length xk, .slice xw yu.length xZ]) (t := 60) ?hr ?_; (case hd => rfl); (case hg => rfl); (case hr => first | (go_simp; done) | (go_simp; rfl)); intro pY hg w9 qN hb; have zX := zx.mk (zA (zB HB.out) hb); have zV := zx.mk (qN); have zf := zx.mk ((by rw [hg]; exact (zW (zB HB.out)) : w.heap.size ≤ pY)); have zu := zx.mk ((by rw [hg]; exact (zW (zB HB.out)) : w.heap.size ≤ pY)); clear HB; have HB := zX; have wV := zV; have zvI := zf; have JC := zu; clear zX zV zf zu; clear hb qN hg))
   go_ret
   exact ⟨by first | rfl | (simp [zG, zH] <;> rfl) | (simp [*, zG, zH] <;> rfl), by repeat (first | (with_reducible first | exact HB.out | apply yj | apply zN | apply yY | refine qb ?_ JC.out) | exact HB.out)⟩
 ·rw [if_neg c3] at H
  have Yh : decide (1 ≤ a1) = false := decide_eq_false c3
  clear c3
  obtain rfl := Option.some.inj H
  go_enter Tryz.func62, Tryz.ntmps62
  go_wp2_with (first | ((with_reducible refine qw (N := 2) rfl ?_); refine qL ?hg (N := 2) ?hd (cs := #[.string zI, .bool zM, .int .i64 zL, .slice qP zS.length qR, .slice xq yt.length xk, .slice xw yu.length xZ]) (t := 60) ?hr ?_; (case hd => rfl); (case hg => rfl); (case hr => first | (go_simp; done) | (go_simp; rfl)); intro pY hg Uh qN hb; have zX := zx.mk (zA (zB HB.out) hb); have zV := zx.mk (qN); have zf := zx.mk ((by rw [hg]; exact (zW (zB HB.out)) : w.heap.size ≤ pY)); have zu := zx.mk ((by rw [hg]; exact (zW (zB HB.out)) : w.heap.size ≤ pY)); clear HB; have HB := zX; have wV := zV; have zvI := zf; have JC := zu; clear zX zV zf zu; clear hb qN hg))
  go_ret
  exact ⟨by first | rfl | (simp [zG, zH] <;> rfl) | (simp [*, zG, zH] <;> rfl), by repeat (first | (with_reducible first | exact HB.out | apply yj | apply zN | apply yY | refine qb ?_ JC.out) | exact HB.out)⟩
def Zf.f (a0 : Int) (a1 : Int) : Option (Int) := if a0 < 0 then (if a1 = 0 then (none) else (some (wrap64 (-(wrap64 (Int.tdiv (wrap64 ((wrap64 ((wrap64 (-a0)) + a1)) - 1)) a1)))))) else (if a1 = 0 then (none) else (some (wrap64 (Int.tdiv a0 a1))))
set_option maxHeartbeats 8000000 in
set_option maxRecDepth 100000 in
theorem Zf.calls (a0 : Int) (a1 : Int) (r : Int) (w : World) (h : Zf.f a0 a1 = some r) :
  Calls Tryz.prog 117 #[.int .i64 a0, .int .i64 a1] w fun e w' => e = .returned (.int .i64 r) ∧ y9 w w' := by
 have H : (if a0 < 0 then (if a1 = 0 then (none) else (some (wrap64 (-(wrap64 (Int.tdiv (wrap64 ((wrap64 ((wrap64 (-a0)) + a1)) - 1)) a1)))))) else (if a1 = 0 then (none) else (some (wrap64 (Int.tdiv a0 a1))))) = some r := h
 clear h
 by_cases c3 : a0 < 0
 ·rw [if_pos c3] at H
  have Yh : decide (a0 < 0) = true := decide_eq_true c3
  clear c3
  by_cases c4 : a1 = 0
  ·rw [if_pos c4] at H
   exact absurd H (by simp)
  ·rw [if_neg c4] at H
   have Xg : (a1 == 0) = false := beq_eq_false_iff_ne.mpr c4
   have zyn : (a1 != 0) = true := bne_iff_ne.mpr c4
   obtain rfl := Option.some.inj H
   go_enter Tryz.func117, Tryz.ntmps117
   go_wp2
   go_ret
   exact ⟨by first | rfl | (simp; done) | (simp [*]; done), by repeat (first | exact y9.refl _ | apply y9.step)⟩
 ·rw [if_neg c3] at H
  have Yh : decide (a0 < 0) = false := decide_eq_false c3
  clear c3
  by_cases c5 : a1 = 0
  ·rw [if_pos c5] at H
   exact absurd H (by simp)
  ·rw [if_neg c5] at H
   have UG : (a1 == 0) = false := beq_eq_false_iff_ne.mpr c5
   have zqa : (a1 != 0) = true := bne_iff_ne.mpr c5
   obtain rfl := Option.some.inj H
   go_enter Tryz.func117, Tryz.ntmps117
   go_wp2
   go_ret
   exact ⟨by first | rfl | (simp; done) | (simp [*]; done), by repeat (first | exact y9.refl _ | apply y9.step)⟩
def jw.f (a0 : Int) (a1 : Int) : Option (Int) := (Zf.f (wrap64 ((wrap64 (10 * a1)) * a0)) 1000).bind fun KC => (some KC)
set_option maxHeartbeats 8000000 in
set_option maxRecDepth 100000 in
theorem jw.calls (a0 : Int) (a1 : Int) (r : Int) (w : World) (h : jw.f a0 a1 = some r) :
  Calls Tryz.prog 63 #[.int .i64 a0, .int .i64 a1] w fun e w' => e = .returned (.int .i64 r) ∧ y9 w w' := by
 have H : ((Zf.f (wrap64 ((wrap64 (10 * a1)) * a0)) 1000).bind fun KC => (some KC)) = some r := h
 clear h
 replace H := Option.bind_eq_some_iff.mp H
 obtain ⟨KC, A30, H⟩ := H
 replace H : (some KC) = some r := H
 have A3 := zx.mk A30
 clear A30
 obtain rfl := Option.some.inj H
 go_enter Tryz.func63, Tryz.ntmps63
 go_wp2_with (first | ((with_reducible refine yL (f := 117) rfl ?_); refine kF (some 9) Tryz.func117 #[.int .i64 (wrap64 ((wrap64 (10 * a1)) * a0)), .int .i64 1000] ?_; (with_reducible refine (Zf.calls (wrap64 ((wrap64 (10 * a1)) * a0)) 1000 KC _ A3.out).mono ?_); rintro e w' ⟨rfl, ⟨nd, rfl⟩⟩; refine ⟨_, rfl, ?_⟩))
 go_ret
 exact ⟨by first | rfl | (simp; done) | (simp [*]; done), by repeat (first | exact y9.refl _ | apply y9.step)⟩
end Go.Proofs.YtggifbbiiickmaaGreatDoor.PX
namespace Go.Proofs.YtggifbbiiickmaaGreatDoor.PX
open Go.RowKit Go.Proofs.zk.zK Go.Proofs.zk.yQ Go.Proofs.zk.yX
attribute [local go_sem] jZ jQ jL jM uD uE jX jJ   -- for this text's walks alone
set_option linter.unusedVariables false
set_option linter.unusedSimpArgs false
def Yl.f (zI : ByteArray) (zM : Bool) (zL : Int) (zS : List (yB)) (yt : List (qJ)) (yu : List (qB)) (a1 : ByteArray) (a2 : Int) : Option (Int × Int) := (kG.f zI zM zL zS yt yu a2).bind fun KD => (if KD = true then ((uU.f zI zM zL zS yt yu a1).bind fun kg => (if kg.2 = true then (if 0 ≤ kg.1 then (if kg.1 < (zS.length : Int) then ((jw.f ((qK zS kg.1).f1) a2).bind fun Ym => (some (Ym, 0))) else (none)) else (none)) else (some (0, 3)))) else (some (0, 1)))
set_option maxHeartbeats 8000000 in
set_option maxRecDepth 100000 in
theorem Yl.calls (zI : ByteArray) (zM : Bool) (zL : Int) (qP : Option Addr) (qR : Nat) (zS : List (yB)) (xq : Option Addr) (xk : Nat) (yt : List (qJ)) (xw : Option Addr) (xZ : Nat) (yu : List (qB)) (a1 : ByteArray) (a2 : Int) (r1 : Int) (r2 : Int) (w : World) (wC : Kd.C xB w qP zS.length zS) (Y6 : zS.length ≤ qR) (Y7 : Kd.C uV w xq yt.length yt) (Y8 : yt.length ≤ xk) (Y9 : Kd.C ug w xw yu.length yu) (Xz : yu.length ≤ xZ) (hG : GW w) (h : Yl.f zI zM zL zS yt yu a1 a2 = some (r1, r2)) :
  Calls Tryz.prog 22 #[.agg #[.string zI, .bool zM, .int .i64 zL, .slice qP zS.length qR, .slice xq yt.length xk, .slice xw yu.length xZ], .string a1, .int .i64 a2] w fun e w' => e = .returned (.tuple #[.int .i64 r1, .int .i64 r2]) ∧ Below w.heap.size w w' := by
 have zyf := Tryz.underlying60
 have HG := zx.mk hG
 clear hG
 have Yi := zx.mk wC
 have Xq := zx.mk Y6
 clear wC Y6
 have Xx := zx.mk Y7
 have Xj := zx.mk Y8
 clear Y7 Y8
 have Xv := zx.mk Y9
 have Xk := zx.mk Xz
 clear Y9 Xz
 have HB := zx.mk (Below.refl w.heap.size w)
 have H : ((kG.f zI zM zL zS yt yu a2).bind fun KD => (if KD = true then ((uU.f zI zM zL zS yt yu a1).bind fun kg => (if kg.2 = true then (if 0 ≤ kg.1 then (if kg.1 < (zS.length : Int) then ((jw.f ((qK zS kg.1).f1) a2).bind fun Ym => (some (Ym, 0))) else (none)) else (none)) else (some (0, 3)))) else (some (0, 1)))) = some (r1, r2) := h
 clear h
 replace H := Option.bind_eq_some_iff.mp H
 obtain ⟨KD, A40, H⟩ := H
 replace H : (if KD = true then ((uU.f zI zM zL zS yt yu a1).bind fun kg => (if kg.2 = true then (if 0 ≤ kg.1 then (if kg.1 < (zS.length : Int) then ((jw.f ((qK zS kg.1).f1) a2).bind fun Ym => (some (Ym, 0))) else (none)) else (none)) else (some (0, 3)))) else (some (0, 1))) = some (r1, r2) := H
 have A4 := zx.mk A40
 clear A40
 by_cases c5 : KD = true
 ·subst c5
  have H1 : ((uU.f zI zM zL zS yt yu a1).bind fun kg => (if kg.2 = true then (if 0 ≤ kg.1 then (if kg.1 < (zS.length : Int) then ((jw.f ((qK zS kg.1).f1) a2).bind fun Ym => (some (Ym, 0))) else (none)) else (none)) else (some (0, 3)))) = some (r1, r2) := by rw [if_pos rfl] at H; exact H
  clear H
  have H := H1
  clear H1
  replace H := Option.bind_eq_some_iff.mp H
  obtain ⟨⟨ZK, zyo⟩, mZ, H⟩ := H
  replace H : (if zyo = true then (if 0 ≤ ZK then (if ZK < (zS.length : Int) then ((jw.f ((qK zS ZK).f1) a2).bind fun Ym => (some (Ym, 0))) else (none)) else (none)) else (some (0, 3))) = some (r1, r2) := H
  have A6 := zx.mk mZ
  clear mZ
  by_cases c7 : zyo = true
  ·subst c7
   have H1 : (if 0 ≤ ZK then (if ZK < (zS.length : Int) then ((jw.f ((qK zS ZK).f1) a2).bind fun Ym => (some (Ym, 0))) else (none)) else (none)) = some (r1, r2) := by rw [if_pos rfl] at H; exact H
   clear H
   have H := H1
   clear H1
   by_cases c8 : 0 ≤ ZK
   ·rw [if_pos c8] at H
    have Ko : decide (0 ≤ ZK) = true := decide_eq_true c8
    clear c8
    by_cases c9 : ZK < (zS.length : Int)
    ·rw [if_pos c9] at H
     have Kt : decide (ZK < (zS.length : Int)) = true := decide_eq_true c9
     clear c9
     replace H := Option.bind_eq_some_iff.mp H
     obtain ⟨Ym, zyp, H⟩ := H
     replace H : (some (Ym, 0)) = some (r1, r2) := H
     have A10 := zx.mk zyp
     clear zyp
     simp only [Option.some.injEq, Prod.mk.injEq] at H
     obtain ⟨rfl, rfl⟩ := H
     go_enter Tryz.func22, Tryz.ntmps22
     go_wp2_with (first | ((with_reducible refine qw (N := 3) rfl ?_); refine qL ?hg (N := 3) ?hd (cs := #[.string zI, .bool zM, .int .i64 zL, .slice qP zS.length qR, .slice xq yt.length xk, .slice xw yu.length xZ]) (t := 60) ?hr ?_; (case hd => rfl); (case hg => rfl); (case hr => first | (go_simp; done) | (go_simp; rfl)); intro qG hg Ul qN hb; have zX := zx.mk (zA (zB HB.out) hb); have zV := zx.mk (qN); have zf := zx.mk ((by rw [hg]; exact (zW (zB HB.out)) : w.heap.size ≤ qG)); have zu := zx.mk ((by rw [hg]; exact (zW (zB HB.out)) : w.heap.size ≤ qG)); clear HB; have HB := zX; have yw := zV; have zvL := zf; have JD := zu; clear zX zV zf zu; clear hb qN hg; have zJc : Ul.cell? ⟨qG, 0, none⟩ = some (.string zI) := (zy yw.out 0).trans rfl; have zJd : Ul.cell? ⟨qG, 1, none⟩ = some (.bool zM) := (zy yw.out 1).trans rfl; have zJe : Ul.cell? ⟨qG, 2, none⟩ = some (.int .i64 zL) := (zy yw.out 2).trans rfl; have zJf : Ul.cell? ⟨qG, 3, none⟩ = some (.slice qP zS.length qR) := (zy yw.out 3).trans rfl; have zJg : Ul.cell? ⟨qG, 4, none⟩ = some (.slice xq yt.length xk) := (zy yw.out 4).trans rfl; have zJh : Ul.cell? ⟨qG, 5, none⟩ = some (.slice xw yu.length xZ) := (zy yw.out 5).trans rfl; have zJi := zw yw.out 0; have zJl := zw yw.out 1; have zJm := zw yw.out 2; have zJn := zw yw.out 3; have zJo := zw yw.out 4; have zJp := zw yw.out 5) | ((with_reducible refine yL (f := 62) rfl ?_); refine kF (some 12) Tryz.func62 #[.agg #[.string zI, .bool zM, .int .i64 zL, .slice qP zS.length qR, .slice xq yt.length xk, .slice xw yu.length xZ], .int .i64 a2] ?_; (with_reducible refine (kG.calls zI zM zL _ _ zS _ _ yt _ _ yu a2 true _ ?yO ?qd ?q8 ?q9 ?uK ?uY ?uW A4.out).mono ?_); (case yO => repeat (first | exact (Kd.zC Yi.out HB.out) | (with_reducible refine Kd.yJ ?_ _) | (with_reducible refine Kd.yV ?_ _) | (with_reducible refine Kd.yH ?_))); (case qd => exact Xq.out); (case q8 => repeat (first | exact (Kd.zC Xx.out HB.out) | (with_reducible refine Kd.yJ ?_ _) | (with_reducible refine Kd.yV ?_ _) | (with_reducible refine Kd.yH ?_))); (case q9 => exact Xj.out); (case uK => repeat (first | exact (Kd.zC Xv.out HB.out) | (with_reducible refine Kd.yJ ?_ _) | (with_reducible refine Kd.yV ?_ _) | (with_reducible refine Kd.yH ?_))); (case uY => exact Xk.out); (case uW => exact GW.under HG.out (zB HB.out)); rintro e mQ ⟨rfl, hb⟩; refine ⟨_, rfl, ?_⟩; have zX := zx.mk (zm (g := qG) (o := .cells #[.string zI, .bool zM, .int .i64 zL, .slice qP zS.length qR, .slice xq yt.length xk, .slice xw yu.length xZ] 60 (0, 0)) (zU yw.out) hb); have zV := zx.mk (zA (zB HB.out) hb); clear yw; clear HB; have yw := zX; have HB := zV; clear zX zV; (try clear hb); (try clear hb2); (try clear hk); (try clear hi); have KE : mQ.cell? ⟨qG, 0, none⟩ = some (.string zI) := (zy yw.out 0).trans rfl; have KF : mQ.cell? ⟨qG, 1, none⟩ = some (.bool zM) := (zy yw.out 1).trans rfl; have KG : mQ.cell? ⟨qG, 2, none⟩ = some (.int .i64 zL) := (zy yw.out 2).trans rfl; have KH : mQ.cell? ⟨qG, 3, none⟩ = some (.slice qP zS.length qR) := (zy yw.out 3).trans rfl; have KI : mQ.cell? ⟨qG, 4, none⟩ = some (.slice xq yt.length xk) := (zy yw.out 4).trans rfl; have KL : mQ.cell? ⟨qG, 5, none⟩ = some (.slice xw yu.length xZ) := (zy yw.out 5).trans rfl; have KM := zw yw.out 0; have KN := zw yw.out 1; have KO := zw yw.out 2; have KP := zw yw.out 3; have KR := zw yw.out 4; have KS := zw yw.out 5) | ((with_reducible refine yL (f := 64) rfl ?_); refine kF (some 17) Tryz.func64 #[.agg #[.string zI, .bool zM, .int .i64 zL, .slice qP zS.length qR, .slice xq yt.length xk, .slice xw yu.length xZ], .string a1] ?_; (with_reducible refine (uU.calls zI zM zL _ _ zS _ _ yt _ _ yu a1 ZK true _ ?yO ?qd ?q8 ?q9 ?uK ?uY ?uW A6.out).mono ?_); (case yO => repeat (first | exact (Kd.zC Yi.out HB.out) | (with_reducible refine Kd.yJ ?_ _) | (with_reducible refine Kd.yV ?_ _) | (with_reducible refine Kd.yH ?_))); (case qd => exact Xq.out); (case q8 => repeat (first | exact (Kd.zC Xx.out HB.out) | (with_reducible refine Kd.yJ ?_ _) | (with_reducible refine Kd.yV ?_ _) | (with_reducible refine Kd.yH ?_))); (case q9 => exact Xj.out); (case uK => repeat (first | exact (Kd.zC Xv.out HB.out) | (with_reducible refine Kd.yJ ?_ _) | (with_reducible refine Kd.yV ?_ _) | (with_reducible refine Kd.yH ?_))); (case uY => exact Xk.out); (case uW => exact GW.under HG.out (zB HB.out)); rintro e XT ⟨rfl, hb⟩; refine ⟨_, rfl, ?_⟩; have zX := zx.mk (zm (g := qG) (o := .cells #[.string zI, .bool zM, .int .i64 zL, .slice qP zS.length qR, .slice xq yt.length xk, .slice xw yu.length xZ] 60 (0, 0)) (zU yw.out) hb); have zV := zx.mk (zA (zB HB.out) hb); clear yw; clear HB; have yw := zX; have HB := zV; clear zX zV; (try clear hb); (try clear hb2); (try clear hk); (try clear hi); have KT : XT.cell? ⟨qG, 0, none⟩ = some (.string zI) := (zy yw.out 0).trans rfl; have KU : XT.cell? ⟨qG, 1, none⟩ = some (.bool zM) := (zy yw.out 1).trans rfl; have K8 : XT.cell? ⟨qG, 2, none⟩ = some (.int .i64 zL) := (zy yw.out 2).trans rfl; have Wz : XT.cell? ⟨qG, 3, none⟩ = some (.slice qP zS.length qR) := (zy yw.out 3).trans rfl; have Wq : XT.cell? ⟨qG, 4, none⟩ = some (.slice xq yt.length xk) := (zy yw.out 4).trans rfl; have Wx : XT.cell? ⟨qG, 5, none⟩ = some (.slice xw yu.length xZ) := (zy yw.out 5).trans rfl; have Wj := zw yw.out 0; have Wv := zw yw.out 1; have Wy := zw yw.out 2; have Ww := zw yw.out 3; have WZ := zw yw.out 4; have WQ := zw yw.out 5; have zjD : 0 ≤ (ZK : Int) := of_decide_eq_true (by first | (with_reducible assumption) | assumption); have zjE : ZK < (zS.length : Int) := of_decide_eq_true (by first | (with_reducible assumption) | assumption); obtain ⟨zK4, zQl, WX, WJ⟩ := Qn Yi.out ZK zjD zjE; cases zQl; replace WX := (HB.out.cell (World.block_lt_of_cell? w _ WX)).trans WX; replace WJ := (HB.out.cell (World.block_lt_of_cell? w _ WJ)).trans WJ; replace zjD := eq_true zjD; replace zjE := eq_true zjE) | ((with_reducible refine yL (f := 63) rfl ?_); refine kF (some 29) Tryz.func63 #[.int .i64 ((qK zS ZK).f1), .int .i64 a2] ?_; (with_reducible refine (jw.calls ((qK zS ZK).f1) a2 Ym _ A10.out).mono ?_); rintro e w' ⟨rfl, ⟨nd, rfl⟩⟩; refine ⟨_, rfl, ?_⟩))
     go_ret2
     exact ⟨by first | rfl | (simp [zG, zH] <;> rfl) | (simp [*, zG, zH] <;> rfl), by repeat (first | (with_reducible first | exact HB.out | apply yj | apply zN | apply yY | refine qb ?_ JD.out) | exact HB.out)⟩
    ·rw [if_neg c9] at H
     exact absurd H (by simp)
   ·rw [if_neg c8] at H
    exact absurd H (by simp)
  ·replace c7 := Bool.eq_false_iff.mpr c7
   subst c7
   have H1 : (some (0, 3)) = some (r1, r2) := by rw [if_neg (show ¬ (false = true) by decide)] at H; exact H
   clear H
   have H := H1
   clear H1
   simp only [Option.some.injEq, Prod.mk.injEq] at H
   obtain ⟨rfl, rfl⟩ := H
   go_enter Tryz.func22, Tryz.ntmps22
   go_wp2_with (first | ((with_reducible refine qw (N := 3) rfl ?_); refine qL ?hg (N := 3) ?hd (cs := #[.string zI, .bool zM, .int .i64 zL, .slice qP zS.length qR, .slice xq yt.length xk, .slice xw yu.length xZ]) (t := 60) ?hr ?_; (case hd => rfl); (case hg => rfl); (case hr => first | (go_simp; done) | (go_simp; rfl)); intro qG hg Um qN hb; have zX := zx.mk (zA (zB HB.out) hb); have zV := zx.mk (qN); have zf := zx.mk ((by rw [hg]; exact (zW (zB HB.out)) : w.heap.size ≤ qG)); have zu := zx.mk ((by rw [hg]; exact (zW (zB HB.out)) : w.heap.size ≤ qG)); clear HB; have HB := zX; have yw := zV; have zvL := zf; have JD := zu; clear zX zV zf zu; clear hb qN hg; have zJr : Um.cell? ⟨qG, 0, none⟩ = some (.string zI) := (zy yw.out 0).trans rfl; have zJs : Um.cell? ⟨qG, 1, none⟩ = some (.bool zM) := (zy yw.out 1).trans rfl; have zJt : Um.cell? ⟨qG, 2, none⟩ = some (.int .i64 zL) := (zy yw.out 2).trans rfl; have zJu : Um.cell? ⟨qG, 3, none⟩ = some (.slice qP zS.length qR) := (zy yw.out 3).trans rfl; have zJA : Um.cell? ⟨qG, 4, none⟩ = some (.slice xq yt.length xk) := (zy yw.out 4).trans rfl; have zJB : Um.cell? ⟨qG, 5, none⟩ = some (.slice xw yu.length xZ) := (zy yw.out 5).trans rfl; have zJC := zw yw.out 0; have zJD := zw yw.out 1; have zJE := zw yw.out 2; have zJF := zw yw.out 3; have zJG := zw yw.out 4; have zJH := zw yw.out 5) | ((with_reducible refine yL (f := 62) rfl ?_); refine kF (some 12) Tryz.func62 #[.agg #[.string zI, .bool zM, .int .i64 zL, .slice qP zS.length qR, .slice xq yt.length xk, .slice xw yu.length xZ], .int .i64 a2] ?_; (with_reducible refine (kG.calls zI zM zL _ _ zS _ _ yt _ _ yu a2 true _ ?yO ?qd ?q8 ?q9 ?uK ?uY ?uW A4.out).mono ?_); (case yO => repeat (first | exact (Kd.zC Yi.out HB.out) | (with_reducible refine Kd.yJ ?_ _) | (with_reducible refine Kd.yV ?_ _) | (with_reducible refine Kd.yH ?_))); (case qd => exact Xq.out); (case q8 => repeat (first | exact (Kd.zC Xx.out HB.out) | (with_reducible refine Kd.yJ ?_ _) | (with_reducible refine Kd.yV ?_ _) | (with_reducible refine Kd.yH ?_))); (case q9 => exact Xj.out); (case uK => repeat (first | exact (Kd.zC Xv.out HB.out) | (with_reducible refine Kd.yJ ?_ _) | (with_reducible refine Kd.yV ?_ _) | (with_reducible refine Kd.yH ?_))); (case uY => exact Xk.out); (case uW => exact GW.under HG.out (zB HB.out)); rintro e dQ ⟨rfl, hb⟩; refine ⟨_, rfl, ?_⟩; have zX := zx.mk (zm (g := qG) (o := .cells #[.string zI, .bool zM, .int .i64 zL, .slice qP zS.length qR, .slice xq yt.length xk, .slice xw yu.length xZ] 60 (0, 0)) (zU yw.out) hb); have zV := zx.mk (zA (zB HB.out) hb); clear yw; clear HB; have yw := zX; have HB := zV; clear zX zV; (try clear hb); (try clear hb2); (try clear hk); (try clear hi); have WV : dQ.cell? ⟨qG, 0, none⟩ = some (.string zI) := (zy yw.out 0).trans rfl; have WK : dQ.cell? ⟨qG, 1, none⟩ = some (.bool zM) := (zy yw.out 1).trans rfl; have WY : dQ.cell? ⟨qG, 2, none⟩ = some (.int .i64 zL) := (zy yw.out 2).trans rfl; have WW : dQ.cell? ⟨qG, 3, none⟩ = some (.slice qP zS.length qR) := (zy yw.out 3).trans rfl; have Wd : dQ.cell? ⟨qG, 4, none⟩ = some (.slice xq yt.length xk) := (zy yw.out 4).trans rfl; have Wh : dQ.cell? ⟨qG, 5, none⟩ = some (.slice xw yu.length xZ) := (zy yw.out 5).trans rfl; have Wi := zw yw.out 0; have Wm := zw yw.out 1; have Wn := zw yw.out 2; have Wo := zw yw.out 3; have Wp := zw yw.out 4; have Ws := zw yw.out 5) | ((with_reducible refine yL (f := 64) rfl ?_); refine kF (some 17) Tryz.func64 #[.agg #[.string zI, .bool zM, .int .i64 zL, .slice qP zS.length qR, .slice xq yt.length xk, .slice xw yu.length xZ], .string a1] ?_; (with_reducible refine (uU.calls zI zM zL _ _ zS _ _ yt _ _ yu a1 ZK false _ ?yO ?qd ?q8 ?q9 ?uK ?uY ?uW A6.out).mono ?_); (case yO => repeat (first | exact (Kd.zC Yi.out HB.out) | (with_reducible refine Kd.yJ ?_ _) | (with_reducible refine Kd.yV ?_ _) | (with_reducible refine Kd.yH ?_))); (case qd => exact Xq.out); (case q8 => repeat (first | exact (Kd.zC Xx.out HB.out) | (with_reducible refine Kd.yJ ?_ _) | (with_reducible refine Kd.yV ?_ _) | (with_reducible refine Kd.yH ?_))); (case q9 => exact Xj.out); (case uK => repeat (first | exact (Kd.zC Xv.out HB.out) | (with_reducible refine Kd.yJ ?_ _) | (with_reducible refine Kd.yV ?_ _) | (with_reducible refine Kd.yH ?_))); (case uY => exact Xk.out); (case uW => exact GW.under HG.out (zB HB.out)); rintro e w21 ⟨rfl, hb⟩; refine ⟨_, rfl, ?_⟩; have zX := zx.mk (zm (g := qG) (o := .cells #[.string zI, .bool zM, .int .i64 zL, .slice qP zS.length qR, .slice xq yt.length xk, .slice xw yu.length xZ] 60 (0, 0)) (zU yw.out) hb); have zV := zx.mk (zA (zB HB.out) hb); clear yw; clear HB; have yw := zX; have HB := zV; clear zX zV; (try clear hb); (try clear hb2); (try clear hk); (try clear hi)))
   go_ret2
   exact ⟨by first | rfl | (simp [zG, zH] <;> rfl) | (simp [*, zG, zH] <;> rfl), by repeat (first | (with_reducible first | exact HB.out | apply yj | apply zN | apply yY | refine qb ?_ JD.out) | exact HB.out)⟩
 ·replace c5 := Bool.eq_false_iff.mpr c5
  subst c5
  have H1 : (some (0, 1)) = some (r1, r2) := by rw [if_neg (show ¬ (false = true) by decide)] at H; exact H
  clear H
  have H := H1
  clear H1
  simp only [Option.some.injEq, Prod.mk.injEq] at H
  obtain ⟨rfl, rfl⟩ := H
  go_enter Tryz.func22, Tryz.ntmps22
  go_wp2_with (first | ((with_reducible refine qw (N := 3) rfl ?_); refine qL ?hg (N := 3) ?hd (cs := #[.string zI, .bool zM, .int .i64 zL, .slice qP zS.length qR, .slice xq yt.length xk, .slice xw yu.length xZ]) (t := 60) ?hr ?_; (case hd => rfl); (case hg => rfl); (case hr => first | (go_simp; done) | (go_simp; rfl)); intro qG hg aD qN hb; have zX := zx.mk (zA (zB HB.out) hb); have zV := zx.mk (qN); have zf := zx.mk ((by rw [hg]; exact (zW (zB HB.out)) : w.heap.size ≤ qG)); have zu := zx.mk ((by rw [hg]; exact (zW (zB HB.out)) : w.heap.size ≤ qG)); clear HB; have HB := zX; have yw := zV; have zvL := zf; have JD := zu; clear zX zV zf zu; clear hb qN hg; have Wt : aD.cell? ⟨qG, 0, none⟩ = some (.string zI) := (zy yw.out 0).trans rfl; have Wu : aD.cell? ⟨qG, 1, none⟩ = some (.bool zM) := (zy yw.out 1).trans rfl; have WA : aD.cell? ⟨qG, 2, none⟩ = some (.int .i64 zL) := (zy yw.out 2).trans rfl; have WB : aD.cell? ⟨qG, 3, none⟩ = some (.slice qP zS.length qR) := (zy yw.out 3).trans rfl; have WC : aD.cell? ⟨qG, 4, none⟩ = some (.slice xq yt.length xk) := (zy yw.out 4).trans rfl; have WE : aD.cell? ⟨qG, 5, none⟩ = some (.slice xw yu.length xZ) := (zy yw.out 5).trans rfl; have WG := zw yw.out 0; have WH := zw yw.out 1; have WI := zw yw.out 2; have WL := zw yw.out 3; have WM := zw yw.out 4; have WO := zw yw.out 5) | ((with_reducible refine yL (f := 62) rfl ?_); refine kF (some 12) Tryz.func62 #[.agg #[.string zI, .bool zM, .int .i64 zL, .slice qP zS.length qR, .slice xq yt.length xk, .slice xw yu.length xZ], .int .i64 a2] ?_; (with_reducible refine (kG.calls zI zM zL _ _ zS _ _ yt _ _ yu a2 false _ ?yO ?qd ?q8 ?q9 ?uK ?uY ?uW A4.out).mono ?_); (case yO => repeat (first | exact (Kd.zC Yi.out HB.out) | (with_reducible refine Kd.yJ ?_ _) | (with_reducible refine Kd.yV ?_ _) | (with_reducible refine Kd.yH ?_))); (case qd => exact Xq.out); (case q8 => repeat (first | exact (Kd.zC Xx.out HB.out) | (with_reducible refine Kd.yJ ?_ _) | (with_reducible refine Kd.yV ?_ _) | (with_reducible refine Kd.yH ?_))); (case q9 => exact Xj.out); (case uK => repeat (first | exact (Kd.zC Xv.out HB.out) | (with_reducible refine Kd.yJ ?_ _) | (with_reducible refine Kd.yV ?_ _) | (with_reducible refine Kd.yH ?_))); (case uY => exact Xk.out); (case uW => exact GW.under HG.out (zB HB.out)); rintro e Un ⟨rfl, hb⟩; refine ⟨_, rfl, ?_⟩; have zX := zx.mk (zm (g := qG) (o := .cells #[.string zI, .bool zM, .int .i64 zL, .slice qP zS.length qR, .slice xq yt.length xk, .slice xw yu.length xZ] 60 (0, 0)) (zU yw.out) hb); have zV := zx.mk (zA (zB HB.out) hb); clear yw; clear HB; have yw := zX; have HB := zV; clear zX zV; (try clear hb); (try clear hb2); (try clear hk); (try clear hi)))
  go_ret2
  exact ⟨by first | rfl | (simp [zG, zH] <;> rfl) | (simp [*, zG, zH] <;> rfl), by repeat (first | (with_reducible first | exact HB.out | apply yj | apply zN | apply yY | refine qb ?_ JD.out) | exact HB.out)⟩
end Go.Proofs.YtggifbbiiickmaaGreatDoor.PX
namespace Go.Proofs.YtggifbbiiickmaaGreatDoor.PX
open Go.RowKit Go.Proofs.zk.zK Go.Proofs.zk.yQ Go.Proofs.zk.yX
attribute [local go_sem] jZ jQ jL jM uD uE jX jJ   -- for this text's walks alone
set_option linter.unusedVariables false
set_option linter.unusedSimpArgs false
end Go.Proofs.YtggifbbiiickmaaGreatDoor.PX
namespace Go.Proofs.YtggifbbiiickmaaGreatDoor
open Go.RowKit Go.Shelf Go.Proofs.zk.zK Go.Proofs.zk.yQ Go.Proofs.zk.yX Go.Proofs.YtggifbbiiickmaaGreatDoor.PX
set_option linter.unusedSimpArgs false
set_option linter.unusedVariables false
theorem zxt {a : ByteArray} {c : Int} {l3 : List yB} {l4 : List qJ} {l5 : List qB} (h : xM a c l3 l4 l5 = true) : l3.length ≤ 400 ∧ l4.length ≤ 50 ∧ l5.length ≤ 500 := by
 unfold xM at h
 split at h
 ·cases h
 ·rename_i q1
  simp only [Bool.or_eq_true, not_or, decide_eq_true_eq] at q1
  omega
theorem zxu {a : ByteArray} {c : Int} {l3 : List yB} {l4 : List qJ} {l5 : List qB} (h : xM a c l3 l4 l5 = true) : Asc l3 := by
 unfold xM at h
 split at h
 ·cases h
 ·split at h
  ·cases h
  ·rename_i q2
   simp only [Bool.or_eq_true, not_or, Bool.not_eq_true, Bool.not_eq_false'] at q2
   exact zyi q2.2
theorem zqc {a : ByteArray} {c : Int} {l3 : List yB} {l4 : List qJ} {l5 : List qB} (h : xM a c l3 l4 l5 = true) : ∀ x ∈ l3, 0 ≤ x.f1 ∧ x.f1 ≤ 3000 := by
 unfold xM at h
 split at h
 ·cases h
 ·split at h
  ·cases h
  ·rename_i q2
   intro x hx
   simp only [Bool.or_eq_true, not_or, Bool.not_eq_true, Bool.not_eq_false'] at q2
   have h1 := List.any_eq_false.1 q2.1 x hx
   unfold Ku Xu at h1
   simp only [Bool.or_eq_true, not_or, decide_eq_true_eq] at h1
   omega
def aG (s n : Int) : Int := 10 * (s * n) / 1000
theorem zxA (s n : Int) (hs : 1 ≤ s) (hs1 : s ≤ 1000) (h0 : -3000 ≤ n) (h1 : n ≤ 3000) : -3000000 ≤ s * n ∧ s * n ≤ 3000000 := by
 have a1 := Int.mul_le_mul_of_nonneg_left h1 (by omega : (0 : Int) ≤ s)
 have a2 := Int.mul_le_mul_of_nonneg_left h0 (by omega : (0 : Int) ≤ s)
 omega
theorem zxB (n s : Int) (hs : 1 ≤ s) (hs1 : s ≤ 1000) (h0 : -3000 ≤ n) (h1 : n ≤ 3000) : jw.f n s = some (aG s n) := by
 have hr := zxA s n hs hs1 h0 h1
 have e : 10 * s * n = 10 * (s * n) := Int.mul_assoc _ _ _
 unfold jw.f aG
 rw [ZG (x := 10 * s) (by omega) (by omega), e]
 generalize s * n = p at hr
 rw [ZG (x := 10 * p) (by omega) (by omega)]
 unfold Zf.f
 by_cases hp : 10 * p < 0
 ·rw [if_pos hp, if_neg (by omega), ZG (x := -(10 * p)) (by omega) (by omega), ZG (x := -(10 * p) + 1000) (by omega) (by omega), ZG (x := -(10 * p) + 1000 - 1) (by omega) (by omega), Int.tdiv_eq_ediv_of_nonneg (by omega), ZG (x := (-(10 * p) + 1000 - 1) / 1000) (by omega) (by omega), ZG (by omega) (by omega)]
  simp only [Option.bind_some]
  congr 1
  omega
 ·rw [if_neg hp, if_neg (by omega), Int.tdiv_eq_ediv_of_nonneg (by omega), ZG (by omega) (by omega)]
  rfl
def Yn (s : Int) (V : Bool) : Bool := decide (1 ≤ s) && (decide (s ≤ 1000) && V)
def mX (V : Bool) (l : List yB) (n : ByteArray) (s : Int) : Int × Int := if Yn s V = true then (match l.find? (fun x => decide (x.f0 = n)) with | some x => (aG s x.f1, 0) | none => (0, 3)) else (0, 1)
def JE (V : Bool) (l : List qB) (n m : ByteArray) (s : Int) : Int × Int := if Yn s V = true then ((match l.find? (fun x => decide (x.f0 = n) && decide (x.f1 = m)) with | some x => aG s x.f2 | none => 0), 0) else (0, 1)
def Uz (V : Bool) (l : List qJ) (n m : ByteArray) : ByteArray × Bool := if V = true then (match l.find? (fun x => decide (x.f0 = n) && decide (x.f1 = m)) with | some x => (x.f2, true) | none => ((⟨#[]⟩ : ByteArray), false)) else ((⟨#[]⟩ : ByteArray), false)
theorem zxC (a : ByteArray) (b : Bool) (c : Int) (l3 : List yB) (l4 : List qJ) (l5 : List qB) (s : Int) (h3 : l3.length ≤ 1000000000) (h4 : l4.length ≤ 1000000000) (h5 : l5.length ≤ 1000000000) : kG.f a b c l3 l4 l5 s = some (Yn s (xM a c l3 l4 l5)) := by
 unfold kG.f Yn jf.f
 by_cases h1 : s ≥ 1
 ·rw [if_pos h1, decide_eq_true h1]
  by_cases h2 : s ≤ 1000
  ·rw [if_pos h2, decide_eq_true h2, if_pos ⟨h3, h4, h5⟩]; rfl
  ·rw [if_neg h2, decide_eq_false h2]; rfl
 ·rw [if_neg h1, decide_eq_false h1]; rfl
theorem mJ {s : Int} {V : Bool} (h : Yn s V = true) : 1 ≤ s ∧ s ≤ 1000 ∧ V = true := by
 unfold Yn at h
 simp only [Bool.and_eq_true, decide_eq_true_eq] at h
 exact h
theorem zqd {a : ByteArray} {c : Int} {l3 : List yB} {l4 : List qJ} {l5 : List qB} (h : xM a c l3 l4 l5 = true) : (0 ≤ c ∧ c ≤ 3000) ∧ ∀ x ∈ l5, -500 ≤ x.f2 ∧ x.f2 ≤ 500 := by
 unfold xM at h
 split at h
 ·cases h
 ·rename_i q1
  split at h
  ·cases h
  ·split at h
   ·cases h
   ·simp only [Bool.or_eq_true, not_or, decide_eq_true_eq, Xu] at q1
    rw [Bool.and_eq_true] at h
    refine ⟨by omega, fun x hx => ?_⟩
    have h2 : l5.any (UU l3) = false := by simpa using h.1
    have h1 := List.any_eq_false.1 h2 x hx
    unfold UU at h1
    simp only [Bool.or_eq_true, not_or, decide_eq_true_eq] at h1
    omega
theorem zyr (a : ByteArray) (b : Bool) (c : Int) (l3 : List yB) (l4 : List qJ) (l5 : List qB) (n : ByteArray) (s : Int) (h3 : l3.length ≤ 1000000000) (h4 : l4.length ≤ 1000000000) (h5 : l5.length ≤ 1000000000) : Yl.f a b c l3 l4 l5 n s = some (mX (xM a c l3 l4 l5) l3 n s) := by
 unfold Yl.f mX
 rw [zxC a b c l3 l4 l5 s h3 h4 h5]
 simp only [Option.bind_some]
 by_cases h : Yn s (xM a c l3 l4 l5) = true
 ·obtain ⟨p, q, hv⟩ := mJ h
  rw [if_pos h, if_pos h]
  unfold uU.f
  rw [if_pos h3]
  simp only [Option.bind_some]
  cases hf : l3.find? (fun x => decide (x.f0 = n)) with
  | none =>
   rw [List.find?_eq_none] at hf
   rw [zkB l3 n (fun x hx e => hf x hx (decide_eq_true e)), if_neg (by simp)]
  | some x =>
   have hx := List.mem_of_find?_eq_some hf
   have he : x.f0 = n := by have := List.find?_some hf; simpa using this
   obtain ⟨m, hm, rfl⟩ := List.getElem_of_mem hx
   subst he
   have hw := zqc hv _ hx
   rw [zkA l3 (zxu hv) m hm]
   simp only [if_true]
   rw [if_pos (by omega), if_pos (by omega), U1 l3 m hm, zxB _ s p q (by omega) (by omega)]; rfl
 ·rw [if_neg h, if_neg h]
theorem Vh {x y : ByteArray} : x.toList = y.toList ↔ x = y := Ui
end Go.Proofs.YtggifbbiiickmaaGreatDoor
namespace Go.Proofs.YtggifbbiiickmaaGreatDoor
open Go.RowKit Go.Proofs.zk.zK Go.Proofs.zk.yX Go.Proofs.YtggifbbiiickmaaGreatDoor.PX
set_option linter.unusedSimpArgs false
set_option linter.unusedVariables false
abbrev y8 := uR
abbrev vO := jR
abbrev ko := uI
def vY (x : y8) : Bool := xM x.f0 x.f2 x.f3 x.f4 x.f5
def YR (x : y8) (n : ByteArray) : Bool := Q9 x.f3 n
def fjoin (x : y8) (n m : ByteArray) : ByteArray × Bool := Uz (vY x) x.f4 n m
def Z6 (x : y8) (n m : ByteArray) (s : Int) : Int × Int := JE (vY x) x.f5 n m s
def Qk (x : y8) (n : ByteArray) (s : Int) : Int × Int := mX (vY x) x.f3 n s
def vw (l : List y8) (i : Int) : y8 := xU l i
def Z7 (n : ByteArray) : List y8 → Nat → Int
 | [], _ => -1
 | x :: r, i => if x.f1 && YR x n then (i : Int) else Z7 n r (i + 1)
def uM (l : List y8) (f : Int) (n : ByteArray) : Int := if YR (vw l f) n then f else Z7 n l 0
def Qb (Qy : Int) : vO := ⟨2, Qy, 0, 0, ⟨#[]⟩, ⟨#[]⟩, []⟩
def Vz (w f s : Int) (n : ByteArray) : vO := ⟨0, w, f, s, n, ⟨#[]⟩, []⟩
def p9 (l : List y8) (s : Int) (za : Bool) (out : List vO) (a : Int) (n : ByteArray) : List vO :=
 match out.getLast? with
 | none => []
 | some b => if za && decide (b.f2 = a) then (if (Z6 (vw l a) b.f4 n s).1 = 0 then [] else [Qb (Z6 (vw l a) b.f4 n s).1]) else []
def kr (l : List y8) (f s : Int) (za : Bool) (st : List vO × List ByteArray) (n : ByteArray) : List vO × List ByteArray :=
 if uM l f n < 0 then (st.1, st.2 ++ [n])
 else (st.1 ++ p9 l s za st.1 (uM l f n) n ++ [Vz (Qk (vw l (uM l f n)) n s).1 (uM l f n) s n], st.2)
def Yo (J : ByteArray → ByteArray → ByteArray × Bool) (c : ByteArray) : List ByteArray → ByteArray × List ByteArray
 | [] => (c, [])
 | d :: r => if (J c d).2 then Yo J (J c d).1 r else (c, d :: r)
theorem aH (J : ByteArray → ByteArray → ByteArray × Bool) : ∀ (r : List ByteArray) (c : ByteArray), (Yo J c r).2.length ≤ r.length
 | [], _ => Nat.le_refl _
 | d :: r, c => by
  unfold Yo
  split
  ·exact Nat.le_succ_of_le (aH J r _)
  ·exact Nat.le_refl _
def Qr (J : ByteArray → ByteArray → ByteArray × Bool) : List ByteArray → List ByteArray
 | [] => []
 | c :: r => (Yo J c r).1 :: Qr J (Yo J c r).2
termination_by l => l.length
decreasing_by have := aH J r c; simp; omega
def aI (pairs : List ko) (c : ByteArray) : ByteArray := match pairs.find? (fun p => decide (p.f0 = c)) with | some p => p.f1 | none => c
def jS (l : List y8) (f s : Int) (za : Bool) (ns : List ByteArray) : List vO × List ByteArray := ns.foldl (kr l f s za) ([], [])
def Yp (l : List y8) (f : Int) (zP : Bool) (chars : List ByteArray) (pairs : List ko) : List ByteArray :=
 if zP then Qr (fjoin (vw l f)) (chars.map (aI pairs)) else chars.map (aI pairs)
def pW (s : ByteArray) : Bool := !Y5 s.data.toList
def Vq (p : ko) : Bool := pW p.f0 || pW p.f1
def YS (l : List y8) (f s : Int) (chars : List ByteArray) (pairs : List ko) : Bool :=
 l.any (fun x => !vY x) || (decide (f < 0) || decide ((l.length : Int) ≤ f) || decide (s < 1) || decide (1000 < s)) || (decide (2000 < chars.length) || decide (100 < pairs.length)) || chars.any pW || pairs.any Vq
def JF (l : List y8) (f s : Int) (zP za : Bool) (chars : List ByteArray) (pairs : List ko) : List vO × List ByteArray × Int :=
 if YS l f s chars pairs then ([], [], 1)
 else ((jS l f s za (Yp l f zP chars pairs)).1, (jS l f s za (Yp l f zP chars pairs)).2, 0)
end Go.Proofs.YtggifbbiiickmaaGreatDoor
namespace Go.Proofs.YtggifbbiiickmaaGreatDoor
open Go.RowKit Go.Proofs.zk.zK
set_option linter.unusedSimpArgs false
set_option linter.unusedVariables false
def kM {α : Type} (p : α → Bool) : List α → Nat → Int
 | [], _ => -1
 | x :: r, i => if p x then (i : Int) else kM p r (i + 1)
theorem Qw {α : Type} (p : α → Bool) (x : α) (r : List α) (i : Nat) : kM p (x :: r) i = if p x then (i : Int) else kM p r (i + 1) := rfl
theorem Vx {α : Type} (p : α → Bool) : ∀ (l : List α) (i : Nat), decide (0 ≤ kM p l i) = l.any p
 | [], _ => rfl
 | x :: r, i => by
  unfold kM
  rw [List.any_cons]
  by_cases h : p x = true
  ·rw [if_pos h, h, Bool.true_or]; exact decide_eq_true (by omega)
  ·rw [if_neg h, Vx p r]
   simp only [Bool.not_eq_true] at h
   rw [h, Bool.false_or]
end Go.Proofs.YtggifbbiiickmaaGreatDoor
namespace Go.Proofs.YtggifbbiiickmaaGreatDoor
open Go.RowKit Go.Proofs.zk.zK Go.Proofs.zk.yQ Go.Proofs.zk.yX Go.Proofs.YtggifbbiiickmaaGreatDoor.PX
set_option linter.unusedSimpArgs false
set_option linter.unusedVariables false
set_option maxRecDepth 100000 in
set_option maxHeartbeats 4000000 in
theorem mV (A0 : Option Addr) (c0 : Nat) (l : List uR) (w : World) (hr : Kd.C jY w A0 l.length l) (hl : l.length ≤ 1000000000) (p : uR → Bool) (g : Nat) (lb : Array Value) (eg : ∀ args w, (callFunc g args).run Tryz.prog w = .ok (.enter g args) w)
  (hp : ∀ (W : World) (x : uR) (A3 : Option Addr) (c3 : Nat) (A4 : Option Addr) (c4 : Nat) (A5 : Option Addr) (c5 : Nat), x ∈ l → Below w.heap.size w W → Kd.C xB W A3 x.f3.length x.f3 → x.f3.length ≤ c3 → Kd.C uV W A4 x.f4.length x.f4 → x.f4.length ≤ c4 → Kd.C ug W A5 x.f5.length x.f5 → x.f5.length ≤ c5 → Calls Tryz.prog g (#[.agg #[.string x.f0, .bool x.f1, .int .i64 x.f2, .slice A3 x.f3.length c3, .slice A4 x.f4.length c4, .slice A5 x.f5.length c5]] ++ lb) W fun e w' => e = .returned (.bool (p x)) ∧ Below w.heap.size w w') :
  Calls Tryz.prog 83 #[.slice A0 l.length c0, .func (.func g) #[] lb] w fun e w' => e = .returned (.int .i64 (kM p l 0)) ∧ Below w.heap.size w w' := by
 have H := zx.mk hr
 have HP := zx.mk hp
 clear hr hp
 generalize hR : kM p l 0 = R
 have HR := zx.mk hR
 clear hR
 go_enter Tryz.func83, Tryz.ntmps83
 go_wp2
 go_loopw [8] (fun i W => ∃ k : Nat, k ≤ l.length ∧ i = .int .i64 (k : Int) ∧ zx (kM p l 0 = kM p (l.drop k) k) ∧ zx (Below w.heap.size w W)) (fun i _ => l.length - (intOf i).toNat)
 case atStart => exact ⟨0, Nat.zero_le _, rfl, ⟨by rw [List.drop_zero]⟩, ⟨Below.refl _ _⟩⟩
 case round =>
  obtain ⟨k, hk, rfl, HI, HB⟩ := hrel
  by_cases hlt : k < l.length
  ·obtain ⟨ad, A3, c3, A4, c4, A5, c5, e, x0, x1, x2, x3, x4, x5, g3, q3, g4, q4, g5, q5⟩ := XL (Kd.zC H.out HB.out) (k : Int) (by omega) (by omega)
   cases e
   have e : xU l (k : Int) = l[k] := by simp [xU, List.getD_eq_getElem?_getD, hlt]
   rw [Int.toNat_natCast] at x0 x1 x2 x3 x4 x5
   rw [e] at x0 x1 x2 x3 x4 x5 g3 q3 g4 q4 g5 q5
   clear e
   have hi := HI.out
   rw [List.drop_eq_getElem_cons hlt, Qw] at hi
   have hm : l[k] ∈ l := List.getElem_mem hlt
   generalize l[k] = x at x0 x1 x2 x3 x4 x5 g3 q3 g4 q4 g5 q5 hi hm
   have hcall := HP.out wr x A3 c3 A4 c4 A5 c5 hm HB.out q3 g3 q4 g4 q5 g5
   clear hm q3 g3 q4 g4 q5 g5
   cases hq : p x with
   | true =>
    rw [hq] at hcall
    rw [if_pos hq] at hi
    have HI2 := zx.mk (HR.out.symm.trans hi)
    clear hi hq HI
    go_wp2_with fail
    refine hcall.mono ?_; rintro e w' ⟨rfl, hb'⟩
    go_wp2_with fail
    go_ret
    exact ⟨by rw [HI2.out]; rfl, hb'⟩
   | false =>
    rw [hq] at hcall
    rw [if_neg (by rw [hq]; exact Bool.false_ne_true)] at hi
    have HI2 := zx.mk hi
    clear hi hq HI
    go_wp2_with fail
    refine hcall.mono ?_; rintro e w' ⟨rfl, hb'⟩
    go_wp2_with fail
    go_roundw
    case rel => exact ⟨k + 1, by omega, by first | rfl | go_num, HI2, ⟨hb'⟩⟩
    case measure => simp [intOf]; omega
  ·obtain rfl : k = l.length := by omega
   have hi := HI.out
   rw [List.drop_eq_nil_of_le (Nat.le_refl _)] at hi
   have HI2 := zx.mk (HR.out.symm.trans hi)
   clear hi HI
   go_wp2
   go_ret
   exact ⟨by rw [HI2.out]; rfl, HB.out⟩
set_option maxRecDepth 100000 in
theorem zjF (A0 : Option Addr) (c0 : Nat) (l : List uR) (w : World) (hr : Kd.C jY w A0 l.length l) (hl : l.length ≤ 1000000000) (p : uR → Bool) (g : Nat) (lb : Array Value) (eg : ∀ args w, (callFunc g args).run Tryz.prog w = .ok (.enter g args) w)
  (hp : ∀ (W : World) (x : uR) (A3 : Option Addr) (c3 : Nat) (A4 : Option Addr) (c4 : Nat) (A5 : Option Addr) (c5 : Nat), x ∈ l → Below w.heap.size w W → Kd.C xB W A3 x.f3.length x.f3 → x.f3.length ≤ c3 → Kd.C uV W A4 x.f4.length x.f4 → x.f4.length ≤ c4 → Kd.C ug W A5 x.f5.length x.f5 → x.f5.length ≤ c5 → Calls Tryz.prog g (#[.agg #[.string x.f0, .bool x.f1, .int .i64 x.f2, .slice A3 x.f3.length c3, .slice A4 x.f4.length c4, .slice A5 x.f5.length c5]] ++ lb) W fun e w' => e = .returned (.bool (p x)) ∧ Below w.heap.size w w') :
  Calls Tryz.prog 37 #[.slice A0 l.length c0, .func (.func g) #[] lb] w fun e w' => e = .returned (.bool (l.any p)) ∧ Below w.heap.size w w' := by
 have h := mV A0 c0 l w hr hl p g lb eg hp
 have e := Vx p l 0
 generalize kM p l 0 = i at h e
 generalize l.any p = b at e ⊢
 subst e
 clear hp hr
 go_enter Tryz.func37, Tryz.ntmps37
 go_wp2_with (go_at_call 83; refine h.mono ?_; rintro e w1 ⟨rfl, hb⟩)
 go_ret
 exact ⟨rfl, hb⟩
end Go.Proofs.YtggifbbiiickmaaGreatDoor
namespace Go.Proofs.YtggifbbiiickmaaGreatDoor
open Go.RowKit Go.Proofs.zk.zK Go.Proofs.zk.yQ Go.Proofs.zk.yX
set_option linter.unusedSimpArgs false
set_option linter.unusedVariables false
namespace RW
section
variable {P : Program} {ops : Array Oper} {Q : Exit → Act → World → Prop} {md : Region.Mode} {S : World → Prop} {ds : List Nat} {T : Bool × List (List Nat × List Nat)} {oi : Oper} {v : Value} {fuel : Nat} {l : Array Bool} {a a' : Act} {w : World}
theorem rP (i : Nat) (N : Option Tmp) (HT : zx (vk md ops = T)) (h : zO P md ops Q S ds fuel (l.setIfInBounds i true) a' w)
  (hi : ops[i]? = some oi := by exact rfl) (hN : oi.dst = N := by exact rfl) (hc : zqy T l.toList (l.setIfInBounds i true).toList i = true := by kernel_rfl) (hQ : ∀ c a w, Q (.panic c) (a.put oi.dst v) w → Q (.panic c) a w := by exact fun _ _ _ h => h)
  (hg : Region.wanted oi (yielded ops a.tmps) = true := by rfl) (hy : ∀ w, (execOp a.eval oi).run P w = .ok (.value v) w := by intro w'; go_simp; with_reducible rfl) (ha : a.put N v = a' := by simp only [Act.put, List.setIfInBounds_toArray, List.set_cons_zero, List.set_cons_succ, vJ, vV]; rfl) :
  zO P md ops Q S ds (fuel + 1) l a w := qU _ hi hN (qC HT.out hc) hQ (Or.inl ⟨hg, hy⟩) ha h
theorem rT {B : List Nat} (i : Nat) (N : Option Tmp) (HT : zx (vk md ops = T)) (HW : zx (um T.2 B = true)) (hS : S w) (h : zO P md ops Q S ds fuel (l.setIfInBounds i true) a' w)
  (hi : ops[i]? = some oi := by exact rfl) (hN : oi.dst = N := by exact rfl) (hc : dL T B ds l.toList (l.setIfInBounds i true).toList i = true := by kernel_rfl) (hQ : ∀ c a w, Q (.panic c) (a.put oi.dst v) w → Q (.panic c) a w := by exact fun _ _ _ h => h)
  (hg : Region.wanted oi (yielded ops a.tmps) = true := by rfl) (hy : ∀ w, S w → (execOp a.eval oi).run P w = .ok (.value v) w := by intro w' hs_; go_simp; with_reducible rfl) (ha : a.put N v = a' := by simp only [Act.put, List.setIfInBounds_toArray, List.set_cons_zero, List.set_cons_succ, vJ, vV]; rfl) :
  zO P md ops Q S ds (fuel + 1) l a w := Z4 _ hi hN (YI HT.out HW.out hc) hQ (Or.inl ⟨hg, hy⟩) hS ha h
theorem rS {X : World} {B : List Nat} {n id : Nat} (HS : zx (∀ W, Below X.heap.size X W → S W)) (hT : vk .any ops = T) (hB : um T.2 B = true) (hm : P.follows .mixedOrders = true) (hn : ops.size = n) (hl : Array.replicate n false = l)
  (h : ∀ w, zx (Below X.heap.size X w) → zx (vk .any ops = T) → zx (um T.2 B = true) → S w → zO P .any ops Q S [] n l a w) : (Code.region id ops true).wp P Q a X :=
 pG _ hm hn hl (HS.out _ (Below.refl _ _).drew) fun hH => h _ ⟨(Below.refl _ _).drew⟩ ⟨hT⟩ ⟨hB⟩ hH
theorem rSD {X : World} {B : List Nat} {n id : Nat} (ds : List Nat) (HS : zx (∀ W, Below X.heap.size X W → S W)) (hT : vk .any ops = T) (hB : um T.2 B = true) (hm : P.follows .mixedOrders = true) (hn : ops.size = n) (hl : Array.replicate n false = l)
  (h : ∀ w, zx (Below X.heap.size X w) → zx (vk .any ops = T) → zx (um T.2 B = true) → S w → zO P .any ops Q S ds n l a w) : (Code.region id ops true).wp P Q a X :=
 pG _ hm hn hl (HS.out _ (Below.refl _ _).drew) fun hH => h _ ⟨(Below.refl _ _).drew⟩ ⟨hT⟩ ⟨hB⟩ hH
theorem rC {X : World} {f : FuncId} {fn : Func} {aps : Array Operand} {ts : Array TypeId} {args : Array Value} (i : Nat) (N : Option Tmp) (HT : zx (vk md ops = T)) (HS : zx (∀ W, Below X.heap.size X W → S W)) (HY : zx (Below X.heap.size X w)) (hf : P.funcs[f]? = some fn)
  (hcall : Calls P f args w fun e w' => e = .returned v ∧ Below w.heap.size w w') (h : ∀ w', zx (Below X.heap.size X w') → S w' → zO P md ops Q S ds fuel (l.setIfInBounds i true) a' w') (hname : (fn.name == "runtime.NumGoroutine") = false)
  (hi : ops[i]? = some oi := by exact rfl) (hN : oi.dst = N := by exact rfl) (hc : (XK T.2 l.toList == [i] && l.toList.set i true == (l.setIfInBounds i true).toList) = true := by kernel_rfl) (hd : i ∉ ds := by decide) (hb : fn.body.isSome = true := by exact rfl) (hw : Region.wanted oi (yielded ops a.tmps) = true := by rfl)
  (hop : oi.op = .call { callee := .value (.func f), args := aps, argTypes := ts } := by exact rfl) (hargs : aps.map a.eval = args := by (try simp only [List.map_toArray, List.map_cons, List.map_nil]); first | done | rfl) (ha : a.put N v = a' := by simp only [Act.put, List.setIfInBounds_toArray, List.set_cons_zero, List.set_cons_succ, vJ, vV]; rfl) :
  zO P md ops Q S ds (fuel + 1) l a w := by
 refine Ye _ hi hN (kL HT.out hc) hd fun K hK => ?_
 refine Yf hf hname hb args hw hN hop hargs (hcall.mono ?_)
 rintro e w' ⟨rfl, hk⟩
 have h2 := HY.out.trans (hk.mono HY.out.size)
 refine ⟨_, rfl, hK.out _ _ (HS.out _ h2) fun hH => ?_⟩
 rw [ha]
 exact h _ ⟨h2⟩ hH
end
end RW
end Go.Proofs.YtggifbbiiickmaaGreatDoor
namespace Go.Proofs.YtggifbbiiickmaaGreatDoor
open Go.RowKit Go.Proofs.zk.zK Go.Proofs.zk.yQ Go.Proofs.zk.yX Go.Proofs.YtggifbbiiickmaaGreatDoor.PX
set_option linter.unusedSimpArgs false
set_option linter.unusedVariables false
theorem XA {x : y8} (h : vY x = true) : x.f3.length ≤ 400 ∧ x.f4.length ≤ 50 ∧ x.f5.length ≤ 500 := zxt h
theorem zqe {l : List y8} {i : Int} (h0 : 0 ≤ i) (h1 : i < (l.length : Int)) : vw l i ∈ l := by
 unfold vw xU
 rw [List.getD_eq_getElem?_getD, List.getElem?_eq_getElem (by omega), Option.getD_some]
 exact List.getElem_mem _
theorem XU {l : List y8} {i : Int} (hv : ∀ x ∈ l, vY x = true) (h0 : 0 ≤ i) (h1 : i < (l.length : Int)) : vY (vw l i) = true := hv _ (zqe h0 h1)
theorem dX (n : ByteArray) : ∀ (l : List y8) (i : Nat), Z7 n l i = kM (fun x => x.f1 && YR x n) l i
 | [], _ => rfl
 | x :: r, i => by
  unfold Z7
  rw [Qw, dX n r]
theorem mK (n : ByteArray) : ∀ (l : List y8) (i : Nat), Z7 n l i = -1 ∨ (0 ≤ Z7 n l i ∧ Z7 n l i < ((i + l.length : Nat) : Int))
 | [], _ => Or.inl rfl
 | x :: r, i => by
  unfold Z7
  by_cases h : (x.f1 && YR x n) = true
  ·rw [if_pos h]; right; simp only [List.length_cons]; omega
  ·rw [if_neg h]
   rcases mK n r (i + 1) with h1 | h1
   ·exact Or.inl h1
   ·right; simp only [List.length_cons]; omega
theorem mY {l : List y8} {f : Int} (n : ByteArray) (h0 : 0 ≤ f) (h1 : f < (l.length : Int)) : uM l f n = -1 ∨ (0 ≤ uM l f n ∧ uM l f n < (l.length : Int)) := by
 unfold uM
 split
 ·exact Or.inr ⟨h0, h1⟩
 ·have := mK n l 0
  simpa using this
set_option maxRecDepth 100000 in
set_option maxHeartbeats 4000000 in
theorem zjG (B : Nat) (n : ByteArray) (x : y8) (A3 : Option Addr) (c3 : Nat) (A4 : Option Addr) (c4 : Nat) (A5 : Option Addr) (c5 : Nat) (W : World) (hG : GW W) (hx : vY x = true) (hB : W.cell? ⟨B, 0, none⟩ = some (.string n))
  (q3 : Kd.C xB W A3 x.f3.length x.f3) (g3 : x.f3.length ≤ c3) (q4 : Kd.C uV W A4 x.f4.length x.f4) (g4 : x.f4.length ≤ c4) (q5 : Kd.C ug W A5 x.f5.length x.f5) (g5 : x.f5.length ≤ c5) :
  Calls Tryz.prog 136 #[.agg #[.string x.f0, .bool x.f1, .int .i64 x.f2, .slice A3 x.f3.length c3, .slice A4 x.f4.length c4, .slice A5 x.f5.length c5], .pointer (some ⟨B, 0, none⟩)] W fun e w' => e = .returned (.bool (x.f1 && YR x n)) ∧ Below W.heap.size W w' := by
 have hl := World.block_lt_of_cell? W _ hB
 have hb0 : Below W.heap.size W (W.alloc (.cells #[.string x.f0, .bool x.f1, .int .i64 x.f2, .slice A3 x.f3.length c3, .slice A4 x.f4.length c4, .slice A5 x.f5.length c5] 60)) := (Below.refl _ W).alloc (Nat.le_refl _) _
 have hc : (W.alloc (.cells #[.string x.f0, .bool x.f1, .int .i64 x.f2, .slice A3 x.f3.length c3, .slice A4 x.f4.length c4, .slice A5 x.f5.length c5] 60)).cell? ⟨B, 0, none⟩ = some (.string n) := (World.cell?_alloc_lt _ _ _ hl).trans hB
 have hz := XA hx
 have hh := Yj.calls x.f0 x.f1 x.f2 A3 c3 x.f3 A4 c4 x.f4 A5 c5 x.f5 n (Q9 x.f3 n) _ (Kd.zC q3 hb0) g3 (Kd.zC q4 hb0) g4 (Kd.zC q5 hb0) g5 (hG.under hb0) (by unfold Yj.f; rw [if_pos (by omega)])
 unfold YR
 generalize Q9 x.f3 n = b at hh ⊢
 cases hs : x.f1 with
 | false =>
  rw [hs] at hc hb0
  clear hh hz hx q3 q4 q5
  go_enter Tryz.func136, Tryz.ntmps136
  go_wp2
  go_ret
  exact ⟨rfl, hb0⟩
 | true =>
  rw [hs] at hc hb0 hh
  clear hz hx q3 q4 q5
  go_enter Tryz.func136, Tryz.ntmps136
  go_wp2_with (go_at_call 135; refine hh.mono ?_; rintro e w2 ⟨rfl, hb2⟩)
  go_ret
  exact ⟨by cases b <;> rfl, hb0.trans (hb2.mono hb0.size)⟩
def home.T1 : Bool × List (List Nat × List Nat) := (true, [([], []), ([0], [0]), ([1], [1]), ([2], [2]), ([], []), ([4], [4]), ([5], [5]), ([6], [6]), ([7], [7]), ([3, 8], [3, 8]), ([9], [9]), ([], []), ([10, 11], [10, 11])])
def home.B1 : List Nat := [0, 1, 3, 7, 0, 16, 48, 112, 240, 511, 1023, 0, 4095]
theorem home.zys : vk .any (opsOf Tryz.f105 1) = home.T1 := by kernel_rfl
theorem home.zvM : um home.T1.2 home.B1 = true := by kernel_rfl
set_option maxRecDepth 100000 in
set_option maxHeartbeats 8000000 in
theorem mW (w0 : World) (g : Nat) (Af : Option Addr) (cf : Nat) (l : List y8) (f s : Int) (zP za : Bool) (vo vl : Value) (n : ByteArray) (w : World) (hG : GW w0) (hC : Kd.C jY w0 Af l.length l) (hl : l.length ≤ 1000000000) (hf0 : 0 ≤ f) (hf1 : f < (l.length : Int)) (hv : ∀ x ∈ l, vY x = true) (hw : Below w0.heap.size w0 w)
  (hS : w.heap[g]? = some (.cells #[.slice Af l.length cf, .int .i64 f, .int .i64 s, .bool zP, .bool za, vo, vl] 90 (0, 0))) :
  Calls Tryz.prog 105 #[.pointer (some ⟨g, 0, none⟩), .string n] w fun e w' => e = .returned (.int .i64 (uM l f n)) ∧ Below w.heap.size w w' := by
 obtain ⟨w1, hw1⟩ : ∃ w1, w.alloc (.cells #[.string n] 9) = w1 := ⟨_, rfl⟩
 have hb1 : Below w.heap.size w w1 := by rw [← hw1]; exact (Below.refl _ w).alloc (Nat.le_refl _) _
 have hS1 := zm hS hb1
 have hN : w1.cell? ⟨w.heap.size, 0, none⟩ = some (.string n) := by rw [← hw1]; simp
 have hwb : Below w0.heap.size w0 w1 := hw.trans (hb1.mono hw.size)
 have hC1 := Kd.zC hC hwb
 have hG1 : GW w1 := hG.under hwb
 obtain ⟨ad, A3, c3, A4, c4, A5, c5, e, x0, x1, x2, x3, x4, x5, g3, q3, g4, q4, g5, q5⟩ := XL hC1 f hf0 (by omega)
 subst e
 have hx := XU hv hf0 hf1
 have hz := XA hx
 have hhome : uM l f n = if Q9 (vw l f).f3 n then f else kM (fun x => x.f1 && YR x n) l 0 := by unfold uM; rw [dX]; rfl
 have e : xU l f = vw l f := rfl
 rw [e] at x0 x1 x2 x3 x4 x5 g3 q3 g4 q4 g5 q5
 clear e
 generalize vw l f = x at x0 x1 x2 x3 x4 x5 g3 q3 g4 q4 g5 q5 hx hz hhome
 have hh : ∀ W, Below w1.heap.size w1 W → Calls Tryz.prog 135 #[.agg #[.string x.f0, .bool x.f1, .int .i64 x.f2, .slice A3 x.f3.length c3, .slice A4 x.f4.length c4, .slice A5 x.f5.length c5], .string n] W fun e w' => e = .returned (.bool (Q9 x.f3 n)) ∧ Below W.heap.size W w' := fun W hb =>
  Yj.calls x.f0 x.f1 x.f2 A3 c3 x.f3 A4 c4 x.f4 A5 c5 x.f5 n (Q9 x.f3 n) _ (Kd.zC q3 hb) g3 (Kd.zC q4 hb) g4 (Kd.zC q5 hb) g5 (hG1.under hb) (by unfold Yj.f; rw [if_pos (by omega)])
 have HH := zx.mk hh
 have hi : ∀ W, Below w1.heap.size w1 W → Calls Tryz.prog 83 #[.slice (some ad) l.length cf, .func (.func 136) #[] #[.pointer (some ⟨w.heap.size, 0, none⟩)]] W fun e w' => e = .returned (.int .i64 (kM (fun x => x.f1 && YR x n) l 0)) ∧ Below W.heap.size W w' := fun W hb =>
  (mV (some ad) cf l W (Kd.zC hC1 hb) hl (fun x => x.f1 && YR x n) 136 #[.pointer (some ⟨w.heap.size, 0, none⟩)] (pR Tryz.func136 (by kernel_rfl) rfl)
   (fun V y A3 c3 A4 c4 A5 c5 hm hV p3 g3 p4 g4 p5 g5 => by
    have hb2 := hb.trans (hV.mono hb.size)
    have hlt := World.block_lt_of_cell? w1 _ hN
    exact (zjG w.heap.size n y A3 c3 A4 c4 A5 c5 V (hG1.under hb2) (hv y hm) ((hb2.cell (p := ⟨w.heap.size, 0, none⟩) hlt).trans hN) p3 g3 p4 g4 p5 g5).mono fun e w' ⟨h1, h2⟩ => ⟨h1, hV.trans (h2.mono hV.size)⟩))
 have HI := zx.mk hi
 have hs0 : w1.cell? ⟨g, 0, none⟩ = some (.slice (some ad) l.length cf) := (zy hS1 0).trans rfl
 have hs1 : w1.cell? ⟨g, 1, none⟩ = some (.int .i64 f) := (zy hS1 1).trans rfl
 have HS := zx.mk (fun (W : World) (h : Below w1.heap.size w1 W) => (show W.cell? ⟨g, 0, none⟩ = some (.slice (some ad) l.length cf) ∧ W.cell? ⟨g, 1, none⟩ = some (.int .i64 f) ∧ W.cell? ⟨w.heap.size, 0, none⟩ = some (.string n) ∧ W.cell? (ad.add (f.toNat * 6)) = some (.string x.f0) ∧ W.cell? ⟨(ad.add (f.toNat * 6)).block, (ad.add (f.toNat * 6)).off + 1, none⟩ = some (.bool x.f1) ∧ W.cell? ⟨(ad.add (f.toNat * 6)).block, (ad.add (f.toNat * 6)).off + 2, none⟩ = some (.int .i64 x.f2) ∧ W.cell? ⟨(ad.add (f.toNat * 6)).block, (ad.add (f.toNat * 6)).off + 3, none⟩ = some (.slice A3 x.f3.length c3) ∧ W.cell? ⟨(ad.add (f.toNat * 6)).block, (ad.add (f.toNat * 6)).off + 4, none⟩ = some (.slice A4 x.f4.length c4) ∧ W.cell? ⟨(ad.add (f.toNat * 6)).block, (ad.add (f.toNat * 6)).off + 5, none⟩ = some (.slice A5 x.f5.length c5) from
  ⟨(h.cell (World.block_lt_of_cell? w1 _ hs0)).trans hs0, (h.cell (World.block_lt_of_cell? w1 _ hs1)).trans hs1, (h.cell (World.block_lt_of_cell? w1 _ hN)).trans hN, (h.cell (World.block_lt_of_cell? w1 _ x0)).trans x0, (h.cell (World.block_lt_of_cell? w1 _ x1)).trans x1, (h.cell (World.block_lt_of_cell? w1 _ x2)).trans x2, (h.cell (World.block_lt_of_cell? w1 _ x3)).trans x3, (h.cell (World.block_lt_of_cell? w1 _ x4)).trans x4, (h.cell (World.block_lt_of_cell? w1 _ x5)).trans x5⟩))
 generalize hR : uM l f n = R at hhome
 have HR := zx.mk hhome
 have HB1 := zx.mk hb1
 clear hhome hh hi hS hS1 hN hC hC1 hG hG1 hw hwb hs0 hs1 x0 x1 x2 x3 x4 x5 q3 q4 q5 hv hx hR hz hb1
 go_enter Tryz.func105, Tryz.ntmps105
 go_wp2_with fail
 clear hw1
 cases hb : Q9 x.f3 n with
 | true =>
  rw [hb, if_pos rfl] at HR
  rw [hb] at HH
  refine RW.rS (n := 13) HS home.zys home.zvM (by kernel_rfl) rfl rfl (fun w2 H0 T U h => ?_)
  refine RW.rP 0 (some 5) T ?_
  refine RW.rP 1 (some 6) T ?_
  refine RW.rP 2 (some 7) T ?_
  refine RW.rT 3 (some 8) T U h ?_
  refine RW.rP 4 (some 9) T ?_
  refine RW.rP 5 (some 10) T ?_
  refine RW.rP 6 (some 11) T ?_
  refine RW.rP 7 (some 12) T ?_
  refine RW.rT 8 (some 13) T U h ?_
  refine RW.rP 9 (some 14) T ?_
  refine RW.rT 10 (some 15) T U h ?_
  refine RW.rT 11 (some 16) T U h ?_
  clear h
  refine RW.rC 12 (some 17) T HS H0 Tryz.func135 (HH.out _ H0.out) (fun w3 H3 h => ?_) (by kernel_rfl)
  refine wX (jA T.out (by kernel_rfl)) ?_
  obtain ⟨h1, h2, h3, h4⟩ := h
  go_wp2_with fail
  go_ret
  exact ⟨by rw [HR.out]; rfl, HB1.out.trans (H3.out.mono HB1.out.size)⟩
 | false =>
  rw [hb, if_neg Bool.false_ne_true] at HR
  rw [hb] at HH
  refine RW.rS (n := 13) HS home.zys home.zvM (by kernel_rfl) rfl rfl (fun w2 H0 T U h => ?_)
  refine RW.rP 0 (some 5) T ?_
  refine RW.rP 1 (some 6) T ?_
  refine RW.rP 2 (some 7) T ?_
  refine RW.rT 3 (some 8) T U h ?_
  refine RW.rP 4 (some 9) T ?_
  refine RW.rP 5 (some 10) T ?_
  refine RW.rP 6 (some 11) T ?_
  refine RW.rP 7 (some 12) T ?_
  refine RW.rT 8 (some 13) T U h ?_
  refine RW.rP 9 (some 14) T ?_
  refine RW.rT 10 (some 15) T U h ?_
  refine RW.rT 11 (some 16) T U h ?_
  clear h
  refine RW.rC 12 (some 17) T HS H0 Tryz.func135 (HH.out _ H0.out) (fun w3 H3 h => ?_) (by kernel_rfl)
  refine wX (jA T.out (by kernel_rfl)) ?_
  obtain ⟨h1, h2, h3, h4⟩ := h
  clear h2 h4
  go_wp2_with fail
  refine (HI.out _ H3.out).mono ?_; rintro e w4 ⟨rfl, hb4⟩
  go_wp2_with fail
  go_ret
  exact ⟨by rw [HR.out]; rfl, HB1.out.trans ((H3.out.trans (hb4.mono H3.out.size)).mono HB1.out.size)⟩
end Go.Proofs.YtggifbbiiickmaaGreatDoor
namespace Go.Proofs.YtggifbbiiickmaaGreatDoor
open Go.RowKit Go.Proofs.zk.zK Go.Proofs.zk.yQ Go.Proofs.zk.yX Go.Proofs.YtggifbbiiickmaaGreatDoor.PX
set_option linter.unusedSimpArgs false
set_option linter.unusedVariables false
def vC (base B : Nat) (w w' : World) : Prop := Below 0 w w' ∧ (∀ (k : Nat) (o : Obj), w.heap[k]? = some o → o.isCells = false → w'.heap[k]? = some o) ∧ ∀ k : Nat, k < base → k ≠ B → w'.heap[k]? = w.heap[k]?
theorem vC.refl (base B : Nat) (w : World) : vC base B w w := ⟨Below.refl _ _, fun _ _ h _ => h, fun _ _ _ => rfl⟩
theorem vC.trans {base B : Nat} {a b c : World} (h : vC base B a b) (k : vC base B b c) : vC base B a c :=
 ⟨h.1.trans k.1, fun i o hi ho => k.2.1 i o (h.2.1 i o hi ho) ho, fun i hi hb => (k.2.2 i hi hb).trans (h.2.2 i hi hb)⟩
theorem vC.below {base B : Nat} {a b : World} (h : Below a.heap.size a b) (hb : base ≤ a.heap.size) : vC base B a b :=
 ⟨h.mono (Nat.zero_le _), fun k o hk _ => (h.block k (Array.getElem?_eq_some_iff.1 hk).1).trans hk, fun k hk _ => h.block k (by omega)⟩
theorem vC.set {base B : Nat} {w : World} {cs : Array Value} {t : TypeId} {z : Nat × Nat} (h : w.heap[B]? = some (.cells cs t z)) (j : Nat) (u : Value) : vC base B w (w.setCell ⟨B, j, none⟩ u) := by
 refine ⟨(Below.refl _ _).setCell (p := ⟨B, j, none⟩) (Nat.zero_le _) u, fun k o hk ho => ?_, fun k _ hb => Below.heap_setCell w ⟨B, j, none⟩ u k hb⟩
 by_cases e : k = B
 ·subst e; rw [h] at hk; cases hk; cases ho
 ·rw [Below.heap_setCell w ⟨B, j, none⟩ u k e]; exact hk
theorem vC.grown {base B : Nat} {a b : World} {v : Value} {e : TypeId} {size n : Nat} {xs : List Value} (ho : a.ownsRow base e size v n xs) (h : a.grownBy b v.ownBlock) (hb : base ≤ a.heap.size) : vC base B a b := by
 refine ⟨⟨h.os, h.tape, h.output, h.size, fun k hk => absurd hk (Nat.not_lt_zero _)⟩, fun k o hk hc => ?_, fun k hk _ => h.block k (by omega) (fun e => ?_)⟩
 ·have hlt := (Array.getElem?_eq_some_iff.1 hk).1
  rw [h.block k hlt (fun e => ?_)]
  ·exact hk
  ·obtain ⟨cells, hcc⟩ := XV ho k e.symm
   rw [hcc] at hk; cases hk; cases hc
 ·have := Zw ho k e.symm
  omega
theorem Uo {base B n₀ : Nat} {W W' : World} (h : vC base B W W') (hn : n₀ ≤ B) (hn2 : n₀ ≤ base) : Below n₀ W W' := ⟨h.1.os, h.1.tape, h.1.output, h.1.size, fun k hk => h.2.2 k (by omega) (by omega)⟩
theorem zkC {W W' : World} {row : Option Nat} {k : Nat} {cs : Array Value} {t : TypeId} (h : W.heap[k]? = some (.cells cs t (0, 0))) (hg : W.grownBy W' row) (hr : ∀ r, row = some r → ∃ o : Obj, W.heap[r]? = some o ∧ o.isCells = false) : W'.heap[k]? = some (.cells cs t (0, 0)) :=
 qj h hg (fun e => by obtain ⟨o, ho, hn⟩ := hr k e.symm; rw [h] at ho; cases ho; cases hn)
theorem aM {α : Type} {d : Kd α} {e base : Nat} {W W' : World} {row : Option Nat} {v : Value} {xs : List α} (h : d.R e W base (fun _ => True) v xs) (hg : W.grownBy W' row) (hr : ∀ r, row = some r → ∃ o : Obj, W.heap[r]? = some o ∧ o.isCells = false) : d.R e W' base (fun _ => True) v xs :=
 Kd.xQ (Kd.V4 (Kd.wz h) hg (fun k hk e => by
  obtain ⟨_, _, _, q, hq, cells, hc⟩ := hk
  obtain ⟨o, ho, hn⟩ := hr k e.symm
  rw [hc] at ho; cases ho; cases hn)) (fun _ _ => trivial)
end Go.Proofs.YtggifbbiiickmaaGreatDoor
namespace Go.Proofs.YtggifbbiiickmaaGreatDoor
open Go.RowKit Go.Proofs.zk.zK Go.Proofs.zk.yQ Go.Proofs.zk.yX Go.Proofs.YtggifbbiiickmaaGreatDoor.PX
set_option linter.unusedSimpArgs false
set_option linter.unusedVariables false
set_option maxRecDepth 100000 in
set_option maxHeartbeats 4000000 in
theorem tQ (a : ByteArray) (b : Bool) (c : Int) (A3 : Option Addr) (c3 : Nat) (l3 : List yB) (A4 : Option Addr) (c4 : Nat) (l4 : List qJ) (A5 : Option Addr) (c5 : Nat) (l5 : List qB) (na nb : ByteArray) (s : Int) (w : World) (hG : GW w) (h3 : Kd.C xB w A3 l3.length l3) (g3 : l3.length ≤ c3) (h4 : Kd.C uV w A4 l4.length l4) (g4 : l4.length ≤ c4) (h5 : Kd.C ug w A5 l5.length l5) (g5 : l5.length ≤ c5) (z3 : l3.length ≤ 1000000000) (z4 : l4.length ≤ 1000000000) (z5 : l5.length ≤ 1000000000) :
  Calls Tryz.prog 21 #[.agg #[.string a, .bool b, .int .i64 c, .slice A3 l3.length c3, .slice A4 l4.length c4, .slice A5 l5.length c5], .string na, .string nb, .int .i64 s] w fun e w' => e = .returned (.tuple #[.int .i64 (JE (xM a c l3 l4 l5) l5 na nb s).1, .int .i64 (JE (xM a c l3 l4 l5) l5 na nb s).2]) ∧ Below w.heap.size w w' := by
 have hb0 : Below w.heap.size w (w.alloc (.cells #[.string a, .bool b, .int .i64 c, .slice A3 l3.length c3, .slice A4 l4.length c4, .slice A5 l5.length c5] 60)) := (Below.refl _ w).alloc (Nat.le_refl _) _
 have hbf := kH w (.cells #[.string a, .bool b, .int .i64 c, .slice A3 l3.length c3, .slice A4 l4.length c4, .slice A5 l5.length c5] 60)
 have hfair := kG.calls a b c A3 c3 l3 A4 c4 l4 A5 c5 l5 s (Yn s (xM a c l3 l4 l5)) (w.alloc (.cells #[.string a, .bool b, .int .i64 c, .slice A3 l3.length c3, .slice A4 l4.length c4, .slice A5 l5.length c5] 60)) (Kd.zC h3 hb0) g3 (Kd.zC h4 hb0) g4 (Kd.zC h5 hb0) g5 (hG.under hb0) (zxC a b c l3 l4 l5 s z3 z4 z5)
 have hval : JE (xM a c l3 l4 l5) l5 na nb s = (if Yn s (xM a c l3 l4 l5) = true then ((match l5.find? (fun x => decide (x.f0 = na) && decide (x.f1 = nb)) with | some x => aG s x.f2 | none => 0), 0) else (0, 1)) := rfl
 have hk : Yn s (xM a c l3 l4 l5) = true → (1 ≤ s ∧ s ≤ 1000) ∧ ∀ x ∈ l5, -500 ≤ x.f2 ∧ x.f2 ≤ 500 := fun h => by
  obtain ⟨p, q, hv⟩ := mJ h
  exact ⟨⟨p, q⟩, (zqd hv).2⟩
 generalize JE (xM a c l3 l4 l5) l5 na nb s = R at hval ⊢
 cases Qp : Yn s (xM a c l3 l4 l5) with
 | false =>
  rw [Qp, if_neg (by simp)] at hval
  rw [Qp] at hfair
  subst hval
  clear h3 h4 h5 hk
  go_enter Tryz.func21, Tryz.ntmps21
  go_wp2_with fail
  refine hfair.mono ?_; rintro e w1 ⟨rfl, hb1⟩
  go_wp2
  go_ret2
  exact ⟨rfl, hb0.trans (hb1.mono hb0.size)⟩
 | true =>
 rw [Qp, if_pos rfl] at hval
 rw [Qp] at hfair
 obtain ⟨⟨s1, s2⟩, hkn⟩ := hk Qp
 have YT := zx.mk hval
 have HK := zx.mk hkn
 have H5 := zx.mk h5
 clear h3 h4 h5 hk hval hkn
 go_enter Tryz.func21, Tryz.ntmps21
 go_wp2_with fail
 refine hfair.mono ?_; rintro e w1 ⟨rfl, hb1⟩
 have HB0 := zx.mk (hb0.trans (hb1.mono hb0.size))
 have hc5 : w1.cell? ⟨w.heap.size, 5, none⟩ = some (.slice A5 l5.length c5) := (zy (zm hbf hb1) 5).trans rfl
 clear hbf hb1 hfair
 go_wp2_with fail
 clear hc5
 go_loopw [19] (fun y W => ∃ i : Nat, y = .int .i64 (i : Int) ∧ i ≤ l5.length ∧ zx (l5.find? (fun x => decide (x.f0 = na) && decide (x.f1 = nb)) = (l5.drop i).find? (fun x => decide (x.f0 = na) && decide (x.f1 = nb))) ∧ zx (Below w.heap.size w W)) (fun y _ => l5.length - (intOf y).toNat)
 case atStart => exact ⟨0, rfl, Nat.zero_le _, ⟨by rw [List.drop_zero]⟩, HB0⟩
 case round =>
  clear HB0
  obtain ⟨i, rfl, hi, HX, HB⟩ := hrel
  by_cases hlt : i < l5.length
  ·obtain ⟨ad, e, x0, x1, x2⟩ := Kn (Kd.zC H5.out HB.out) (i : Int) (by omega) (by omega)
   cases e
   have e : vX l5 (i : Int) = l5[i] := by simp [vX, List.getD_eq_getElem?_getD, hlt]
   rw [Int.toNat_natCast, e] at x0 x1 x2
   clear e
   have hx := HX.out
   rw [List.drop_eq_getElem_cons hlt, List.find?_cons] at hx
   have hm : l5[i] ∈ l5 := List.getElem_mem hlt
   generalize l5[i] = x at x0 x1 x2 hx hm
   have q1 : (i : Int) < (l5.length : Int) := by omega
   have q0 : (0 : Int) ≤ (i : Int) := by omega
   have q3 : ((i : Int)).toNat = i := Int.toNat_natCast i
   have hbX : Below wr.heap.size wr (wr.alloc (.cells #[.string x.f0, .string x.f1, .int .i64 x.f2] 111)) := (Below.refl _ wr).alloc (Nat.le_refl _) _
   have hb2 := HB.out.trans (hbX.mono HB.out.size)
   by_cases t0 : x.f0 = na
   case neg =>
    have d0 : (x.f0.toList == na.toList) = false := beq_eq_false_iff_ne.2 (fun e => t0 (Vh.1 e))
    rw [decide_eq_false t0, Bool.false_and] at hx
    have mg := zx.mk hx
    clear hx
    clear hm t0
    go_wp2
    go_roundw
    case rel => exact ⟨i + 1, by first | rfl | (simp; done) | go_num, by omega, mg, ⟨hb2⟩⟩
    case measure => simp [intOf]; omega
   have d0 : (x.f0.toList == na.toList) = true := beq_iff_eq.2 (Vh.2 t0)
   by_cases t1 : x.f1 = nb
   case neg =>
    have d1 : (x.f1.toList == nb.toList) = false := beq_eq_false_iff_ne.2 (fun e => t1 (Vh.1 e))
    rw [decide_eq_false t1, Bool.and_false] at hx
    have mg := zx.mk hx
    clear hx t1
    clear hm t0
    go_wp2
    go_roundw
    case rel => exact ⟨i + 1, by first | rfl | (simp; done) | go_num, by omega, mg, ⟨hb2⟩⟩
    case measure => simp [intOf]; omega
   case pos =>
    have d1 : (x.f1.toList == nb.toList) = true := beq_iff_eq.2 (Vh.2 t1)
    rw [decide_eq_true t0, decide_eq_true t1] at hx
    simp only [Bool.and_true] at hx
    rw [hx] at YT
    have hR := YT.out
    subst hR
    have hsc := fun W => jw.calls x.f2 s (aG s x.f2) W (zxB x.f2 s s1 s2 (by have := HK.out x hm; omega) (by have := HK.out x hm; omega))
    clear hx YT hm t0 t1
    go_wp2_with fail
    refine (hsc _).mono ?_; rintro e w3 ⟨rfl, ⟨nd, rfl⟩⟩
    go_wp2
    go_ret2
    exact ⟨rfl, zN hb2 nd⟩
  ·obtain rfl : i = l5.length := by omega
   have q1 : decide ((l5.length : Int) < (l5.length : Int)) = false := decide_eq_false (by omega)
   have hx := HX.out
   rw [List.drop_eq_nil_of_le (Nat.le_refl _), List.find?_nil] at hx
   rw [hx] at YT
   have hR := YT.out
   subst hR
   clear hx YT
   go_wp2
   go_ret2
   exact ⟨rfl, HB.out⟩
set_option maxRecDepth 100000 in
set_option maxHeartbeats 4000000 in
theorem zjH (a : ByteArray) (b : Bool) (c : Int) (A3 : Option Addr) (c3 : Nat) (l3 : List yB) (A4 : Option Addr) (c4 : Nat) (l4 : List qJ) (A5 : Option Addr) (c5 : Nat) (l5 : List qB) (na nb : ByteArray) (w : World) (hG : GW w) (h3 : Kd.C xB w A3 l3.length l3) (g3 : l3.length ≤ c3) (h4 : Kd.C uV w A4 l4.length l4) (g4 : l4.length ≤ c4) (h5 : Kd.C ug w A5 l5.length l5) (g5 : l5.length ≤ c5) (z3 : l3.length ≤ 1000000000) (z4 : l4.length ≤ 1000000000) (z5 : l5.length ≤ 1000000000) :
  Calls Tryz.prog 45 #[.agg #[.string a, .bool b, .int .i64 c, .slice A3 l3.length c3, .slice A4 l4.length c4, .slice A5 l5.length c5], .string na, .string nb] w fun e w' => e = .returned (.tuple #[.string (Uz (xM a c l3 l4 l5) l4 na nb).1, .bool (Uz (xM a c l3 l4 l5) l4 na nb).2]) ∧ Below w.heap.size w w' := by
 have hb0 : Below w.heap.size w (w.alloc (.cells #[.string a, .bool b, .int .i64 c, .slice A3 l3.length c3, .slice A4 l4.length c4, .slice A5 l5.length c5] 60)) := (Below.refl _ w).alloc (Nat.le_refl _) _
 have hbf := kH w (.cells #[.string a, .bool b, .int .i64 c, .slice A3 l3.length c3, .slice A4 l4.length c4, .slice A5 l5.length c5] 60)
 have hvalid := jf.calls a b c A3 c3 l3 A4 c4 l4 A5 c5 l5 (xM a c l3 l4 l5) (w.alloc (.cells #[.string a, .bool b, .int .i64 c, .slice A3 l3.length c3, .slice A4 l4.length c4, .slice A5 l5.length c5] 60)) (Kd.zC h3 hb0) g3 (Kd.zC h4 hb0) g4 (Kd.zC h5 hb0) g5 (hG.under hb0) (by unfold jf.f; rw [if_pos ⟨z3, z4, z5⟩])
 have hval : Uz (xM a c l3 l4 l5) l4 na nb = (if xM a c l3 l4 l5 = true then (match l4.find? (fun x => decide (x.f0 = na) && decide (x.f1 = nb)) with | some x => (x.f2, true) | none => ((⟨#[]⟩ : ByteArray), false)) else ((⟨#[]⟩ : ByteArray), false)) := rfl
 generalize Uz (xM a c l3 l4 l5) l4 na nb = R at hval ⊢
 by_cases h0 : l4.length = 0
 ·have e : l4 = [] := List.eq_nil_of_length_eq_zero h0
  have hR : R = ((⟨#[]⟩ : ByteArray), false) := by rw [hval, e]; split <;> rfl
  subst hR
  have d0 : ((l4.length : Int) == 0) = true := beq_iff_eq.2 (by omega)
  have d1 : decide ((l4.length : Int) = 0) = true := decide_eq_true (by omega)
  clear h3 h4 h5 hval hvalid e h0
  go_enter Tryz.func45, Tryz.ntmps45
  go_wp2
  go_ret2
  exact ⟨rfl, hb0⟩
 have d0 : ((l4.length : Int) == 0) = false := beq_eq_false_iff_ne.2 (by omega)
 have d1 : decide ((l4.length : Int) = 0) = false := decide_eq_false (by omega)
 clear h0
 cases Qp : xM a c l3 l4 l5 with
 | false =>
  rw [Qp, if_neg (by simp)] at hval
  rw [Qp] at hvalid
  subst hval
  clear h3 h4 h5
  go_enter Tryz.func45, Tryz.ntmps45
  go_wp2_with fail
  refine hvalid.mono ?_; rintro e w1 ⟨rfl, hb1⟩
  go_wp2
  go_ret2
  exact ⟨rfl, hb0.trans (hb1.mono hb0.size)⟩
 | true =>
 rw [Qp, if_pos rfl] at hval
 rw [Qp] at hvalid
 have YT := zx.mk hval
 have H4 := zx.mk h4
 clear h3 h4 h5 hval
 go_enter Tryz.func45, Tryz.ntmps45
 go_wp2_with fail
 refine hvalid.mono ?_; rintro e w1 ⟨rfl, hb1⟩
 have HB0 := zx.mk (hb0.trans (hb1.mono hb0.size))
 have hc4 : w1.cell? ⟨w.heap.size, 4, none⟩ = some (.slice A4 l4.length c4) := (zy (zm hbf hb1) 4).trans rfl
 clear hbf hb1 hvalid
 go_wp2_with fail
 clear hc4 d0 d1
 go_loopw [22] (fun y W => ∃ i : Nat, y = .int .i64 (i : Int) ∧ i ≤ l4.length ∧ zx (l4.find? (fun x => decide (x.f0 = na) && decide (x.f1 = nb)) = (l4.drop i).find? (fun x => decide (x.f0 = na) && decide (x.f1 = nb))) ∧ zx (Below w.heap.size w W)) (fun y _ => l4.length - (intOf y).toNat)
 case atStart => exact ⟨0, rfl, Nat.zero_le _, ⟨by rw [List.drop_zero]⟩, HB0⟩
 case round =>
  clear HB0
  obtain ⟨i, rfl, hi, HX, HB⟩ := hrel
  by_cases hlt : i < l4.length
  ·obtain ⟨ad, e, x0, x1, x2⟩ := Km (Kd.zC H4.out HB.out) (i : Int) (by omega) (by omega)
   cases e
   have e : vQ l4 (i : Int) = l4[i] := by simp [vQ, List.getD_eq_getElem?_getD, hlt]
   rw [Int.toNat_natCast, e] at x0 x1 x2
   clear e
   have hx := HX.out
   rw [List.drop_eq_getElem_cons hlt, List.find?_cons] at hx
   have hm : l4[i] ∈ l4 := List.getElem_mem hlt
   generalize l4[i] = x at x0 x1 x2 hx hm
   have q1 : (i : Int) < (l4.length : Int) := by omega
   have q0 : (0 : Int) ≤ (i : Int) := by omega
   have q3 : ((i : Int)).toNat = i := Int.toNat_natCast i
   have hbX : Below wr.heap.size wr (wr.alloc (.cells #[.string x.f0, .string x.f1, .string x.f2] 108)) := (Below.refl _ wr).alloc (Nat.le_refl _) _
   have hb2 := HB.out.trans (hbX.mono HB.out.size)
   by_cases t0 : x.f0 = na
   case neg =>
    have d0 : (x.f0.toList == na.toList) = false := beq_eq_false_iff_ne.2 (fun e => t0 (Vh.1 e))
    rw [decide_eq_false t0, Bool.false_and] at hx
    have mg := zx.mk hx
    clear hx
    clear hm t0
    go_wp2
    go_roundw
    case rel => exact ⟨i + 1, by first | rfl | (simp; done) | go_num, by omega, mg, ⟨hb2⟩⟩
    case measure => simp [intOf]; omega
   have d0 : (x.f0.toList == na.toList) = true := beq_iff_eq.2 (Vh.2 t0)
   by_cases t1 : x.f1 = nb
   case neg =>
    have d1 : (x.f1.toList == nb.toList) = false := beq_eq_false_iff_ne.2 (fun e => t1 (Vh.1 e))
    rw [decide_eq_false t1, Bool.and_false] at hx
    have mg := zx.mk hx
    clear hx t1
    clear hm t0
    go_wp2
    go_roundw
    case rel => exact ⟨i + 1, by first | rfl | (simp; done) | go_num, by omega, mg, ⟨hb2⟩⟩
    case measure => simp [intOf]; omega
   case pos =>
    have d1 : (x.f1.toList == nb.toList) = true := beq_iff_eq.2 (Vh.2 t1)
    rw [decide_eq_true t0, decide_eq_true t1] at hx
    simp only [Bool.and_true] at hx
    rw [hx] at YT
    have hR := YT.out
    subst hR
    clear hx YT hm t0 t1
    go_wp2
    go_ret2
    exact ⟨rfl, hb2⟩
  ·obtain rfl : i = l4.length := by omega
   have q1 : decide ((l4.length : Int) < (l4.length : Int)) = false := decide_eq_false (by omega)
   have hx := HX.out
   rw [List.drop_eq_nil_of_le (Nat.le_refl _), List.find?_nil] at hx
   rw [hx] at YT
   have hR := YT.out
   subst hR
   clear hx YT
   go_wp2
   go_ret2
   exact ⟨rfl, HB.out⟩
end Go.Proofs.YtggifbbiiickmaaGreatDoor
namespace Go.Proofs.YtggifbbiiickmaaGreatDoor
open Go.RowKit Go.Proofs.zk.zK Go.Proofs.zk.yQ Go.Proofs.zk.yX Go.Proofs.YtggifbbiiickmaaGreatDoor.PX
set_option linter.unusedSimpArgs false
set_option linter.unusedVariables false
def QZ (base g : Nat) (W : World) (Af : Option Addr) (cf : Nat) (l : List y8) (f s : Int) (zP za : Bool) (vo vl : Value) (st : List vO × List ByteArray) : Prop :=
 W.heap[g]? = some (.cells #[.slice Af l.length cf, .int .i64 f, .int .i64 s, .bool zP, .bool za, vo, vl] 90 (0, 0)) ∧ Kd.R (Kd.bare kE) 53 W base (fun _ => True) vo st.1 ∧ Kd.R Kd.string 9 W base (fun _ => True) vl st.2
def Xy (base g : Nat) (W : World) (Af : Option Addr) (cf : Nat) (l : List y8) (f s : Int) (zP za : Bool) (st : List vO × List ByteArray) : Prop := ∃ vo vl, QZ base g W Af cf l f s zP za vo vl st
section
variable {base g : Nat} {W : World} {Af : Option Addr} {cf : Nat} {l : List y8} {f s : Int} {zP za : Bool} {vo vl : Value} {st : List vO × List ByteArray}
theorem QZ.below {W' : World} (h : QZ base g W Af cf l f s zP za vo vl st) (hb : Below W.heap.size W W') : QZ base g W' Af cf l f s zP za vo vl st := ⟨zm h.1 hb, Kd.yU h.2.1 hb, Kd.yU h.2.2 hb⟩
theorem aN {α β : Type} {d : Kd α} {e : TypeId} {dx : Kd β} {ex : TypeId} {W W' : World} {v vx : Value} {xs : List α} {ys : List β} (h : d.R e W base (fun _ => True) v xs) (hx : dx.R ex W base (fun _ => True) vx ys) (hg : W.grownBy W' vx.ownBlock) (hE : ∀ q, q ∈ e :: d.E → q ≠ ex) : d.R e W' base (fun _ => True) v xs := by
 obtain ⟨inn, hown⟩ := Kd.QS hx
 exact Kd.xQ (Kd.V4 (Kd.xQ (Kd.wz h) (ok' := fun k => some k ≠ vx.ownBlock) (fun k hk e => by
  obtain ⟨_, _, _, p, hp, cs, hc⟩ := hk
  obtain ⟨cs', hc'⟩ := XV hown k e.symm
  rw [hc] at hc'
  injection hc' with hc'
  injection hc' with _ hc'
  exact absurd hc' (hE p hp))) hg (fun k hk => hk)) (ok' := fun _ => True) (fun _ _ => trivial)
theorem zyt (x : Int) (W : World) (b : Nat) (ok : Nat → Prop) : (Kd.bare kE).M W b ok (Qb x) [.int .i64 2, .int .i64 x, .int .i64 0, .int .i64 0, .string ⟨#[]⟩, .string ⟨#[]⟩, .slice none 0 0] := aj _ _ (fun _ => False) (Qb x) (Kd.wu _ _ _ _ _)
theorem zyu (x f s : Int) (n : ByteArray) (W : World) (b : Nat) (ok : Nat → Prop) : (Kd.bare kE).M W b ok (Vz x f s n) [.int .i64 0, .int .i64 x, .int .i64 f, .int .i64 s, .string n, .string ⟨#[]⟩, .slice none 0 0] := aj _ _ (fun _ => False) (Vz x f s n) (Kd.wu _ _ _ _ _)
theorem aT {W1 W2 : World} {Ao : Option Addr} {co : Nat} {out : List vO} (h : QZ base g W Af cf l f s zP za vo vl st) (hW : Below W.heap.size W W1) (hg : W1.grownBy W2 vo.ownBlock) (ho : Kd.R (Kd.bare kE) 53 W2 base (fun _ => True) (.slice Ao out.length co) out) (hb : base ≤ W.heap.size) :
  Xy base g (W2.setCell ⟨g, 5, none⟩ (.slice Ao out.length co)) Af cf l f s zP za (out, st.2) ∧ vC base g W (W2.setCell ⟨g, 5, none⟩ (.slice Ao out.length co)) ∧ W2.cell? ⟨g, 5, none⟩ = some vo ∧ W2.frozen? ⟨g, 5, none⟩ = false ∧ W2.heap[g]? = some (.cells #[.slice Af l.length cf, .int .i64 f, .int .i64 s, .bool zP, .bool za, vo, vl] 90 (0, 0)) := by
 obtain ⟨h0, hO, hL⟩ := h.below hW
 have hb1 := Nat.le_trans hb hW.size
 have B2 := qj h0 hg (Kd.wW hO h0 (by decide))
 obtain ⟨inn, hown⟩ := Kd.QS hO
 have L2 := aN hL hO hg (by decide)
 refine ⟨⟨_, vl, xX (cs' := #[.slice Af l.length cf, .int .i64 f, .int .i64 s, .bool zP, .bool za, .slice Ao out.length co, vl]) B2 5 (.slice Ao out.length co) rfl, Kd.Zc ho B2 (by decide) 5 _, Kd.Zc L2 B2 (by decide) 5 _⟩,
  ((vC.below (B := g) hW hb).trans (vC.grown (B := g) hown hg hb1)).trans (vC.set B2 5 _), (zy B2 5).trans rfl, zw B2 5, B2⟩
theorem zjI {W1 W2 : World} {Ao : Option Addr} {co : Nat} {lost : List ByteArray} (h : QZ base g W Af cf l f s zP za vo vl st) (hW : Below W.heap.size W W1) (hg : W1.grownBy W2 vl.ownBlock) (ho : Kd.R Kd.string 9 W2 base (fun _ => True) (.slice Ao lost.length co) lost) (hb : base ≤ W.heap.size) :
  Xy base g (W2.setCell ⟨g, 6, none⟩ (.slice Ao lost.length co)) Af cf l f s zP za (st.1, lost) ∧ vC base g W (W2.setCell ⟨g, 6, none⟩ (.slice Ao lost.length co)) ∧ W2.cell? ⟨g, 6, none⟩ = some vl ∧ W2.frozen? ⟨g, 6, none⟩ = false ∧ W2.heap[g]? = some (.cells #[.slice Af l.length cf, .int .i64 f, .int .i64 s, .bool zP, .bool za, vo, vl] 90 (0, 0)) := by
 obtain ⟨h0, hO, hL⟩ := h.below hW
 have hb1 := Nat.le_trans hb hW.size
 have B2 := qj h0 hg (Kd.wW hL h0 (by decide))
 obtain ⟨inn, hown⟩ := Kd.QS hL
 have L2 := aN hO hL hg (by decide)
 refine ⟨⟨vo, _, xX (cs' := #[.slice Af l.length cf, .int .i64 f, .int .i64 s, .bool zP, .bool za, vo, .slice Ao lost.length co]) B2 6 (.slice Ao lost.length co) rfl, Kd.Zc L2 B2 (by decide) 6 _, Kd.Zc ho B2 (by decide) 6 _⟩,
  ((vC.below (B := g) hW hb).trans (vC.grown (B := g) hown hg hb1)).trans (vC.set B2 6 _), (zy B2 6).trans rfl, zw B2 6, B2⟩
end
def put.T5 : Bool × List (List Nat × List Nat) := (true, [([], []), ([0], [0]), ([1], [1]), ([2], [2]), ([], []), ([3, 4], [3, 4]), ([5], [5]), ([], []), ([7], [7]), ([8], [8]), ([9], [9]), ([], []), ([11], [11]), ([10, 12], [10, 12]), ([13], [13]), ([14], [14]), ([], []), ([], []), ([17], [17]), ([18], [18]), ([19], [19]), ([20], [20]), ([6, 15, 16, 21], [6, 15, 16, 21]), ([22], [22]), ([23], [23]), ([23], [23]), ([24, 22, 0, 1, 2, 3, 4, 5, 6, 7, 8, 9, 10, 11, 12, 13, 14, 15, 16, 17, 18, 19, 20, 21, 22, 23, 24], [24]), ([25, 26, 0, 1, 2, 3, 4, 5, 6, 7, 8, 9, 10, 11, 12, 13, 14, 15, 16, 17, 18, 19, 20, 21, 22, 23, 24, 25, 26], [25])])
def put.B5 : List Nat := [0, 1, 3, 7, 0, 31, 63, 0, 128, 384, 896, 0, 2048, 8064, 16256, 32640, 0, 0, 131072, 393216, 917504, 1966080, 4194303, 8388607, 16777215, 16777215, 33554431, 134217727]
theorem put.mh : vk .any (opsOf Tryz.f46 5) = put.T5 := by kernel_rfl
theorem put.zqf : um put.T5.2 put.B5 = true := by kernel_rfl
def put.T8 : Bool × List (List Nat × List Nat) := (true, [([], []), ([0], [0]), ([1], [1]), ([2], [2]), ([], []), ([3, 4], [3, 4]), ([5], [5]), ([], []), ([], []), ([8], [8]), ([9], [9]), ([10], [10]), ([11], [11]), ([6, 7, 12], [6, 7, 12]), ([13], [13]), ([14], [14]), ([14], [14]), ([15, 13, 0, 1, 2, 3, 4, 5, 6, 7, 8, 9, 10, 11, 12, 13, 14, 15], [15]), ([16, 17, 0, 1, 2, 3, 4, 5, 6, 7, 8, 9, 10, 11, 12, 13, 14, 15, 16, 17], [16])])
def put.B8 : List Nat := [0, 1, 3, 7, 0, 31, 63, 0, 0, 256, 768, 1792, 3840, 8191, 16383, 32767, 32767, 65535, 262143]
theorem put.zQm : vk .any (opsOf Tryz.f46 8) = put.T8 := by kernel_rfl
theorem put.zwD : um put.T8.2 put.B8 = true := by kernel_rfl
def put.T9 : Bool × List (List Nat × List Nat) := (true, [([], []), ([], []), ([1], [1]), ([2], [2]), ([3], [3]), ([], []), ([], []), ([], []), ([7], [7]), ([8], [8]), ([9], [9]), ([10], [10]), ([], []), ([5, 6, 11, 12], [5, 6, 11, 12]), ([13], [13]), ([4, 14], [4, 14]), ([0, 0, 1, 2, 3, 4, 5, 6, 7, 8, 9, 10, 11, 12, 13, 14, 15], [0]), ([16, 0, 1, 2, 3, 4, 5, 6, 7, 8, 9, 10, 11, 12, 13, 14, 15], [16]), ([17, 15, 15, 0, 1, 2, 3, 4, 5, 6, 7, 8, 9, 10, 11, 12, 13, 14, 15], [15, 17])])
def put.B9 : List Nat := [0, 0, 2, 6, 14, 0, 0, 0, 128, 384, 896, 1920, 0, 8160, 16352, 32766, 65535, 131071, 262143]
theorem put.zQn : vk .any (opsOf Tryz.f46 9) = put.T9 := by kernel_rfl
theorem put.zwE : um put.T9.2 put.B9 = true := by kernel_rfl
set_option maxRecDepth 100000 in
set_option maxHeartbeats 8000000 in
theorem zyA (w0 : World) (base g : Nat) (Af : Option Addr) (cf : Nat) (l : List y8) (f s : Int) (zP za : Bool) (st : List vO × List ByteArray) (n : ByteArray) (w : World) (hG : GW w0) (hC : Kd.C jY w0 Af l.length l) (hl : l.length ≤ 1000000000) (hf0 : 0 ≤ f) (hf1 : f < (l.length : Int)) (hv : ∀ x ∈ l, vY x = true) (hgb : g < base) (hb : base ≤ w.heap.size) (hg0 : w0.heap.size ≤ g) (hw : Below w0.heap.size w0 w) (hlo : st.1.length ≤ 1000000) (hll : st.2.length ≤ 1000000) (vo vl : Value) (hS : QZ base g w Af cf l f s zP za vo vl st) (ha : uM l f n < 0) :
  Calls Tryz.prog 46 #[.pointer (some ⟨g, 0, none⟩), .string n] w fun e w' => (∃ v, e = .returned v) ∧ Xy base g w' Af cf l f s zP za (st.1, st.2 ++ [n]) ∧ vC base g w w' := by
 have hhome := mW w0 g Af cf l f s zP za vo vl n w hG hC hl hf0 hf1 hv hw hS.1
 generalize uM l f n = a at hhome ha
 have d0 : decide (a < 0) = true := decide_eq_true ha
 have HS := zx.mk hS
 clear hS hv hC hG hw
 go_enter Tryz.func46, Tryz.ntmps46
 go_wp2_with (first | (go_at_call 105; refine hhome.mono ?_; rintro e w1 ⟨rfl, hb1⟩; have S1 := HS.out.below hb1; have k6 : w1.cell? ⟨g, 6, none⟩ = some vl := (zy S1.1 6).trans rfl; have Ur := zx.mk S1; have HB1 := zx.mk hb1; clear S1 hb1) | ((with_reducible refine uy (b := .append) (xs := #[.tmp 19, .tmp 21]) rfl ?_); at_builtin; refine Kd.gK Kd.string (w0 := w1) base rfl (.tmp 19) (.tmp 21) 27 9 (.string ⟨#[]⟩) 16 rfl Tryz.underlying27 Q6 rfl (by decide) (by omega) vl st.2 n [.string n] (fun _ => True) (fun _ => False) rfl rfl ?aP (fun _ hk => hk.elim) ?aF ?aO ?aB ?aS ?aL ?_; (case aP => exact rfl); (case aF => exact fun _ _ => trivial); (case aO => exact Ur.out.2.2); (case aB => exact Below.refl _ _); (case aS => exact Nat.le_trans hb HB1.out.size); (case aL => omega); intro v1 w2 ho hbw hg hat; obtain ⟨Ao, co, rfl⟩ := Kd.qA ho; have hp := zjI Ur.out (Below.refl _ _) hg ho (Nat.le_trans hb HB1.out.size); obtain ⟨p1, p2, k7, z7, B7⟩ := hp; have P1 := zx.mk p1; have P2 := zx.mk p2; clear p1 p2 B7 ho hbw hg hat k6; generalize hnn : (st.2 ++ [n]).length = nn at P1 P2 ⊢))
 refine bodyPost_ret (results_none rfl _ _ _) rfl ?_
 exact ⟨⟨_, rfl⟩, P1.out, (vC.below HB1.out hb).trans P2.out⟩
set_option maxRecDepth 100000 in
set_option maxHeartbeats 16000000 in
theorem zkD (w0 : World) (base g : Nat) (Af : Option Addr) (cf : Nat) (l : List y8) (f s : Int) (zP za : Bool) (st : List vO × List ByteArray) (n : ByteArray) (w : World) (hG : GW w0) (hC : Kd.C jY w0 Af l.length l) (hl : l.length ≤ 1000000000) (hf0 : 0 ≤ f) (hf1 : f < (l.length : Int)) (hv : ∀ x ∈ l, vY x = true) (hgb : g < base) (hb : base ≤ w.heap.size) (hg0 : w0.heap.size ≤ g) (hw : Below w0.heap.size w0 w) (hlo : st.1.length ≤ 1000000) (hll : st.2.length ≤ 1000000) (vo vl : Value) (hS : QZ base g w Af cf l f s zP za vo vl st) (ha : 0 ≤ uM l f n) (hs0 : 1 ≤ s) (hs1 : s ≤ 1000) :
  Calls Tryz.prog 46 #[.pointer (some ⟨g, 0, none⟩), .string n] w fun e w' => (∃ v, e = .returned v) ∧ Xy base g w' Af cf l f s zP za (st.1 ++ p9 l s za st.1 (uM l f n) n ++ [Vz (Qk (vw l (uM l f n)) n s).1 (uM l f n) s n], st.2) ∧ vC base g w w' := by
 have hhome := mW w0 g Af cf l f s zP za vo vl n w hG hC hl hf0 hf1 hv hw hS.1
 have hlt := mY n hf0 hf1
 generalize uM l f n = a at hhome ha hlt ⊢
 have ha1 : a < (l.length : Int) := by omega
 have d0 : decide (a < 0) = false := decide_eq_false (by omega)
 clear hlt
 have hx := XU hv ha ha1
 have hz := XA hx
 obtain ⟨ad, A3, c3, A4, c4, A5, c5, e, x0, x1, x2, x3, x4, x5, g3, q3, g4, q4, g5, q5⟩ := XL hC a ha (by omega)
 subst e
 have e : xU l a = vw l a := rfl
 rw [e] at x0 x1 x2 x3 x4 x5 g3 q3 g4 q4 g5 q5
 clear e
 have hnil : st.1 = [] → p9 l s za st.1 a n = [] := fun h => by unfold p9; rw [h]; rfl
 have hlast : ∀ b, st.1.getLast? = some b → p9 l s za st.1 a n = if za && decide (b.f2 = a) then (if (Z6 (vw l a) b.f4 n s).1 = 0 then [] else [Qb (Z6 (vw l a) b.f4 n s).1]) else [] := fun b h => by unfold p9; rw [h]
 generalize p9 l s za st.1 a n = kb at hnil hlast ⊢
 generalize vw l a = x at x0 x1 x2 x3 x4 x5 g3 q3 g4 q4 g5 q5 hx hz hlast ⊢
 obtain ⟨Ao, co, evo⟩ := Kd.qA hS.2.1
 subst evo
 obtain ⟨cb, hcb⟩ : ∃ cb : Bool, cb = (match st.1.getLast? with | none => false | some b => za && decide (b.f2 = a)) := ⟨_, rfl⟩
 have zvN : ∀ (m : ByteArray) (W : World), Below w0.heap.size w0 W → Calls Tryz.prog 21 #[.agg #[.string x.f0, .bool x.f1, .int .i64 x.f2, .slice A3 x.f3.length c3, .slice A4 x.f4.length c4, .slice A5 x.f5.length c5], .string m, .string n, .int .i64 s] W fun e w' => e = .returned (.tuple #[.int .i64 (Z6 x m n s).1, .int .i64 (Z6 x m n s).2]) ∧ Below W.heap.size W w' := fun m W h =>
  tQ x.f0 x.f1 x.f2 A3 c3 x.f3 A4 c4 x.f4 A5 c5 x.f5 m n s W (hG.under h) (Kd.zC q3 h) g3 (Kd.zC q4 h) g4 (Kd.zC q5 h) g5 (by omega) (by omega) (by omega)
 have hwide : ∀ (W : World), Below w0.heap.size w0 W → Calls Tryz.prog 22 #[.agg #[.string x.f0, .bool x.f1, .int .i64 x.f2, .slice A3 x.f3.length c3, .slice A4 x.f4.length c4, .slice A5 x.f5.length c5], .string n, .int .i64 s] W fun e w' => e = .returned (.tuple #[.int .i64 (Qk x n s).1, .int .i64 (Qk x n s).2]) ∧ Below W.heap.size W w' := fun W h =>
  Yl.calls x.f0 x.f1 x.f2 A3 c3 x.f3 A4 c4 x.f4 A5 c5 x.f5 n s _ _ W (Kd.zC q3 h) g3 (Kd.zC q4 h) g4 (Kd.zC q5 h) g5 (hG.under h) (zyr x.f0 x.f1 x.f2 x.f3 x.f4 x.f5 n s (by omega) (by omega) (by omega))
 have zvO : ∀ (W : World), Below w0.heap.size w0 W → W.cell? (ad.add (a.toNat * 6)) = some (.string x.f0) ∧ W.cell? ⟨(ad.add (a.toNat * 6)).block, (ad.add (a.toNat * 6)).off + 1, none⟩ = some (.bool x.f1) ∧ W.cell? ⟨(ad.add (a.toNat * 6)).block, (ad.add (a.toNat * 6)).off + 2, none⟩ = some (.int .i64 x.f2) ∧ W.cell? ⟨(ad.add (a.toNat * 6)).block, (ad.add (a.toNat * 6)).off + 3, none⟩ = some (.slice A3 x.f3.length c3) ∧ W.cell? ⟨(ad.add (a.toNat * 6)).block, (ad.add (a.toNat * 6)).off + 4, none⟩ = some (.slice A4 x.f4.length c4) ∧ W.cell? ⟨(ad.add (a.toNat * 6)).block, (ad.add (a.toNat * 6)).off + 5, none⟩ = some (.slice A5 x.f5.length c5) := fun W h => ⟨(h.cell (World.block_lt_of_cell? w0 _ x0)).trans x0, (h.cell (World.block_lt_of_cell? w0 _ x1)).trans x1, (h.cell (World.block_lt_of_cell? w0 _ x2)).trans x2, (h.cell (World.block_lt_of_cell? w0 _ x3)).trans x3, (h.cell (World.block_lt_of_cell? w0 _ x4)).trans x4, (h.cell (World.block_lt_of_cell? w0 _ x5)).trans x5⟩
 have HKN := zx.mk zvN
 have HWD := zx.mk hwide
 have HFT := zx.mk zvO
 have HNL := zx.mk hnil
 have HLS := zx.mk hlast
 have HS := zx.mk hS
 have HW := zx.mk hw
 have HHO := zx.mk hhome
 have HCB := zx.mk hcb
 clear hcb zvN hwide zvO hnil hlast hS hw x0 x1 x2 x3 x4 x5 q3 q4 q5 g3 g4 g5 hx hz hv hC hG hhome
 go_enter Tryz.func46, Tryz.ntmps46
 go_upto_region 4 with (go_at_call 105; refine HHO.out.mono ?_; rintro e w1 ⟨rfl, hb1⟩; have S1 := HS.out.below hb1; have k5 : w1.cell? ⟨g, 5, none⟩ = some (.slice Ao st.1.length co) := (zy S1.1 5).trans rfl; have k4 : w1.cell? ⟨g, 4, none⟩ = some (.bool za) := (zy S1.1 4).trans rfl; have Ur := zx.mk S1; have HB1 := zx.mk hb1; clear hb1 S1)
 have HW1 := zx.mk (HW.out.trans (HB1.out.mono HW.out.size))
 have hb1 : base ≤ w1.heap.size := Nat.le_trans hb HB1.out.size
 go_cut [51] (fun s51 wx => s51 = .bool cb ∧ w1 = wx)
 case first =>
  cases ku : st.1.getLast? with
  | none =>
   have hn0 : st.1 = [] := List.getLast?_eq_none_iff.1 ku
   have hz0 : st.1.length = 0 := by rw [hn0]; rfl
   have hcb := HCB.out
   rw [ku] at hcb
   subst hcb
   have i0 : decide (0 < (st.1.length : Int)) = false := decide_eq_false (by omega)
   have i00 : decide (0 < st.1.length) = false := decide_eq_false (by omega)
   clear hz0 hn0 ku
   go_wp2_with fail
   go_meet
   exact ⟨rfl, rfl⟩
  | some b =>
   have hpos : 0 < st.1.length := by
    rcases Nat.eq_zero_or_pos st.1.length with h | h
    ·rw [List.eq_nil_of_length_eq_zero h] at ku; cases ku
    ·exact h
   have hget : st.1[st.1.length - 1]? = some b := by rw [← List.getLast?_eq_getElem?]; exact ku
   obtain ⟨_, gO, CO⟩ := Kd.qO Ur.out.2.1
   obtain ⟨bd, A6, c6, e, y0, y1, y2, y3, y4, y5, y6, _, _⟩ := XM (show Kd.C kE _ _ _ _ from CO) ((st.1.length : Int) - 1) (by omega) (by omega)
   subst e
   have e1 : ((st.1.length : Int) - 1).toNat = st.1.length - 1 := by omega
   have e2 : zn st.1 ((st.1.length : Int) - 1) = b := by unfold zn; rw [e1, List.getD_eq_getElem?_getD, hget]; rfl
   rw [e2] at y2
   rw [e1] at y2
   have hcb := HCB.out
   rw [ku] at hcb
   dsimp only at hcb
   clear y0 y1 y3 y4 y5 y6 e2 CO gO hget ku e1
   have i0 : decide (0 < (st.1.length : Int)) = true := decide_eq_true (by omega)
   have i1 : (0 : Int) ≤ (st.1.length : Int) - 1 := by omega
   have i11 : (1 : Int) ≤ (st.1.length : Int) := by omega
   have i2 : (st.1.length : Int) - 1 < (st.1.length : Int) := by omega
   have i3 : wrap64 ((st.1.length : Int) - 1) = (st.1.length : Int) - 1 := ZG (by omega) (by omega)
   have zjL := zx.mk hcb
   clear hcb
   cases za with
   | false =>
    clear y2
    go_wp2_with fail
    go_meet
    exact ⟨by rw [zjL.out]; rfl, rfl⟩
   | true =>
    by_cases hba : b.f2 = a
    case neg =>
     have i4 : (b.f2 == a) = false := beq_eq_false_iff_ne.2 hba
     have i5 : decide (b.f2 = a) = false := decide_eq_false hba
     have HC2 := zx.mk (show cb = false by rw [zjL.out, i5]; rfl)
     clear hba
     go_wp2_with fail
     go_meet
     exact ⟨by rw [HC2.out], rfl⟩
    case pos =>
     have i4 : (b.f2 == a) = true := beq_iff_eq.2 hba
     have i5 : decide (b.f2 = a) = true := decide_eq_true hba
     have HC2 := zx.mk (show cb = true by rw [zjL.out, i5]; rfl)
     clear hba
     go_wp2_with fail
     go_meet
     exact ⟨by rw [HC2.out], rfl⟩
 case rest =>
 obtain ⟨rfl, rfl⟩ := hcut
 clear k5 k4
 go_upto_if 51 with (fail)
 go_cut [5] (fun _ wx => zx (Xy base g wx (some ad) cf l f s zP za (st.1 ++ kb, st.2)) ∧ zx (vC base g w wx))
 case first =>
  cases cb with
  | false =>
   have hkb : kb = [] := by
    have hcb := HCB.out
    cases ku : st.1.getLast? with
    | none => exact HNL.out (List.getLast?_eq_none_iff.1 ku)
    | some b =>
     rw [ku] at hcb
     dsimp only at hcb
     rw [HLS.out b ku, ← hcb]; rfl
   subst hkb
   go_wp2_with fail
   go_meet
   exact ⟨⟨_, vl, by rw [List.append_nil]; exact Ur.out⟩, ⟨vC.below HB1.out hb⟩⟩
  | true =>
   obtain ⟨b, ku⟩ : ∃ b, st.1.getLast? = some b := by
    have hcb := HCB.out
    cases ku : st.1.getLast? with
    | none => rw [ku] at hcb; cases hcb
    | some b => exact ⟨b, rfl⟩
   have hcb := HCB.out
   rw [ku] at hcb
   dsimp only at hcb
   have hkb : kb = if (Z6 x b.f4 n s).1 = 0 then [] else [Qb (Z6 x b.f4 n s).1] := by rw [HLS.out b ku, ← hcb]; rfl
   have hpos : 0 < st.1.length := by
    rcases Nat.eq_zero_or_pos st.1.length with h | h
    ·rw [List.eq_nil_of_length_eq_zero h] at ku; cases ku
    ·exact h
   have hget : st.1[st.1.length - 1]? = some b := by rw [← List.getLast?_eq_getElem?]; exact ku
   obtain ⟨_, gO, CO⟩ := Kd.qO Ur.out.2.1
   obtain ⟨bd, A6, c6, e, y0, y1, y2, y3, y4, y5, y6, _, _⟩ := XM (show Kd.C kE _ _ _ _ from CO) ((st.1.length : Int) - 1) (by omega) (by omega)
   subst e
   have e1 : ((st.1.length : Int) - 1).toNat = st.1.length - 1 := by omega
   have e2 : zn st.1 ((st.1.length : Int) - 1) = b := by unfold zn; rw [e1, List.getD_eq_getElem?_getD, hget]; rfl
   rw [e2] at y4
   rw [e1] at y4
   have i1 : (0 : Int) ≤ (st.1.length : Int) - 1 := by omega
   have i11 : (1 : Int) ≤ (st.1.length : Int) := by omega
   have i2 : (st.1.length : Int) - 1 < (st.1.length : Int) := by omega
   have i3 : wrap64 ((st.1.length : Int) - 1) = (st.1.length : Int) - 1 := ZG (by omega) (by omega)
   have zyB := zx.mk (HKN.out b.f4)
   generalize Z6 x b.f4 n s = kp at hkb zyB
   obtain ⟨Qy, er⟩ := kp
   have HKB := zx.mk hkb
   have HY4 := zx.mk y4
   clear hkb y0 y1 y2 y3 y4 y5 y6 e2 CO gO hget ku e1 hcb
   go_wp2_with fail
   have mo : w1.cell? ⟨g, 0, none⟩ = some (.slice (some ad) l.length cf) := (zy Ur.out.1 0).trans rfl
   have Vi : w1.cell? ⟨g, 2, none⟩ = some (.int .i64 s) := (zy Ur.out.1 2).trans rfl
   have mD : w1.cell? ⟨g, 5, none⟩ = some (.slice (some bd) st.1.length co) := (zy Ur.out.1 5).trans rfl
   have kb4 := HY4.out
   have VK := zx.mk (fun (W : World) (h : Below w1.heap.size w1 W) => (show W.cell? ⟨g, 0, none⟩ = some (.slice (some ad) l.length cf) ∧ W.cell? ⟨g, 2, none⟩ = some (.int .i64 s) ∧ W.cell? ⟨g, 5, none⟩ = some (.slice (some bd) st.1.length co) ∧ W.cell? ⟨(bd.add ((st.1.length - 1) * 7)).block, (bd.add ((st.1.length - 1) * 7)).off + 4, none⟩ = some (.string b.f4) ∧ (W.cell? (ad.add (a.toNat * 6)) = some (.string x.f0) ∧ W.cell? ⟨(ad.add (a.toNat * 6)).block, (ad.add (a.toNat * 6)).off + 1, none⟩ = some (.bool x.f1) ∧ W.cell? ⟨(ad.add (a.toNat * 6)).block, (ad.add (a.toNat * 6)).off + 2, none⟩ = some (.int .i64 x.f2) ∧ W.cell? ⟨(ad.add (a.toNat * 6)).block, (ad.add (a.toNat * 6)).off + 3, none⟩ = some (.slice A3 x.f3.length c3) ∧ W.cell? ⟨(ad.add (a.toNat * 6)).block, (ad.add (a.toNat * 6)).off + 4, none⟩ = some (.slice A4 x.f4.length c4) ∧ W.cell? ⟨(ad.add (a.toNat * 6)).block, (ad.add (a.toNat * 6)).off + 5, none⟩ = some (.slice A5 x.f5.length c5)) from
    ⟨(h.cell (World.block_lt_of_cell? w1 _ mo)).trans mo, (h.cell (World.block_lt_of_cell? w1 _ Vi)).trans Vi, (h.cell (World.block_lt_of_cell? w1 _ mD)).trans mD, (h.cell (World.block_lt_of_cell? w1 _ kb4)).trans kb4, HFT.out W (HW1.out.trans (h.mono HW1.out.size))⟩))
   clear mo Vi mD kb4
   refine RW.rS (n := 28) VK put.mh put.zqf (by kernel_rfl) rfl rfl (fun w3 H0 T U h => ?_)
   refine RW.rP 0 (some 53) T ?_
   refine RW.rP 1 (some 54) T ?_
   refine RW.rP 2 (some 55) T ?_
   refine RW.rT 3 (some 56) T U h ?_
   refine RW.rP 4 (some 57) T ?_
   refine RW.rP 5 (some 58) T ?_
   refine RW.rT 6 (some 59) T U h ?_
   refine RW.rP 7 (some 60) T ?_
   refine RW.rP 8 (some 61) T ?_
   refine RW.rP 9 (some 62) T ?_
   refine RW.rT 10 (some 63) T U h ?_
   refine RW.rP 11 (some 64) T ?_
   refine RW.rP 12 (some 65) T ?_
   refine RW.rP 13 (some 66) T ?_
   refine RW.rP 14 (some 67) T ?_
   refine RW.rT 15 (some 68) T U h ?_
   refine RW.rP 16 (some 69) T ?_
   refine RW.rP 17 (some 70) T ?_
   refine RW.rP 18 (some 71) T ?_
   refine RW.rP 19 (some 72) T ?_
   refine RW.rP 20 (some 73) T ?_
   refine RW.rT 21 (some 74) T U h ?_
   clear h
   refine RW.rC 22 (some 75) T VK H0 Tryz.func21 (zyB.out _ (HW1.out.trans (H0.out.mono HW1.out.size))) (fun w4 H4 h => ?_) (by kernel_rfl)
   refine RW.rP 23 (some 52) T ?_
   refine RW.rP 24 (some 76) T ?_
   refine RW.rP 25 (some 77) T ?_
   refine RW.rP 26 (some 6) T ?_
   refine RW.rP 27 (some 7) T ?_
   refine wX (jA T.out (by kernel_rfl)) ?_
   clear h
   have S4 := Ur.out.below H4.out
   have hb4 := Nat.le_trans hb1 H4.out.size
   have LK4 := zx.mk ((vC.below (B := g) HB1.out hb).trans (vC.below (B := g) H4.out hb1))
   have HS4 := zx.mk S4
   have k5 : w4.cell? ⟨g, 5, none⟩ = some (.slice (some bd) st.1.length co) := (zy S4.1 5).trans rfl
   clear S4
   by_cases h0 : Qy = 0
   ·subst h0
    have hkb : kb = [] := by rw [HKB.out]; rfl
    subst hkb
    go_wp2_with fail
    go_meet
    exact ⟨⟨_, vl, by rw [List.append_nil]; exact HS4.out⟩, LK4⟩
   ·have hkb : kb = [Qb Qy] := by rw [HKB.out]; exact if_neg h0
    subst hkb
    have j0 : (Qy != 0) = true := by simpa using h0
    have j1 : (!(Qy == 0)) = true := by simpa using h0
    have j2 : (Qy == 0) = false := by simpa using h0
    clear h0
    go_wp2_with ((with_reducible refine uy (b := .append) (xs := #[.tmp 84, .tmp 87]) rfl ?_); at_builtin; refine Kd.gK (Kd.bare kE) (w0 := w4) base rfl (.tmp 84) (.tmp 87) 34 53 (.agg #[.int .i64 0, .int .i64 0, .int .i64 0, .int .i64 0, .string ⟨#[]⟩, .string ⟨#[]⟩, .slice none 0 0]) 88 rfl Tryz.underlying34 Xa rfl (by decide) (by omega) (.slice (some bd) st.1.length co) st.1 (Qb Qy) [.int .i64 2, .int .i64 Qy, .int .i64 0, .int .i64 0, .string ⟨#[]⟩, .string ⟨#[]⟩, .slice none 0 0] (fun _ => True) (fun _ => False) rfl rfl ?aP (fun _ hk => hk.elim) ?aF ?aO ?aB ?aS ?aL ?_; (case aP => exact zyt _ _ _ _); (case aF => exact fun _ _ => trivial); (case aO => exact HS4.out.2.1); (case aB => exact Below.refl _ _); (case aS => exact hb4); (case aL => omega); intro v1 w5 ho hbw hg hat; obtain ⟨Ao, co, rfl⟩ := Kd.qA ho; have hp := aT HS4.out (Below.refl _ _) hg ho hb4; obtain ⟨p1, p2, k7, z7, B7⟩ := hp; have P1 := zx.mk p1; have P2 := zx.mk p2; clear p1 p2 B7 ho hbw hg hat k5; generalize hnn : (st.1 ++ [Qb Qy]).length = nn at P1 P2 ⊢)
    go_meet
    exact ⟨P1, ⟨LK4.out.trans P2.out⟩⟩
 case rest =>
  obtain ⟨HS2, HL2⟩ := hcut
  obtain ⟨vo2, vl2, S2⟩ := HS2.out
  have hkl : kb.length ≤ 1 := by
   cases ku : st.1.getLast? with
   | none => rw [HNL.out (List.getLast?_eq_none_iff.1 ku)]; exact Nat.zero_le _
   | some b =>
    rw [HLS.out b ku]
    repeat' split
    all_goals first | exact Nat.zero_le _ | exact Nat.le_refl _
  have hw2 : Below w0.heap.size w0 wc := HW.out.trans (Uo HL2.out hg0 (by omega))
  have hb2 : base ≤ wc.heap.size := Nat.le_trans hb HL2.out.1.size
  have mo : wc.cell? ⟨g, 0, none⟩ = some (.slice (some ad) l.length cf) := (zy S2.1 0).trans rfl
  have Vi : wc.cell? ⟨g, 2, none⟩ = some (.int .i64 s) := (zy S2.1 2).trans rfl
  have VK := zx.mk (fun (W : World) (h : Below wc.heap.size wc W) => (show W.cell? ⟨g, 0, none⟩ = some (.slice (some ad) l.length cf) ∧ W.cell? ⟨g, 2, none⟩ = some (.int .i64 s) ∧ (W.cell? (ad.add (a.toNat * 6)) = some (.string x.f0) ∧ W.cell? ⟨(ad.add (a.toNat * 6)).block, (ad.add (a.toNat * 6)).off + 1, none⟩ = some (.bool x.f1) ∧ W.cell? ⟨(ad.add (a.toNat * 6)).block, (ad.add (a.toNat * 6)).off + 2, none⟩ = some (.int .i64 x.f2) ∧ W.cell? ⟨(ad.add (a.toNat * 6)).block, (ad.add (a.toNat * 6)).off + 3, none⟩ = some (.slice A3 x.f3.length c3) ∧ W.cell? ⟨(ad.add (a.toNat * 6)).block, (ad.add (a.toNat * 6)).off + 4, none⟩ = some (.slice A4 x.f4.length c4) ∧ W.cell? ⟨(ad.add (a.toNat * 6)).block, (ad.add (a.toNat * 6)).off + 5, none⟩ = some (.slice A5 x.f5.length c5)) from
   ⟨(h.cell (World.block_lt_of_cell? wc _ mo)).trans mo, (h.cell (World.block_lt_of_cell? wc _ Vi)).trans Vi, HFT.out W (hw2.trans (h.mono hw2.size))⟩))
  have HW2 := zx.mk hw2
  have HT2 := zx.mk S2
  clear hw2 S2 mo Vi HS2
  obtain ⟨wd, hwd⟩ : ∃ wd, Qk x n s = wd := ⟨_, rfl⟩
  rw [hwd] at HWD
  have HWE := zx.mk hwd
  clear hwd
  obtain ⟨wv, we⟩ := wd
  go_wp2_with fail
  refine RW.rS (n := 19) VK put.zQm put.zwD (by kernel_rfl) rfl rfl (fun w3 H0 T U h => ?_)
  refine RW.rP 0 (some 92) T ?_
  refine RW.rP 1 (some 93) T ?_
  refine RW.rP 2 (some 94) T ?_
  refine RW.rT 3 (some 95) T U h ?_
  refine RW.rP 4 (some 96) T ?_
  refine RW.rP 5 (some 97) T ?_
  refine RW.rT 6 (some 98) T U h ?_
  refine RW.rP 7 (some 99) T ?_
  refine RW.rP 8 (some 100) T ?_
  refine RW.rP 9 (some 101) T ?_
  refine RW.rP 10 (some 102) T ?_
  refine RW.rP 11 (some 103) T ?_
  refine RW.rT 12 (some 104) T U h ?_
  clear h
  refine RW.rC 13 (some 105) T VK H0 Tryz.func22 (HWD.out _ (HW2.out.trans (H0.out.mono HW2.out.size))) (fun w4 H4 h => ?_) (by kernel_rfl)
  refine RW.rP 14 (some 91) T ?_
  refine RW.rP 15 (some 106) T ?_
  refine RW.rP 16 (some 107) T ?_
  refine RW.rP 17 (some 8) T ?_
  refine RW.rP 18 (some 9) T ?_
  refine wX (jA T.out (by kernel_rfl)) ?_
  clear h
  have S4 := HT2.out.below H4.out
  have hb4 := Nat.le_trans hb2 H4.out.size
  have LK4 := zx.mk (HL2.out.trans (vC.below (B := g) H4.out hb2))
  have mD : w4.cell? ⟨g, 5, none⟩ = some vo2 := (zy S4.1 5).trans rfl
  have Vi : w4.cell? ⟨g, 2, none⟩ = some (.int .i64 s) := (zy S4.1 2).trans rfl
  have HS9 := zx.mk (fun (W : World) (h : Below w4.heap.size w4 W) => (show W.cell? ⟨g, 5, none⟩ = some vo2 ∧ W.cell? ⟨g, 2, none⟩ = some (.int .i64 s) from ⟨(h.cell (World.block_lt_of_cell? w4 _ mD)).trans mD, (h.cell (World.block_lt_of_cell? w4 _ Vi)).trans Vi⟩))
  have HS4 := zx.mk S4
  clear S4 mD Vi T U
  go_wp2_with fail
  refine RW.rSD (n := 19) [18] HS9 put.zQn put.zwE (by kernel_rfl) rfl rfl (fun w5 H5 T U h => ?_)
  refine RW.rP 0 (some 108) T ?_
  refine RW.rP 1 (some 109) T ?_
  refine RW.rP 2 (some 110) T ?_
  refine RW.rP 3 (some 111) T ?_
  refine RW.rT 4 (some 112) T U h ?_
  refine RW.rP 5 (some 113) T ?_
  refine RW.rP 6 (some 114) T ?_
  refine RW.rP 7 (some 115) T ?_
  refine RW.rP 8 (some 116) T ?_
  refine RW.rP 9 (some 117) T ?_
  refine RW.rP 10 (some 118) T ?_
  refine RW.rT 11 (some 119) T U h ?_
  refine RW.rP 12 (some 120) T ?_
  refine RW.rP 13 (some 121) T ?_
  have S5 := HS4.out.below H5.out
  have hb5 := Nat.le_trans hb4 H5.out.size
  clear h
  refine Ye (i := 14) (N := some 122) #[true, true, true, true, true, true, true, true, true, true, true, true, true, true, true, false, false, false, false] rfl rfl (kL T.out (by kernel_rfl)) (by decide) (fun K hK => ?_)
  refine gu (w1 := ?_) (v := ?_) (by rfl) rfl ?_ ?_
  rotate_left 2
  ·have h := HS9.out _ H5.out
   go_simp
   constructor
   ·rfl
   ·rfl
  refine hK.out _ _ (HS9.out _ (H5.out.alloc H5.out.size _)) (fun h => ?_)
  clear hK K h
  refine wB (a' := ?_) ?_ ?_
  rotate_left
  ·show Act.put _ (some 122) _ = _
   simp only [Act.put, List.setIfInBounds_toArray, List.set_cons_zero, List.set_cons_succ]
   rfl
  refine Ye (i := 15) (N := some 123) #[true, true, true, true, true, true, true, true, true, true, true, true, true, true, true, true, false, false, false] rfl rfl (kL T.out (by kernel_rfl)) (by decide) (fun K hK => ?_)
  refine Kd.Xf (Kd.bare kE) (w0 := w5) base (by rfl) (.tmp 112) (.tmp 122) 34 53 (.agg #[.int .i64 0, .int .i64 0, .int .i64 0, .int .i64 0, .string ⟨#[]⟩, .string ⟨#[]⟩, .slice none 0 0]) 88 rfl Tryz.underlying34 Xa rfl (by decide) (by omega) vo2 (st.1 ++ kb) (Vz wv a s n) [.int .i64 0, .int .i64 wv, .int .i64 a, .int .i64 s, .string n, .string ⟨#[]⟩, .slice none 0 0] (fun _ => True) (fun _ => False) rfl rfl ?aP (fun _ hk => hk.elim) ?aF ?aO ?aB ?aS ?aL ?_
  (case aP => exact zyu _ _ _ _ _ _ _)
  (case aF => exact fun _ _ => trivial)
  (case aO => exact S5.2.1)
  (case aB => exact Below.refl base w5)
  (case aS => exact hb5)
  (case aL => rw [List.length_append]; omega)
  intro v1 w6 ho hbw hg hat
  obtain ⟨Ao, co, eo⟩ := Kd.qA ho
  subst eo
  obtain ⟨p1, p2, k6, z6, B6⟩ := aT S5 (Below.refl _ _) hg ho hb5
  have S6 : w6.cell? ⟨g, 5, none⟩ = some vo2 ∧ w6.cell? ⟨g, 2, none⟩ = some (.int .i64 s) := ⟨k6, (zy B6 2).trans rfl⟩
  have P1 := zx.mk p1
  have P2 := zx.mk ((LK4.out.trans (vC.below (B := g) H5.out hb4)).trans p2)
  refine hK.out _ _ S6 (fun h => ?_)
  clear hK K h p1 p2 ho hbw hg hat B6 S5 S6
  generalize hnn : (st.1 ++ kb ++ [Vz wv a s n]).length = nn at P1 P2 ⊢
  refine wB (a' := ?_) ?_ ?_
  rotate_left
  ·show Act.put _ (some 123) _ = _
   simp only [Act.put, List.setIfInBounds_toArray, List.set_cons_zero, List.set_cons_succ]
   rfl
  refine RW.rP 16 (some 124) T ?_
  refine RW.rP 17 (some 125) T ?_
  refine zqj (i := 18) (N := none) #[true, true, true, true, true, true, true, true, true, true, true, true, true, true, true, true, true, true, true] rfl rfl (kL T.out (by kernel_rfl)) (by decide) (fun K hK => ?_)
  refine zqv (w1 := ?_) (by rfl) rfl ?_ ?_
  rotate_left
  ·go_simp
   rfl
  refine hK.out _ _ ?_
  clear hK K
  refine wX (jA T.out (by kernel_rfl)) ?_
  clear k6 z6
  generalize w6.setCell ⟨g, 5, none⟩ (.slice Ao nn co) = w7 at P1 P2 ⊢
  go_wp2_with fail
  go_end0
  refine ⟨⟨_, rfl⟩, ?_, P2.out⟩
  rw [← List.append_assoc, HWE.out]
  exact P1.out
end Go.Proofs.YtggifbbiiickmaaGreatDoor
namespace Go.Proofs.YtggifbbiiickmaaGreatDoor
open Go.RowKit
def wK {β : Type} (Bs : Nat) (J : β → World → Prop) : Prop := ∀ s W u, J s W → J s (W.setCell ⟨Bs, 0, none⟩ u)
theorem wK.and {β : Type} {Bs : Nat} {I I' : β → World → Prop} (h : wK Bs I) (h' : wK Bs I') : wK Bs (fun s W => I s W ∧ I' s W) := fun s W u hs => ⟨h s W u hs.1, h' s W u hs.2⟩
theorem Z8 {W : World} {Bs k : Nat} {o : Obj} (u : Value) (h : W.heap[k]? = some o) (hne : k ≠ Bs) : (W.setCell ⟨Bs, 0, none⟩ u).heap[k]? = some o := (Below.heap_setCell W ⟨Bs, 0, none⟩ u k hne).trans h
def zxD {α : Type} (F : Fence) (n : Nat) (P : Program) (g : Nat) (lb : Array Value) (encs : α → Array Value) (Bs : Nat) (Kp : World → World → Prop) (S Sp : List α → Prop) (N : Nat) (w : World) : Prop :=
 ∀ (l : Nat) (J Jx : List α → World → Prop) (W : World), Below w.heap.size w W → AbidesFrom W.heap.size J → AbidesFrom W.heap.size Jx → wK Bs J → wK Bs Jx →
  (∀ pre x W1, J pre W1 → pre.length < N → YieldAt F (n - 1) P l (encs x) W1 fun e W' =>
   (e = .returned (.bool true) ∧ J (pre ++ [x]) W' ∧ Kp W1 W') ∨ (e = .returned (.bool false) ∧ Jx (pre ++ [x]) W')) →
  J [] W →
  CallsIn F n P g (#[.func (.yield l) #[] #[]] ++ lb) W fun e W' => (∃ v, e = .returned v) ∧ ((∃ xs, S xs ∧ J xs W') ∨ (∃ pre, Sp pre ∧ Jx pre W'))
def zkE {α : Type} (B : Nat) (Kp : World → World → Prop) (I Ix : List α → World → Prop) (xs : List α) (W : World) : Exit → Act → World → Prop
 | .normal, _, W' => KeepsFrom B W W' ∧ Kp W W' ∧ I xs W'
 | .ret, _, W' => KeepsFrom B W W' ∧ Ix xs W'
 | _, _, _ => False
variable {F : Fence} {n : Nat} {P : Program}
theorem dH {α : Type} {g : Operand} {ps : Array Tmp} {assign body : Code} {Q : Exit → Act → World → Prop} {a : Act} {w : World}
  (hro : F.round = none) (h1 : 1 ≤ n) {gf : Nat} {lb : Array Value} (hg : a.eval g = .func (.func gf) #[] lb) (hFg : F.fn gf) (eg : ∀ args w, (callFunc gf args).run P w = .ok (.enter gf args) w)
  {encs : α → Array Value} {Bs : Nat} {Kp : World → World → Prop} {S Sp : List α → Prop} {N : Nat} (hseq : zxD F (n - 1) P gf lb encs Bs Kp S Sp N w) (mE : Bs < w.heap.size)
  (hKt : ∀ {A B C : World}, Kp A B → Kp B C → Kp A C) (hKb : ∀ (W : World) (l : Nat) (o o' : Obj), w.heap.size ≤ l → W.heap[l]? = some o → o.isCells = false → o.isWalk = false → Kp W (W.putObj l o')) (hps : ∀ x, (encs x).size = ps.size)
  (I Ix : List α → World → Prop) (hI : OwnFrom w.heap.size I) (hIx : OwnFrom w.heap.size Ix) (hIb : wK Bs I) (zQo : wK Bs Ix) (h0 : I [] w)
  (Ax : α → Act → World → Prop) (hAx : ∀ x a', OwnFrom w.heap.size (fun (_ : Unit) W => Ax x a' W))
  (hassign : ∀ (l : Nat) (pre : List α) (x : α) (W : World) (K : Act → World → Prop), I pre W → (∀ a' W', KeepsFrom w.heap.size W W' → Kp W W' → I pre W' → Ax x a' W' → K a' W') →
   assign.wpIn (F.inRound l) (n - 1 - 1) P (Exit.then K (fun _ _ _ => False)) { tmps := (ps.zip (encs x)).foldl (fun t (p, v) => t.setIfInBounds p v) a.tmps, defers := [] } W)
  (hbody : ∀ (l : Nat) (pre : List α) (x : α) (a' : Act) (W : World), w.heap.size ≤ l → (∃ r, W.heap[l]? = some (.loop r)) → I pre W → Ax x a' W → pre.length < N → body.wpIn (F.inRound l) (n - 1 - 1) P (zkE w.heap.size Kp I Ix (pre ++ [x]) W) a' W)
  (hdone : ∀ (D : Nat) (xs : List α) (W : World), w.heap.size ≤ D → S xs → I xs W → W.heap[D]? = some (.deferred (some [])) → Q .normal { a with defers := { target := .collected D, args := #[] } :: a.defers } W)
  (hstop : ∀ (D : Nat) (pre : List α) (W : World), w.heap.size ≤ D → Sp pre → Ix pre W → W.heap[D]? = some (.deferred (some [])) → Code.ret.wpIn F n P Q { a with defers := { target := .collected D, args := #[] } :: a.defers } W) :
  (Code.rangeFunc g ps assign body).wpIn F n P Q a w := by
 refine wpIn_rangeFunc ?_
 intro fn hfn
 rw [hro]
 obtain ⟨rec, hrec⟩ : ∃ rec : LoopState → Option Code → Loop, rec = fun st pe => { state := st, pending := pe, fn, tmps := a.tmps, params := ps, assign, body, defers := w.heap.size } := ⟨_, rfl⟩
 obtain ⟨W1, hW1⟩ : ∃ W1, (w.alloc (.deferred (some []))).alloc (.loop (rec .ready none)) = W1 := ⟨_, rfl⟩
 have hL1 : W1.heap[w.heap.size + 1]? = some (.loop (rec .ready none)) := by
  rw [← hW1]; have := World.alloc_heap_new (w.alloc (.deferred (some []))) (.loop (rec .ready none)); rwa [World.size_alloc] at this
 have hK1 : W1.heap[w.heap.size]? = some (.deferred (some [])) := by
  rw [← hW1]; exact (Below.heap_alloc _ _ _ (by simp)).trans (World.alloc_heap_new w _)
 have hI1 : I [] W1 := by rw [← hW1]; exact hI.alloc _ (hI.alloc _ h0)
 have hb1 : Below w.heap.size w W1 := by
  rw [← hW1]; exact ((Below.refl _ w).alloc (Nat.le_refl _) _).alloc (by simp) _
 have hz1 : W1.heap.size = w.heap.size + 2 := by rw [← hW1]; simp
 refine ⟨w.heap.size + 1, [{ target := .collected w.heap.size, args := #[] }], W1, { target := .fn (.func gf) lb, args := #[.func (.yield (w.heap.size + 1)) #[] #[]] }, W1, gf,
  #[.func (.yield (w.heap.size + 1)) #[] #[]] ++ lb, W1, ?_, ?_, ?_, ?_, fun _ => h1, ?_⟩
 ·rw [← hW1, hrec]; exact run_enterLoop_outer _ _ _ _ _
 ·simp only [resolve, hg]
  simp [go_sem]
 ·intro f' hf'; simp [Target.leads] at hf'; subst hf'; exact hFg
 ·simp [invoke, go_sem, eg]
 ·have hnw : ∀ {A B : World} {row : Option Nat}, (∀ r, row = some r → W1.heap.size ≤ r ∧ ∃ o : Obj, A.heap[r]? = some o ∧ o.isWalk = true) → (∀ r, row = some r → w.heap.size ≤ r ∧ ∃ o : Obj, A.heap[r]? = some o ∧ o.isCells = false) :=
   fun hr r e => by obtain ⟨hB, o, ho, hw⟩ := hr r e; exact ⟨by omega, o, ho, Obj.not_cells_of_walk hw⟩
  refine (hseq (w.heap.size + 1)
   (fun pre W => I pre W ∧ W.heap[w.heap.size + 1]? = some (.loop (rec .ready none)) ∧ W.heap[w.heap.size]? = some (.deferred (some [])))
   (fun pre W => Ix pre W ∧ W.heap[w.heap.size + 1]? = some (.loop (rec .done (some .ret))) ∧ W.heap[w.heap.size]? = some (.deferred (some [])))
   W1 hb1
   (fun s A B row hs hg' hr => ⟨hI s A B row hs.1 hg' (hnw (B := B) hr), (grownBy_keeps hg' (fun r e => (hr r e).2) hs.2.1 rfl).trans hs.2.1, (grownBy_keeps hg' (fun r e => (hr r e).2) hs.2.2 rfl).trans hs.2.2⟩)
   (fun s A B row hs hg' hr => ⟨hIx s A B row hs.1 hg' (hnw (B := B) hr), (grownBy_keeps hg' (fun r e => (hr r e).2) hs.2.1 rfl).trans hs.2.1, (grownBy_keeps hg' (fun r e => (hr r e).2) hs.2.2 rfl).trans hs.2.2⟩)
   (fun s A u hs => ⟨hIb s A u hs.1, Z8 u hs.2.1 (by omega), Z8 u hs.2.2 (by omega)⟩)
   (fun s A u hs => ⟨zQo s A u hs.1, Z8 u hs.2.1 (by omega), Z8 u hs.2.2 (by omega)⟩)
   ?_ ⟨hI1, hL1, hK1⟩).mono ?_
  ·rintro pre x W ⟨hi, hl, hk⟩ hlen
   have hlt : w.heap.size + 1 < W.heap.size := (Array.getElem?_eq_some_iff.1 hl).1
   have hy := run_yield (P := P) (args := encs x) hl (by rw [hrec]; exact hps x)
   rw [hrec] at hy
   refine ⟨fn, _, assign, body, hy, roundIn_of_wpIn hfn (hassign _ pre x W _ hi ?_)⟩
   clear hy
   intro a' Wa hkfa hkpa hia hax
   replace hl := hkfa.same _ _ (by omega) hl rfl
   replace hk := hkfa.same _ _ (Nat.le_refl _) hk rfl
   replace hlt : w.heap.size + 1 < Wa.heap.size := (Array.getElem?_eq_some_iff.1 hl).1
   refine ⟨_, run_beginRound hl (by rw [hrec]), ?_⟩
   have hl2 : (Wa.putObj (w.heap.size + 1) (.loop { rec .ready none with state := .busy })).heap[w.heap.size + 1]? = some (.loop { rec .ready none with state := .busy }) := World.putObj_heap_same hlt
   have hk2 : (Wa.putObj (w.heap.size + 1) (.loop { rec .ready none with state := .busy })).heap[w.heap.size]? = some (.deferred (some [])) := (World.putObj_heap_other (by omega)).trans hk
   have hw2 : Kp Wa (Wa.putObj (w.heap.size + 1) (.loop { rec .ready none with state := .busy })) := hKb _ _ _ _ (by omega) hl rfl rfl
   refine wpIn_mono (hbody _ pre x a' _ (by omega) ⟨_, hl2⟩ (hI.putObj _ hia (by omega) hl rfl) ((hAx x a').putObj (s := ()) _ hax (by omega) hl rfl) hlen) ?_
   have fin : ∀ (jump : Option Code) (W3 : World), KeepsFrom w.heap.size (Wa.putObj (w.heap.size + 1) (.loop { rec .ready none with state := .busy })) W3 →
     (Instr.endRound (w.heap.size + 1) jump).run P W3 = .ok (.bool jump.isNone) (W3.putObj (w.heap.size + 1) (.loop (rec (if jump.isNone then .ready else .done) jump))) ∧
     W3.heap[w.heap.size + 1]? = some (.loop { rec .ready none with state := .busy }) ∧
     (W3.putObj (w.heap.size + 1) (.loop (rec (if jump.isNone then .ready else .done) jump))).heap[w.heap.size + 1]? = some (.loop (rec (if jump.isNone then .ready else .done) jump)) ∧
     (W3.putObj (w.heap.size + 1) (.loop (rec (if jump.isNone then .ready else .done) jump))).heap[w.heap.size]? = some (.deferred (some [])) := fun jump W3 hk3 => by
    have hl3 := hk3.same _ _ (by omega) hl2 rfl
    have := run_endRound (P := P) jump hl3
    rw [hrec] at this ⊢
    exact ⟨this, by rw [hrec] at hl3; exact hl3, World.putObj_heap_same (Array.getElem?_eq_some_iff.1 hl3).1, (World.putObj_heap_other (by omega)).trans (hk3.same _ _ (Nat.le_refl _) hk2 rfl)⟩
   rintro e a3 W3 hp
   cases e with
   | normal =>
    obtain ⟨hk3, hkp3, hi3⟩ := hp
    obtain ⟨hr, hl3, hl4, hk4⟩ := fin none W3 hk3
    exact ⟨_, _, hr, .inl ⟨rfl, ⟨hI.putObj _ hi3 (by omega) hl3 rfl, hl4, hk4⟩, hKt hkpa (hKt (hKt hw2 hkp3) (hKb _ _ _ _ (by omega) hl3 rfl rfl))⟩⟩
   | ret =>
    obtain ⟨hk3, hi3⟩ := hp
    obtain ⟨hr, hl3, hl4, hk4⟩ := fin (some .ret) W3 hk3
    exact ⟨_, _, hr, .inr ⟨rfl, hIx.putObj _ hi3 (by omega) hl3 rfl, hl4, hk4⟩⟩
   | exit id => exact hp.elim
   | goto t => exact hp.elim
   | panic ch => exact hp.elim
   | outgrown => exact hp.elim
  ·rintro e W2 ⟨⟨v, rfl⟩, (⟨xs, hS, hi, hl, hk⟩ | ⟨pre, hSp, hi, hl, hk⟩)⟩
   ·exact ⟨none, _, by have := run_endLoop (P := P) hl (by rw [hrec]; simp); rw [hrec] at this; exact this, hdone _ xs _ (Nat.le_refl _) hS (hI.putObj _ hi (by omega) hl rfl) ((World.putObj_heap_other (by omega)).trans hk)⟩
   ·exact ⟨some .ret, _, by have := run_endLoop (P := P) hl (by rw [hrec]; simp); rw [hrec] at this; exact this, hstop _ pre _ (Nat.le_refl _) hSp (hIx.putObj _ hi (by omega) hl rfl) ((World.putObj_heap_other (by omega)).trans hk)⟩
end Go.Proofs.YtggifbbiiickmaaGreatDoor
namespace Go.Proofs.YtggifbbiiickmaaGreatDoor
open Go.RowKit Go.Proofs.zk.zK Go.Proofs.zk.yQ Go.Proofs.zk.yX Go.Proofs.YtggifbbiiickmaaGreatDoor.PX
attribute [local go_sem] Oper.semAt_some
set_option linter.unusedSimpArgs false
set_option linter.unusedVariables false
abbrev PS := { p : uI // p.f0.size ≤ maxLen ∧ p.f1.size ≤ maxLen }
def mF : PS := ⟨z80, Nat.zero_le _, Nat.zero_le _⟩
abbrev Vl := Nat × PS
def dO (x : Vl) : Array Value := #[.int .i64 (x.1 : Int), .agg #[.string x.2.1.f0, .string x.2.1.f1]]
def Vm (pre : List Vl) : ByteArray → Option ByteArray := pre.foldl (fun f x s => if s = x.2.1.f0 then some x.2.1.f1 else f s) (fun _ => none)
theorem zxE (pre : List Vl) (x : Vl) : Vm (pre ++ [x]) = fun s => if s = x.2.1.f0 then some x.2.1.f1 else Vm pre s := by
 unfold Vm
 rw [List.foldl_append]
 rfl
def wD (zs : List PS) : Nat → List Vl
 | 0 => []
 | k + 1 => (k, zs.getD k mF) :: wD zs k
def ZR (zs : List PS) (k : Nat) : List Vl := (wD zs zs.length).take (zs.length - k)
theorem Vn (zs : List PS) : ∀ k, (wD zs k).length = k
 | 0 => rfl
 | k + 1 => by rw [wD, List.length_cons, Vn zs k]
theorem dJ (zs : List PS) : ∀ (n j : Nat) (h : j < n), (wD zs n)[n - 1 - j]? = some (j, zs.getD j mF)
 | 0, _, h => absurd h (Nat.not_lt_zero _)
 | n + 1, j, h => by
  by_cases e : j = n
  ·subst e
   rw [show j + 1 - 1 - j = 0 by omega]; rfl
  ·rw [show n + 1 - 1 - j = (n - 1 - j) + 1 by omega, wD, List.getElem?_cons_succ]
   exact dJ zs n j (by omega)
theorem tX (zs : List PS) (k : Nat) (h : k < zs.length) : ZR zs k = ZR zs (k + 1) ++ [(k, zs.getD k mF)] := by
 have h1 := dJ zs zs.length k h
 unfold ZR
 rw [show zs.length - k = (zs.length - (k + 1)) + 1 by omega, List.take_add_one, show zs.length - (k + 1) = zs.length - 1 - k by omega, h1]
 rfl
theorem zqg (zs : List PS) : ZR zs 0 = wD zs zs.length := by
 unfold ZR
 rw [Nat.sub_zero, List.take_of_length_le (by rw [Vn]; exact Nat.le_refl _)]
theorem tJ (zs : List PS) : ZR zs zs.length = [] := by
 unfold ZR
 rw [Nat.sub_self, List.take_zero]
theorem zqh (zs : List PS) (k : Nat) (h : k ≤ zs.length) : (ZR zs k).length = zs.length - k := by
 unfold ZR
 rw [List.length_take, Vn]
 omega
def QX (n₀ Bs : Nat) (W W' : World) : Prop := Below n₀ W W' ∧ W'.heap[Bs]? = W.heap[Bs]?
theorem aU {n₀ Bs : Nat} {A B C : World} (h : QX n₀ Bs A B) (k : QX n₀ Bs B C) : QX n₀ Bs A C := ⟨h.1.trans k.1, k.2.trans h.2⟩
theorem zkF {n₀ Bs : Nat} {w : World} (hn : n₀ ≤ w.heap.size) (hB : Bs < w.heap.size) (W : World) (l : Nat) (o o' : Obj) (hl : w.heap.size ≤ l) (h : W.heap[l]? = some o) (h1 : o.isCells = false) (h2 : o.isWalk = false) : QX n₀ Bs W (W.putObj l o') :=
 ⟨belowK_b hn W l o o' hl h h1 h2, World.putObj_heap_other (by omega)⟩
theorem zxF {n₀ Bs : Nat} {t : TypeId} {v : Value} {W W' : World} (h : QX n₀ Bs W W') (hb : Boxed W Bs t v) : Boxed W' Bs t v := h.2.trans hb
theorem dV (zs : List PS) (s : ByteArray) : ∀ (k : Nat), k ≤ zs.length → ∀ g : ByteArray → Option ByteArray, (wD zs k).foldl (fun f x s => if s = x.2.1.f0 then some x.2.1.f1 else f s) g s = match (zs.take k).find? (fun p => decide (p.1.f0 = s)) with | some p => some p.1.f1 | none => g s
 | 0, _, g => by rw [List.take_zero]; rfl
 | k + 1, hk, g => by
  have hlt : k < zs.length := by omega
  have hg : zs.getD k mF = zs[k] := by rw [List.getD_eq_getElem?_getD, List.getElem?_eq_getElem hlt]; rfl
  rw [wD, List.foldl_cons, dV zs s k (by omega), List.take_add_one, List.getElem?_eq_getElem hlt, Option.toList_some, List.find?_append]
  cases hf : (zs.take k).find? (fun p => decide (p.1.f0 = s)) with
  | some p => rfl
  | none =>
   dsimp only
   rw [hg, Option.none_or, List.find?_cons]
   by_cases h : zs[k].1.f0 = s
   ·rw [if_pos h.symm, decide_eq_true h]
   ·rw [if_neg (fun e => h e.symm), decide_eq_false h]
    rfl
theorem zjM (zs : List PS) (s : ByteArray) : Vm (wD zs zs.length) s = match (zs.map (·.1)).find? (fun p => decide (p.f0 = s)) with | some p => some p.f1 | none => none := by
 unfold Vm
 rw [dV zs s zs.length (Nat.le_refl _), List.take_of_length_le (Nat.le_refl _), List.find?_map]
 simp only [Function.comp_def]
 cases zs.find? (fun p => decide (p.1.f0 = s)) <;> rfl
set_option maxRecDepth 100000 in
set_option maxHeartbeats 4000000 in
theorem zjN (F : Fence) (n : Nat) (h7 : F.fn 104) (hro : F.round = none) (hn : 1 ≤ n) (l Bs : Nat) (A0 : Option Addr) (c0 : Nat) (zs : List PS) (hl : zs.length ≤ 1000000000) (w0 : World) (hC : Kd.C YG w0 A0 zs.length (zs.map (·.1))) (J Jx : List Vl → World → Prop)
  (hY : ∀ pre x W, J pre W → pre.length < zs.length → YieldAt F (n - 1) Tryz.prog l (dO x) W fun e W' =>
   (e = .returned (.bool true) ∧ J (pre ++ [x]) W' ∧ QX w0.heap.size Bs W W') ∨ (e = .returned (.bool false) ∧ Jx (pre ++ [x]) W'))
  (W : World) (hb : Below w0.heap.size w0 W) (mE : Boxed W Bs 28 (.slice A0 zs.length c0)) (h0 : J [] W) :
  CallsIn F n Tryz.prog 104 #[.func (.yield l) #[] #[], .pointer (some ⟨Bs, 0, none⟩)] W fun e W' => (∃ v, e = .returned v) ∧
   ((∃ ys, ys = wD zs zs.length ∧ J ys W') ∨ (∃ pre, True ∧ Jx pre W')) := by
 have HC := zx.mk hC
 have HY := zx.mk hY
 have HX := zx.mk mE
 have hx0 : W.cell? ⟨Bs, 0, none⟩ = some (.slice A0 zs.length c0) := mE.cell
 clear hC hY mE
 refine callsIn_of_wp Tryz.func104 rfl h7 ?_ hro
 simp only [Tryz.ntmps104, List.size_toArray, List.length_cons, List.length_nil, Nat.reduceAdd, Nat.reduceSub, Array.replicate_succ, Array.replicate_zero, List.push_toArray, List.append_toArray, List.nil_append, List.cons_append]
 gi_wp2
 gi_loopw [3] (fun i wr => ∃ k : Nat, k ≤ zs.length ∧ i = .int .i64 ((k : Int) - 1) ∧ zx (J (ZR zs k) wr) ∧ zx (QX w0.heap.size Bs W wr)) (fun i _ => (intOf i + 1).toNat)
 case atStart => exact ⟨zs.length, Nat.le_refl _, rfl, ⟨by rw [tJ]; exact h0⟩, ⟨Below.refl _ _, rfl⟩⟩
 case round =>
  clear hx0
  obtain ⟨k, hk, rfl, HJ, HB⟩ := hrel
  have hs : wr.cell? ⟨Bs, 0, none⟩ = some (.slice A0 zs.length c0) := (zxF HB.out HX.out).cell
  by_cases hlt : 1 ≤ k
  ·obtain ⟨j, rfl⟩ : ∃ j, k = j + 1 := ⟨k - 1, by omega⟩
   have ej : (((j + 1 : Nat) : Int) - 1) = (j : Int) := by omega
   rw [ej]
   obtain ⟨ad, e, x0, x1⟩ := zxc (Kd.zC HC.out (hb.trans HB.out.1)) (j : Int) (by omega) (by omega)
   cases e
   rw [Int.toNat_natCast] at x0 x1
   have e : Qo (zs.map (·.1)) (j : Int) = (zs.getD j mF).1 := by
    have hj : j < zs.length := by omega
    simp [Qo, List.getD_eq_getElem?_getD, hj]
   rw [e] at x0 x1
   clear e
   obtain ⟨fn, tmps, assign, body, hy, hR⟩ := HY.out _ (j, zs.getD j mF) wr HJ.out (by rw [zqh zs (j + 1) hk]; omega)
   unfold dO at hy
   dsimp only at hy
   have hst := zx.mk (tX zs j (by omega))
   generalize zs.getD j mF = x at x0 x1 hy hR hst
   have q0 : (0 : Int) ≤ (j : Int) := by omega
   have q1 : (j : Int) < (zs.length : Int) := by omega
   have q3 : ((j : Int)).toNat = j := Int.toNat_natCast j
   clear ej
   gi_wp2
   refine hR.mono ?_
   rintro e W3 (⟨rfl, hJ3, hk3⟩ | ⟨rfl, hJx3⟩)
   ·have fq := zx.mk hJ3
    have HK3 := zx.mk hk3
    clear hJ3 hk3
    gi_wp2
    go_roundw
    case rel => exact ⟨j, by omega, rfl, ⟨by rw [hst.out]; exact fq.out⟩, ⟨aU HB.out HK3.out⟩⟩
    case measure => simp [intOf]
   ·have fq := zx.mk hJx3
    clear hJx3
    gi_wp2
    refine bodyPost_ret (results_none rfl _ _ _) rfl ?_
    exact ⟨⟨_, rfl⟩, .inr ⟨_, trivial, fq.out⟩⟩
  ·obtain rfl : k = 0 := by omega
   gi_wp2
   go_end0
   exact ⟨⟨_, rfl⟩, .inl ⟨_, rfl, by rw [← zqg]; exact HJ.out⟩⟩
set_option maxHeartbeats 1000000 in
theorem zkG (F : Fence) (n : Nat) (h5 : F.fn 43) (hro : F.round = none) (a : Option Addr) (len cap : Nat) (w : World) :
  CallsIn F n Tryz.prog 43 #[.slice a len cap] w fun e w' => e = .returned (.func (.func 104) #[] #[.pointer (some ⟨w.heap.size, 0, none⟩)]) ∧ w' = w.alloc (.cells #[.slice a len cap] 28) := by
 refine callsIn_of_wp Tryz.func43 rfl h5 ?_ hro
 simp only [Tryz.ntmps43, List.size_toArray, List.length_cons, List.length_nil, Nat.reduceAdd, Nat.reduceSub, Array.replicate_succ, Array.replicate_zero, List.push_toArray, List.append_toArray, List.nil_append, List.cons_append]
 gi_wp2
 go_ret
 exact ⟨rfl, rfl⟩
theorem zjO (F : Fence) (n : Nat) (h7 : F.fn 104) (hro : F.round = none) (hn : 1 ≤ n) (Bs : Nat) (A0 : Option Addr) (c0 : Nat) (zs : List PS) (hl : zs.length ≤ 1000000000) (w0 w : World) (hC : Kd.C YG w0 A0 zs.length (zs.map (·.1))) (hw : Below w0.heap.size w0 w) (mE : Boxed w Bs 28 (.slice A0 zs.length c0)) :
  zxD F n Tryz.prog 104 #[.pointer (some ⟨Bs, 0, none⟩)] dO Bs (QX w0.heap.size Bs) (fun ys => ys = wD zs zs.length) (fun _ => True) zs.length w := fun l J Jx W hW _ _ _ _ hY h0 =>
 zjN F n h7 hro hn l Bs A0 c0 zs hl w0 hC J Jx hY W (hw.trans (hW.mono hw.size)) ((hW.block Bs (Boxed.lt mE)).trans mE) h0
end Go.Proofs.YtggifbbiiickmaaGreatDoor
namespace Go.Proofs.YtggifbbiiickmaaGreatDoor
open Go.RowKit Go.Proofs.zk.zK Go.Proofs.zk.yQ Go.Proofs.zk.yX Go.Proofs.YtggifbbiiickmaaGreatDoor.PX
set_option linter.unusedSimpArgs false
set_option linter.unusedVariables false
set_option maxRecDepth 100000 in
set_option maxHeartbeats 4000000 in
theorem zjP (A0 : Option Addr) (c0 : Nat) (l : List ByteArray) (w : World) (hr : Kd.C Kd.string w A0 l.length l) (hl : l.length ≤ 1000000000) (p : ByteArray → Bool) (g : Nat) (lb : Array Value) (eg : ∀ args w, (callFunc g args).run Tryz.prog w = .ok (.enter g args) w)
  (hp : ∀ (W : World) (x : ByteArray), x ∈ l → Below w.heap.size w W → Calls Tryz.prog g (#[.string x] ++ lb) W fun e w' => e = .returned (.bool (p x)) ∧ Below w.heap.size w w') :
  Calls Tryz.prog 102 #[.slice A0 l.length c0, .func (.func g) #[] lb] w fun e w' => e = .returned (.int .i64 (kM p l 0)) ∧ Below w.heap.size w w' := by
 have H := zx.mk hr
 have HP := zx.mk hp
 clear hr hp
 generalize hR : kM p l 0 = R
 have HR := zx.mk hR
 clear hR
 go_enter Tryz.func102, Tryz.ntmps102
 go_wp2
 go_loopw [8] (fun i W => ∃ k : Nat, k ≤ l.length ∧ i = .int .i64 (k : Int) ∧ zx (kM p l 0 = kM p (l.drop k) k) ∧ zx (Below w.heap.size w W)) (fun i _ => l.length - (intOf i).toNat)
 case atStart => exact ⟨0, Nat.zero_le _, rfl, ⟨by rw [List.drop_zero]⟩, ⟨Below.refl _ _⟩⟩
 case round =>
  obtain ⟨k, hk, rfl, HI, HB⟩ := hrel
  by_cases hlt : k < l.length
  ·obtain ⟨ad, e, x0⟩ := Kd.wQ (Kd.zC H.out HB.out) (k : Int) (by omega) (by omega)
   cases e
   have e : jH ByteArray.empty l (k : Int) = l[k] := by simp [jH, List.getD_eq_getElem?_getD, hlt]
   rw [Int.toNat_natCast] at x0
   rw [e] at x0
   clear e
   have hi := HI.out
   rw [List.drop_eq_getElem_cons hlt, Qw] at hi
   have hm : l[k] ∈ l := List.getElem_mem hlt
   generalize l[k] = x at x0 hi hm
   have hcall := HP.out wr x hm HB.out
   clear hm
   cases hq : p x with
   | true =>
    rw [hq] at hcall
    rw [if_pos hq] at hi
    have HI2 := zx.mk (HR.out.symm.trans hi)
    clear hi hq HI
    go_wp2_with fail
    refine hcall.mono ?_; rintro e w' ⟨rfl, hb'⟩
    go_wp2_with fail
    go_ret
    exact ⟨by rw [HI2.out]; rfl, hb'⟩
   | false =>
    rw [hq] at hcall
    rw [if_neg (by rw [hq]; exact Bool.false_ne_true)] at hi
    have HI2 := zx.mk hi
    clear hi hq HI
    go_wp2_with fail
    refine hcall.mono ?_; rintro e w' ⟨rfl, hb'⟩
    go_wp2_with fail
    go_roundw
    case rel => exact ⟨k + 1, by omega, by first | rfl | go_num, HI2, ⟨hb'⟩⟩
    case measure => simp [intOf]; omega
  ·obtain rfl : k = l.length := by omega
   have hi := HI.out
   rw [List.drop_eq_nil_of_le (Nat.le_refl _)] at hi
   have HI2 := zx.mk (HR.out.symm.trans hi)
   clear hi HI
   go_wp2
   go_ret
   exact ⟨by rw [HI2.out]; rfl, HB.out⟩
set_option maxRecDepth 100000 in
theorem zjR (A0 : Option Addr) (c0 : Nat) (l : List ByteArray) (w : World) (hr : Kd.C Kd.string w A0 l.length l) (hl : l.length ≤ 1000000000) (p : ByteArray → Bool) (g : Nat) (lb : Array Value) (eg : ∀ args w, (callFunc g args).run Tryz.prog w = .ok (.enter g args) w)
  (hp : ∀ (W : World) (x : ByteArray), x ∈ l → Below w.heap.size w W → Calls Tryz.prog g (#[.string x] ++ lb) W fun e w' => e = .returned (.bool (p x)) ∧ Below w.heap.size w w') :
  Calls Tryz.prog 40 #[.slice A0 l.length c0, .func (.func g) #[] lb] w fun e w' => e = .returned (.bool (l.any p)) ∧ Below w.heap.size w w' := by
 have h := zjP A0 c0 l w hr hl p g lb eg hp
 have e := Vx p l 0
 generalize kM p l 0 = i at h e
 generalize l.any p = b at e ⊢
 subst e
 clear hp hr
 go_enter Tryz.func40, Tryz.ntmps40
 go_wp2_with (go_at_call 102; refine h.mono ?_; rintro e w1 ⟨rfl, hb⟩)
 go_ret
 exact ⟨rfl, hb⟩
end Go.Proofs.YtggifbbiiickmaaGreatDoor
namespace Go.Proofs.YtggifbbiiickmaaGreatDoor
open Go.RowKit Go.Proofs.zk.zK Go.Proofs.zk.yQ Go.Proofs.zk.yX Go.Proofs.YtggifbbiiickmaaGreatDoor.PX
set_option linter.unusedSimpArgs false
set_option linter.unusedVariables false
set_option maxRecDepth 100000 in
set_option maxHeartbeats 4000000 in
theorem zjS (A0 : Option Addr) (c0 : Nat) (l : List uI) (w : World) (hr : Kd.C YG w A0 l.length l) (hl : l.length ≤ 1000000000) (p : uI → Bool) (g : Nat) (lb : Array Value) (eg : ∀ args w, (callFunc g args).run Tryz.prog w = .ok (.enter g args) w)
  (hp : ∀ (W : World) (x : uI), x ∈ l → Below w.heap.size w W → Calls Tryz.prog g (#[.agg #[.string x.f0, .string x.f1]] ++ lb) W fun e w' => e = .returned (.bool (p x)) ∧ Below w.heap.size w w') :
  Calls Tryz.prog 103 #[.slice A0 l.length c0, .func (.func g) #[] lb] w fun e w' => e = .returned (.int .i64 (kM p l 0)) ∧ Below w.heap.size w w' := by
 have H := zx.mk hr
 have HP := zx.mk hp
 clear hr hp
 generalize hR : kM p l 0 = R
 have HR := zx.mk hR
 clear hR
 go_enter Tryz.func103, Tryz.ntmps103
 go_wp2
 go_loopw [8] (fun i W => ∃ k : Nat, k ≤ l.length ∧ i = .int .i64 (k : Int) ∧ zx (kM p l 0 = kM p (l.drop k) k) ∧ zx (Below w.heap.size w W)) (fun i _ => l.length - (intOf i).toNat)
 case atStart => exact ⟨0, Nat.zero_le _, rfl, ⟨by rw [List.drop_zero]⟩, ⟨Below.refl _ _⟩⟩
 case round =>
  obtain ⟨k, hk, rfl, HI, HB⟩ := hrel
  by_cases hlt : k < l.length
  ·obtain ⟨ad, e, x0, x1⟩ := zxc (Kd.zC H.out HB.out) (k : Int) (by omega) (by omega)
   cases e
   have e : Qo l (k : Int) = l[k] := by simp [Qo, List.getD_eq_getElem?_getD, hlt]
   rw [Int.toNat_natCast] at x0 x1
   rw [e] at x0 x1
   clear e
   have hi := HI.out
   rw [List.drop_eq_getElem_cons hlt, Qw] at hi
   have hm : l[k] ∈ l := List.getElem_mem hlt
   generalize l[k] = x at x0 x1 hi hm
   have hcall := HP.out wr x hm HB.out
   clear hm
   cases hq : p x with
   | true =>
    rw [hq] at hcall
    rw [if_pos hq] at hi
    have HI2 := zx.mk (HR.out.symm.trans hi)
    clear hi hq HI
    go_wp2_with fail
    refine hcall.mono ?_; rintro e w' ⟨rfl, hb'⟩
    go_wp2_with fail
    go_ret
    exact ⟨by rw [HI2.out]; rfl, hb'⟩
   | false =>
    rw [hq] at hcall
    rw [if_neg (by rw [hq]; exact Bool.false_ne_true)] at hi
    have HI2 := zx.mk hi
    clear hi hq HI
    go_wp2_with fail
    refine hcall.mono ?_; rintro e w' ⟨rfl, hb'⟩
    go_wp2_with fail
    go_roundw
    case rel => exact ⟨k + 1, by omega, by first | rfl | go_num, HI2, ⟨hb'⟩⟩
    case measure => simp [intOf]; omega
  ·obtain rfl : k = l.length := by omega
   have hi := HI.out
   rw [List.drop_eq_nil_of_le (Nat.le_refl _)] at hi
   have HI2 := zx.mk (HR.out.symm.trans hi)
   clear hi HI
   go_wp2
   go_ret
   exact ⟨by rw [HI2.out]; rfl, HB.out⟩
set_option maxRecDepth 100000 in
theorem zjT (A0 : Option Addr) (c0 : Nat) (l : List uI) (w : World) (hr : Kd.C YG w A0 l.length l) (hl : l.length ≤ 1000000000) (p : uI → Bool) (g : Nat) (lb : Array Value) (eg : ∀ args w, (callFunc g args).run Tryz.prog w = .ok (.enter g args) w)
  (hp : ∀ (W : World) (x : uI), x ∈ l → Below w.heap.size w W → Calls Tryz.prog g (#[.agg #[.string x.f0, .string x.f1]] ++ lb) W fun e w' => e = .returned (.bool (p x)) ∧ Below w.heap.size w w') :
  Calls Tryz.prog 41 #[.slice A0 l.length c0, .func (.func g) #[] lb] w fun e w' => e = .returned (.bool (l.any p)) ∧ Below w.heap.size w w' := by
 have h := zjS A0 c0 l w hr hl p g lb eg hp
 have e := Vx p l 0
 generalize kM p l 0 = i at h e
 generalize l.any p = b at e ⊢
 subst e
 clear hp hr
 go_enter Tryz.func41, Tryz.ntmps41
 go_wp2_with (go_at_call 103; refine h.mono ?_; rintro e w1 ⟨rfl, hb⟩)
 go_ret
 exact ⟨rfl, hb⟩
end Go.Proofs.YtggifbbiiickmaaGreatDoor
namespace Go.Proofs.YtggifbbiiickmaaGreatDoor
open Go.RowKit Go.Shelf
theorem tV (w : World) : PredAt Tryz.prog 82 #[] encR kZ w := fun W r _ => by
 unfold FnGives
 show Calls Tryz.prog 82 #[.int .i32 r] W _
 by_cases h1 : r < 33
 ·have e1 : kZ r = true := by unfold kZ; simp [h1]
  have d1 : decide ((r : Int) < 33) = true := by simp; omega
  rw [e1]; clear e1 h1
  go_enter Tryz.func82, Tryz.ntmps82
  go_wp2
  go_ret
  exact ⟨rfl, 0, rfl⟩
 ·have d1 : decide ((r : Int) < 33) = false := by simp; omega
  by_cases h2 : 126 < r
  ·have e1 : kZ r = true := by unfold kZ; simp [h2]
   have d2 : decide ((126 : Int) < (r : Int)) = true := by simp; omega
   rw [e1]; clear e1 h1 h2
   go_enter Tryz.func82, Tryz.ntmps82
   go_wp2
   go_ret
   exact ⟨rfl, 0, rfl⟩
  ·have e1 : kZ r = false := by unfold kZ; simp; omega
   have d2 : decide ((126 : Int) < (r : Int)) = false := by simp; omega
   rw [e1]; clear e1 h1 h2
   go_enter Tryz.func82, Tryz.ntmps82
   go_wp2
   go_ret
   exact ⟨rfl, 0, rfl⟩
set_option maxRecDepth 100000 in
theorem zqi (s : ByteArray) (w : World) :
  Calls Tryz.prog 36 #[.string s] w fun e w' => e = .returned (.bool (Y5 s.data.toList)) ∧ Below w.heap.size w w' := by
 have hl : s.data.toList.length = s.size := Array.length_toList
 have hc := Tryz.strings_ContainsFunc 82 #[] (enters_of Tryz.func82 (by kernel_rfl) rfl) kZ s w (tV w)
 have hv : decide (0 ≤ Lib.idxFunc kZ true s) = !(s.data.toList.all okB) := by
  have := zxe s s.size 0 (by omega) (by omega)
  rw [List.drop_zero] at this
  unfold Lib.idxFunc
  cases h : s.data.toList.all okB with
  | true => rw [h] at this; simp at this; simp; omega
  | false => rw [h] at this; simp at this; simp [this]
 rw [hv] at hc
 unfold Y5
 rw [hl]
 generalize s.data.toList.all okB = b at hc ⊢
 clear hl hv
 by_cases h1 : 1 ≤ s.size
 ·have d1 : decide (1 ≤ s.size) = true := decide_eq_true h1
  have g1 : decide ((1 : Int) ≤ (s.size : Int)) = true := by simp; omega
  by_cases h2 : s.size ≤ 10
  ·have d2 : decide (s.size ≤ 10) = true := decide_eq_true h2
   have g2 : decide ((s.size : Int) ≤ 10) = true := by simp; omega
   rw [d1, d2]
   clear d1 d2
   cases b with
   | true =>
    go_enter Tryz.func36, Tryz.ntmps36
    go_wp2_with (go_at_call 81; refine hc.mono ?_; rintro e w1 ⟨rfl, hb1⟩)
    go_ret
    exact ⟨rfl, hb1⟩
   | false =>
    go_enter Tryz.func36, Tryz.ntmps36
    go_wp2_with (go_at_call 81; refine hc.mono ?_; rintro e w1 ⟨rfl, hb1⟩)
    go_ret
    exact ⟨rfl, hb1⟩
  ·have d2 : decide (s.size ≤ 10) = false := decide_eq_false h2
   have g2 : decide ((s.size : Int) ≤ 10) = false := by simp; omega
   rw [d1, d2]
   clear d1 d2 hc
   go_enter Tryz.func36, Tryz.ntmps36
   go_wp2
   go_ret
   exact ⟨rfl, Below.refl _ _⟩
 ·have d1 : decide (1 ≤ s.size) = false := decide_eq_false h1
  have g1 : decide ((1 : Int) ≤ (s.size : Int)) = false := by simp; omega
  rw [d1]
  clear d1 hc
  go_enter Tryz.func36, Tryz.ntmps36
  go_wp2
  go_ret
  exact ⟨rfl, Below.refl _ _⟩
end Go.Proofs.YtggifbbiiickmaaGreatDoor
namespace Go.Proofs.YtggifbbiiickmaaGreatDoor.JG
open Go.Maps Go.ChangeMaps Go.WideMaps
set_option linter.unusedSimpArgs false
set_option linter.unusedVariables false
def SMap (P : Program) (k e : TypeId) (w : World) (b n : Nat) (f : ByteArray → Option ByteArray) : Prop :=
 ∃ D : DataW Unit, w.ownsMap P k (plainElem P e) b n D ∧ IsMap D ∧ ∀ s : ByteArray, s.size ≤ maxLen → ∀ z, D.atKey (.string s.data.toList) z = match f s with | some v => .lit (.string v.data.toList) | none => z
section
variable {P : Program} {k e t : TypeId} {w : World} {b n : Nat} {f : ByteArray → Option ByteArray}
theorem SMap.kept {w' : World} {row : Option Nat} (h : SMap P k e w b n f) (hg : w.grownBy w' row) (hne : some b ≠ row) : SMap P k e w' b n f := by
 obtain ⟨D, h1, h2, h3⟩ := h
 exact ⟨D, h1.kept hg hne, h2, h3⟩
theorem SMap.lt (h : SMap P k e w b n f) : b < w.heap.size := by
 obtain ⟨D, h1, _, _⟩ := h
 exact h1.lt
theorem SMap.made (w : World) : SMap P k e (w.alloc (.map #[] 0)) w.heap.size 0 (fun _ => none) :=
 ⟨.map [], World.ownsMap_made w P k _, ⟨_, rfl⟩, fun s _ z => rfl⟩
theorem SMap.look (h : SMap P k e w b n f) (hk : P.underlying k = some .string) (ht : P.underlying t = some (.map k e)) (he : P.underlying e = some .string) (hz : (zeroValue e).run P w = .ok (.string ⟨#[]⟩) w) (s : ByteArray) (hs : s.size ≤ maxLen) :
  (Instr.lookup t (.map (some b)) (.string s) true).run P w = .ok (match f s with | some v => .tuple #[.string v, .bool true] | none => .tuple #[.string ⟨#[]⟩, .bool false]) w := by
 obtain ⟨D, ⟨es, clock, hb, F, _, rfl⟩, _, hf⟩ := h
 have hf := hf s hs
 rcases fit_look true (string_keyed hk) ht hz hb F (keyOf_string_mk hk hs) with ⟨hrun, _, hat⟩ | ⟨e0, y, _, _, hrun, hRv, hat, _⟩
 ·rw [hrun]
  cases hv : f s with
  | none => rfl
  | some v =>
   have h1 := (hat .nil).symm.trans (hf .nil)
   rw [hv] at h1
   cases h1
 ·rw [hrun]
  obtain ⟨s', hv', hy, _⟩ := plainElem_string_inv he hRv
  cases hv : f s with
  | none =>
   have h1 := (hat .nil).symm.trans (hf .nil)
   rw [hv, hy] at h1
   cases h1
  | some v =>
   have h1 := (hat .nil).symm.trans (hf .nil)
   rw [hv, hy] at h1
   have h2 : s'.data.toList = v.data.toList := by injection h1 with h1; injection h1
   have h3 : s' = v := by
    cases s'; cases v
    congr 1
    exact Array.toList_inj.1 h2
   subst h3
   rw [hv']
   rfl
theorem SMap.put (h : SMap P k e w b n f) (hk : P.underlying k = some .string) (ht : P.underlying t = some (.map k e)) (he : P.underlying e = some .string) (hn : n < maxLen) (s v : ByteArray) (hs : s.size ≤ maxLen) (hv : v.size ≤ maxLen) :
  ∃ w', (Instr.mapUpdate t (.map (some b)) (.string s) (.string v)).run P w = .ok () w' ∧ SMap P k e w' b (n + 1) (fun x => if x = s then some v else f x) ∧ w.grownBy w' (some b) := by
 obtain ⟨D, h1, h2, h3⟩ := h
 obtain ⟨w', hrun, hown, hg⟩ := h1.update (string_keyed hk) ht hn (keyOf_string_mk hk hs) (plainElem_string he hv)
 refine ⟨w', hrun, ⟨_, hown, ?_, fun x hx z => ?_⟩, hg⟩
 ·obtain ⟨es, rfl⟩ := h2
  exact ⟨_, rfl⟩
 ·by_cases hxs : x = s
  ·subst hxs
   dsimp only
   rw [if_pos rfl]
   exact atKey_put_same h2 (by trivial) _ _
  ·dsimp only
   rw [if_neg hxs, atKey_put_other (fun e => hxs (by injection e with e; cases x; cases s; congr 1; exact Array.toList_inj.1 e)) _ _]
   exact h3 x hx z
end
end Go.Proofs.YtggifbbiiickmaaGreatDoor.JG
namespace Go.Proofs.YtggifbbiiickmaaGreatDoor
open Go.RowKit Go.Shelf Go.Proofs.zk.zK Go.Proofs.zk.yQ Go.Proofs.zk.yX Go.Proofs.YtggifbbiiickmaaGreatDoor.PX Go.Proofs.YtggifbbiiickmaaGreatDoor.JG
set_option linter.unusedSimpArgs false
set_option linter.unusedVariables false
set_option maxRecDepth 100000 in
theorem WR (s : ByteArray) (W : World) : Calls Tryz.prog 35 #[.string s] W fun e w' => e = .returned (.bool (pW s)) ∧ Below W.heap.size W w' := by
 have h := zqi s W
 unfold pW
 generalize Y5 s.data.toList = b at h ⊢
 go_enter Tryz.func35, Tryz.ntmps35
 go_wp2_with (go_at_call 36; refine h.mono ?_; rintro e w1 ⟨rfl, hb⟩)
 go_ret
 exact ⟨rfl, hb⟩
set_option maxRecDepth 100000 in
theorem mG (x : y8) (A3 : Option Addr) (c3 : Nat) (A4 : Option Addr) (c4 : Nat) (A5 : Option Addr) (c5 : Nat) (W : World) (hG : GW W) (hz : x.f3.length ≤ 1000000000 ∧ x.f4.length ≤ 1000000000 ∧ x.f5.length ≤ 1000000000)
  (q3 : Kd.C xB W A3 x.f3.length x.f3) (g3 : x.f3.length ≤ c3) (q4 : Kd.C uV W A4 x.f4.length x.f4) (g4 : x.f4.length ≤ c4) (q5 : Kd.C ug W A5 x.f5.length x.f5) (g5 : x.f5.length ≤ c5) :
  Calls Tryz.prog 38 #[.agg #[.string x.f0, .bool x.f1, .int .i64 x.f2, .slice A3 x.f3.length c3, .slice A4 x.f4.length c4, .slice A5 x.f5.length c5]] W fun e w' => e = .returned (.bool (!vY x)) ∧ Below W.heap.size W w' := by
 have hb0 : Below W.heap.size W (W.alloc (.cells #[.string x.f0, .bool x.f1, .int .i64 x.f2, .slice A3 x.f3.length c3, .slice A4 x.f4.length c4, .slice A5 x.f5.length c5] 60)) := (Below.refl _ W).alloc (Nat.le_refl _) _
 have h := jf.calls x.f0 x.f1 x.f2 A3 c3 x.f3 A4 c4 x.f4 A5 c5 x.f5 (vY x) _ (Kd.zC q3 hb0) g3 (Kd.zC q4 hb0) g4 (Kd.zC q5 hb0) g5 (hG.under hb0) (by unfold jf.f; rw [if_pos hz]; rfl)
 generalize vY x = b at h ⊢
 clear q3 q4 q5 hz
 go_enter Tryz.func38, Tryz.ntmps38
 go_wp2_with (go_at_call 39; refine h.mono ?_; rintro e w1 ⟨rfl, hb⟩)
 go_ret
 exact ⟨rfl, hb0.trans (hb.mono hb0.size)⟩
set_option maxRecDepth 100000 in
theorem zjU (B : Nat) (p : ko) (W : World) (hB : W.cell? ⟨B, 0, none⟩ = some (.func (.func 35) #[] #[])) :
  Calls Tryz.prog 42 #[.agg #[.string p.f0, .string p.f1], .pointer (some ⟨B, 0, none⟩)] W fun e w' => e = .returned (.bool (Vq p)) ∧ Below W.heap.size W w' := by
 have hl := World.block_lt_of_cell? W _ hB
 have hb0 : Below W.heap.size W (W.alloc (.cells #[.string p.f0, .string p.f1] 80)) := (Below.refl _ W).alloc (Nat.le_refl _) _
 have hc : (W.alloc (.cells #[.string p.f0, .string p.f1] 80)).cell? ⟨B, 0, none⟩ = some (.func (.func 35) #[] #[]) := (World.cell?_alloc_lt _ _ _ hl).trans hB
 have h1 := WR p.f0 (W.alloc (.cells #[.string p.f0, .string p.f1] 80))
 have h2 := fun V => WR p.f1 V
 unfold Vq
 generalize pW p.f0 = b1 at h1 ⊢
 generalize pW p.f1 = b2 at h2 ⊢
 cases b1 with
 | true =>
  clear h2
  go_enter Tryz.func42, Tryz.ntmps42
  go_wp2_with (go_at_call 35; refine h1.mono ?_; rintro e w1 ⟨rfl, hb1⟩)
  go_ret
  exact ⟨rfl, hb0.trans (hb1.mono hb0.size)⟩
 | false =>
  go_enter Tryz.func42, Tryz.ntmps42
  go_wp2_with fail
  refine h1.mono ?_; rintro e w1 ⟨rfl, hb1⟩
  have hc1 := (hb1.cell (p := ⟨B, 0, none⟩) (by simp; omega)).trans hc
  have k1 : w1.cell? ⟨W.heap.size, 1, none⟩ = some (.string p.f1) := (hb1.cell (p := ⟨W.heap.size, 1, none⟩) (by simp)).trans (by simp)
  clear h1 hc
  go_wp2_with fail
  refine (h2 _).mono ?_; rintro e w2 ⟨rfl, hb2⟩
  go_wp2_with fail
  go_ret
  exact ⟨by first | rfl | (cases b2 <;> rfl), hb0.trans ((hb1.trans (hb2.mono hb1.size)).mono hb0.size)⟩
def Z9 (f : ByteArray → Option ByteArray) (c : ByteArray) : ByteArray := match f c with | some v => v | none => c
theorem zwF (w : World) : (zeroValue 9).run Tryz.prog w = .ok (.string ⟨#[]⟩) w := by kernel_rfl
set_option maxRecDepth 100000 in
theorem JH (B m k : Nat) (f : ByteArray → Option ByteArray) (c : ByteArray) (W : World) (hc : c.size ≤ maxLen) (hB : W.cell? ⟨B, 0, none⟩ = some (.map (some m))) (hm : SMap Tryz.prog 9 9 W m k f) :
  Calls Tryz.prog 44 #[.string c, .pointer (some ⟨B, 0, none⟩)] W fun e w' => e = .returned (.string (Z9 f c)) ∧ W = w' := by
 have hlk := hm.look (t := 82) Tryz.underlying9 Tryz.underlying82 Tryz.underlying9 (zwF W) c hc
 unfold Z9
 clear hm
 cases hf : f c with
 | none =>
  rw [hf] at hlk
  clear hf
  go_enter Tryz.func44, Tryz.ntmps44
  go_wp2
  go_ret
  exact ⟨rfl, rfl⟩
 | some v =>
  rw [hf] at hlk
  clear hf
  go_enter Tryz.func44, Tryz.ntmps44
  go_wp2
  go_ret
  exact ⟨rfl, rfl⟩
end Go.Proofs.YtggifbbiiickmaaGreatDoor
namespace Go.Proofs.YtggifbbiiickmaaGreatDoor
open Go.RowKit Go.Shelf Go.Proofs.zk.zK Go.Proofs.zk.yQ Go.Proofs.zk.yX Go.Proofs.YtggifbbiiickmaaGreatDoor.PX Go.Proofs.YtggifbbiiickmaaGreatDoor.JG
set_option linter.unusedSimpArgs false
set_option linter.unusedVariables false
theorem WS (Af : Option Addr) (cf : Nat) (l : List y8) (f s : Int) (zP za : Bool) (Ac : Option Addr) (cc : Nat) (chars : List ByteArray) (Ap : Option Addr) (cp : Nat) (pairs : List ko) (w : World) (hG : GW w) (hC : Kd.C jY w Af l.length l) (hz : ∀ x ∈ l, x.f3.length ≤ 1000000000 ∧ x.f4.length ≤ 1000000000 ∧ x.f5.length ≤ 1000000000) (hl : l.length ≤ 1000000000) (hS : Kd.C Kd.string w Ac chars.length chars) (hlc : chars.length ≤ 1000000000) (hP : Kd.C YG w Ap pairs.length pairs) (hlp : pairs.length ≤ 1000000000) (W : World) (hb : Below w.heap.size w W) : Calls Tryz.prog 37 #[.slice Af l.length cf, .func (.func 38) #[] #[]] W fun e w' => e = .returned (.bool (l.any fun x => !vY x)) ∧ Below W.heap.size W w' :=
 zjF Af cf l W (Kd.zC hC hb) hl (fun x => !vY x) 38 #[] (pR Tryz.func38 (by kernel_rfl) rfl) (fun V y A3 c3 A4 c4 A5 c5 hm hV p3 g3 p4 g4 p5 g5 =>
  (mG y A3 c3 A4 c4 A5 c5 V (hG.under (hb.trans (hV.mono hb.size))) (hz y hm) p3 g3 p4 g4 p5 g5).mono fun e w' ⟨h1, h2⟩ => ⟨h1, hV.trans (h2.mono hV.size)⟩)
theorem WT (Af : Option Addr) (cf : Nat) (l : List y8) (f s : Int) (zP za : Bool) (Ac : Option Addr) (cc : Nat) (chars : List ByteArray) (Ap : Option Addr) (cp : Nat) (pairs : List ko) (w : World) (hG : GW w) (hC : Kd.C jY w Af l.length l) (hz : ∀ x ∈ l, x.f3.length ≤ 1000000000 ∧ x.f4.length ≤ 1000000000 ∧ x.f5.length ≤ 1000000000) (hl : l.length ≤ 1000000000) (hS : Kd.C Kd.string w Ac chars.length chars) (hlc : chars.length ≤ 1000000000) (hP : Kd.C YG w Ap pairs.length pairs) (hlp : pairs.length ≤ 1000000000) (W : World) (hb : Below w.heap.size w W) : Calls Tryz.prog 40 #[.slice Ac chars.length cc, .func (.func 35) #[] #[]] W fun e w' => e = .returned (.bool (chars.any pW)) ∧ Below W.heap.size W w' :=
 zjR Ac cc chars W (Kd.zC hS hb) hlc pW 35 #[] (pR Tryz.func35 (by kernel_rfl) rfl) (fun V y hm hV => (WR y V).mono fun e w' ⟨h1, h2⟩ => ⟨h1, hV.trans (h2.mono hV.size)⟩)
theorem WU (Af : Option Addr) (cf : Nat) (l : List y8) (f s : Int) (zP za : Bool) (Ac : Option Addr) (cc : Nat) (chars : List ByteArray) (Ap : Option Addr) (cp : Nat) (pairs : List ko) (w : World) (hG : GW w) (hC : Kd.C jY w Af l.length l) (hz : ∀ x ∈ l, x.f3.length ≤ 1000000000 ∧ x.f4.length ≤ 1000000000 ∧ x.f5.length ≤ 1000000000) (hl : l.length ≤ 1000000000) (hS : Kd.C Kd.string w Ac chars.length chars) (hlc : chars.length ≤ 1000000000) (hP : Kd.C YG w Ap pairs.length pairs) (hlp : pairs.length ≤ 1000000000) (B : Nat) (W : World) (hb : Below w.heap.size w W) (hB : W.cell? ⟨B, 0, none⟩ = some (.func (.func 35) #[] #[])) : Calls Tryz.prog 41 #[.slice Ap pairs.length cp, .func (.func 42) #[] #[.pointer (some ⟨B, 0, none⟩)]] W fun e w' => e = .returned (.bool (pairs.any Vq)) ∧ Below W.heap.size W w' :=
 zjT Ap cp pairs W (Kd.zC hP hb) hlp Vq 42 #[.pointer (some ⟨B, 0, none⟩)] (pR Tryz.func42 (by kernel_rfl) rfl) (fun V y hm hV => (zjU B y V ((hV.cell (p := ⟨B, 0, none⟩) (World.block_lt_of_cell? W _ hB)).trans hB)).mono fun e w' ⟨h1, h2⟩ => ⟨h1, hV.trans (h2.mono hV.size)⟩)
def jN (n : Nat) (f s : Int) : Bool := decide (f < 0) || (decide ((n : Int) ≤ f) || (decide (s < 1) || decide (1000 < s)))
set_option maxRecDepth 100000 in
set_option maxHeartbeats 8000000 in
theorem zj0 (Af : Option Addr) (cf : Nat) (l : List y8) (f s : Int) (zP za : Bool) (Ac : Option Addr) (cc : Nat) (chars : List ByteArray) (Ap : Option Addr) (cp : Nat) (pairs : List ko) (w : World) (hG : GW w) (hC : Kd.C jY w Af l.length l) (hz : ∀ x ∈ l, x.f3.length ≤ 1000000000 ∧ x.f4.length ≤ 1000000000 ∧ x.f5.length ≤ 1000000000) (hl : l.length ≤ 1000000000) (hS : Kd.C Kd.string w Ac chars.length chars) (hlc : chars.length ≤ 1000000000) (hP : Kd.C YG w Ap pairs.length pairs) (hlp : pairs.length ≤ 1000000000) (h1 : (l.any fun x => !vY x) = true) :
  Calls Tryz.prog 13 #[.slice Af l.length cf, .agg #[.int .i64 f, .int .i64 s, .bool zP, .bool za], .slice Ac chars.length cc, .slice Ap pairs.length cp] w fun e w' => e = .returned (.tuple #[.slice none 0 0, .slice none 0 0, .int .i64 1]) ∧ Below w.heap.size w w' := by
 have hF := WS Af cf l f s zP za Ac cc chars Ap cp pairs w hG hC hz hl hS hlc hP hlp
 have hQ := WT Af cf l f s zP za Ac cc chars Ap cp pairs w hG hC hz hl hS hlc hP hlp
 have hR := WU Af cf l f s zP za Ac cc chars Ap cp pairs w hG hC hz hl hS hlc hP hlp (w.heap.size + 1)
 have hb0 : Below w.heap.size w ((w.alloc (.cells #[.int .i64 f, .int .i64 s, .bool zP, .bool za] 26)).alloc (.cells #[.func (.func 35) #[] #[]] 75)) := ((Below.refl _ w).alloc (Nat.le_refl _) _).alloc (by simp) _
 have wI := vP (kH w (.cells #[.int .i64 f, .int .i64 s, .bool zP, .bool za] 26)) (.cells #[.func (.func 35) #[] #[]] 75)
 have hbad : Boxed ((w.alloc (.cells #[.int .i64 f, .int .i64 s, .bool zP, .bool za] 26)).alloc (.cells #[.func (.func 35) #[] #[]] 75)) (w.heap.size + 1) 75 (.func (.func 35) #[] #[]) := by
  have h := Boxed.new (w.alloc (.cells #[.int .i64 f, .int .i64 s, .bool zP, .bool za] 26)) 75 (.func (.func 35) #[] #[])
  rwa [World.size_alloc] at h
 rw [h1] at hF
 have HT1 := zx.mk wI
 have HD1 := zx.mk hbad
 have HB1 := zx.mk hb0
 have HF := zx.mk hF
 have HQ := zx.mk hQ
 have HR := zx.mk hR
 clear wI hbad hb0 hF hQ hR hG hC hz hS hP
 go_enter Tryz.func13, Tryz.ntmps13
 go_wp2_with fail
 refine (HF.out _ HB1.out).mono ?_; rintro e w2 ⟨rfl, hb2⟩
 go_wp2_with fail
 go_ret3
 exact ⟨rfl, HB1.out.trans (hb2.mono HB1.out.size)⟩
set_option maxRecDepth 100000 in
set_option maxHeartbeats 8000000 in
theorem zj1 (Af : Option Addr) (cf : Nat) (l : List y8) (f s : Int) (zP za : Bool) (Ac : Option Addr) (cc : Nat) (chars : List ByteArray) (Ap : Option Addr) (cp : Nat) (pairs : List ko) (w : World) (hG : GW w) (hC : Kd.C jY w Af l.length l) (hz : ∀ x ∈ l, x.f3.length ≤ 1000000000 ∧ x.f4.length ≤ 1000000000 ∧ x.f5.length ≤ 1000000000) (hl : l.length ≤ 1000000000) (hS : Kd.C Kd.string w Ac chars.length chars) (hlc : chars.length ≤ 1000000000) (hP : Kd.C YG w Ap pairs.length pairs) (hlp : pairs.length ≤ 1000000000) (h1 : (l.any fun x => !vY x) = false) (h2 : jN l.length f s = true) :
  Calls Tryz.prog 13 #[.slice Af l.length cf, .agg #[.int .i64 f, .int .i64 s, .bool zP, .bool za], .slice Ac chars.length cc, .slice Ap pairs.length cp] w fun e w' => e = .returned (.tuple #[.slice none 0 0, .slice none 0 0, .int .i64 1]) ∧ Below w.heap.size w w' := by
 have hF := WS Af cf l f s zP za Ac cc chars Ap cp pairs w hG hC hz hl hS hlc hP hlp
 have hQ := WT Af cf l f s zP za Ac cc chars Ap cp pairs w hG hC hz hl hS hlc hP hlp
 have hR := WU Af cf l f s zP za Ac cc chars Ap cp pairs w hG hC hz hl hS hlc hP hlp (w.heap.size + 1)
 have hb0 : Below w.heap.size w ((w.alloc (.cells #[.int .i64 f, .int .i64 s, .bool zP, .bool za] 26)).alloc (.cells #[.func (.func 35) #[] #[]] 75)) := ((Below.refl _ w).alloc (Nat.le_refl _) _).alloc (by simp) _
 have wI := vP (kH w (.cells #[.int .i64 f, .int .i64 s, .bool zP, .bool za] 26)) (.cells #[.func (.func 35) #[] #[]] 75)
 have hbad : Boxed ((w.alloc (.cells #[.int .i64 f, .int .i64 s, .bool zP, .bool za] 26)).alloc (.cells #[.func (.func 35) #[] #[]] 75)) (w.heap.size + 1) 75 (.func (.func 35) #[] #[]) := by
  have h := Boxed.new (w.alloc (.cells #[.int .i64 f, .int .i64 s, .bool zP, .bool za] 26)) 75 (.func (.func 35) #[] #[])
  rwa [World.size_alloc] at h
 rw [h1] at hF
 have HT1 := zx.mk wI
 have HD1 := zx.mk hbad
 have HB1 := zx.mk hb0
 have HF := zx.mk hF
 have HQ := zx.mk hQ
 have HR := zx.mk hR
 clear wI hbad hb0 hF hQ hR hG hC hz hS hP
 go_enter Tryz.func13, Tryz.ntmps13
 go_wp2_with fail
 refine (HF.out _ HB1.out).mono ?_; rintro e w2 ⟨rfl, hb2⟩
 have HT2 := zx.mk (zm HT1.out hb2)
 have HD2 := zx.mk (zm HD1.out hb2)
 have HB2 := zx.mk (HB1.out.trans (hb2.mono HB1.out.size))
 clear hb2
 have a2 : w2.cell? ⟨w.heap.size, 0, none⟩ = some (.int .i64 f) := (zy HT2.out 0).trans rfl
 have b2 : w2.cell? ⟨w.heap.size, 1, none⟩ = some (.int .i64 s) := (zy HT2.out 1).trans rfl
 have c2 : w2.cell? ⟨w.heap.size + 1, 0, none⟩ = some (.func (.func 35) #[] #[]) := (zy HD2.out 0).trans rfl
 by_cases g1 : f < 0
 ·have d1 : decide (f < 0) = true := decide_eq_true g1
  clear h2
  go_wp2_with fail
  go_ret3
  exact ⟨rfl, HB2.out⟩
 have d1 : decide (f < 0) = false := decide_eq_false g1
 by_cases g2 : (l.length : Int) ≤ f
 ·have d2 : decide ((l.length : Int) ≤ f) = true := decide_eq_true g2
  clear h2
  go_wp2_with fail
  go_ret3
  exact ⟨rfl, HB2.out⟩
 have d2 : decide ((l.length : Int) ≤ f) = false := decide_eq_false g2
 by_cases g3 : s < 1
 ·have d3 : decide (s < 1) = true := decide_eq_true g3
  clear h2
  go_wp2_with fail
  go_ret3
  exact ⟨rfl, HB2.out⟩
 have d3 : decide (s < 1) = false := decide_eq_false g3
 have g4 : 1000 < s := by
  unfold jN at h2
  simp only [d1, d2, d3, Bool.false_or, decide_eq_true_eq] at h2
  exact h2
 have d4 : decide (1000 < s) = true := decide_eq_true g4
 clear h2
 go_wp2_with fail
 go_ret3
 exact ⟨rfl, HB2.out⟩
set_option maxRecDepth 100000 in
set_option maxHeartbeats 8000000 in
theorem zj2 (Af : Option Addr) (cf : Nat) (l : List y8) (f s : Int) (zP za : Bool) (Ac : Option Addr) (cc : Nat) (chars : List ByteArray) (Ap : Option Addr) (cp : Nat) (pairs : List ko) (w : World) (hG : GW w) (hC : Kd.C jY w Af l.length l) (hz : ∀ x ∈ l, x.f3.length ≤ 1000000000 ∧ x.f4.length ≤ 1000000000 ∧ x.f5.length ≤ 1000000000) (hl : l.length ≤ 1000000000) (hS : Kd.C Kd.string w Ac chars.length chars) (hlc : chars.length ≤ 1000000000) (hP : Kd.C YG w Ap pairs.length pairs) (hlp : pairs.length ≤ 1000000000) (h1 : (l.any fun x => !vY x) = false) (h2 : jN l.length f s = false) (h3 : 2000 < chars.length ∨ 100 < pairs.length) :
  Calls Tryz.prog 13 #[.slice Af l.length cf, .agg #[.int .i64 f, .int .i64 s, .bool zP, .bool za], .slice Ac chars.length cc, .slice Ap pairs.length cp] w fun e w' => e = .returned (.tuple #[.slice none 0 0, .slice none 0 0, .int .i64 1]) ∧ Below w.heap.size w w' := by
 have d1 : decide (f < 0) = false := by cases h : decide (f < 0) with | false => rfl | true => (unfold jN at h2; rw [h, Bool.true_or] at h2; cases h2)
 have d2 : decide ((l.length : Int) ≤ f) = false := by cases h : decide ((l.length : Int) ≤ f) with | false => rfl | true => (unfold jN at h2; rw [h, Bool.true_or, Bool.or_true] at h2; cases h2)
 have d3 : decide (s < 1) = false := by cases h : decide (s < 1) with | false => rfl | true => (unfold jN at h2; rw [h, Bool.true_or, Bool.or_true, Bool.or_true] at h2; cases h2)
 have d4 : decide (1000 < s) = false := by cases h : decide (1000 < s) with | false => rfl | true => (unfold jN at h2; rw [h, Bool.or_true, Bool.or_true, Bool.or_true] at h2; cases h2)
 have r1 := of_decide_eq_false d1
 have r2 := of_decide_eq_false d2
 have r3 := of_decide_eq_false d3
 have r4 := of_decide_eq_false d4
 clear h2
 have hF := WS Af cf l f s zP za Ac cc chars Ap cp pairs w hG hC hz hl hS hlc hP hlp
 have hQ := WT Af cf l f s zP za Ac cc chars Ap cp pairs w hG hC hz hl hS hlc hP hlp
 have hR := WU Af cf l f s zP za Ac cc chars Ap cp pairs w hG hC hz hl hS hlc hP hlp (w.heap.size + 1)
 have hb0 : Below w.heap.size w ((w.alloc (.cells #[.int .i64 f, .int .i64 s, .bool zP, .bool za] 26)).alloc (.cells #[.func (.func 35) #[] #[]] 75)) := ((Below.refl _ w).alloc (Nat.le_refl _) _).alloc (by simp) _
 have wI := vP (kH w (.cells #[.int .i64 f, .int .i64 s, .bool zP, .bool za] 26)) (.cells #[.func (.func 35) #[] #[]] 75)
 have hbad : Boxed ((w.alloc (.cells #[.int .i64 f, .int .i64 s, .bool zP, .bool za] 26)).alloc (.cells #[.func (.func 35) #[] #[]] 75)) (w.heap.size + 1) 75 (.func (.func 35) #[] #[]) := by
  have h := Boxed.new (w.alloc (.cells #[.int .i64 f, .int .i64 s, .bool zP, .bool za] 26)) 75 (.func (.func 35) #[] #[])
  rwa [World.size_alloc] at h
 rw [h1] at hF
 have HT1 := zx.mk wI
 have HD1 := zx.mk hbad
 have HB1 := zx.mk hb0
 have HF := zx.mk hF
 have HQ := zx.mk hQ
 have HR := zx.mk hR
 clear wI hbad hb0 hF hQ hR hG hC hz hS hP
 go_enter Tryz.func13, Tryz.ntmps13
 go_wp2_with fail
 refine (HF.out _ HB1.out).mono ?_; rintro e w2 ⟨rfl, hb2⟩
 have HT2 := zx.mk (zm HT1.out hb2)
 have HD2 := zx.mk (zm HD1.out hb2)
 have HB2 := zx.mk (HB1.out.trans (hb2.mono HB1.out.size))
 clear hb2
 have a2 : w2.cell? ⟨w.heap.size, 0, none⟩ = some (.int .i64 f) := (zy HT2.out 0).trans rfl
 have b2 : w2.cell? ⟨w.heap.size, 1, none⟩ = some (.int .i64 s) := (zy HT2.out 1).trans rfl
 have c2 : w2.cell? ⟨w.heap.size + 1, 0, none⟩ = some (.func (.func 35) #[] #[]) := (zy HD2.out 0).trans rfl
 by_cases g5 : 2000 < chars.length
 ·have d5 : decide ((2000 : Int) < (chars.length : Int)) = true := decide_eq_true (by omega)
  have d5' : decide (2000 < chars.length) = true := decide_eq_true g5
  clear h3
  go_wp2_with fail
  go_ret3
  exact ⟨rfl, HB2.out⟩
 have d5 : decide ((2000 : Int) < (chars.length : Int)) = false := decide_eq_false (by omega)
 have g6 : 100 < pairs.length := by omega
 have d6 : decide ((100 : Int) < (pairs.length : Int)) = true := decide_eq_true (by omega)
 clear h3
 go_wp2_with fail
 go_ret3
 exact ⟨rfl, HB2.out⟩
set_option maxRecDepth 100000 in
set_option maxHeartbeats 8000000 in
theorem zj3 (Af : Option Addr) (cf : Nat) (l : List y8) (f s : Int) (zP za : Bool) (Ac : Option Addr) (cc : Nat) (chars : List ByteArray) (Ap : Option Addr) (cp : Nat) (pairs : List ko) (w : World) (hG : GW w) (hC : Kd.C jY w Af l.length l) (hz : ∀ x ∈ l, x.f3.length ≤ 1000000000 ∧ x.f4.length ≤ 1000000000 ∧ x.f5.length ≤ 1000000000) (hl : l.length ≤ 1000000000) (hS : Kd.C Kd.string w Ac chars.length chars) (hlc : chars.length ≤ 1000000000) (hP : Kd.C YG w Ap pairs.length pairs) (hlp : pairs.length ≤ 1000000000) (h1 : (l.any fun x => !vY x) = false) (h2 : jN l.length f s = false) (h3 : chars.length ≤ 2000) (h3' : pairs.length ≤ 100) (h4 : chars.any pW = true) :
  Calls Tryz.prog 13 #[.slice Af l.length cf, .agg #[.int .i64 f, .int .i64 s, .bool zP, .bool za], .slice Ac chars.length cc, .slice Ap pairs.length cp] w fun e w' => e = .returned (.tuple #[.slice none 0 0, .slice none 0 0, .int .i64 1]) ∧ Below w.heap.size w w' := by
 have d1 : decide (f < 0) = false := by cases h : decide (f < 0) with | false => rfl | true => (unfold jN at h2; rw [h, Bool.true_or] at h2; cases h2)
 have d2 : decide ((l.length : Int) ≤ f) = false := by cases h : decide ((l.length : Int) ≤ f) with | false => rfl | true => (unfold jN at h2; rw [h, Bool.true_or, Bool.or_true] at h2; cases h2)
 have d3 : decide (s < 1) = false := by cases h : decide (s < 1) with | false => rfl | true => (unfold jN at h2; rw [h, Bool.true_or, Bool.or_true, Bool.or_true] at h2; cases h2)
 have d4 : decide (1000 < s) = false := by cases h : decide (1000 < s) with | false => rfl | true => (unfold jN at h2; rw [h, Bool.or_true, Bool.or_true, Bool.or_true] at h2; cases h2)
 have r1 := of_decide_eq_false d1
 have r2 := of_decide_eq_false d2
 have r3 := of_decide_eq_false d3
 have r4 := of_decide_eq_false d4
 clear h2
 have d5 : decide ((2000 : Int) < (chars.length : Int)) = false := decide_eq_false (by omega)
 have d6 : decide ((100 : Int) < (pairs.length : Int)) = false := decide_eq_false (by omega)
 have hF := WS Af cf l f s zP za Ac cc chars Ap cp pairs w hG hC hz hl hS hlc hP hlp
 have hQ := WT Af cf l f s zP za Ac cc chars Ap cp pairs w hG hC hz hl hS hlc hP hlp
 have hR := WU Af cf l f s zP za Ac cc chars Ap cp pairs w hG hC hz hl hS hlc hP hlp (w.heap.size + 1)
 have hb0 : Below w.heap.size w ((w.alloc (.cells #[.int .i64 f, .int .i64 s, .bool zP, .bool za] 26)).alloc (.cells #[.func (.func 35) #[] #[]] 75)) := ((Below.refl _ w).alloc (Nat.le_refl _) _).alloc (by simp) _
 have wI := vP (kH w (.cells #[.int .i64 f, .int .i64 s, .bool zP, .bool za] 26)) (.cells #[.func (.func 35) #[] #[]] 75)
 have hbad : Boxed ((w.alloc (.cells #[.int .i64 f, .int .i64 s, .bool zP, .bool za] 26)).alloc (.cells #[.func (.func 35) #[] #[]] 75)) (w.heap.size + 1) 75 (.func (.func 35) #[] #[]) := by
  have h := Boxed.new (w.alloc (.cells #[.int .i64 f, .int .i64 s, .bool zP, .bool za] 26)) 75 (.func (.func 35) #[] #[])
  rwa [World.size_alloc] at h
 rw [h1] at hF
 rw [h4] at hQ
 have HT1 := zx.mk wI
 have HD1 := zx.mk hbad
 have HB1 := zx.mk hb0
 have HF := zx.mk hF
 have HQ := zx.mk hQ
 have HR := zx.mk hR
 clear wI hbad hb0 hF hQ hR hG hC hz hS hP
 go_enter Tryz.func13, Tryz.ntmps13
 go_wp2_with fail
 refine (HF.out _ HB1.out).mono ?_; rintro e w2 ⟨rfl, hb2⟩
 have HT2 := zx.mk (zm HT1.out hb2)
 have HD2 := zx.mk (zm HD1.out hb2)
 have HB2 := zx.mk (HB1.out.trans (hb2.mono HB1.out.size))
 clear hb2
 have a2 : w2.cell? ⟨w.heap.size, 0, none⟩ = some (.int .i64 f) := (zy HT2.out 0).trans rfl
 have b2 : w2.cell? ⟨w.heap.size, 1, none⟩ = some (.int .i64 s) := (zy HT2.out 1).trans rfl
 have c2 : w2.cell? ⟨w.heap.size + 1, 0, none⟩ = some (.func (.func 35) #[] #[]) := (zy HD2.out 0).trans rfl
 go_wp2_with fail
 refine (HQ.out _ HB2.out).mono ?_; rintro e w3 ⟨rfl, hb3⟩
 go_wp2_with fail
 go_ret3
 exact ⟨rfl, HB2.out.trans (hb3.mono HB2.out.size)⟩
set_option maxRecDepth 100000 in
set_option maxHeartbeats 8000000 in
theorem zj4 (Af : Option Addr) (cf : Nat) (l : List y8) (f s : Int) (zP za : Bool) (Ac : Option Addr) (cc : Nat) (chars : List ByteArray) (Ap : Option Addr) (cp : Nat) (pairs : List ko) (w : World) (hG : GW w) (hC : Kd.C jY w Af l.length l) (hz : ∀ x ∈ l, x.f3.length ≤ 1000000000 ∧ x.f4.length ≤ 1000000000 ∧ x.f5.length ≤ 1000000000) (hl : l.length ≤ 1000000000) (hS : Kd.C Kd.string w Ac chars.length chars) (hlc : chars.length ≤ 1000000000) (hP : Kd.C YG w Ap pairs.length pairs) (hlp : pairs.length ≤ 1000000000) (h1 : (l.any fun x => !vY x) = false) (h2 : jN l.length f s = false) (h3 : chars.length ≤ 2000) (h3' : pairs.length ≤ 100) (h4 : chars.any pW = false) (h5 : pairs.any Vq = true) :
  Calls Tryz.prog 13 #[.slice Af l.length cf, .agg #[.int .i64 f, .int .i64 s, .bool zP, .bool za], .slice Ac chars.length cc, .slice Ap pairs.length cp] w fun e w' => e = .returned (.tuple #[.slice none 0 0, .slice none 0 0, .int .i64 1]) ∧ Below w.heap.size w w' := by
 have d1 : decide (f < 0) = false := by cases h : decide (f < 0) with | false => rfl | true => (unfold jN at h2; rw [h, Bool.true_or] at h2; cases h2)
 have d2 : decide ((l.length : Int) ≤ f) = false := by cases h : decide ((l.length : Int) ≤ f) with | false => rfl | true => (unfold jN at h2; rw [h, Bool.true_or, Bool.or_true] at h2; cases h2)
 have d3 : decide (s < 1) = false := by cases h : decide (s < 1) with | false => rfl | true => (unfold jN at h2; rw [h, Bool.true_or, Bool.or_true, Bool.or_true] at h2; cases h2)
 have d4 : decide (1000 < s) = false := by cases h : decide (1000 < s) with | false => rfl | true => (unfold jN at h2; rw [h, Bool.or_true, Bool.or_true, Bool.or_true] at h2; cases h2)
 have r1 := of_decide_eq_false d1
 have r2 := of_decide_eq_false d2
 have r3 := of_decide_eq_false d3
 have r4 := of_decide_eq_false d4
 clear h2
 have d5 : decide ((2000 : Int) < (chars.length : Int)) = false := decide_eq_false (by omega)
 have d6 : decide ((100 : Int) < (pairs.length : Int)) = false := decide_eq_false (by omega)
 have hF := WS Af cf l f s zP za Ac cc chars Ap cp pairs w hG hC hz hl hS hlc hP hlp
 have hQ := WT Af cf l f s zP za Ac cc chars Ap cp pairs w hG hC hz hl hS hlc hP hlp
 have hR := WU Af cf l f s zP za Ac cc chars Ap cp pairs w hG hC hz hl hS hlc hP hlp (w.heap.size + 1)
 have hb0 : Below w.heap.size w ((w.alloc (.cells #[.int .i64 f, .int .i64 s, .bool zP, .bool za] 26)).alloc (.cells #[.func (.func 35) #[] #[]] 75)) := ((Below.refl _ w).alloc (Nat.le_refl _) _).alloc (by simp) _
 have wI := vP (kH w (.cells #[.int .i64 f, .int .i64 s, .bool zP, .bool za] 26)) (.cells #[.func (.func 35) #[] #[]] 75)
 have hbad : Boxed ((w.alloc (.cells #[.int .i64 f, .int .i64 s, .bool zP, .bool za] 26)).alloc (.cells #[.func (.func 35) #[] #[]] 75)) (w.heap.size + 1) 75 (.func (.func 35) #[] #[]) := by
  have h := Boxed.new (w.alloc (.cells #[.int .i64 f, .int .i64 s, .bool zP, .bool za] 26)) 75 (.func (.func 35) #[] #[])
  rwa [World.size_alloc] at h
 rw [h1] at hF
 rw [h4] at hQ
 rw [h5] at hR
 have HT1 := zx.mk wI
 have HD1 := zx.mk hbad
 have HB1 := zx.mk hb0
 have HF := zx.mk hF
 have HQ := zx.mk hQ
 have HR := zx.mk hR
 clear wI hbad hb0 hF hQ hR hG hC hz hS hP
 go_enter Tryz.func13, Tryz.ntmps13
 go_wp2_with fail
 refine (HF.out _ HB1.out).mono ?_; rintro e w2 ⟨rfl, hb2⟩
 have HT2 := zx.mk (zm HT1.out hb2)
 have HD2 := zx.mk (zm HD1.out hb2)
 have HB2 := zx.mk (HB1.out.trans (hb2.mono HB1.out.size))
 clear hb2
 have a2 : w2.cell? ⟨w.heap.size, 0, none⟩ = some (.int .i64 f) := (zy HT2.out 0).trans rfl
 have b2 : w2.cell? ⟨w.heap.size, 1, none⟩ = some (.int .i64 s) := (zy HT2.out 1).trans rfl
 have c2 : w2.cell? ⟨w.heap.size + 1, 0, none⟩ = some (.func (.func 35) #[] #[]) := (zy HD2.out 0).trans rfl
 go_wp2_with fail
 refine (HQ.out _ HB2.out).mono ?_; rintro e w3 ⟨rfl, hb3⟩
 have HT3 := zx.mk (zm HT2.out hb3)
 have HD3 := zx.mk (zm HD2.out hb3)
 have HB3 := zx.mk (HB2.out.trans (hb3.mono HB2.out.size))
 clear hb3
 have a3 : w3.cell? ⟨w.heap.size, 0, none⟩ = some (.int .i64 f) := (zy HT3.out 0).trans rfl
 have b3 : w3.cell? ⟨w.heap.size, 1, none⟩ = some (.int .i64 s) := (zy HT3.out 1).trans rfl
 have c3 : w3.cell? ⟨w.heap.size + 1, 0, none⟩ = some (.func (.func 35) #[] #[]) := (zy HD3.out 0).trans rfl
 go_wp2_with fail
 refine (HR.out _ HB3.out c3).mono ?_; rintro e w4 ⟨rfl, hb4⟩
 go_wp2_with fail
 go_ret3
 exact ⟨rfl, HB3.out.trans (hb4.mono HB3.out.size)⟩
theorem Vj (l : List y8) (f s : Int) (chars : List ByteArray) (pairs : List ko) : YS l f s chars pairs = ((l.any fun x => !vY x) || jN l.length f s || (decide (2000 < chars.length) || decide (100 < pairs.length)) || chars.any pW || pairs.any Vq) := by
 unfold YS jN
 simp only [Bool.or_assoc]
set_option maxRecDepth 100000 in
set_option maxHeartbeats 8000000 in
theorem zj5 (Af : Option Addr) (cf : Nat) (l : List y8) (f s : Int) (zP za : Bool) (Ac : Option Addr) (cc : Nat) (chars : List ByteArray) (Ap : Option Addr) (cp : Nat) (pairs : List ko) (w : World) (hG : GW w) (hC : Kd.C jY w Af l.length l) (hz : ∀ x ∈ l, x.f3.length ≤ 1000000000 ∧ x.f4.length ≤ 1000000000 ∧ x.f5.length ≤ 1000000000) (hl : l.length ≤ 1000000000) (hS : Kd.C Kd.string w Ac chars.length chars) (hlc : chars.length ≤ 1000000000) (hP : Kd.C YG w Ap pairs.length pairs) (hlp : pairs.length ≤ 1000000000) (h : YS l f s chars pairs = true) :
  Calls Tryz.prog 13 #[.slice Af l.length cf, .agg #[.int .i64 f, .int .i64 s, .bool zP, .bool za], .slice Ac chars.length cc, .slice Ap pairs.length cp] w fun e w' => e = .returned (.tuple #[.slice none 0 0, .slice none 0 0, .int .i64 1]) ∧ Below w.heap.size w w' := by
 rw [Vj] at h
 cases h1 : l.any fun x => !vY x with
 | true => exact zj0 Af cf l f s zP za Ac cc chars Ap cp pairs w hG hC hz hl hS hlc hP hlp h1
 | false =>
 cases h2 : jN l.length f s with
 | true => exact zj1 Af cf l f s zP za Ac cc chars Ap cp pairs w hG hC hz hl hS hlc hP hlp h1 h2
 | false =>
 by_cases h3 : 2000 < chars.length ∨ 100 < pairs.length
 ·exact zj2 Af cf l f s zP za Ac cc chars Ap cp pairs w hG hC hz hl hS hlc hP hlp h1 h2 h3
 cases h4 : chars.any pW with
 | true => exact zj3 Af cf l f s zP za Ac cc chars Ap cp pairs w hG hC hz hl hS hlc hP hlp h1 h2 (by omega) (by omega) h4
 | false =>
 rw [h1, h2, h4, decide_eq_false (by omega : ¬ 2000 < chars.length), decide_eq_false (by omega : ¬ 100 < pairs.length)] at h
 exact zj4 Af cf l f s zP za Ac cc chars Ap cp pairs w hG hC hz hl hS hlc hP hlp h1 h2 (by omega) (by omega) h4 (by simpa using h)
end Go.Proofs.YtggifbbiiickmaaGreatDoor
