/-
  Texts that lean on one another, laid in one file. No condition.
-/
import Derived.Test.YtaifemkokfoadaaGreatDoorGSP1
import Derived.Shelf.SlicesQ.IndexFunc
import Derived.Shelf.SlSortCmp.WholeK
import Derived.Ground.SlsfProg
import Derived.Sort.OwnSortedInts
import Derived.Laws.Runes
import Derived.ChangeAlike
import Derived.RangeFuncRecord
import Derived.Laws.EntriesVeiled
namespace Go.Proofs.YtaifemkokfoadaaGreatDoor
open Go.RowKit Go.Shelf Go.Proofs.zy.zK Go.Proofs.zy.yV Go.Proofs.YtaifemkokfoadaaGreatDoor.PX
instance : Inhabited qB := ⟨z31⟩
instance : Inhabited xC := ⟨z86⟩
instance : Inhabited xS := ⟨z76⟩
def pO (x : qB) : List Value := [.string x.f0, .int .i64 x.f1]
def zxm (x : xC) : List Value := [.string x.f0, .string x.f1, .string x.f2]
def zxn (x : xS) : List Value := [.string x.f0, .string x.f1, .int .i64 x.f2]
theorem lK {α : Type} [Inhabited α] (d : Kd α) (enc : α → List Value) (hopen : ∀ (w : World) (x : α) (c : List Value), d.K w x c → c = enc x) (hne : ∀ x, enc x ≠ []) {w : World} {A : Option Addr} {l : List α} (h : Kd.C d w A l.length l) (h0 : l ≠ []) :
  ∃ b off, A = some ⟨b, off, none⟩ ∧ b < w.heap.size ∧ ∀ j, j < l.length → ∀ i v, (enc l[j]!)[i]? = some v → w.cell? ⟨b, off + j * d.sz + i, none⟩ = some v := by
 have hl : 0 < l.length := List.length_pos_iff.2 h0
 obtain ⟨_, _, h3⟩ := h
 obtain ⟨ad, rfl, hc⟩ := h3 hl
 obtain ⟨b, off, spot⟩ := ad
 have hcell : ∀ j, j < l.length → ∀ i v, (enc l[j]!)[i]? = some v → w.cell? ((⟨b, off, spot⟩ : Addr).add (j * d.sz + i)) = some v := by
  intro j hj i v hv
  obtain ⟨c, _, hK, hcc⟩ := hc j l[j] (List.getElem?_eq_getElem hj)
  have e := hopen w _ c hK
  rw [getElem!_pos l j hj, ← e] at hv
  exact hcc i v hv
 obtain ⟨v, hv⟩ : ∃ v, (enc l[0]!)[0]? = some v := by
  cases he : enc l[0]! with
  | nil => exact absurd he (hne _)
  | cons v r => exact ⟨v, rfl⟩
 have hc0 := hcell 0 hl 0 v hv
 have hspot : spot = none := by simpa [Addr.add] using World.cell?_spot hc0
 subst hspot
 refine ⟨b, off, rfl, ?_, fun j hj i v hv => ?_⟩
 ·have := World.block_lt_of_cell? w _ hc0
  simpa [Addr.add] using this
 ·have := hcell j hj i v hv
  rwa [Addr.add_lit, ← Nat.add_assoc] at this
set_option maxRecDepth 100000 in
theorem zwG (A0 : Option Addr) (c0 : Nat) (fv : Value) (w : World) : Calls Tryz.prog 98 #[.slice A0 0 c0, fv] w fun e w' => e = .returned (.int .i64 (-1)) ∧ Below w.heap.size w w' := by
 go_enter Tryz.func98, Tryz.ntmps98
 go_wp2
 go_loop [8] (fun i => i = .int .i64 0) (fun _ => 0)
 case atStart => rfl
 case round =>
  obtain rfl := hrel
  go_wp2
  go_ret
  exact ⟨rfl, Below.refl _ _⟩
set_option maxRecDepth 100000 in
theorem zZH (A0 : Option Addr) (c0 : Nat) (l : List qB) (w : World) (hr : Kd.C jB w A0 l.length l) (hl : l.length ≤ 1000000000) (p : qB → Bool) (g : Nat) (lb : Array Value) (eg : ∀ args w, (callFunc g args).run Tryz.prog w = .ok (.enter g args) w)
  (hp : PredBelow Tryz.prog g lb (fun x => .agg (pO x).toArray) p w) :
  Calls Tryz.prog 42 #[.slice A0 l.length c0, .func (.func g) #[] lb] w fun e w' => e = .returned (.bool (l.any p)) ∧ Below w.heap.size w w' := by
 by_cases h0 : l = []
 ·subst h0
  have h := zwG A0 c0 (.func (.func g) #[] lb) w
  go_enter Tryz.func42, Tryz.ntmps42
  go_wp2_with (go_at_call 98; refine h.mono ?_; rintro e w1 ⟨rfl, hb⟩)
  go_ret
  exact ⟨rfl, hb⟩
 ·obtain ⟨b, off, rfl, hb, hc⟩ := lK jB pO (fun w x c h => zxf h) (fun x => by simp [pO]) hr h0
  have := AnyQ.slices_ContainsFunc Tryz.hasG 2 Tryz.isAgg31 Tryz.sizeOf31 pO (fun _ => rfl) p g lb eg b off l.length c0 l w hp (Nat.le_refl _) (by omega) hb hc
  rw [List.take_length] at this
  exact this
set_option maxRecDepth 100000 in
theorem zwH (A0 : Option Addr) (c0 : Nat) (fv : Value) (w : World) : Calls Tryz.prog 102 #[.slice A0 0 c0, fv] w fun e w' => e = .returned (.int .i64 (-1)) ∧ Below w.heap.size w w' := by
 go_enter Tryz.func102, Tryz.ntmps102
 go_wp2
 go_loop [8] (fun i => i = .int .i64 0) (fun _ => 0)
 case atStart => rfl
 case round =>
  obtain rfl := hrel
  go_wp2
  go_ret
  exact ⟨rfl, Below.refl _ _⟩
set_option maxRecDepth 100000 in
theorem zZI (A0 : Option Addr) (c0 : Nat) (l : List xC) (w : World) (hr : Kd.C kS w A0 l.length l) (hl : l.length ≤ 1000000000) (p : xC → Bool) (g : Nat) (lb : Array Value) (eg : ∀ args w, (callFunc g args).run Tryz.prog w = .ok (.enter g args) w)
  (hp : PredBelow Tryz.prog g lb (fun x => .agg (zxm x).toArray) p w) :
  Calls Tryz.prog 48 #[.slice A0 l.length c0, .func (.func g) #[] lb] w fun e w' => e = .returned (.bool (l.any p)) ∧ Below w.heap.size w w' := by
 by_cases h0 : l = []
 ·subst h0
  have h := zwH A0 c0 (.func (.func g) #[] lb) w
  go_enter Tryz.func48, Tryz.ntmps48
  go_wp2_with (go_at_call 102; refine h.mono ?_; rintro e w1 ⟨rfl, hb⟩)
  go_ret
  exact ⟨rfl, hb⟩
 ·obtain ⟨b, off, rfl, hb, hc⟩ := lK kS zxm (fun w x c h => zxg h) (fun x => by simp [zxm]) hr h0
  have := AnyQ.slices_ContainsFunc Tryz.hasL 3 Tryz.isAgg86 Tryz.sizeOf86 zxm (fun _ => rfl) p g lb eg b off l.length c0 l w hp (Nat.le_refl _) (by omega) hb hc
  rw [List.take_length] at this
  exact this
set_option maxRecDepth 100000 in
theorem zwI (A0 : Option Addr) (c0 : Nat) (fv : Value) (w : World) : Calls Tryz.prog 103 #[.slice A0 0 c0, fv] w fun e w' => e = .returned (.int .i64 (-1)) ∧ Below w.heap.size w w' := by
 go_enter Tryz.func103, Tryz.ntmps103
 go_wp2
 go_loop [8] (fun i => i = .int .i64 0) (fun _ => 0)
 case atStart => rfl
 case round =>
  obtain rfl := hrel
  go_wp2
  go_ret
  exact ⟨rfl, Below.refl _ _⟩
set_option maxRecDepth 100000 in
theorem zZL (A0 : Option Addr) (c0 : Nat) (l : List xS) (w : World) (hr : Kd.C kU w A0 l.length l) (hl : l.length ≤ 1000000000) (p : xS → Bool) (g : Nat) (lb : Array Value) (eg : ∀ args w, (callFunc g args).run Tryz.prog w = .ok (.enter g args) w)
  (hp : PredBelow Tryz.prog g lb (fun x => .agg (zxn x).toArray) p w) :
  Calls Tryz.prog 55 #[.slice A0 l.length c0, .func (.func g) #[] lb] w fun e w' => e = .returned (.bool (l.any p)) ∧ Below w.heap.size w w' := by
 by_cases h0 : l = []
 ·subst h0
  have h := zwI A0 c0 (.func (.func g) #[] lb) w
  go_enter Tryz.func55, Tryz.ntmps55
  go_wp2_with (go_at_call 103; refine h.mono ?_; rintro e w1 ⟨rfl, hb⟩)
  go_ret
  exact ⟨rfl, hb⟩
 ·obtain ⟨b, off, rfl, hb, hc⟩ := lK kU zxn (fun w x c h => zxh h) (fun x => by simp [zxn]) hr h0
  have := AnyQ.slices_ContainsFunc Tryz.hasK 3 Tryz.isAgg76 Tryz.sizeOf76 zxn (fun _ => rfl) p g lb eg b off l.length c0 l w hp (Nat.le_refl _) (by omega) hb hc
  rw [List.take_length] at this
  exact this
def Xv (n : Int) : Bool := decide (n < 0) || decide (3000 < n)
set_option maxRecDepth 100000 in
theorem zxo (n : Int) (w : World) : Calls Tryz.prog 40 #[.int .i64 n] w fun e w' => e = .returned (.bool (Xv n)) ∧ w' = w := by
 unfold Xv
 by_cases h1 : n < 0
 ·have d1 : decide (n < 0) = true := decide_eq_true h1
  rw [d1]; clear h1
  go_enter Tryz.func40, Tryz.ntmps40
  go_wp2
  go_ret
  exact ⟨rfl, rfl⟩
 ·have d1 : decide (n < 0) = false := decide_eq_false h1
  rw [d1]; clear h1
  cases hd : decide (3000 < n) with
  | true =>
   go_enter Tryz.func40, Tryz.ntmps40
   go_wp2
   go_ret
   exact ⟨rfl, rfl⟩
  | false =>
   go_enter Tryz.func40, Tryz.ntmps40
   go_wp2
   go_ret
   exact ⟨rfl, rfl⟩
def Uz (x : qB) : Bool := !pK x.f0.data.toList || Xv x.f1
set_option maxRecDepth 100000 in
theorem zZM (B : Nat) (w : World) (hB : w.cell? ⟨B, 0, none⟩ = some (.func (.func 40) #[] #[])) :
  PredBelow Tryz.prog 43 #[.pointer (some ⟨B, 0, none⟩)] (fun x => .agg (pO x).toArray) Uz w := fun W x hb => by
 have hl := World.block_lt_of_cell? w _ hB
 have hc : W.cell? ⟨B, 0, none⟩ = some (.func (.func 40) #[] #[]) := (hb.cell hl).trans hB
 have hlW : B < W.heap.size := Nat.lt_of_lt_of_le hl hb.size
 show Calls Tryz.prog 43 #[.agg #[.string x.f0, .int .i64 x.f1], .pointer (some ⟨B, 0, none⟩)] W _
 have hb0 : Below w.heap.size w (W.alloc (.cells #[.string x.f0, .int .i64 x.f1] 31)) := hb.alloc hb.size _
 have hbW : Below W.heap.size W (W.alloc (.cells #[.string x.f0, .int .i64 x.f1] 31)) := (Below.refl _ W).alloc (Nat.le_refl _) _
 have hn := zwB x.f0 (W.alloc (.cells #[.string x.f0, .int .i64 x.f1] 31))
 have hw := fun W => zxo x.f1 W
 have hv : Uz x = (!pK x.f0.data.toList || Xv x.f1) := rfl
 rw [hv]
 clear hv hb
 generalize pK x.f0.data.toList = b1 at hn ⊢
 generalize Xv x.f1 = b2 at hw ⊢
 cases b1 with
 | false =>
  go_enter Tryz.func43, Tryz.ntmps43
  go_wp2_with (go_at_call 44; refine hn.mono ?_; rintro e w1 ⟨rfl, hb1⟩)
  go_ret
  exact ⟨rfl, hb0.trans (hb1.mono hb0.size)⟩
 | true =>
  go_enter Tryz.func43, Tryz.ntmps43
  go_wp2_with (first | (go_at_call 44; refine hn.mono ?_; rintro e w1 ⟨rfl, hb1⟩; have hc1 := (hb1.cell (p := ⟨B, 0, none⟩) (by simp; omega)).trans ((hbW.cell (p := ⟨B, 0, none⟩) hlW).trans hc); have k1 := (hb1.cell (p := ⟨W.heap.size, 1, none⟩) (by simp)).trans (zKg W (.string x.f0) (.int .i64 x.f1) _)) | (go_at_call 40; refine (hw _).mono ?_; rintro e w2 ⟨rfl, rfl⟩))
  go_ret
  exact ⟨by first | rfl | (cases b2 <;> rfl), hb0.trans (hb1.mono hb0.size)⟩
def Uq (l : List qB) (ns : List ByteArray) : Bool := ns.all fun n => (ZR l n).2
theorem zWV (a : ByteArray) (b : Bool) (c : Int) (l3 : List qB) (l4 : List xC) (l5 : List xS) (h3 : l3.length ≤ 1000000000) (ns : List ByteArray) (hn : ns.length ≤ 1000) : ∀ (d i : Nat), i + d = ns.length →
  Ev (fun k => kF.l0 k ns (ns.length : Int) (i : Int) a b c l3 l4 l5) (Uq l3 (ns.drop i)) := by
 intro d
 induction d with
 | zero =>
  intro i h
  rw [List.drop_eq_nil_of_le (by omega)]
  refine Ev.step (fun k => by rw [kF.l0]) ?_
  exact xA (by omega) (Ev.now _)
 | succ d ih =>
  intro i h
  have hi : i < ns.length := by omega
  have e2 : wrap64 ((i : Int) + 1) = ((i + 1 : Nat) : Int) := by rw [XR (by omega) (by omega)]; rfl
  have hg : yM ByteArray.empty ns (i : Int) = ns[i] := by rw [iU, List.getD_eq_getElem?_getD, List.getElem?_eq_getElem hi]; rfl
  have hd : ns.drop i = ns[i] :: ns.drop (i + 1) := List.drop_eq_getElem_cons hi
  refine Ev.step (fun k => by rw [kF.l0]) ?_
  refine yJ (by omega) (yJ (by omega) (yJ (by omega) ?_))
  rw [hg, e2]
  refine oU (y := ZR l3 ns[i]) (by unfold kY.f; rw [if_pos h3]) ?_
  rw [hd]
  show Ev _ ((ZR l3 ns[i]).2 && Uq l3 (ns.drop (i + 1)))
  cases hb : (ZR l3 ns[i]).2 with
  | true => exact yJ rfl (ih (i + 1) (by omega))
  | false => exact xA (by simp) (Ev.now _)
theorem zjT (a : ByteArray) (b : Bool) (c : Int) (A3 : Option Addr) (c3 : Nat) (l3 : List qB) (A4 : Option Addr) (c4 : Nat) (l4 : List xC) (A5 : Option Addr) (c5 : Nat) (l5 : List xS) (A : Option Addr) (cn : Nat) (ns : List ByteArray) (w : World)
  (h3 : Kd.C jB w A3 l3.length l3) (g3 : l3.length ≤ c3) (h4 : Kd.C kS w A4 l4.length l4) (g4 : l4.length ≤ c4) (h5 : Kd.C kU w A5 l5.length l5) (g5 : l5.length ≤ c5) (hn : Kd.C Kd.string w A ns.length ns) (gn : ns.length ≤ cn) (hG : GW w) (hl3 : l3.length ≤ 1000000000) (hln : ns.length ≤ 1000) :
  Calls Tryz.prog 50 #[.agg #[.string a, .bool b, .int .i64 c, .slice A3 l3.length c3, .slice A4 l4.length c4, .slice A5 l5.length c5], .slice A ns.length cn] w fun e w' => e = .returned (.bool (Uq l3 ns)) ∧ Below w.heap.size w w' := by
 obtain ⟨k, hk⟩ := (zWV a b c l3 l4 l5 hl3 ns hln ns.length 0 (by omega)).rounds
 exact kF.calls k a b c A3 c3 l3 A4 c4 l4 A5 c5 l5 A cn ns _ w h3 g3 h4 g4 h5 g5 hn gn hG hk
structure Y5 (w : World) (B : Nat) (a : ByteArray) (b : Bool) (c : Int) (A3 : Option Addr) (c3 : Nat) (l3 : List qB) (A4 : Option Addr) (c4 : Nat) (l4 : List xC) (A5 : Option Addr) (c5 : Nat) (l5 : List xS) : Prop where
 blk : w.heap[B]? = some (.cells #[.string a, .bool b, .int .i64 c, .slice A3 l3.length c3, .slice A4 l4.length c4, .slice A5 l5.length c5] 26 (0, 0))
 h3 : Kd.C jB w A3 l3.length l3
 h4 : Kd.C kS w A4 l4.length l4
 h5 : Kd.C kU w A5 l5.length l5
 gw : GW w
theorem Y5.below {w w' : World} {B : Nat} {a : ByteArray} {b : Bool} {c : Int} {A3 : Option Addr} {c3 : Nat} {l3 : List qB} {A4 : Option Addr} {c4 : Nat} {l4 : List xC} {A5 : Option Addr} {c5 : Nat} {l5 : List xS}
  (h : Y5 w B a b c A3 c3 l3 A4 c4 l4 A5 c5 l5) (hb : Below w.heap.size w w') : Y5 w' B a b c A3 c3 l3 A4 c4 l4 A5 c5 l5 :=
 ⟨(hb.block B (Array.getElem?_eq_some_iff.1 h.blk).1).trans h.blk, Kd.yE h.h3 hb, Kd.yE h.h4 hb, Kd.yE h.h5 hb, h.gw.under hb⟩
theorem xW {w : World} {B : Nat} {cs : Array Value} {t : TypeId} (h : w.heap[B]? = some (.cells cs t (0, 0))) (i : Nat) (v : Value) (hv : cs[i]? = some v) : w.cell? ⟨B, i, none⟩ = some v := by
 simp only [World.cell?, h]
 exact hv
end Go.Proofs.YtaifemkokfoadaaGreatDoor
namespace Go.Proofs
end Go.Proofs
namespace Go.Proofs.YtaifemkokfoadaaGreatDoor
open Go.RowKit Go.Shelf Go.Sort Go.Proofs.zy.zK Go.Proofs.zy.yV Go.Proofs.YtaifemkokfoadaaGreatDoor.PX
theorem zZN (x : qB) : (pO x).length = 2 := rfl
theorem zZO (x : qB) : ∀ v ∈ pO x, v.oneCell' = true := by
 intro v hv
 simp only [pO, List.mem_cons, List.mem_nil_iff, or_false] at hv
 rcases hv with rfl | rfl <;> rfl
theorem zKn {w : World} {g : Nat} {cur : Array Value} {e : TypeId} {F : Array Value} (hb : w.heap[g]? = some (.cells cur e (0, 0))) (ht : cur.toList.take F.size = F.toList) : Holds id w g 0 F := by
 intro j hj
 refine ⟨?_, by simp [World.frozen?, hb]⟩
 have h1 : (cur.toList.take F.size)[j]? = F.toList[j]? := by rw [ht]
 rw [List.getElem?_take_of_lt hj] at h1
 simp only [World.cell?, hb, Nat.zero_add]
 simp only [Option.isSome_none, Bool.false_eq_true, if_false]
 rw [← Array.getElem?_toList, h1]
 simp [hj]
theorem zWK {w : World} {g n : Nat} {os : Array Obj} {cur : Array Value} {e : TypeId} {fr : Nat × Nat} (d : Array Value) (hb : w.heap[g]? = some (.cells cur e fr)) :
  (Sort.grow (Sort.putRow id (Sort.ahead w n) g 0 d) os).heap[g]? = some (.cells (Sort.putCells id 0 d cur) e fr) := by
 have hg : g < w.heap.size := (Array.getElem?_eq_some_iff.1 hb).1
 rw [heap_grow_old _ _ (by simpa using hg)]
 simp [Sort.putRow, Sort.mapBlock, Sort.ahead, Array.getElem?_modify, hb, Sort.onCells]
theorem zKo {w : World} {g n : Nat} {os : Array Obj} (d : Array Value) : w.grownBy (Sort.grow (Sort.putRow id (Sort.ahead w n) g 0 d) os) (some g) := by
 refine ⟨rfl, rfl, rfl, by simp, fun k hk hne => ?_⟩
 rw [heap_grow_old _ _ (by simpa using hk)]
 have : g ≠ k := fun e => hne (by rw [e])
 simp [Sort.putRow, Sort.mapBlock, Sort.ahead, Array.getElem?_modify, this]
theorem zWY (cur : Array Value) (F : Array Value) (h : F.size ≤ cur.size) : (Sort.putCells id 0 F cur).toList.take F.size = F.toList := by
 apply List.ext_getElem?
 intro j
 by_cases hj : j < F.size
 ·rw [List.getElem?_take_of_lt hj, Array.getElem?_toList]
  simp [Sort.putCells, hj, show j < cur.size by omega]
 ·rw [List.getElem?_take_eq_none (by omega), List.getElem?_eq_none (by simp; omega)]
theorem flat_get (xs : List qB) (j : Nat) (hj : j < xs.length) : ((flatK pO 2 xs.toArray).toList.drop (j * 2)).take 2 = pO xs[j] := by
 have hsz : (flatK pO 2 xs.toArray).toList.length = xs.length * 2 := by simp
 have key : ∀ t, t < xs.length * 2 → (flatK pO 2 xs.toArray).toList[t]? = some ((pO xs.toArray[t / 2]!)[t % 2]!) := by
  intro t ht
  have h := get_flatK pO 2 xs.toArray t (by simpa using ht)
  rw [Array.getElem?_toList]
  rw [← h]
  simp [show t < xs.length * 2 by omega]
 apply List.ext_getElem?
 intro i
 rcases Nat.lt_or_ge i 2 with hi | hi
 ·rw [List.getElem?_take_of_lt hi, List.getElem?_drop, key _ (by omega)]
  have e1 : (j * 2 + i) / 2 = j := by omega
  have e2 : (j * 2 + i) % 2 = i := by omega
  rw [e1, e2]
  have e3 : xs.toArray[j]! = xs[j] := by simp [hj]
  rw [e3]
  rcases i with _ | _ | i
  ·rfl
  ·rfl
  ·omega
 ·rw [List.getElem?_take_eq_none hi, List.getElem?_eq_none (by simp [pO]; omega)]
theorem zk2 {w : World} {b : Nat} {ok : Nat → Prop} {xs : List qB} {inner : List Value} (h : vV (jB.M w b ok) 2 xs inner) : inner = (flatK pO 2 xs.toArray).toList := by
 have hsz : (flatK pO 2 xs.toArray).toList.length = xs.length * 2 := by simp
 apply List.ext_getElem?
 intro t
 rcases Nat.lt_or_ge t (xs.length * 2) with ht | ht
 ·have hj : t / 2 < xs.length := by omega
  have h1 := h.2 (t / 2) _ (List.getElem?_eq_getElem hj)
  have h2 : (inner.drop (t / 2 * 2)).take 2 = pO xs[t / 2] := zwt h1
  have h3 := flat_get xs (t / 2) hj
  have h4 := h2.trans h3.symm
  have h5 := congrArg (fun l : List Value => l[t % 2]?) h4
  simp only [List.getElem?_take_of_lt (show t % 2 < 2 by omega), List.getElem?_drop] at h5
  rw [show t / 2 * 2 + t % 2 = t by omega] at h5
  exact h5
 ·rw [List.getElem?_eq_none (by have := h.1; omega), List.getElem?_eq_none (by omega)]
theorem zwL (w : World) (b : Nat) (ok : Nat → Prop) (xs : List qB) : vV (jB.M w b ok) 2 xs (flatK pO 2 xs.toArray).toList := by
 refine ⟨by simp, fun j p hj => ?_⟩
 obtain ⟨hl, rfl⟩ := List.getElem?_eq_some_iff.1 hj
 rw [flat_get xs j hl]
 exact V8 _ _ _ _
set_option maxRecDepth 100000 in
theorem zjr (x y : qB) (w : World) :
  Calls Tryz.prog 90 #[.agg #[.string x.f0, .int .i64 x.f1], .agg #[.string y.f0, .int .i64 y.f1]] w fun e w' => e = .returned (.int .i64 (uX x.f0 y.f0)) ∧ ∃ q os, w' = Sort.grow (w.drewN q) os := by
 have hc := uN.calls x.f0 y.f0 _ ((w.alloc (.cells #[.string x.f0, .int .i64 x.f1] 31)).alloc (.cells #[.string y.f0, .int .i64 y.f1] 31)) (QG x.f0 y.f0)
 generalize uX x.f0 y.f0 = r at hc ⊢
 go_enter Tryz.func90, Tryz.ntmps90
 go_wp2_with (go_at_call 47; refine hc.mono ?_; rintro e w2 ⟨rfl, nd, rfl⟩)
 go_ret
 refine ⟨rfl, nd, #[.cells #[.string x.f0, .int .i64 x.f1] 31] ++ #[.cells #[.string y.f0, .int .i64 y.f1] 31], ?_⟩
 rw [← Sort.grow_grow, Sort.alloc_eq_grow, Sort.alloc_eq_grow]
 rfl
theorem zJo (a b : ByteArray) : decide (uX a b < 0) = Op.bytesLess a.toList b.toList := by
 unfold uX
 cases h1 : Op.bytesLess a.toList b.toList
 ·cases h2 : Op.bytesLess b.toList a.toList <;> simp
 ·simp
theorem zxp (x y : qB) : ltOf (fun x y : qB => uX x.f0 y.f0) x y = decide (x.f0.toList < y.f0.toList) := by
 show decide (uX x.f0 y.f0 < 0) = _
 rw [zJo, bytesLess_eq]
theorem zZP : SWO (ltOf (fun x y : qB => uX x.f0 y.f0)) where
 irrefl x := by rw [zxp]; simp [List.lt_irrefl]
 trans x y z h1 h2 := by
  rw [zxp] at *
  simp only [decide_eq_true_eq] at *
  exact List.lt_trans h1 h2
 ntrans x y z h1 h2 := by
  rw [zxp] at *
  simp only [decide_eq_false_iff_not, List.not_lt] at *
  exact List.le_trans h2 h1
theorem zk3 (xs ys : List qB) (d' : Array qB) (hp : ys.Perm xs) (hs : ys.Pairwise fun a b => uX a.f0 b.f0 < 0)
  (hP : PermIn 0 xs.toArray.size xs.toArray d') (hS : SortedIn (ltOf (fun x y : qB => uX x.f0 y.f0)) 0 xs.toArray.size d') : d'.toList = ys := by
 obtain ⟨hsz, _, hperm⟩ := hP
 have e1 : d'.extract 0 xs.toArray.size = d' := by rw [← hsz]; exact Array.extract_size
 rw [e1, Array.extract_size] at hperm
 refine List.Perm.eq_of_pairwise (le := fun x y => (!ltOf (fun x y : qB => uX x.f0 y.f0) y x) = true) ?_ ?_ ?_ (hperm.trans hp.symm)
 ·intro a b ha hb h1 h2
  have ha' : a ∈ ys := (hperm.trans hp.symm).mem_iff.1 ha
  obtain ⟨i, hi, rfl⟩ := List.getElem_of_mem ha'
  obtain ⟨j, hj, rfl⟩ := List.getElem_of_mem hb
  simp only [Bool.not_eq_true', ltOf, decide_eq_false_iff_not] at h1 h2
  rcases Nat.lt_trichotomy i j with h | h | h
  ·exact absurd (List.pairwise_iff_getElem.1 hs i j hi hj h) h2
  ·subst h; rfl
  ·exact absurd (List.pairwise_iff_getElem.1 hs j i hj hi h) h1
 ·rw [List.pairwise_iff_getElem]
  intro i j hi hj hij
  have h := hS i j (Nat.zero_le _) hij (by rw [← hsz]; simpa using hj)
  have hi' : i < d'.size := by simpa using hi
  have hj' : j < d'.size := by simpa using hj
  rw [getElem!_pos d' i hi', getElem!_pos d' j hj'] at h
  simpa using h
 ·refine hs.imp ?_
  intro a b h
  have h1 : ltOf (fun x y : qB => uX x.f0 y.f0) a b = true := decide_eq_true h
  cases h2 : ltOf (fun x y : qB => uX x.f0 y.f0) b a with
  | false => rfl
  | true => exact absurd (zZP.trans _ _ _ h1 h2) (by rw [zZP.irrefl]; simp)
theorem zJp (w : World) (b0 : Nat) (u : Value) (xs ys : List qB) (hR : Kd.R jB 31 w b0 (fun _ => True) u xs) (h0 : 0 < xs.length) (hl : xs.length ≤ 1000) (hp : ys.Perm xs) (hs : ys.Pairwise fun a b => uX a.f0 b.f0 < 0) :
  Calls Tryz.prog 89 #[u, .func (.func 90) #[] #[]] w fun e w' => e = .returned (.tuple #[]) ∧ Kd.R jB 31 w' b0 (fun _ => True) u ys ∧ w.grownBy w' u.ownBlock := by
 obtain ⟨hok, inner, ho, hr⟩ := hR
 have hin := zk2 hr
 subst hin
 rcases ho.2 with ⟨_, h⟩ | ⟨g, cap, cur, rfl, hbase, hb, h1, h2, h3, h4⟩
 ·omega
 have hg : g < w.heap.size := (Array.getElem?_eq_some_iff.1 hb).1
 have hk2 : jB.sz = 2 := rfl
 rw [hk2] at h3 h4
 have hH : HoldsK pO 2 w g 0 xs.toArray := zKn hb (by rw [size_flatK]; exact h4)
 have hlen := hp.length_eq
 refine (AnyQ.slices_SortFunc Tryz.sortG 2 (fun w => by kernel_rfl) (fun w => by kernel_rfl) pO zZN zZO (fun x y => uX x.f0 y.f0) zZP 90 #[] g 0 cap xs.toArray w (Go.Proofs.zy.yt.tH Tryz.func90 (by kernel_rfl) rfl)
  (fun m os dk hdk x y => zjr x y _) hH hg (by simp; omega)).mono fun e w' ⟨he, d', n, os, hP, hS, hw⟩ => ?_
 have hd := zk3 xs ys d' hp hs hP hS
 have hd' : d' = ys.toArray := by rw [← hd]
 subst hd'
 subst hw
 refine ⟨he, ⟨fun _ _ => trivial, (flatK pO 2 ys.toArray).toList, ⟨by rw [hk2]; simp, .inr ⟨g, cap, _, by rw [hlen], hbase, zWK _ hb, by rw [hlen]; exact h1, h2, by rw [hk2]; simp [Sort.putCells, h3], ?_⟩⟩, zwL _ _ _ _⟩, ?_⟩
 ·have := zWY cur (flatK pO 2 ys.toArray) (by rw [size_flatK, h3]; simp; omega)
  rw [size_flatK] at this
  rw [hk2]
  simpa using this
 ·exact zKo (w := w) (g := g) (n := n) (os := os) (flatK pO 2 ys.toArray)
end Go.Proofs.YtaifemkokfoadaaGreatDoor
namespace Go.Proofs.YtaifemkokfoadaaGreatDoor
open Go.RowKit Go.Shelf Go.Proofs.zy.zK Go.Proofs.zy.yt Go.Proofs.zy.yV Go.Proofs.YtaifemkokfoadaaGreatDoor.PX
set_option linter.unusedSimpArgs false
theorem zjU {w W w1 : World} {r r' : Option Nat} (h : w.grownBy W r) (g : W.grownBy w1 r') (hr : r' = r ∨ ∃ b, r' = some b ∧ w.heap.size ≤ b) : w.grownBy w1 r := by
 refine ⟨g.os.trans h.os, g.tape.trans h.tape, g.output.trans h.output, Nat.le_trans h.size g.size, fun k hk hne => ?_⟩
 refine (g.block k (Nat.lt_of_lt_of_le hk h.size) ?_).trans (h.block k hk hne)
 rcases hr with rfl | ⟨b, rfl, hb⟩
 ·exact hne
 ·intro e
  injection e with e
  omega
theorem mX {w W w1 : World} {r : Option Nat} (h : w.grownBy W r) (g : Below W.heap.size W w1) : w.grownBy w1 r :=
 ⟨g.os.trans h.os, g.tape.trans h.tape, g.output.trans h.output, Nat.le_trans h.size g.size, fun k hk hne => (g.block k (Nat.lt_of_lt_of_le hk h.size)).trans (h.block k hk hne)⟩
theorem Yd {w W : World} {r : Option Nat} {g i : Nat} (h : w.grownBy W r) (hg : w.heap.size ≤ g) (v : Value) : w.grownBy (W.setCell ⟨g, i, none⟩ v) r :=
 ⟨h.os, h.tape, h.output, by simpa using h.size, fun k hk hne => (Below.heap_setCell W ⟨g, i, none⟩ v k (by show k ≠ g; omega)).trans (h.block k hk hne)⟩
theorem zJr {w W : World} {r : Option Nat} (h : w.grownBy W r) : w.grownBy W.drew r := mX h ⟨rfl, rfl, rfl, Nat.le_refl _, fun _ _ => rfl⟩
theorem zzq {α : Type} {d : Kd α} {e b0 : Nat} {w wr w2 : World} {ok : Nat → Prop} {u : Value} {xs : List α} (hB : Below b0 w wr) (hs : b0 ≤ wr.heap.size) (hR : d.R e wr b0 ok u xs) (hg : wr.grownBy w2 u.ownBlock) : Below b0 w w2 := by
 refine hB.trans ⟨hg.os, hg.tape, hg.output, hg.size, fun k hk => hg.block k (Nat.lt_of_lt_of_le hk hs) ?_⟩
 intro e
 obtain ⟨inner, ho⟩ := Kd.gI hR
 have := V6 ho k e.symm
 omega
def chr (c : Nat) : ByteArray := Utf8.encode (c : Int)
def Zg (wd : Nat → Int) (c : Nat) : List qB := (List.range (c - 33)).map fun i => ⟨chr (33 + i), wd (33 + i)⟩
theorem zKp (c : Nat) : Utf8.encode (c : Int) = chr c := rfl
attribute [irreducible] chr
theorem zwM (wd : Nat → Int) (c : Nat) (h : 33 ≤ c) : Zg wd (c + 1) = Zg wd c ++ [⟨chr c, wd c⟩] := by
 obtain ⟨m, rfl⟩ : ∃ m, c = 33 + m := ⟨c - 33, by omega⟩
 unfold Zg
 rw [show 33 + m + 1 - 33 = m + 1 by omega, show 33 + m - 33 = m by omega, List.range_succ, List.map_append]
 rfl
theorem lY (wd : Nat → Int) (c : Nat) : (Zg wd c).length = c - 33 := by simp [Zg]
def made.T5 : Bool × List (List Nat × List Nat) := (true, [([], []), ([0], [0]), ([], []), ([2], [2]), ([3], [3]), ([], []), ([], []), ([5, 6], [5, 6]), ([4, 7], [4, 7]), ([8], [8]), ([1, 9, 7], [1, 9]), ([0, 1, 2, 3, 4, 5, 6, 7, 8, 9, 10], []), ([11, 10, 10, 0, 1, 2, 3, 4, 5, 6, 7, 8, 9, 10], [10, 11])])
theorem made.mJ : uz .any (opsOf Tryz.f29 5) = made.T5 := by kernel_rfl
def zWW (name : ByteArray) (space : Int) (more : List qB) (wd : Nat → Int) (u0 : Value) (b0 : Nat) (w : World) (gr gf : Nat) (x : Value) (wr : World) : Prop :=
 ∃ (c : Nat) (u : Value), x = .int .u8 (c : Int) ∧ 33 ≤ c ∧ c ≤ 127 ∧ Kd.R jB 31 wr b0 (fun _ => True) u (more ++ Zg wd c) ∧
  wr.heap[gr]? = some (.cells #[.string (⟨#[]⟩ : ByteArray), .bool false, .int .i64 0, .slice none 0 0, .slice none 0 0, .slice none 0 0] 26 (0, 0)) ∧
  wr.heap[gf]? = some (.cells #[.string name, .bool false, .int .i64 space, u, .slice none 0 0, .slice none 0 0] 26 (0, 0)) ∧
  Below b0 w wr ∧ w.grownBy wr u0.ownBlock ∧ (u.ownBlock = u0.ownBlock ∨ ∃ b, u.ownBlock = some b ∧ w.heap.size ≤ b)
set_option maxHeartbeats 8000000 in
set_option maxRecDepth 100000 in
theorem mV (F : FuncId) (fn : Func) (hfn : Tryz.prog.funcs[F]? = some fn) (hname : (fn.name == "runtime.NumGoroutine") = false) (hbody : fn.body.isSome = true) (wd : Nat → Int)
  (hwd : ∀ (c : Nat) (W : World), 33 ≤ c → c ≤ 126 → Calls Tryz.prog F #[.int .u8 (c : Int)] W fun e w' => e = .returned (.int .i64 (wd c)) ∧ Below W.heap.size W w')
  (name : ByteArray) (space : Int) (b0 : Nat) (u0 : Value) (more ys : List qB) (w : World) (hb0 : b0 ≤ w.heap.size) (hR : Kd.R jB 31 w b0 (fun _ => True) u0 more) (hm : more.length ≤ 10)
  (hp : ys.Perm (more ++ Zg wd 127)) (hs : ys.Pairwise fun a b => uX a.f0 b.f0 < 0) :
  Calls Tryz.prog 29 #[.string name, .int .i64 space, .func (.func F) #[] #[], u0] w fun e w' => ∃ v, e = .returned (.agg #[.string name, .bool false, .int .i64 space, v, .slice none 0 0, .slice none 0 0]) ∧
   Kd.R jB 31 w' b0 (fun _ => True) v ys ∧ Below b0 w w' ∧ w.grownBy w' u0.ownBlock ∧ (v.ownBlock = u0.ownBlock ∨ ∃ b, v.ownBlock = some b ∧ w.heap.size ≤ b) := by
 have lX := Tryz.underlying26
 have HB := zk.mk (Below.refl b0 w)
 have HG := zk.mk (World.grownBy.refl w u0.ownBlock)
 have o8 := zk.mk hR
 have HWD := zk.mk hwd
 have HP := zk.mk hp
 have HS := zk.mk hs
 have zcr := zk.mk (tH hfn hname hbody)
 clear hR hwd hp hs hfn hname hbody
 obtain ⟨A0, c0, e0⟩ := Kd.yA o8.out
 subst e0
 go_enter Tryz.func29, Tryz.ntmps29
 go_wp2_with (first
  | ((with_reducible refine xI (N := 8) rfl ?_); refine vJ ?hg (N := 8) ?hd (cs := #[.string (⟨#[]⟩ : ByteArray), .bool false, .int .i64 0, .slice none 0 0, .slice none 0 0, .slice none 0 0]) (t := 26) ?hr ?_; (case hd => rfl); (case hg => rfl); (case hr => first | (go_simp; done) | (go_simp; rfl)); intro gr hgr w2 BR hb2; have Kr := zk.mk (Nat.le_of_eq hgr.symm); have zl := zk.mk (HB.out.trans (hb2.mono hb0)); have zC := zk.mk (mX HG.out hb2); clear HB HG; have HB := zl; have HG := zC; have HR1 := zk.mk (Kd.zf o8.out hb2); have BRA := zk.mk BR; clear zl zC BR hb2 hgr)
  | ((with_reducible refine xI (N := 9) rfl ?_); refine vJ ?hg (N := 9) ?hd (cs := #[.string (⟨#[]⟩ : ByteArray), .bool false, .int .i64 0, .slice none 0 0, .slice none 0 0, .slice none 0 0]) (t := 26) ?hr ?_; (case hd => rfl); (case hg => rfl); (case hr => first | (go_simp; done) | (go_simp; rfl)); intro gf hgf w3 BF hb3; have Kf := zk.mk (Nat.le_trans HG.out.size (Nat.le_of_eq hgf.symm)); have zl := zk.mk (HB.out.trans (hb3.mono (Nat.le_trans hb0 HG.out.size))); have zC := zk.mk (mX HG.out hb3); have zM := zk.mk (zo BRA.out hb3); have zT := zk.mk (Kd.zf HR1.out hb3); have HNE := zk.mk (show gr ≠ gf by rw [hgf]; exact Nat.ne_of_lt (uM BRA.out)); clear HB HG BRA HR1 o8; have HB := zl; have HG := zC; have BRA := zM; have HR1 := zT; clear zl zC zM zT hgf hb3; have zKr : w3.cell? ⟨gf, 0, none⟩ = some (.string (⟨#[]⟩ : ByteArray)) := (zx BF 0).trans rfl; have zKs : w3.cell? ⟨gf, 1, none⟩ = some (.bool false) := (zx BF 1).trans rfl; have zKt : w3.cell? ⟨gf, 2, none⟩ = some (.int .i64 0) := (zx BF 2).trans rfl; have zKu : w3.cell? ⟨gf, 3, none⟩ = some (.slice none 0 0) := (zx BF 3).trans rfl; have zKA : w3.cell? ⟨gf, 4, none⟩ = some (.slice none 0 0) := (zx BF 4).trans rfl; have zKB : w3.cell? ⟨gf, 5, none⟩ = some (.slice none 0 0) := (zx BF 5).trans rfl; have zmn := zw BF 0; have zmo := zw BF 1; have zmp := zw BF 2; have zmr := zw BF 3; have zms := zw BF 4; have zmt := zw BF 5; have BFA := zk.mk BF; clear BF))
 have KfB := zk.mk (Nat.le_trans hb0 Kf.out)
 go_loopw [10] (fun x wr => zWW name space more wd (.slice A0 more.length c0) b0 w gr gf x wr) (fun x _ => 127 - (intOf x).toNat)
 case atStart =>
  refine ⟨33, .slice A0 more.length c0, rfl, by omega, by omega, ?_, ?_, ?_, ?_, ?_, Or.inl rfl⟩
  ·rw [show Zg wd 33 = [] from rfl, List.append_nil]
   have h := Kd.qg HR1.out BFA.out (by decide)
   exact Kd.yh (Kd.zW (p := ⟨gf, 5, none⟩) (Kd.zW (p := ⟨gf, 4, none⟩) (Kd.zW (p := ⟨gf, 3, none⟩) (Kd.zW (p := ⟨gf, 2, none⟩) (Kd.zW (p := ⟨gf, 1, none⟩) (Kd.zW (p := ⟨gf, 0, none⟩) h (fun _ hk => hk.2) _) (fun _ hk => hk.2) _) (fun _ hk => hk.2) _) (fun _ hk => hk.2) _) (fun _ hk => hk.2) _) (fun _ hk => hk.2) _) (fun _ _ => trivial)
  ·refine uo ?_ HNE.out _
   refine uo ?_ HNE.out _
   refine uo ?_ HNE.out _
   refine uo ?_ HNE.out _
   refine uo ?_ HNE.out _
   refine uo ?_ HNE.out _
   exact BRA.out
  ·refine zi (cs := #[.string name, .bool false, .int .i64 space, .slice A0 more.length c0, .slice none 0 0, .slice none 0 0]) ?_ 5 _ rfl
   refine zi (cs := #[.string name, .bool false, .int .i64 space, .slice A0 more.length c0, .slice none 0 0, .slice none 0 0]) ?_ 4 _ rfl
   refine zi (cs := #[.string name, .bool false, .int .i64 space, .slice none 0 0, .slice none 0 0, .slice none 0 0]) ?_ 3 _ rfl
   refine zi (cs := #[.string name, .bool false, .int .i64 0, .slice none 0 0, .slice none 0 0, .slice none 0 0]) ?_ 2 _ rfl
   refine zi (cs := #[.string name, .bool false, .int .i64 0, .slice none 0 0, .slice none 0 0, .slice none 0 0]) ?_ 1 _ rfl
   refine zi (cs := #[.string (⟨#[]⟩ : ByteArray), .bool false, .int .i64 0, .slice none 0 0, .slice none 0 0, .slice none 0 0]) ?_ 0 _ rfl
   exact BFA.out
  ·exact (((((HB.out.setCell KfB.out _).setCell KfB.out _).setCell KfB.out _).setCell KfB.out _).setCell KfB.out _).setCell KfB.out _
  ·exact Yd (Yd (Yd (Yd (Yd (Yd HG.out Kf.out _) Kf.out _) Kf.out _) Kf.out _) Kf.out _) Kf.out _
 case round =>
  obtain ⟨c, u, rfl, h33, h127, zKC, BR0, BF0, zKD, zKE, zKF⟩ := hrel
  have wT := zk.mk zKC
  have BR := zk.mk BR0
  have BF := zk.mk BF0
  have Zh := zk.mk zKD
  have V3 := zk.mk zKE
  have HAc := zk.mk zKF
  clear zKC BR0 BF0 zKD zKE zKF BRA BFA HR1 HB HG
  by_cases hlt : c < 127
  ·have hw32 : IntKind.i32.wrap (c : Int) = c := by unfold IntKind.wrap; simp [IntKind.bits, IntKind.signed]; omega
   have q1 : decide ((c : Int) < 127) = true := decide_eq_true (by omega)
   go_wp2
   have zl := zk.mk (Kd.yj wT.out)
   have zC := zk.mk (zV BR.out)
   have zM := zk.mk (zV BF.out)
   have zT := zk.mk (Zh.out.drew)
   have yL := zk.mk (zJr V3.out)
   clear wT BR BF Zh V3
   have wT := zl
   have BR := zC
   have BF := zM
   have Zh := zT
   have V3 := yL
   clear zl zC zM zT yL
   refine wW (n := 13) (S := fun w' => w'.cell? ⟨gf, 3, none⟩ = some u) (ds := [12]) #[false, false, false, false, false, false, false, false, false, false, false, false, false] (by kernel_rfl) rfl rfl ((zx BF.out 3).trans rfl) (fun hHeld => ?_)
   refine gT made.mJ (fun yY => ?_)
   generalize wr.drew = w16 at wT BR BF Zh V3 hHeld ⊢
   refine vw (i := 0) (N := some 19) (v := ?_) (a' := ?_) #[true, false, false, false, false, false, false, false, false, false, false, false, false] rfl rfl (xk yY.out (by kernel_rfl)) (fun _ _ _ h => h) (Or.inl ⟨by rfl, ?_⟩) ?_ ?_
   rotate_left
   ·intro w'
    go_simp
    with_reducible rfl
   rotate_left
   ·simp only [Act.put, List.setIfInBounds_toArray, List.set_cons_zero, List.set_cons_succ]
    rfl
   refine vw (i := 2) (N := some 21) (v := ?_) (a' := ?_) #[true, false, true, false, false, false, false, false, false, false, false, false, false] rfl rfl (xk yY.out (by kernel_rfl)) (fun _ _ _ h => h) (Or.inl ⟨by rfl, ?_⟩) ?_ ?_
   rotate_left
   ·intro w'
    go_simp
    with_reducible rfl
   rotate_left
   ·simp only [Act.put, List.setIfInBounds_toArray, List.set_cons_zero, List.set_cons_succ]
    rfl
   refine vw (i := 3) (N := some 22) (v := ?_) (a' := ?_) #[true, false, true, true, false, false, false, false, false, false, false, false, false] rfl rfl (xk yY.out (by kernel_rfl)) (fun _ _ _ h => h) (Or.inl ⟨by rfl, ?_⟩) ?_ ?_
   rotate_left
   ·intro w'
    go_simp
    with_reducible rfl
   rotate_left
   ·simp only [Act.put, List.setIfInBounds_toArray, List.set_cons_zero, List.set_cons_succ, hw32]
    rfl
   refine vw (i := 4) (N := some 23) (v := ?_) (a' := ?_) #[true, false, true, true, true, false, false, false, false, false, false, false, false] rfl rfl (xk yY.out (by kernel_rfl)) (fun _ _ _ h => h) (Or.inl ⟨by rfl, ?_⟩) ?_ ?_
   rotate_left
   ·intro w'
    go_simp
    with_reducible rfl
   rotate_left
   ·simp only [Act.put, List.setIfInBounds_toArray, List.set_cons_zero, List.set_cons_succ, zKp]
    rfl
   refine vw (i := 5) (N := some 24) (v := ?_) (a' := ?_) #[true, false, true, true, true, true, false, false, false, false, false, false, false] rfl rfl (xk yY.out (by kernel_rfl)) (fun _ _ _ h => h) (Or.inl ⟨by rfl, ?_⟩) ?_ ?_
   rotate_left
   ·intro w'
    go_simp
    with_reducible rfl
   rotate_left
   ·simp only [Act.put, List.setIfInBounds_toArray, List.set_cons_zero, List.set_cons_succ]
    rfl
   refine vw (i := 6) (N := some 25) (v := ?_) (a' := ?_) #[true, false, true, true, true, true, true, false, false, false, false, false, false] rfl rfl (xk yY.out (by kernel_rfl)) (fun _ _ _ h => h) (Or.inl ⟨by rfl, ?_⟩) ?_ ?_
   rotate_left
   ·intro w'
    go_simp
    with_reducible rfl
   rotate_left
   ·simp only [Act.put, List.setIfInBounds_toArray, List.set_cons_zero, List.set_cons_succ]
    rfl
   refine Qf (i := 1) (N := some 20) (v := ?_) (a' := ?_) #[true, true, true, true, true, true, true, false, false, false, false, false, false] rfl rfl (tN yY.out (by kernel_rfl)) (fun _ _ _ h => h) (Or.inl ⟨by rfl, ?_⟩) hHeld ?_ ?_
   rotate_left
   ·rintro w' s0
    go_simp
    with_reducible rfl
   rotate_left
   ·simp only [Act.put, List.setIfInBounds_toArray, List.set_cons_zero, List.set_cons_succ]
    rfl
   refine YF (i := 7) (N := some 26) #[true, true, true, true, true, true, true, true, false, false, false, false, false] rfl rfl (uw yY.out (by kernel_rfl)) (by decide) (fun K hK => ?_)
   refine call_ F #[.int .u8 (c : Int)] (by rfl) rfl (by have he := zcr.out #[.int .u8 (c : Int)] w16; go_simp) ?_
   refine (HWD.out c _ h33 (by omega)).mono ?_
   rintro e nP ⟨rfl, hb⟩
   refine ⟨_, rfl, ?_⟩
   have zl := zk.mk (Kd.zf wT.out hb)
   have zC := zk.mk (zo BR.out hb)
   have zM := zk.mk (zo BF.out hb)
   have zT := zk.mk (Zh.out.trans (hb.mono (Nat.le_trans hb0 V3.out.size)))
   have yL := zk.mk (mX V3.out hb)
   clear wT BR BF Zh V3 hHeld hb
   have wT := zl
   have BR := zC
   have BF := zM
   have Zh := zT
   have V3 := yL
   clear zl zC zM zT yL
   refine hK.out _ _ ((zx BF.out 3).trans rfl) (fun hHeld => ?_)
   clear hK K
   refine ZO (a' := ?_) ?_ ?_
   rotate_left
   ·show Act.put _ (some 26) _ = _
    simp only [Act.put, List.setIfInBounds_toArray, List.set_cons_zero, List.set_cons_succ]
    rfl
   refine vw (i := 8) (N := some 27) (v := ?_) (a' := ?_) #[true, true, true, true, true, true, true, true, true, false, false, false, false] rfl rfl (xk yY.out (by kernel_rfl)) (fun _ _ _ h => h) (Or.inl ⟨by rfl, ?_⟩) ?_ ?_
   rotate_left
   ·intro w'
    go_simp
    with_reducible rfl
   rotate_left
   ·simp only [Act.put, List.setIfInBounds_toArray, List.set_cons_zero, List.set_cons_succ]
    rfl
   refine YF (i := 9) (N := some 28) #[true, true, true, true, true, true, true, true, true, true, false, false, false] rfl rfl (uw yY.out (by kernel_rfl)) (by decide) (fun K hK => ?_)
   refine Ph (w1 := ?_) (v := ?_) (by rfl) rfl ?_ ?_
   rotate_left 2
   ·go_simp
    constructor
    ·rfl
    ·rfl
   refine hK.out _ _ ((zx (zQ BF.out _) 3).trans rfl) (fun hHeld => ?_)
   clear hK K
   refine ZO (a' := ?_) ?_ ?_
   rotate_left
   ·show Act.put _ (some 28) _ = _
    simp only [Act.put, List.setIfInBounds_toArray, List.set_cons_zero, List.set_cons_succ]
    rfl
   refine YF (i := 10) (N := some 29) #[true, true, true, true, true, true, true, true, true, true, true, false, false] rfl rfl (uw yY.out (by kernel_rfl)) (by decide) (fun K hK => ?_)
   refine Kd.u7 jB (w0 := w) b0 (by rfl) (.tmp 20) (.tmp 28) 22 31 (.agg #[(.string ⟨#[]⟩), (.int .i64 0)]) 24 rfl Tryz.underlying22 zxc rfl (by decide) (by omega) u (more ++ Zg wd c) (⟨chr c, wd c⟩ : qB) [.string (chr c), .int .i64 (wd c)] (fun _ => True) (fun _ => False) rfl rfl ?aP (fun _ hk => hk.elim) ?aF ?aO ?aB ?aS ?aL ?_
   (case aP => exact V8 _ _ _ (⟨chr c, wd c⟩ : qB))
   (case aF => exact (fun _ _ => trivial))
   (case aO => exact wT.out)
   (case aB => exact Zh.out)
   (case aS => exact Nat.le_trans hb0 V3.out.size)
   (case aL => have := lY wd c; rw [List.length_append]; omega)
   intro v1 w18 ho hb hg hat
   rw [List.append_assoc, ← zwM wd c h33] at ho
   obtain ⟨Ao, co, eo⟩ := Kd.yA ho
   subst eo
   generalize (more ++ Zg wd (c + 1)).length = nn at ho hat ⊢
   have zl := zk.mk (vk BR.out hg (Kd.kT wT.out BR.out (by decide)))
   have zC := zk.mk (vk BF.out hg (Kd.kT wT.out BF.out (by decide)))
   have zM := zk.mk hb
   have zT := zk.mk (zjU V3.out hg HAc.out)
   have yL := zk.mk ho
   have y9 : zk ((Value.slice Ao nn co).ownBlock = (Value.slice A0 more.length c0).ownBlock ∨ ∃ b, (Value.slice Ao nn co).ownBlock = some b ∧ w.heap.size ≤ b) := zk.mk (by
    rcases hat with hat | ⟨b, h1, h2⟩
    ·rw [hat]; exact HAc.out
    ·exact Or.inr ⟨b, h1, Nat.le_trans V3.out.size h2⟩)
   clear BR BF Zh V3 wT HAc ho hb hg hat hHeld
   have BR := zl
   have BF := zC
   have Zh := zM
   have V3 := zT
   have wT := yL
   have HAc := y9
   clear zl zC zM zT yL y9
   refine hK.out _ _ ((zx BF.out 3).trans rfl) (fun hHeld => ?_)
   clear hK K
   refine ZO (a' := ?_) ?_ ?_
   rotate_left
   ·show Act.put _ (some 29) _ = _
    simp only [Act.put, List.setIfInBounds_toArray, List.set_cons_zero, List.set_cons_succ]
    rfl
   refine vw (i := 11) (N := some 30) (v := ?_) (a' := ?_) #[true, true, true, true, true, true, true, true, true, true, true, true, false] rfl rfl (xk yY.out (by kernel_rfl)) (fun _ _ _ h => h) (Or.inl ⟨by rfl, ?_⟩) ?_ ?_
   rotate_left
   ·intro w'
    go_simp
    with_reducible rfl
   rotate_left
   ·simp only [Act.put, List.setIfInBounds_toArray, List.set_cons_zero, List.set_cons_succ]
    rfl
   refine ZA (i := 12) (N := none) #[true, true, true, true, true, true, true, true, true, true, true, true, true] rfl rfl (uw yY.out (by kernel_rfl)) (by decide) (fun K hK => ?_)
   have zk4 : w18.cell? ⟨gf, 3, none⟩ = some u := (zx BF.out 3).trans rfl
   have zq5 := zw BF.out 3
   refine Xd (w1 := ?_) (by rfl) rfl ?_ ?_
   rotate_left
   ·go_simp
    rfl
   refine hK.out _ _ ?_
   clear hK K
   refine uh (vC yY.out (by kernel_rfl)) ?_
   have zl := zk.mk (uo BR.out (p := ⟨gf, 3, none⟩) HNE.out (.slice Ao nn co : Value))
   have zC := zk.mk (zi (cs' := #[.string name, .bool false, .int .i64 space, (.slice Ao nn co : Value), .slice none 0 0, .slice none 0 0]) BF.out 3 (.slice Ao nn co : Value) rfl)
   have zM := zk.mk (Zh.out.setCell (p := ⟨gf, 3, none⟩) KfB.out (.slice Ao nn co : Value))
   have zT := zk.mk (Yd (i := 3) V3.out Kf.out (.slice Ao nn co : Value))
   have yL := zk.mk (Kd.wB wT.out BF.out (by decide) 3 (.slice Ao nn co : Value))
   clear BR BF Zh V3 wT hHeld zk4 zq5
   generalize w18.setCell ⟨gf, 3, none⟩ (.slice Ao nn co : Value) = Y6 at zl zC zM zT yL ⊢
   go_wp2
   go_roundw
   case rel => exact ⟨c + 1, (.slice Ao nn co : Value), by first | rfl | (simp; done) | go_num, by omega, by omega, yL.out, zl.out, zC.out, zM.out, zT.out, HAc.out⟩
   case measure => simp [intOf]; omega
  ·have hc : c = 127 := by omega
   have q1 : decide ((c : Int) < 127) = false := decide_eq_false (by omega)
   obtain ⟨Au, cu, eu⟩ := Kd.yA wT.out
   generalize (more ++ Zg wd c).length = nu at eu
   subst eu
   have hRs := wT.out
   rw [hc] at hRs
   have hsort := zJp wr b0 (.slice Au nu cu) _ ys hRs (by rw [List.length_append, lY]; omega) (by rw [List.length_append, lY]; omega) HP.out HS.out
   have zXx := zk.mk hsort
   have hcu : wr.cell? ⟨gf, 3, none⟩ = some (.slice Au nu cu) := (zx BF.out 3).trans rfl
   clear hsort hRs hlt h33 h127
   go_wp2_with (go_at_call 89; refine zXx.out.mono ?_; rintro e w2 ⟨rfl, hR2, hg2⟩; clear zXx hcu; have hne1 := Kd.kT wT.out BF.out (by decide); have zC := zk.mk (vk BR.out hg2 (Kd.kT wT.out BR.out (by decide))); have zM := zk.mk (vk BF.out hg2 hne1); have zT := zk.mk hR2; have yL := zk.mk (zjU V3.out hg2 HAc.out); have y9 := zk.mk (zzq Zh.out (Nat.le_trans hb0 V3.out.size) wT.out hg2); clear wT BR BF Zh V3 hne1 hR2 hg2; have BR := zC; have BF := zM; have HR2 := zT; have HG2 := yL; have HB2 := y9; clear zC zM zT yL y9; have zKr : w2.cell? ⟨gf, 0, none⟩ = some (.string name) := (zx BF.out 0).trans rfl; have zKs : w2.cell? ⟨gf, 1, none⟩ = some (.bool false) := (zx BF.out 1).trans rfl; have zKt : w2.cell? ⟨gf, 2, none⟩ = some (.int .i64 space) := (zx BF.out 2).trans rfl; have zKu : w2.cell? ⟨gf, 3, none⟩ = some (.slice Au nu cu) := (zx BF.out 3).trans rfl; have zKA : w2.cell? ⟨gf, 4, none⟩ = some (.slice none 0 0) := (zx BF.out 4).trans rfl; have zKB : w2.cell? ⟨gf, 5, none⟩ = some (.slice none 0 0) := (zx BF.out 5).trans rfl; have zcs : w2.cell? ⟨gr, 0, none⟩ = some (.string (⟨#[]⟩ : ByteArray)) := (zx BR.out 0).trans rfl; have zct : w2.cell? ⟨gr, 1, none⟩ = some (.bool false) := (zx BR.out 1).trans rfl; have zcu : w2.cell? ⟨gr, 2, none⟩ = some (.int .i64 0) := (zx BR.out 2).trans rfl; have zcA : w2.cell? ⟨gr, 3, none⟩ = some (.slice none 0 0) := (zx BR.out 3).trans rfl; have zcB : w2.cell? ⟨gr, 4, none⟩ = some (.slice none 0 0) := (zx BR.out 4).trans rfl; have zcC : w2.cell? ⟨gr, 5, none⟩ = some (.slice none 0 0) := (zx BR.out 5).trans rfl; have zcD := zw BR.out 0; have zcE := zw BR.out 1; have zcF := zw BR.out 2; have zcG := zw BR.out 3; have zcH := zw BR.out 4; have zcI := zw BR.out 5)
   have zl := (zi (cs' := #[.string name, .bool false, .int .i64 space, .slice Au nu cu, .slice none 0 0, .slice none 0 0]) (zi (cs' := #[.string name, .bool false, .int .i64 space, .slice Au nu cu, .slice none 0 0, .slice none 0 0]) (zi (cs' := #[.string name, .bool false, .int .i64 space, .slice Au nu cu, .slice none 0 0, .slice none 0 0]) (zi (cs' := #[.string name, .bool false, .int .i64 space, .slice none 0 0, .slice none 0 0, .slice none 0 0]) (zi (cs' := #[.string name, .bool false, .int .i64 0, .slice none 0 0, .slice none 0 0, .slice none 0 0]) (zi (cs' := #[.string name, .bool false, .int .i64 0, .slice none 0 0, .slice none 0 0, .slice none 0 0]) BR.out 0 (.string name) rfl) 1 (.bool false) rfl) 2 (.int .i64 space) rfl) 3 (.slice Au nu cu) rfl) 4 (.slice none 0 0) rfl) 5 (.slice none 0 0) rfl)
   have zC := Kd.yh (Kd.zW (p := ⟨gr, 5, none⟩) (Kd.zW (p := ⟨gr, 4, none⟩) (Kd.zW (p := ⟨gr, 3, none⟩) (Kd.zW (p := ⟨gr, 2, none⟩) (Kd.zW (p := ⟨gr, 1, none⟩) (Kd.zW (p := ⟨gr, 0, none⟩) (Kd.qg HR2.out BR.out (by decide)) (fun _ hk => hk.2) (.string name)) (fun _ hk => hk.2) (.bool false)) (fun _ hk => hk.2) (.int .i64 space)) (fun _ hk => hk.2) (.slice Au nu cu)) (fun _ hk => hk.2) (.slice none 0 0)) (fun _ hk => hk.2) (.slice none 0 0)) (fun _ _ => trivial)
   have zM := (Yd (i := 5) (Yd (i := 4) (Yd (i := 3) (Yd (i := 2) (Yd (i := 1) (Yd (i := 0) HG2.out Kr.out (.string name)) Kr.out (.bool false)) Kr.out (.int .i64 space)) Kr.out (.slice Au nu cu)) Kr.out (.slice none 0 0)) Kr.out (.slice none 0 0))
   have zT := (Below.setCell (p := ⟨gr, 5, none⟩) (Below.setCell (p := ⟨gr, 4, none⟩) (Below.setCell (p := ⟨gr, 3, none⟩) (Below.setCell (p := ⟨gr, 2, none⟩) (Below.setCell (p := ⟨gr, 1, none⟩) (Below.setCell (p := ⟨gr, 0, none⟩) HB2.out (Nat.le_trans hb0 Kr.out) (.string name)) (Nat.le_trans hb0 Kr.out) (.bool false)) (Nat.le_trans hb0 Kr.out) (.int .i64 space)) (Nat.le_trans hb0 Kr.out) (.slice Au nu cu)) (Nat.le_trans hb0 Kr.out) (.slice none 0 0)) (Nat.le_trans hb0 Kr.out) (.slice none 0 0))
   clear zKr zKs zKt zKu zKA zKB zcs zct zcu zcA zcB zcC zcD zcE zcF zcG zcH zcI
   generalize ((((((w2.setCell ⟨gr, 0, none⟩ (.string name)).setCell ⟨gr, 1, none⟩ (.bool false)).setCell ⟨gr, 2, none⟩ (.int .i64 space)).setCell ⟨gr, 3, none⟩ (.slice Au nu cu)).setCell ⟨gr, 4, none⟩ (.slice none 0 0)).setCell ⟨gr, 5, none⟩ (.slice none 0 0)) = w5 at zl zC zM zT ⊢
   refine bodyPost_ret (results_cell_row rfl _ _ gr 26 #[.string name, .bool false, .int .i64 space, .slice Au nu cu, .slice none 0 0, .slice none 0 0] (0, 0) _ rfl zl Tryz.underlying26 rfl (by kernel_rfl)) rfl ?_
   exact ⟨_, rfl, zC, zT, zM, HAc.out⟩
end Go.Proofs.YtaifemkokfoadaaGreatDoor
namespace Go.Proofs.YtaifemkokfoadaaGreatDoor
open Go.RowKit Go.Shelf
def KP (l : List UInt8) (c : UInt8) : Bool := decide (0 ≤ Lib.indexByte l c)
def Qa (c : UInt8) : Int :=
 if (KP [105, 106, 108, 116, 102, 46, 44, 58, 59, 39, 124, 33] c || (c.toNat : Int) == 96) = true then 250
 else if KP [40, 41, 91, 93, 123, 125, 45, 114, 115, 47, 92, 34] c = true then 350
 else if KP [109, 119] c = true then 750
 else if KP [77, 87, 64, 37] c = true then 900
 else if (decide (65 ≤ (c.toNat : Int)) && decide ((c.toNat : Int) ≤ 90)) = true then 650 else 500
set_option maxRecDepth 100000 in
theorem Jc (s : ByteArray) (c : UInt8) (B : Nat) (w : World) (hc : w.cell? ⟨B, 0, none⟩ = some (.int .u8 c.toNat)) :
  Calls Tryz.prog 91 #[.string s, .pointer (some ⟨B, 0, none⟩)] w fun e w' => e = .returned (.bool (KP s.data.toList c)) ∧ w' = w := by
 have hi := Tryz.strings_IndexByte s (c.toNat : Int) w
 have hc8 : ((c.toNat : Int).toNat.toUInt8) = c := by rw [Int.toNat_natCast]; exact UInt8.ofNat_toNat
 rw [hc8] at hi
 have hx : KP s.data.toList c = decide (0 ≤ Lib.indexByte s.data.toList c) := rfl
 generalize Lib.indexByte s.data.toList c = ix at hi hx
 generalize KP s.data.toList c = b at hx ⊢
 subst hx
 clear hc8
 go_enter Tryz.func91, Tryz.ntmps91
 go_wp2_with (go_at_call 92; refine hi.mono ?_; rintro e w2 ⟨rfl, rfl⟩)
 go_ret
 exact ⟨rfl, rfl⟩
set_option maxRecDepth 100000 in
set_option maxHeartbeats 1000000 in
theorem zwN (c : UInt8) (w : World) :
  Calls Tryz.prog 30 #[.int .u8 c.toNat] w fun e w' => e = .returned (.int .i64 (Qa c)) ∧ Below w.heap.size w w' := by
 have hb0 : Below w.heap.size w (w.alloc (.cells #[.int .u8 c.toNat] 5)) := (Below.refl _ w).alloc (Nat.le_refl _) _
 have hcell : (w.alloc (.cells #[.int .u8 c.toNat] 5)).cell? ⟨w.heap.size, 0, none⟩ = some (.int .u8 c.toNat) := by simp
 have h1 := Jc ⟨#[105, 106, 108, 116, 102, 46, 44, 58, 59, 39, 124, 33]⟩ c w.heap.size _ hcell
 have h2 := Jc ⟨#[40, 41, 91, 93, 123, 125, 45, 114, 115, 47, 92, 34]⟩ c w.heap.size _ hcell
 have h3 := Jc ⟨#[109, 119]⟩ c w.heap.size _ hcell
 have h4 := Jc ⟨#[77, 87, 64, 37]⟩ c w.heap.size _ hcell
 have hv : Qa c = if (KP (⟨#[105, 106, 108, 116, 102, 46, 44, 58, 59, 39, 124, 33]⟩ : ByteArray).data.toList c || (c.toNat : Int) == 96) = true then 250
  else if KP (⟨#[40, 41, 91, 93, 123, 125, 45, 114, 115, 47, 92, 34]⟩ : ByteArray).data.toList c = true then 350
  else if KP (⟨#[109, 119]⟩ : ByteArray).data.toList c = true then 750
  else if KP (⟨#[77, 87, 64, 37]⟩ : ByteArray).data.toList c = true then 900
  else if (decide (65 ≤ (c.toNat : Int)) && decide ((c.toNat : Int) ≤ 90)) = true then 650 else 500 := rfl
 rw [hv]
 clear hv
 generalize KP (⟨#[105, 106, 108, 116, 102, 46, 44, 58, 59, 39, 124, 33]⟩ : ByteArray).data.toList c = b1 at h1 ⊢
 generalize KP (⟨#[40, 41, 91, 93, 123, 125, 45, 114, 115, 47, 92, 34]⟩ : ByteArray).data.toList c = b2 at h2 ⊢
 generalize KP (⟨#[109, 119]⟩ : ByteArray).data.toList c = b3 at h3 ⊢
 generalize KP (⟨#[77, 87, 64, 37]⟩ : ByteArray).data.toList c = b4 at h4 ⊢
 have hx0 := c.toNat_lt
 generalize (c.toNat : Int) = x at hb0 hcell h1 h2 h3 h4 ⊢
 generalize h96 : (x == 96) = b96
 generalize h65 : decide (65 ≤ x) = b65
 generalize h90 : decide (x ≤ 90) = b90
 cases b1 with
 | true =>
  go_enter Tryz.func30, Tryz.ntmps30
  go_wp2_with (first
   | (go_at_call 91; ((with_reducible refine h1.mono ?_); rintro e w2 ⟨rfl, rfl⟩))
   | (go_at_call 91; ((with_reducible refine h2.mono ?_); rintro e w2 ⟨rfl, rfl⟩))
   | (go_at_call 91; ((with_reducible refine h3.mono ?_); rintro e w2 ⟨rfl, rfl⟩))
   | (go_at_call 91; ((with_reducible refine h4.mono ?_); rintro e w2 ⟨rfl, rfl⟩)))
  go_ret
  exact ⟨rfl, hb0⟩
 | false =>
  cases b96 with
  | true =>
   go_enter Tryz.func30, Tryz.ntmps30
   go_wp2_with (first
    | (go_at_call 91; ((with_reducible refine h1.mono ?_); rintro e w2 ⟨rfl, rfl⟩))
    | (go_at_call 91; ((with_reducible refine h2.mono ?_); rintro e w2 ⟨rfl, rfl⟩))
    | (go_at_call 91; ((with_reducible refine h3.mono ?_); rintro e w2 ⟨rfl, rfl⟩))
    | (go_at_call 91; ((with_reducible refine h4.mono ?_); rintro e w2 ⟨rfl, rfl⟩)))
   go_ret
   exact ⟨rfl, hb0⟩
  | false =>
   cases b2 with
   | true =>
    go_enter Tryz.func30, Tryz.ntmps30
    go_wp2_with (first
     | (go_at_call 91; ((with_reducible refine h1.mono ?_); rintro e w2 ⟨rfl, rfl⟩))
     | (go_at_call 91; ((with_reducible refine h2.mono ?_); rintro e w2 ⟨rfl, rfl⟩))
     | (go_at_call 91; ((with_reducible refine h3.mono ?_); rintro e w2 ⟨rfl, rfl⟩))
     | (go_at_call 91; ((with_reducible refine h4.mono ?_); rintro e w2 ⟨rfl, rfl⟩)))
    go_ret
    exact ⟨rfl, hb0⟩
   | false =>
    cases b3 with
    | true =>
     go_enter Tryz.func30, Tryz.ntmps30
     go_wp2_with (first
      | (go_at_call 91; ((with_reducible refine h1.mono ?_); rintro e w2 ⟨rfl, rfl⟩))
      | (go_at_call 91; ((with_reducible refine h2.mono ?_); rintro e w2 ⟨rfl, rfl⟩))
      | (go_at_call 91; ((with_reducible refine h3.mono ?_); rintro e w2 ⟨rfl, rfl⟩))
      | (go_at_call 91; ((with_reducible refine h4.mono ?_); rintro e w2 ⟨rfl, rfl⟩)))
     go_ret
     exact ⟨rfl, hb0⟩
    | false =>
     cases b4 with
     | true =>
      go_enter Tryz.func30, Tryz.ntmps30
      go_wp2_with (first
       | (go_at_call 91; ((with_reducible refine h1.mono ?_); rintro e w2 ⟨rfl, rfl⟩))
       | (go_at_call 91; ((with_reducible refine h2.mono ?_); rintro e w2 ⟨rfl, rfl⟩))
       | (go_at_call 91; ((with_reducible refine h3.mono ?_); rintro e w2 ⟨rfl, rfl⟩))
       | (go_at_call 91; ((with_reducible refine h4.mono ?_); rintro e w2 ⟨rfl, rfl⟩)))
      go_ret
      exact ⟨rfl, hb0⟩
     | false =>
      cases b65 with
      | false =>
       go_enter Tryz.func30, Tryz.ntmps30
       go_wp2_with (first
        | (go_at_call 91; ((with_reducible refine h1.mono ?_); rintro e w2 ⟨rfl, rfl⟩))
        | (go_at_call 91; ((with_reducible refine h2.mono ?_); rintro e w2 ⟨rfl, rfl⟩))
        | (go_at_call 91; ((with_reducible refine h3.mono ?_); rintro e w2 ⟨rfl, rfl⟩))
        | (go_at_call 91; ((with_reducible refine h4.mono ?_); rintro e w2 ⟨rfl, rfl⟩)))
       go_ret
       exact ⟨rfl, hb0⟩
      | true =>
       cases b90 with
       | false =>
        go_enter Tryz.func30, Tryz.ntmps30
        go_wp2_with (first
         | (go_at_call 91; ((with_reducible refine h1.mono ?_); rintro e w2 ⟨rfl, rfl⟩))
         | (go_at_call 91; ((with_reducible refine h2.mono ?_); rintro e w2 ⟨rfl, rfl⟩))
         | (go_at_call 91; ((with_reducible refine h3.mono ?_); rintro e w2 ⟨rfl, rfl⟩))
         | (go_at_call 91; ((with_reducible refine h4.mono ?_); rintro e w2 ⟨rfl, rfl⟩)))
        go_ret
        exact ⟨rfl, hb0⟩
       | true =>
        go_enter Tryz.func30, Tryz.ntmps30
        go_wp2_with (first
         | (go_at_call 91; ((with_reducible refine h1.mono ?_); rintro e w2 ⟨rfl, rfl⟩))
         | (go_at_call 91; ((with_reducible refine h2.mono ?_); rintro e w2 ⟨rfl, rfl⟩))
         | (go_at_call 91; ((with_reducible refine h3.mono ?_); rintro e w2 ⟨rfl, rfl⟩))
         | (go_at_call 91; ((with_reducible refine h4.mono ?_); rintro e w2 ⟨rfl, rfl⟩)))
        go_ret
        exact ⟨rfl, hb0⟩
end Go.Proofs.YtaifemkokfoadaaGreatDoor
namespace Go.Proofs.YtaifemkokfoadaaGreatDoor
open Go.RowKit Go.Shelf Go.Proofs.zy.zK Go.Proofs.zy.yt Go.Proofs.zy.yV Go.Proofs.YtaifemkokfoadaaGreatDoor.PX
set_option linter.unusedSimpArgs false
def kG (s : ByteArray) : Int × Bool := if 6 < s.size then (0, false) else (av s.data.toList, mq s.data.toList)
def number.T4 : Bool × List (List Nat × List Nat) := (true, [([], []), ([], []), ([1], [1]), ([0, 0], [0]), ([2, 3, 0, 1, 2, 3], [2])])
theorem number.zKG : uz .any (opsOf Tryz.f36 4) = number.T4 := by kernel_rfl
set_option maxRecDepth 100000 in
theorem J2 (s : ByteArray) (w : World) (hs : s.size ≤ 140737488355328) (hG : GW w) :
  Calls Tryz.prog 36 #[.string s] w fun e w' => e = .returned (.tuple #[.int .i64 (kG s).1, .bool (kG s).2]) ∧ Below w.heap.size w w' := by
 unfold kG
 by_cases h6 : 6 < s.size
 ·rw [if_pos h6]
  have q1 : decide ((6 : Int) < (s.size : Int)) = true := decide_eq_true (by omega)
  go_enter Tryz.func36, Tryz.ntmps36
  go_wp2
  go_ret2
  exact ⟨rfl, Below.refl _ _⟩
 ·rw [if_neg h6]
  have q1 : decide ((6 : Int) < (s.size : Int)) = false := decide_eq_false (by omega)
  have ha := zZs s w hs hG
  generalize av s.data.toList = N at ha ⊢
  generalize mq s.data.toList = B at ha ⊢
  cases B with
  | true =>
   go_enter Tryz.func36, Tryz.ntmps36
   go_wp2_with fail
   refine ha.mono ?_; rintro e w2 ⟨ev, rfl, h1, _, hb⟩
   obtain rfl := h1 (by simp)
   clear ha h1
   go_wp2
   refine wW (n := 5) (S := fun _ => True) (ds := []) #[false, false, false, false, false] (by kernel_rfl) rfl rfl trivial (fun hHeld => ?_)
   refine gT number.zKG (fun yY => ?_)
   refine vw (i := 0) (N := some 14) (v := ?_) (a' := ?_) #[true, false, false, false, false] rfl rfl (xk yY.out (by kernel_rfl)) (fun _ _ _ h => h) (Or.inl ⟨by rfl, ?_⟩) ?_ ?_
   rotate_left
   ·intro w'
    go_simp
    with_reducible rfl
   rotate_left
   ·simp only [Act.put, List.setIfInBounds_toArray, List.set_cons_zero, List.set_cons_succ]
    rfl
   refine vw (i := 1) (N := some 15) (v := ?_) (a' := ?_) #[true, true, false, false, false] rfl rfl (xk yY.out (by kernel_rfl)) (fun _ _ _ h => h) (Or.inl ⟨by rfl, ?_⟩) ?_ ?_
   rotate_left
   ·intro w'
    go_simp
    with_reducible rfl
   rotate_left
   ·simp only [Act.put, List.setIfInBounds_toArray, List.set_cons_zero, List.set_cons_succ]
    rfl
   refine vw (i := 2) (N := some 16) (v := ?_) (a' := ?_) #[true, true, true, false, false] rfl rfl (xk yY.out (by kernel_rfl)) (fun _ _ _ h => h) (Or.inl ⟨by rfl, ?_⟩) ?_ ?_
   rotate_left
   ·intro w'
    go_simp
    with_reducible rfl
   rotate_left
   ·simp only [Act.put, List.setIfInBounds_toArray, List.set_cons_zero, List.set_cons_succ]
    rfl
   refine vw (i := 3) (N := some 2) (v := ?_) (a' := ?_) #[true, true, true, true, false] rfl rfl (xk yY.out (by kernel_rfl)) (fun _ _ _ h => h) (Or.inl ⟨by rfl, ?_⟩) ?_ ?_
   rotate_left
   ·intro w'
    go_simp
    with_reducible rfl
   rotate_left
   ·simp only [Act.put, List.setIfInBounds_toArray, List.set_cons_zero, List.set_cons_succ]
    rfl
   refine vw (i := 4) (N := some 3) (v := ?_) (a' := ?_) #[true, true, true, true, true] rfl rfl (xk yY.out (by kernel_rfl)) (fun _ _ _ h => h) (Or.inl ⟨by rfl, ?_⟩) ?_ ?_
   rotate_left
   ·intro w'
    go_simp
    with_reducible rfl
   rotate_left
   ·simp only [Act.put, List.setIfInBounds_toArray, List.set_cons_zero, List.set_cons_succ]
    rfl
   clear hHeld
   refine uh (vC yY.out (by kernel_rfl)) ?_
   go_wp2
   go_ret2
   exact ⟨rfl, hb.drew⟩
  | false =>
   go_enter Tryz.func36, Tryz.ntmps36
   go_wp2_with fail
   refine ha.mono ?_; rintro e w2 ⟨ev, rfl, _, h1, hb⟩
   obtain ⟨te, pe, rfl⟩ := h1 (by simp)
   clear ha h1
   go_wp2
   refine wW (n := 5) (S := fun _ => True) (ds := []) #[false, false, false, false, false] (by kernel_rfl) rfl rfl trivial (fun hHeld => ?_)
   refine gT number.zKG (fun yY => ?_)
   refine vw (i := 0) (N := some 14) (v := ?_) (a' := ?_) #[true, false, false, false, false] rfl rfl (xk yY.out (by kernel_rfl)) (fun _ _ _ h => h) (Or.inl ⟨by rfl, ?_⟩) ?_ ?_
   rotate_left
   ·intro w'
    go_simp
    with_reducible rfl
   rotate_left
   ·simp only [Act.put, List.setIfInBounds_toArray, List.set_cons_zero, List.set_cons_succ]
    rfl
   refine vw (i := 1) (N := some 15) (v := ?_) (a' := ?_) #[true, true, false, false, false] rfl rfl (xk yY.out (by kernel_rfl)) (fun _ _ _ h => h) (Or.inl ⟨by rfl, ?_⟩) ?_ ?_
   rotate_left
   ·intro w'
    go_simp
    with_reducible rfl
   rotate_left
   ·simp only [Act.put, List.setIfInBounds_toArray, List.set_cons_zero, List.set_cons_succ]
    rfl
   refine vw (i := 2) (N := some 16) (v := ?_) (a' := ?_) #[true, true, true, false, false] rfl rfl (xk yY.out (by kernel_rfl)) (fun _ _ _ h => h) (Or.inl ⟨by rfl, ?_⟩) ?_ ?_
   rotate_left
   ·intro w'
    go_simp
    with_reducible rfl
   rotate_left
   ·simp only [Act.put, List.setIfInBounds_toArray, List.set_cons_zero, List.set_cons_succ]
    rfl
   refine vw (i := 3) (N := some 2) (v := ?_) (a' := ?_) #[true, true, true, true, false] rfl rfl (xk yY.out (by kernel_rfl)) (fun _ _ _ h => h) (Or.inl ⟨by rfl, ?_⟩) ?_ ?_
   rotate_left
   ·intro w'
    go_simp
    with_reducible rfl
   rotate_left
   ·simp only [Act.put, List.setIfInBounds_toArray, List.set_cons_zero, List.set_cons_succ]
    rfl
   refine vw (i := 4) (N := some 3) (v := ?_) (a' := ?_) #[true, true, true, true, true] rfl rfl (xk yY.out (by kernel_rfl)) (fun _ _ _ h => h) (Or.inl ⟨by rfl, ?_⟩) ?_ ?_
   rotate_left
   ·intro w'
    go_simp
    with_reducible rfl
   rotate_left
   ·simp only [Act.put, List.setIfInBounds_toArray, List.set_cons_zero, List.set_cons_succ]
    rfl
   clear hHeld
   refine uh (vC yY.out (by kernel_rfl)) ?_
   go_wp2
   go_ret2
   exact ⟨rfl, hb.drew⟩
theorem u8n (c : Nat) (h : c ≤ 126) : ((UInt8.ofNat c).toNat : Int) = c := by
 have : (UInt8.ofNat c).toNat = c := by simp; omega
 rw [this]
def wdR (c : Nat) : Int := Qa (UInt8.ofNat c)
def wdI (c : Nat) : Int := max 0 (Qa (UInt8.ofNat c) - 20)
def wdB (c : Nat) : Int := Qa (UInt8.ofNat c) + 50
def wdM (_ : Nat) : Int := 600
theorem rF (c : UInt8) : 0 ≤ Qa c ∧ Qa c ≤ 900 := by unfold Qa; repeat' split <;> try omega
theorem zzS (c : Nat) (W : World) (_ : 33 ≤ c) (h : c ≤ 126) : Calls Tryz.prog 30 #[.int .u8 (c : Int)] W fun e w' => e = .returned (.int .i64 (wdR c)) ∧ Below W.heap.size W w' := by
 have h := zwN (UInt8.ofNat c) W
 rw [u8n c (by assumption)] at h
 exact h
set_option maxRecDepth 100000 in
theorem zJs (c : Nat) (W : World) (h0 : 33 ≤ c) (h : c ≤ 126) : Calls Tryz.prog 32 #[.int .u8 (c : Int)] W fun e w' => e = .returned (.int .i64 (wdI c)) ∧ Below W.heap.size W w' := by
 have hr := zzS c W h0 h
 have hv := rF (UInt8.ofNat c)
 unfold wdI
 unfold wdR at hr
 generalize Qa (UInt8.ofNat c) = v at hr hv ⊢
 go_enter Tryz.func32, Tryz.ntmps32
 have e1 : IntKind.i64.wrap (v - 20) = v - 20 := IntWalk.i64_in _ (by omega)
 go_wp2_with (go_at_call 30; refine hr.mono ?_; rintro e w2 ⟨rfl, hb2⟩)
 go_ret
 exact ⟨by first | rfl | (simp; done) | (simp [Int.max_def]; done), hb2⟩
set_option maxRecDepth 100000 in
theorem zJt (c : Nat) (W : World) (h0 : 33 ≤ c) (h : c ≤ 126) : Calls Tryz.prog 33 #[.int .u8 (c : Int)] W fun e w' => e = .returned (.int .i64 (wdB c)) ∧ Below W.heap.size W w' := by
 have hr := zzS c W h0 h
 have hv := rF (UInt8.ofNat c)
 unfold wdB
 unfold wdR at hr
 generalize Qa (UInt8.ofNat c) = v at hr hv ⊢
 have e1 : IntKind.i64.wrap (v + 50) = v + 50 := IntWalk.i64_in _ (by omega)
 go_enter Tryz.func33, Tryz.ntmps33
 go_wp2_with (go_at_call 30; refine hr.mono ?_; rintro e w2 ⟨rfl, hb2⟩)
 go_ret
 exact ⟨by first | rfl | (rw [e1]; done), hb2⟩
theorem zJu (c : Nat) (W : World) (_ : 33 ≤ c) (_ : c ≤ 126) : Calls Tryz.prog 34 #[.int .u8 (c : Int)] W fun e w' => e = .returned (.int .i64 (wdM c)) ∧ Below W.heap.size W w' := by
 unfold wdM
 go_enter Tryz.func34, Tryz.ntmps34
 go_wp2
 go_ret
 exact ⟨rfl, Below.refl _ _⟩
end Go.Proofs.YtaifemkokfoadaaGreatDoor
namespace Go.Proofs.YtaifemkokfoadaaGreatDoor
open Go.RowKit Go.Shelf Go.Proofs.zy.zK Go.Proofs.zy.yV Go.Proofs.YtaifemkokfoadaaGreatDoor.PX
def VD (wd : Nat → Int) (a n : Nat) : List qB := (List.range n).map fun i => ⟨chr (a + i), wd (a + i)⟩
def bFi : ByteArray := ⟨#[102, 105]⟩
def bFl : ByteArray := ⟨#[102, 108]⟩
def bFf : ByteArray := ⟨#[102, 102]⟩
def Zi (x : Int) : List qB := [⟨bFi, x⟩, ⟨bFl, x⟩, ⟨bFf, x⟩]
def KR (wd : Nat → Int) (x : Int) : List qB := VD wd 33 70 ++ ([⟨bFf, x⟩, ⟨bFi, x⟩, ⟨bFl, x⟩] ++ VD wd 103 24)
theorem zZR (wd : Nat → Int) : Zg wd 127 = VD wd 33 70 ++ VD wd 103 24 := by
 have e0 : List.range (127 - 33) = List.range 70 ++ (List.range 24).map (70 + ·) := List.range_add (n := 70) (m := 24)
 have e1 : ((List.range 24).map (70 + ·)).map (fun i => (⟨chr (33 + i), wd (33 + i)⟩ : qB)) = VD wd 103 24 := by
  rw [List.map_map]
  apply List.map_congr_left
  intro i _
  show (⟨chr (33 + (70 + i)), wd (33 + (70 + i))⟩ : qB) = ⟨chr (103 + i), wd (103 + i)⟩
  rw [show 33 + (70 + i) = 103 + i by omega]
 unfold Zg
 rw [e0, List.map_append, e1]
 unfold VD
 exact rfl
theorem zj0 (wd : Nat → Int) (x : Int) : (KR wd x).Perm (Zi x ++ Zg wd 127) := by
 rw [zZR]
 unfold KR Zi
 have h1 : ([⟨bFf, x⟩, ⟨bFi, x⟩, ⟨bFl, x⟩] : List qB).Perm [⟨bFi, x⟩, ⟨bFl, x⟩, ⟨bFf, x⟩] := by
  refine (List.Perm.swap _ _ _).trans ?_
  exact List.Perm.cons _ (List.Perm.swap _ _ _)
 generalize VD wd 33 70 = A
 generalize VD wd 103 24 = B
 refine (List.Perm.append_left A (List.Perm.append_right B h1)).trans ?_
 rw [← List.append_assoc, ← List.append_assoc]
 exact List.Perm.append_right B List.perm_append_comm
def Kv (n : Nat) : List ByteArray := if n = 0 then (List.range 94).map (fun i => chr (33 + i)) else (List.range 70).map (fun i => chr (33 + i)) ++ ([bFf, bFi, bFl] ++ (List.range 24).map (fun i => chr (103 + i)))
theorem zk5 : (Kv 0).Pairwise fun a b => uX a b < 0 := by decide +kernel
theorem zk6 : (Kv 1).Pairwise fun a b => uX a b < 0 := by decide +kernel
theorem zwO (wd : Nat → Int) (x : Int) : (KR wd x).Pairwise fun a b => uX a.f0 b.f0 < 0 := by
 have h : ((KR wd x).map (·.f0)) = Kv 1 := by
  simp [KR, Kv, VD, List.map_map, Function.comp_def]
 have h2 := zk6
 rw [← h, List.pairwise_map] at h2
 exact h2
theorem zwP (wd : Nat → Int) : (Zg wd 127).Pairwise fun a b => uX a.f0 b.f0 < 0 := by
 have h : ((Zg wd 127).map (·.f0)) = Kv 0 := by
  simp [Zg, Kv, List.map_map, Function.comp_def]
 have h2 := zk5
 rw [← h, List.pairwise_map] at h2
 exact h2
end Go.Proofs.YtaifemkokfoadaaGreatDoor
namespace Go.Proofs.YtaifemkokfoadaaGreatDoor
open Go.RowKit Go.Shelf Go.Proofs.zy.zK Go.Proofs.zy.yt Go.Proofs.zy.yV Go.Proofs.YtaifemkokfoadaaGreatDoor.PX
set_option linter.unusedSimpArgs false
set_option linter.unusedVariables false
abbrev ak : ByteArray := ⟨(([33, 61, 32, 54, 48, 48, 32, 42, 97, 32, 53, 53, 48, 32, 42, 98, 32, 53, 53, 48, 32, 42, 100, 32, 53, 48, 48, 32, 42, 103, 32, 53, 48, 48, 32, 42, 108, 32, 53, 53, 48, 32, 42, 112, 32, 54, 48, 48, 32, 42, 115, 32, 54, 48, 48, 32, 42, 119, 32, 55, 48].append [48, 32, 45, 62, 32, 49, 48, 48, 48, 32, 60, 45, 32, 49, 48, 48, 48, 32, 60, 61, 32, 54, 48, 48, 32, 62, 61, 32, 54, 48, 48, 32, 98, 114, 32, 49, 48, 32, 98, 117, 32, 52, 54, 48, 32, 99, 111, 32, 56, 48, 48, 32, 100, 103, 32, 53, 48, 48, 32, 100, 105, 32]).append ([54, 48, 48, 32, 101, 109, 32, 49, 48, 48, 48, 32, 101, 110, 32, 53, 48, 48, 32, 101, 113, 32, 54, 48, 48, 32, 104, 121, 32, 51, 53, 48, 32, 105, 102, 32, 55, 48, 48, 32, 105, 115, 32, 52, 48, 48, 32, 109, 105, 32, 54, 48, 48, 32, 109, 117, 32, 54, 48, 48, 32, 112].append [100, 32, 55, 48, 48, 32, 112, 108, 32, 54, 48, 48, 32, 114, 104, 32, 49, 48, 48, 48, 32, 114, 117, 32, 53, 48, 48, 32, 115, 99, 32, 53, 48, 48, 32, 115, 113, 32, 54, 48, 48, 32, 115, 114, 32, 53, 48, 48, 32, 115, 117, 32, 55, 48, 48, 32, 117, 108, 32, 53, 48, 48])).toArray⟩
def lW : List (List UInt8) := Lib.fields ak.data.toList
theorem zxr : lW.length = 70 := by decide +kernel
theorem zk7 : ∀ x ∈ lW, x.length ≤ 6 := by decide +kernel
theorem zjs : ∀ (j : Nat) (b : UInt8), ak.data.toList[j]? = some b → b.toNat < 128 := by
 have h : ∀ b ∈ ak.data.toList, b.toNat < 128 := by decide +kernel
 intro j b hj
 exact h b (List.mem_of_getElem? hj)
theorem zxs (x : Int) (W : World) (b : Nat) (ok : Nat → Prop) : vV (jB.M W b ok) jB.sz (Zi x) [.string (⟨#[102, 105]⟩ : ByteArray), .int .i64 x, .string (⟨#[102, 108]⟩ : ByteArray), .int .i64 x, .string (⟨#[102, 102]⟩ : ByteArray), .int .i64 x] := by
 have h : ∀ (j : Nat) (p : qB), (Zi x)[j]? = some p → jB.M W b ok p (([.string (⟨#[102, 105]⟩ : ByteArray), .int .i64 x, .string (⟨#[102, 108]⟩ : ByteArray), .int .i64 x, .string (⟨#[102, 102]⟩ : ByteArray), .int .i64 x].drop (j * 2)).take 2) := by
  intro j p hj
  rcases j with _ | _ | _ | j
  ·obtain rfl := Option.some.inj hj
   exact V8 W b ok ⟨bFi, x⟩
  ·obtain rfl := Option.some.inj hj
   exact V8 W b ok ⟨bFl, x⟩
  ·obtain rfl := Option.some.inj hj
   exact V8 W b ok ⟨bFf, x⟩
  ·simp [Zi] at hj
 exact ⟨rfl, h⟩
def ay : List xC := [⟨⟨#[102]⟩, ⟨#[102]⟩, ⟨#[102, 102]⟩⟩, ⟨⟨#[102]⟩, ⟨#[105]⟩, ⟨#[102, 105]⟩⟩, ⟨⟨#[102]⟩, ⟨#[108]⟩, ⟨#[102, 108]⟩⟩]
def KS : List xS := [(⟨(⟨#[65]⟩ : ByteArray), (⟨#[86]⟩ : ByteArray), (-80)⟩ : xS), (⟨(⟨#[65]⟩ : ByteArray), (⟨#[87]⟩ : ByteArray), (-60)⟩ : xS), (⟨(⟨#[84]⟩ : ByteArray), (⟨#[111]⟩ : ByteArray), (-70)⟩ : xS), (⟨(⟨#[86]⟩ : ByteArray), (⟨#[65]⟩ : ByteArray), (-80)⟩ : xS), (⟨(⟨#[89]⟩ : ByteArray), (⟨#[111]⟩ : ByteArray), (-90)⟩ : xS)]
def FB (W : World) (lo hi g : Nat) (x : Qx) : Prop :=
 ∃ v3 v4 v5, W.heap[g]? = some (.cells #[.string x.f0, .bool x.f1, .int .i64 x.f2, v3, v4, v5] 26 (0, 0)) ∧ lo ≤ g ∧ g < hi ∧ Kd.R jB 31 W lo (fun k => lo ≤ k ∧ k < hi) v3 x.f3 ∧
  Kd.R kS 86 W lo (fun k => lo ≤ k ∧ k < hi) v4 x.f4 ∧ Kd.R kU 76 W lo (fun k => lo ≤ k ∧ k < hi) v5 x.f5
theorem oM {α : Type} {d : Kd α} {e lo hi : Nat} {W W' : World} {v : Value} {xs : List α} (h : d.R e W lo (fun k => lo ≤ k ∧ k < hi) v xs) (hb : Below hi W W') : d.R e W' lo (fun k => lo ≤ k ∧ k < hi) v xs :=
 Kd.Pb h (fun k hk _ => hb.block k hk.2)
theorem zZS {α : Type} {d : Kd α} {e lo : Nat} {W : World} {v : Value} {xs : List α} (h : d.R e W lo (fun _ => True) v xs) : d.R e W lo (fun k => lo ≤ k ∧ k < W.heap.size) v xs :=
 Kd.yh (Kd.jg h) (fun k hk => ⟨hk.2.1, hk.2.2.1⟩)
theorem FB.keep {W W' : World} {lo hi g : Nat} {x : Qx} (h : FB W lo hi g x) (hb : Below hi W W') : FB W' lo hi g x := by
 obtain ⟨v3, v4, v5, h1, h2, h3, h4, h5, h6⟩ := h
 exact ⟨v3, v4, v5, (hb.block g h3).trans h1, h2, h3, oM h4 hb, oM h5 hb, oM h6 hb⟩
theorem FB.mk {W : World} {lo g : Nat} (x : Qx) {v3 v4 v5 : Value} (h1 : W.heap[g]? = some (.cells #[.string x.f0, .bool x.f1, .int .i64 x.f2, v3, v4, v5] 26 (0, 0))) (h2 : lo ≤ g) (h3 : Kd.R jB 31 W lo (fun _ => True) v3 x.f3)
  (h4 : Kd.R kS 86 W lo (fun _ => True) v4 x.f4) (h5 : Kd.R kU 76 W lo (fun _ => True) v5 x.f5) : FB W lo W.heap.size g x :=
 ⟨v3, v4, v5, h1, h2, uM h1, zZS h3, zZS h4, zZS h5⟩
def je : Qx := ⟨⟨#[82]⟩, false, 250, KR wdR 550, ay, KS⟩
def zXj : Qx := ⟨⟨#[73]⟩, false, 250, Zg wdI 127, [], []⟩
def zXv : Qx := ⟨⟨#[66]⟩, false, 250, KR wdB 600, ay, []⟩
def zXk : Qx := ⟨⟨#[77]⟩, false, 600, Zg wdM 127, [], []⟩
theorem zwR (W : World) (b : Nat) (ok : Nat → Prop) : vV (kU.M W b ok) kU.sz KS [.string (⟨#[65]⟩ : ByteArray), .string (⟨#[86]⟩ : ByteArray), .int .i64 (-80), .string (⟨#[65]⟩ : ByteArray), .string (⟨#[87]⟩ : ByteArray), .int .i64 (-60), .string (⟨#[84]⟩ : ByteArray), .string (⟨#[111]⟩ : ByteArray), .int .i64 (-70), .string (⟨#[86]⟩ : ByteArray), .string (⟨#[65]⟩ : ByteArray), .int .i64 (-80), .string (⟨#[89]⟩ : ByteArray), .string (⟨#[111]⟩ : ByteArray), .int .i64 (-90)] := by
 have h : ∀ (j : Nat) (p : xS), KS[j]? = some p → kU.M W b ok p ((([.string (⟨#[65]⟩ : ByteArray), .string (⟨#[86]⟩ : ByteArray), .int .i64 (-80), .string (⟨#[65]⟩ : ByteArray), .string (⟨#[87]⟩ : ByteArray), .int .i64 (-60), .string (⟨#[84]⟩ : ByteArray), .string (⟨#[111]⟩ : ByteArray), .int .i64 (-70), .string (⟨#[86]⟩ : ByteArray), .string (⟨#[65]⟩ : ByteArray), .int .i64 (-80), .string (⟨#[89]⟩ : ByteArray), .string (⟨#[111]⟩ : ByteArray), .int .i64 (-90)] : List Value).drop (j * 3)).take 3) := by
  intro j p hj
  rcases j with _ | _ | _ | _ | _ | j
  ·obtain rfl := Option.some.inj hj
   exact Kq W b ok (⟨(⟨#[65]⟩ : ByteArray), (⟨#[86]⟩ : ByteArray), (-80)⟩ : xS)
  ·obtain rfl := Option.some.inj hj
   exact Kq W b ok (⟨(⟨#[65]⟩ : ByteArray), (⟨#[87]⟩ : ByteArray), (-60)⟩ : xS)
  ·obtain rfl := Option.some.inj hj
   exact Kq W b ok (⟨(⟨#[84]⟩ : ByteArray), (⟨#[111]⟩ : ByteArray), (-70)⟩ : xS)
  ·obtain rfl := Option.some.inj hj
   exact Kq W b ok (⟨(⟨#[86]⟩ : ByteArray), (⟨#[65]⟩ : ByteArray), (-80)⟩ : xS)
  ·obtain rfl := Option.some.inj hj
   exact Kq W b ok (⟨(⟨#[89]⟩ : ByteArray), (⟨#[111]⟩ : ByteArray), (-90)⟩ : xS)
  ·simp [KS] at hj
 exact ⟨rfl, h⟩
theorem FB.cells {W : World} {lo hi g : Nat} {x : Qx} (h : FB W lo hi g x) : ∃ A3 n3 c3 A4 n4 c4 A5 n5 c5, W.heap[g]? = some (.cells #[.string x.f0, .bool x.f1, .int .i64 x.f2, .slice A3 n3 c3, .slice A4 n4 c4, .slice A5 n5 c5] 26 (0, 0)) ∧
  ∀ (W' : World) (base : Nat) (ok : Nat → Prop), Below W.heap.size W W' → base ≤ lo → (∀ k, lo ≤ k → k < hi → ok k) → k26.M W' base ok x [.string x.f0, .bool x.f1, .int .i64 x.f2, .slice A3 n3 c3, .slice A4 n4 c4, .slice A5 n5 c5] := by
 obtain ⟨v3, v4, v5, h1, h2, h3, h4, h5, h6⟩ := h
 obtain ⟨A3, c3, rfl⟩ := Kd.yA h4
 obtain ⟨A4, c4, rfl⟩ := Kd.yA h5
 obtain ⟨A5, c5, rfl⟩ := Kd.yA h6
 refine ⟨A3, _, c3, A4, _, c4, A5, _, c5, h1, fun W' base ok hb hl hok => ?_⟩
 exact zJm W' base ok x (Kd.yh (Kd.vB (Kd.zf h4 hb) hl) (fun k hk => hok k hk.1 hk.2)) (Kd.yh (Kd.vB (Kd.zf h5 hb) hl) (fun k hk => hok k hk.1 hk.2)) (Kd.yh (Kd.vB (Kd.zf h6 hb) hl) (fun k hk => hok k hk.1 hk.2))
theorem VE {W : World} {g : Nat} (h : W.heap[g]? = some (.cells #[.string (⟨#[]⟩ : ByteArray), .bool false, .int .i64 0, .slice none 0 0, .slice none 0 0, .slice none 0 0] 26 (0, 0))) (a : ByteArray) (b : Bool) (c : Int) (v3 v4 v5 : Value) :
  ((((((W.setCell ⟨g, 0, none⟩ (.string a)).setCell ⟨g, 1, none⟩ (.bool b)).setCell ⟨g, 2, none⟩ (.int .i64 c)).setCell ⟨g, 3, none⟩ v3).setCell ⟨g, 4, none⟩ v4).setCell ⟨g, 5, none⟩ v5).heap[g]? = some (.cells #[.string a, .bool b, .int .i64 c, v3, v4, v5] 26 (0, 0)) :=
 zi (zi (zi (zi (zi (zi (cs' := #[.string a, .bool false, .int .i64 0, .slice none 0 0, .slice none 0 0, .slice none 0 0]) h 0 _ rfl) (cs' := #[.string a, .bool b, .int .i64 0, .slice none 0 0, .slice none 0 0, .slice none 0 0]) 1 _ rfl)
  (cs' := #[.string a, .bool b, .int .i64 c, .slice none 0 0, .slice none 0 0, .slice none 0 0]) 2 _ rfl) (cs' := #[.string a, .bool b, .int .i64 c, v3, .slice none 0 0, .slice none 0 0]) 3 _ rfl) (cs' := #[.string a, .bool b, .int .i64 c, v3, v4, .slice none 0 0]) 4 _ rfl) 5 _ rfl
theorem Jm {W0 W : World} {B g : Nat} (h : Below B W0 W) (hg : B ≤ g) (u0 u1 u2 u3 u4 u5 : Value) :
  Below B W0 ((((((W.setCell ⟨g, 0, none⟩ u0).setCell ⟨g, 1, none⟩ u1).setCell ⟨g, 2, none⟩ u2).setCell ⟨g, 3, none⟩ u3).setCell ⟨g, 4, none⟩ u4).setCell ⟨g, 5, none⟩ u5) :=
 (((((h.setCell hg _).setCell hg _).setCell hg _).setCell hg _).setCell hg _).setCell hg _
def pX (j : Nat) : ByteArray := ⟨(lW.getD j []).toArray⟩
theorem zjt (j : Nat) : (pX j).size ≤ 6 := by
 show ((lW.getD j []).toArray).size ≤ 6
 rw [List.size_toArray, List.getD_eq_getElem?_getD]
 cases h : lW[j]? with
 | none => simp
 | some x => exact zk7 x (List.mem_of_getElem? h)
def mK (m : Nat) : List qB := (List.range m).map fun i => ⟨pX (2 * i), (kG (pX (2 * i + 1))).1⟩
theorem zwS (m : Nat) : mK (m + 1) = mK m ++ [⟨pX (2 * m), (kG (pX (2 * m + 1))).1⟩] := by unfold mK; rw [List.range_succ, List.map_append]; rfl
theorem zZT (m : Nat) : (mK m).length = m := by simp [mK]
def zXy : Qx := ⟨⟨#[83]⟩, true, 250, mK 35, [], []⟩
def QI : Array Value := (lW.map fun l => Value.string ⟨l.toArray⟩).toArray
theorem mY (j : Nat) (h : j < 70) : QI[j]? = some (.string (pX j)) := by
 have hl : j < lW.length := by rw [zxr]; exact h
 unfold QI pX
 simp [List.getD_eq_getElem?_getD, hl]
def zk8 : List Qx := [je, zXj, zXv, zXk, zXy]
def std.T14 : Bool × List (List Nat × List Nat) := (true, [([], []), ([0], [0]), ([], []), ([], []), ([2, 3], [2, 3]), ([4], [4]), ([], []), ([5, 6], [5, 6]), ([7], [7]), ([1, 8], [1, 8]), ([0, 1, 2, 3, 4, 5, 6, 7, 8, 9], []), ([10, 9, 9, 0, 1, 2, 3, 4, 5, 6, 7, 8, 9], [9, 10])])
theorem std.zWa : uz .any (opsOf Tryz.f13 14) = std.T14 := by kernel_rfl
def zcL (W4 : World) (g5 bw : Nat) (x : Value) (wr : World) : Prop :=
 ∃ (m k : Nat) (u : Value), x = .int .i64 (k : Int) ∧ k = 2 * m ∧ m ≤ 35 ∧ Kd.R jB 31 wr W4.heap.size (fun _ => True) u (mK m) ∧ wr.heap[g5]? = some (.cells #[.string (⟨#[83]⟩ : ByteArray), .bool true, .int .i64 250, u, .slice none 0 0, .slice none 0 0] 26 (0, 0)) ∧
  wr.heap[bw]? = some (.cells QI 9 (0, 0)) ∧ Below W4.heap.size W4 wr
set_option maxHeartbeats 8000000 in
set_option maxRecDepth 100000 in
theorem zJA (w : World) (hG : GW w) : Calls Tryz.prog 13 #[] w fun e w' => ∃ v : Value, e = .returned v ∧ Kd.S k26 26 w' w.heap.size (fun _ => True) v zk8 ∧ Below w.heap.size w w' := by
 have lX := Tryz.underlying26
 have HGW := zk.mk hG
 clear hG
 have zk9 := zk.mk (Below.refl w.heap.size w)
 generalize hW0 : w = rG at zk9 HGW
 go_enter Tryz.func13, Tryz.ntmps13
 go_wp2_with (first | ((with_reducible refine xI (N := 13) rfl ?_); refine Kd.gN jB rG.heap.size 31 ?hg (N := 13) ?hd (w0 := rG) (xs := (Zi 550)) (inner := [.string (⟨#[102, 105]⟩ : ByteArray), .int .i64 550, .string (⟨#[102, 108]⟩ : ByteArray), .int .i64 550, .string (⟨#[102, 102]⟩ : ByteArray), .int .i64 550]) (ok := fun _ => True) (Y2 := fun _ => True) ?hr ?hp (fun _ hk => hk) trivial zk9.out zk9.out.size (by simp [Zi]) ?_; (case hd => rfl); (case hg => rfl); (case hr => first | (go_simp; done) | (go_simp; rfl)); (case hp => exact zxs 550 _ _ _); intro u0 wl hol hbl hgl lg; have HL_ := zk.mk hol; have lu := zk.mk hbl; have zZU := zk.mk lg; clear hol hbl hgl lg zk9))
 refine (mV 30 _ Tryz.func30 (by kernel_rfl) rfl wdR zzS (⟨#[82]⟩ : ByteArray) 250 rG.heap.size u0 (Zi 550) (KR wdR 550) wl lu.out.size HL_.out (by simp [Zi]) (zj0 wdR 550) (zwO wdR 550)).mono ?_
 rintro e w1 ⟨v1, rfl, hr, hb, -, -⟩
 have HR1 := zk.mk hr
 have HB1 := zk.mk (lu.out.trans hb)
 clear hr hb HL_ lu zZU
 obtain ⟨A1, c1, e1⟩ := Kd.yA HR1.out
 generalize (KR wdR 550).length = n1 at e1
 subst e1
 go_wp2_with (first | ((with_reducible refine xI (N := 1) rfl ?_); refine vJ ?hg (N := 1) ?hd (cs := #[.string (⟨#[]⟩ : ByteArray), .bool false, .int .i64 0, .slice none 0 0, .slice none 0 0, .slice none 0 0]) (t := 26) ?hr ?_; (case hd => rfl); (case hg => rfl); (case hr => first | (go_simp; done) | (go_simp; rfl)); intro g1 Wi w2 hbx hbq; have Xk := zk.mk hbx; have zXw := zk.mk hbq; have zyz := zk.mk Wi; clear hbx hbq Wi; have zWb : w2.cell? ⟨g1, 0, none⟩ = some (.string (⟨#[]⟩ : ByteArray)) := (zx Xk.out 0).trans rfl; have zWc : w2.cell? ⟨g1, 1, none⟩ = some (.bool false) := (zx Xk.out 1).trans rfl; have zWd : w2.cell? ⟨g1, 2, none⟩ = some (.int .i64 0) := (zx Xk.out 2).trans rfl; have zWe : w2.cell? ⟨g1, 3, none⟩ = some (.slice none 0 0) := (zx Xk.out 3).trans rfl; have zWf : w2.cell? ⟨g1, 4, none⟩ = some (.slice none 0 0) := (zx Xk.out 4).trans rfl; have zWg : w2.cell? ⟨g1, 5, none⟩ = some (.slice none 0 0) := (zx Xk.out 5).trans rfl; have zWh := zw Xk.out 0; have zWi := zw Xk.out 1; have zWl := zw Xk.out 2; have zWm := zw Xk.out 3; have zWn := zw Xk.out 4; have zWo := zw Xk.out 5))
 have zl := zk.mk (VE Xk.out (⟨#[82]⟩ : ByteArray) false 250 (.slice A1 n1 c1) (.slice none 0 0) (.slice none 0 0))
 have zM := zk.mk (Jm (zXw.out) (Nat.le_of_eq zyz.out.symm) (.string (⟨#[82]⟩ : ByteArray)) (.bool false) (.int .i64 250) (.slice A1 n1 c1) (.slice none 0 0) (.slice none 0 0))
 have LG1 := zk.mk (Nat.le_trans HB1.out.size (Nat.le_of_eq zyz.out.symm))
 clear zWb zWc zWd zWe zWf zWg zWh zWi zWl zWm zWn zWo
 generalize ((((((w2.setCell ⟨g1, 0, none⟩ (.string (⟨#[82]⟩ : ByteArray))).setCell ⟨g1, 1, none⟩ (.bool false)).setCell ⟨g1, 2, none⟩ (.int .i64 250)).setCell ⟨g1, 3, none⟩ (.slice A1 n1 c1)).setCell ⟨g1, 4, none⟩ (.slice none 0 0)).setCell ⟨g1, 5, none⟩ (.slice none 0 0)) = w3 at zl zM ⊢
 have zC := zk.mk (Kd.zf HR1.out zM.out)
 have zT := zk.mk (HB1.out.trans (zM.out.mono HB1.out.size))
 clear HR1 HB1 Xk zXw zyz zM
 have Qb := zl
 have HR1 := zC
 have HB1 := zT
 clear zl zC zT
 refine (Xg.calls ay w3 rfl).mono ?_
 rintro e w4 ⟨v4, rfl, hr, hb⟩
 have zl := zk.mk (zo Qb.out hb)
 have zC := zk.mk (Kd.zf HR1.out hb)
 have zM := zk.mk (Kd.vB hr HB1.out.size)
 have zT := zk.mk (HB1.out.trans (hb.mono HB1.out.size))
 clear Qb HR1 HB1 hr hb
 have Qb := zl
 have HR1 := zC
 have iB := zM
 have HB1 := zT
 clear zl zC zM zT
 obtain ⟨A4, c4, e4⟩ := Kd.yA iB.out
 generalize ay.length = n4 at e4
 subst e4
 have hq4 : w4.cell? ⟨g1, 4, none⟩ = some (.slice none 0 0) := (zx Qb.out 4).trans rfl
 have zZ0 := zw Qb.out 4
 go_wp2_with (first | ((with_reducible refine xI (N := 22) rfl ?_); have zl := zk.mk (zi (cs' := #[.string (⟨#[82]⟩ : ByteArray), .bool false, .int .i64 250, .slice A1 n1 c1, .slice A4 n4 c4, .slice none 0 0]) Qb.out 4 (.slice A4 n4 c4) rfl); have zC := zk.mk (Kd.wB HR1.out Qb.out (by decide) 4 (.slice A4 n4 c4)); have zM := zk.mk (Kd.wB iB.out Qb.out (by decide) 4 (.slice A4 n4 c4)); have zT := zk.mk (HB1.out.setCell (p := ⟨g1, 4, none⟩) LG1.out (.slice A4 n4 c4)); clear Qb HR1 iB HB1 hq4 zZ0; have Qb := zl; have HR1 := zC; have iB := zM; have HB1 := zT; clear zl zC zM zT; generalize w4.setCell ⟨g1, 4, none⟩ (.slice A4 n4 c4) = w5 at Qb HR1 iB HB1 ⊢; refine Kd.gN kU rG.heap.size 76 ?hg (N := 22) ?hd (w0 := rG) (xs := KS) (inner := [.string (⟨#[65]⟩ : ByteArray), .string (⟨#[86]⟩ : ByteArray), .int .i64 (-80), .string (⟨#[65]⟩ : ByteArray), .string (⟨#[87]⟩ : ByteArray), .int .i64 (-60), .string (⟨#[84]⟩ : ByteArray), .string (⟨#[111]⟩ : ByteArray), .int .i64 (-70), .string (⟨#[86]⟩ : ByteArray), .string (⟨#[65]⟩ : ByteArray), .int .i64 (-80), .string (⟨#[89]⟩ : ByteArray), .string (⟨#[111]⟩ : ByteArray), .int .i64 (-90)]) (ok := fun _ => True) (Y2 := fun _ => True) ?hr ?hp (fun _ hk => hk) trivial HB1.out HB1.out.size (by simp [KS]) ?_; (case hd => rfl); (case hg => rfl); (case hr => first | (go_simp; done) | (go_simp; rfl)); (case hp => exact zwR _ _ _); intro v5 wk hol hbl hgl lg; obtain ⟨A5, c5, e5⟩ := Kd.yA hol; generalize KS.length = n5 at e5; subst e5; have zl := zk.mk (vk Qb.out hgl (by simp)); have zC := zk.mk (Kd.Xc HR1.out hgl (fun _ _ => by simp)); have zM := zk.mk (Kd.Xc iB.out hgl (fun _ _ => by simp)); have zT := zk.mk hol; have yL := zk.mk hbl; clear Qb HR1 iB HB1 hol hbl hgl lg; have Qb := zl; have HR1 := zC; have iB := zM; have jl := zT; have HB1 := yL; clear zl zC zM zT yL; have hq5 : wk.cell? ⟨g1, 5, none⟩ = some (.slice none 0 0) := (zx Qb.out 5).trans rfl; have zcM := zw Qb.out 5))
 have zl := zk.mk (zi (cs' := #[.string (⟨#[82]⟩ : ByteArray), .bool false, .int .i64 250, .slice A1 n1 c1, .slice A4 n4 c4, .slice A5 n5 c5]) Qb.out 5 (.slice A5 n5 c5) rfl)
 have zC := zk.mk (Kd.wB HR1.out Qb.out (by decide) 5 (.slice A5 n5 c5))
 have zM := zk.mk (Kd.wB iB.out Qb.out (by decide) 5 (.slice A5 n5 c5))
 have zT := zk.mk (Kd.wB jl.out Qb.out (by decide) 5 (.slice A5 n5 c5))
 have yL := zk.mk (HB1.out.setCell (p := ⟨g1, 5, none⟩) LG1.out (.slice A5 n5 c5))
 clear Qb HR1 iB jl HB1 hq5 zcM
 generalize wk.setCell ⟨g1, 5, none⟩ (.slice A5 n5 c5) = W1_ at zl zC zM zT yL ⊢
 have FB1 := zk.mk (FB.mk je zl.out LG1.out zC.out zM.out zT.out)
 have BW0 := zk.mk yL.out
 clear zl zC zM zT yL LG1
 refine (mV 32 _ Tryz.func32 (by kernel_rfl) rfl wdI zJs (⟨#[73]⟩ : ByteArray) 250 W1_.heap.size (.slice none 0 0) [] (Zg wdI 127) W1_ (Nat.le_refl _) (Kd.vD _ _ _ _ _) (by simp [Zi]) (by rw [List.nil_append]) (zwP wdI)).mono ?_
 rintro e w6 ⟨v6, rfl, hr, hb, -, -⟩
 have HR2 := zk.mk hr
 have HB2 := zk.mk hb
 clear hr hb
 obtain ⟨A6, c6, e6⟩ := Kd.yA HR2.out
 generalize (Zg wdI 127).length = n6 at e6
 subst e6
 go_wp2_with (first | ((with_reducible refine xI (N := 2) rfl ?_); refine vJ ?hg (N := 2) ?hd (cs := #[.string (⟨#[]⟩ : ByteArray), .bool false, .int .i64 0, .slice none 0 0, .slice none 0 0, .slice none 0 0]) (t := 26) ?hr ?_; (case hd => rfl); (case hg => rfl); (case hr => first | (go_simp; done) | (go_simp; rfl)); intro g2 Wi w7 hbx hbq; have Xy := zk.mk hbx; have zXZ := zk.mk hbq; have zyq := zk.mk Wi; clear hbx hbq Wi; have zWp : w7.cell? ⟨g2, 0, none⟩ = some (.string (⟨#[]⟩ : ByteArray)) := (zx Xy.out 0).trans rfl; have zWr : w7.cell? ⟨g2, 1, none⟩ = some (.bool false) := (zx Xy.out 1).trans rfl; have zWs : w7.cell? ⟨g2, 2, none⟩ = some (.int .i64 0) := (zx Xy.out 2).trans rfl; have zWt : w7.cell? ⟨g2, 3, none⟩ = some (.slice none 0 0) := (zx Xy.out 3).trans rfl; have zWu : w7.cell? ⟨g2, 4, none⟩ = some (.slice none 0 0) := (zx Xy.out 4).trans rfl; have zWA : w7.cell? ⟨g2, 5, none⟩ = some (.slice none 0 0) := (zx Xy.out 5).trans rfl; have zWB := zw Xy.out 0; have zWC := zw Xy.out 1; have zWD := zw Xy.out 2; have zWE := zw Xy.out 3; have zWF := zw Xy.out 4; have zWG := zw Xy.out 5) | ((with_reducible refine xI (N := 28) rfl ?_); have zl := zk.mk (VE Xy.out (⟨#[73]⟩ : ByteArray) false 250 (.slice A6 n6 c6) (.slice none 0 0) (.slice none 0 0)); have zM := zk.mk (Jm (zXZ.out) (Nat.le_of_eq zyq.out.symm) (.string (⟨#[73]⟩ : ByteArray)) (.bool false) (.int .i64 250) (.slice A6 n6 c6) (.slice none 0 0) (.slice none 0 0)); have LG2 := zk.mk (Nat.le_trans HB2.out.size (Nat.le_of_eq zyq.out.symm)); clear zWp zWr zWs zWt zWu zWA zWB zWC zWD zWE zWF zWG; generalize ((((((w7.setCell ⟨g2, 0, none⟩ (.string (⟨#[73]⟩ : ByteArray))).setCell ⟨g2, 1, none⟩ (.bool false)).setCell ⟨g2, 2, none⟩ (.int .i64 250)).setCell ⟨g2, 3, none⟩ (.slice A6 n6 c6)).setCell ⟨g2, 4, none⟩ (.slice none 0 0)).setCell ⟨g2, 5, none⟩ (.slice none 0 0)) = W2_ at zl zM ⊢; have FB2 := zk.mk (FB.mk zXj zl.out LG2.out (Kd.zf HR2.out zM.out) (Kd.vD _ _ _ _ _) (Kd.vD _ _ _ _ _)); have BW1 := zk.mk (HB2.out.trans (zM.out.mono HB2.out.size)); clear HR2 HB2 Xy zXZ zyq LG2 zl zM; refine Kd.gN jB W2_.heap.size 31 ?hg (N := 28) ?hd (w0 := W2_) (xs := (Zi 600)) (inner := [.string (⟨#[102, 105]⟩ : ByteArray), .int .i64 600, .string (⟨#[102, 108]⟩ : ByteArray), .int .i64 600, .string (⟨#[102, 102]⟩ : ByteArray), .int .i64 600]) (ok := fun _ => True) (Y2 := fun _ => True) ?hr ?hp (fun _ hk => hk) trivial (Below.refl _ _) (Nat.le_refl _) (by simp [Zi]) ?_; (case hd => rfl); (case hg => rfl); (case hr => first | (go_simp; done) | (go_simp; rfl)); (case hp => exact zxs 600 _ _ _); intro u0 wl hol hbl hgl lg; have HL_ := zk.mk hol; have lu := zk.mk hbl; have zZU := zk.mk lg; clear hol hbl hgl lg))
 refine (mV 33 _ Tryz.func33 (by kernel_rfl) rfl wdB zJt (⟨#[66]⟩ : ByteArray) 250 W2_.heap.size u0 (Zi 600) (KR wdB 600) wl lu.out.size HL_.out (by simp [Zi]) (zj0 wdB 600) (zwO wdB 600)).mono ?_
 rintro e w9 ⟨v9, rfl, hr, hb, -, -⟩
 have HR3 := zk.mk hr
 have HB3 := zk.mk (lu.out.trans hb)
 clear hr hb HL_ lu zZU
 obtain ⟨A9, c9, e9⟩ := Kd.yA HR3.out
 generalize (KR wdB 600).length = n9 at e9
 subst e9
 go_wp2_with (first | ((with_reducible refine xI (N := 3) rfl ?_); refine vJ ?hg (N := 3) ?hd (cs := #[.string (⟨#[]⟩ : ByteArray), .bool false, .int .i64 0, .slice none 0 0, .slice none 0 0, .slice none 0 0]) (t := 26) ?hr ?_; (case hd => rfl); (case hg => rfl); (case hr => first | (go_simp; done) | (go_simp; rfl)); intro g3 Wi w10 hbx hbq; have Xw := zk.mk hbx; have zXQ := zk.mk hbq; have zyx := zk.mk Wi; clear hbx hbq Wi; have zWH : w10.cell? ⟨g3, 0, none⟩ = some (.string (⟨#[]⟩ : ByteArray)) := (zx Xw.out 0).trans rfl; have zWI : w10.cell? ⟨g3, 1, none⟩ = some (.bool false) := (zx Xw.out 1).trans rfl; have zWL : w10.cell? ⟨g3, 2, none⟩ = some (.int .i64 0) := (zx Xw.out 2).trans rfl; have zWM : w10.cell? ⟨g3, 3, none⟩ = some (.slice none 0 0) := (zx Xw.out 3).trans rfl; have zWN : w10.cell? ⟨g3, 4, none⟩ = some (.slice none 0 0) := (zx Xw.out 4).trans rfl; have zWO : w10.cell? ⟨g3, 5, none⟩ = some (.slice none 0 0) := (zx Xw.out 5).trans rfl; have zWP := zw Xw.out 0; have zWR := zw Xw.out 1; have zWS := zw Xw.out 2; have zWT := zw Xw.out 3; have zWU := zw Xw.out 4; have zW0 := zw Xw.out 5))
 have zl := zk.mk (VE Xw.out (⟨#[66]⟩ : ByteArray) false 250 (.slice A9 n9 c9) (.slice none 0 0) (.slice none 0 0))
 have zM := zk.mk (Jm (zXQ.out) (Nat.le_of_eq zyx.out.symm) (.string (⟨#[66]⟩ : ByteArray)) (.bool false) (.int .i64 250) (.slice A9 n9 c9) (.slice none 0 0) (.slice none 0 0))
 have LG3 := zk.mk (Nat.le_trans HB3.out.size (Nat.le_of_eq zyx.out.symm))
 clear zWH zWI zWL zWM zWN zWO zWP zWR zWS zWT zWU zW0
 generalize ((((((w10.setCell ⟨g3, 0, none⟩ (.string (⟨#[66]⟩ : ByteArray))).setCell ⟨g3, 1, none⟩ (.bool false)).setCell ⟨g3, 2, none⟩ (.int .i64 250)).setCell ⟨g3, 3, none⟩ (.slice A9 n9 c9)).setCell ⟨g3, 4, none⟩ (.slice none 0 0)).setCell ⟨g3, 5, none⟩ (.slice none 0 0)) = iC at zl zM ⊢
 have zC := zk.mk (Kd.zf HR3.out zM.out)
 have zT := zk.mk (HB3.out.trans (zM.out.mono HB3.out.size))
 clear HR3 HB3 Xw zXQ zyx zM
 have BX3 := zl
 have HR3 := zC
 have HB3 := zT
 clear zl zC zT
 refine (Xg.calls ay iC rfl).mono ?_
 rintro e w12 ⟨v12, rfl, hr, hb⟩
 have zl := zk.mk (zo BX3.out hb)
 have zC := zk.mk (Kd.zf HR3.out hb)
 have zM := zk.mk (Kd.vB hr HB3.out.size)
 have zT := zk.mk (HB3.out.trans (hb.mono HB3.out.size))
 clear BX3 HR3 HB3 hr hb
 have BX3 := zl
 have HR3 := zC
 have HL3 := zM
 have HB3 := zT
 clear zl zC zM zT
 obtain ⟨A12, c12, e12⟩ := Kd.yA HL3.out
 generalize ay.length = n12 at e12
 subst e12
 have hq4 : w12.cell? ⟨g3, 4, none⟩ = some (.slice none 0 0) := (zx BX3.out 4).trans rfl
 have zZ0 := zw BX3.out 4
 go_wp2_with fail
 have zl := zk.mk (zi (cs' := #[.string (⟨#[66]⟩ : ByteArray), .bool false, .int .i64 250, .slice A9 n9 c9, .slice A12 n12 c12, .slice none 0 0]) BX3.out 4 (.slice A12 n12 c12) rfl)
 have zC := zk.mk (Kd.wB HR3.out BX3.out (by decide) 4 (.slice A12 n12 c12))
 have zM := zk.mk (Kd.wB HL3.out BX3.out (by decide) 4 (.slice A12 n12 c12))
 have zT := zk.mk (HB3.out.setCell (p := ⟨g3, 4, none⟩) LG3.out (.slice A12 n12 c12))
 clear BX3 HR3 HL3 HB3 hq4 zZ0
 generalize w12.setCell ⟨g3, 4, none⟩ (.slice A12 n12 c12) = W3_ at zl zC zM zT ⊢
 have FB3 := zk.mk (FB.mk zXv zl.out LG3.out zC.out zM.out (Kd.vD _ _ _ _ _))
 have BW2 := zk.mk zT.out
 clear zl zC zM zT LG3
 refine (mV 34 _ Tryz.func34 (by kernel_rfl) rfl wdM zJu (⟨#[77]⟩ : ByteArray) 600 W3_.heap.size (.slice none 0 0) [] (Zg wdM 127) W3_ (Nat.le_refl _) (Kd.vD _ _ _ _ _) (by simp [Zi]) (by rw [List.nil_append]) (zwP wdM)).mono ?_
 rintro e KT ⟨v13, rfl, hr, hb, -, -⟩
 have HR4 := zk.mk hr
 have Zk := zk.mk hb
 clear hr hb
 obtain ⟨A13, c13, e13⟩ := Kd.yA HR4.out
 generalize (Zg wdM 127).length = n13 at e13
 subst e13
 go_wp2_with (first | ((with_reducible refine xI (N := 4) rfl ?_); refine vJ ?hg (N := 4) ?hd (cs := #[.string (⟨#[]⟩ : ByteArray), .bool false, .int .i64 0, .slice none 0 0, .slice none 0 0, .slice none 0 0]) (t := 26) ?hr ?_; (case hd => rfl); (case hg => rfl); (case hr => first | (go_simp; done) | (go_simp; rfl)); intro g4 Wi w14 hbx hbq; have XZ := zk.mk hbx; have zXX := zk.mk hbq; have zyj := zk.mk Wi; clear hbx hbq Wi; have zW1 : w14.cell? ⟨g4, 0, none⟩ = some (.string (⟨#[]⟩ : ByteArray)) := (zx XZ.out 0).trans rfl; have zW2 : w14.cell? ⟨g4, 1, none⟩ = some (.bool false) := (zx XZ.out 1).trans rfl; have zW3 : w14.cell? ⟨g4, 2, none⟩ = some (.int .i64 0) := (zx XZ.out 2).trans rfl; have zW4 : w14.cell? ⟨g4, 3, none⟩ = some (.slice none 0 0) := (zx XZ.out 3).trans rfl; have zW5 : w14.cell? ⟨g4, 4, none⟩ = some (.slice none 0 0) := (zx XZ.out 4).trans rfl; have zW6 : w14.cell? ⟨g4, 5, none⟩ = some (.slice none 0 0) := (zx XZ.out 5).trans rfl; have zW7 := zw XZ.out 0; have zW8 := zw XZ.out 1; have zW9 := zw XZ.out 2; have zaz := zw XZ.out 3; have zaq := zw XZ.out 4; have zax := zw XZ.out 5) | ((with_reducible refine xI (N := 5) rfl ?_); have zl := zk.mk (VE XZ.out (⟨#[77]⟩ : ByteArray) false 600 (.slice A13 n13 c13) (.slice none 0 0) (.slice none 0 0)); have zM := zk.mk (Jm (zXX.out) (Nat.le_of_eq zyj.out.symm) (.string (⟨#[77]⟩ : ByteArray)) (.bool false) (.int .i64 600) (.slice A13 n13 c13) (.slice none 0 0) (.slice none 0 0)); have LG4 := zk.mk (Nat.le_trans Zk.out.size (Nat.le_of_eq zyj.out.symm)); clear zW1 zW2 zW3 zW4 zW5 zW6 zW7 zW8 zW9 zaz zaq zax; generalize ((((((w14.setCell ⟨g4, 0, none⟩ (.string (⟨#[77]⟩ : ByteArray))).setCell ⟨g4, 1, none⟩ (.bool false)).setCell ⟨g4, 2, none⟩ (.int .i64 600)).setCell ⟨g4, 3, none⟩ (.slice A13 n13 c13)).setCell ⟨g4, 4, none⟩ (.slice none 0 0)).setCell ⟨g4, 5, none⟩ (.slice none 0 0)) = rH at zl zM ⊢; have FB4 := zk.mk (FB.mk zXk zl.out LG4.out (Kd.zf HR4.out zM.out) (Kd.vD _ _ _ _ _) (Kd.vD _ _ _ _ _)); have BW3 := zk.mk (Zk.out.trans (zM.out.mono Zk.out.size)); clear HR4 Zk XZ zXX zyj LG4 zl zM; refine vJ ?hg (N := 5) ?hd (cs := #[.string (⟨#[]⟩ : ByteArray), .bool false, .int .i64 0, .slice none 0 0, .slice none 0 0, .slice none 0 0]) (t := 26) ?hr ?_; (case hd => rfl); (case hg => rfl); (case hr => first | (go_simp; done) | (go_simp; rfl)); intro g5 Wi KU hbx hbq; have XQ := zk.mk hbx; have zXJ := zk.mk hbq; have zyv := zk.mk Wi; clear hbx hbq Wi; have zaj : KU.cell? ⟨g5, 0, none⟩ = some (.string (⟨#[]⟩ : ByteArray)) := (zx XQ.out 0).trans rfl; have zav : KU.cell? ⟨g5, 1, none⟩ = some (.bool false) := (zx XQ.out 1).trans rfl; have zak : KU.cell? ⟨g5, 2, none⟩ = some (.int .i64 0) := (zx XQ.out 2).trans rfl; have zay : KU.cell? ⟨g5, 3, none⟩ = some (.slice none 0 0) := (zx XQ.out 3).trans rfl; have zaw : KU.cell? ⟨g5, 4, none⟩ = some (.slice none 0 0) := (zx XQ.out 4).trans rfl; have zaZ : KU.cell? ⟨g5, 5, none⟩ = some (.slice none 0 0) := (zx XQ.out 5).trans rfl; have zaQ := zw XQ.out 0; have zaX := zw XQ.out 1; have zaJ := zw XQ.out 2; have zaV := zw XQ.out 3; have zaK := zw XQ.out 4; have zaY := zw XQ.out 5))
 have zl := zk.mk (VE XQ.out (⟨#[83]⟩ : ByteArray) true 250 (.slice none 0 0) (.slice none 0 0) (.slice none 0 0))
 have zM := zk.mk (Jm (zXJ.out) (Nat.le_of_eq zyv.out.symm) (.string (⟨#[83]⟩ : ByteArray)) (.bool true) (.int .i64 250) (.slice none 0 0) (.slice none 0 0) (.slice none 0 0))
 have LG5 := zk.mk (Nat.le_of_eq zyv.out.symm)
 clear zaj zav zak zay zaw zaZ zaQ zaX zaJ zaV zaK zaY
 generalize ((((((KU.setCell ⟨g5, 0, none⟩ (.string (⟨#[83]⟩ : ByteArray))).setCell ⟨g5, 1, none⟩ (.bool true)).setCell ⟨g5, 2, none⟩ (.int .i64 250)).setCell ⟨g5, 3, none⟩ (.slice none 0 0)).setCell ⟨g5, 4, none⟩ (.slice none 0 0)).setCell ⟨g5, 5, none⟩ (.slice none 0 0)) = w16 at zl zM ⊢
 clear XQ zXJ zyv
 have BX5 := zl
 have XT := zM
 clear zl zM
 have GWS := zk.mk (HGW.out.under (BW0.out.trans ((BW1.out.mono BW0.out.size).trans ((BW2.out.mono (Nat.le_trans BW0.out.size BW1.out.size)).trans (BW3.out.mono (Nat.le_trans BW0.out.size (Nat.le_trans BW1.out.size BW2.out.size)))))))
 refine (Tryz.strings_Fields ak w16 (by decide +kernel) zjs (GWS.out.under XT.out).spc).mono ?_
 rintro e nP ⟨rfl, zxt⟩
 have hlen : (Lib.fields ak.data.toList).length = 70 := zxr
 rw [hlen]
 clear hlen
 have hcw : ((Lib.fields ak.data.toList).map fun l => Value.string ⟨l.toArray⟩).toArray = QI := rfl
 rw [hcw] at zxt
 have BKW := zk.mk (show nP.heap[w16.heap.size]? = some (.cells QI 9 (0, 0)) by rw [zxt]; exact jQ _ _)
 have zl := zQ BX5.out (.cells QI 9)
 rw [← zxt] at zl
 have zC := zk.mk (show Below rH.heap.size rH nP by rw [zxt]; exact XT.out.alloc XT.out.size _)
 clear BX5 XT zxt hcw
 have BX5 := zk.mk zl
 have XT := zC
 clear zl zC
 generalize w16.heap.size = bw at BKW ⊢
 go_wp2
 go_loopw [7, 8, 9] (fun x y z wr => zcL rH g5 bw x wr) (fun x y z _ => 70 - (intOf x).toNat)
 case atStart => exact ⟨0, 0, _, rfl, rfl, by omega, Kd.vD _ _ _ _ _, BX5.out, BKW.out, XT.out⟩
 case round =>
  obtain ⟨m, k, u, rfl, hk0, hm, o8, BX0, BK0, HB0⟩ := hrel
  have HKK := zk.mk hk0
  have hkm : k ≤ 2 * m := by omega
  have hmk : 2 * m ≤ k := by omega
  clear hk0
  have wT := zk.mk o8
  have BX := zk.mk BX0
  have BK := zk.mk BK0
  have Zh := zk.mk HB0
  clear o8 BX0 BK0 HB0 BX5 BKW XT
  by_cases hlt : m < 35
  ·have q1 : decide ((k : Int) < 70) = true := decide_eq_true (by omega)
   have q2 : IntKind.i64.wrap ((k : Int) + 1) = (k : Int) + 1 := IntWalk.i64_in _ (by omega)
   have hcell : wr.cell? ⟨bw, k + 1, none⟩ = some (.string (pX (k + 1))) := (zx BK.out _).trans (mY _ (by omega))
   go_wp2_with fail
   have Xq := J2 (pX (k + 1)) wr (by have := zjt (k + 1); omega) (GWS.out.under Zh.out)
   refine Xq.mono ?_
   rintro e w18 ⟨rfl, hb⟩
   clear Xq hcell q2
   have zl := zk.mk (Kd.yj (Kd.zf wT.out hb))
   have zC := zk.mk (zV (zo BX.out hb))
   have zM := zk.mk (zV (zo BK.out hb))
   have zT := zk.mk ((Zh.out.trans (hb.mono Zh.out.size)).drew)
   clear wT BX BK Zh hb
   have wT := zl
   have BX := zC
   have BK := zM
   have Zh := zT
   clear zl zC zM zT
   have zZ1 : k < 70 := by omega
   have q5 : ((k : Int) < 70) = True := eq_true (by omega)
   go_wp2
   refine wW (n := 12) (S := fun w' => w'.cell? ⟨g5, 3, none⟩ = some u ∧ w'.cell? ⟨bw, k, none⟩ = some (.string (pX k))) (ds := [11]) #[false, false, false, false, false, false, false, false, false, false, false, false] (by kernel_rfl) rfl rfl ⟨(zx BX.out 3).trans rfl, (zx BK.out _).trans (mY _ zZ1)⟩ (fun hHeld => ?_)
   refine gT std.zWa (fun yY => ?_)
   generalize w18.drew = w16 at wT BX BK Zh hHeld ⊢
   refine vw (i := 0) (N := some 50) (v := ?_) (a' := ?_) #[true, false, false, false, false, false, false, false, false, false, false, false] rfl rfl (xk yY.out (by kernel_rfl)) (fun _ _ _ h => h) (Or.inl ⟨by rfl, ?_⟩) ?_ ?_
   rotate_left
   ·intro w'
    go_simp
    with_reducible rfl
   rotate_left
   ·simp only [Act.put, List.setIfInBounds_toArray, List.set_cons_zero, List.set_cons_succ]
    rfl
   refine vw (i := 2) (N := some 52) (v := ?_) (a' := ?_) #[true, false, true, false, false, false, false, false, false, false, false, false] rfl rfl (xk yY.out (by kernel_rfl)) (fun _ _ _ h => h) (Or.inl ⟨by rfl, ?_⟩) ?_ ?_
   rotate_left
   ·intro w'
    go_simp
    with_reducible rfl
   rotate_left
   ·simp only [Act.put, List.setIfInBounds_toArray, List.set_cons_zero, List.set_cons_succ]
    rfl
   refine vw (i := 3) (N := some 53) (v := ?_) (a' := ?_) #[true, false, true, true, false, false, false, false, false, false, false, false] rfl rfl (xk yY.out (by kernel_rfl)) (fun _ _ _ h => h) (Or.inl ⟨by rfl, ?_⟩) ?_ ?_
   rotate_left
   ·intro w'
    go_simp
    with_reducible rfl
   rotate_left
   ·simp only [Act.put, List.setIfInBounds_toArray, List.set_cons_zero, List.set_cons_succ]
    rfl
   refine vw (i := 4) (N := some 54) (v := ?_) (a' := ?_) #[true, false, true, true, true, false, false, false, false, false, false, false] rfl rfl (xk yY.out (by kernel_rfl)) (fun _ _ _ h => h) (Or.inl ⟨by rfl, ?_⟩) ?_ ?_
   rotate_left
   ·intro w'
    go_simp
    with_reducible rfl
   rotate_left
   ·simp only [Act.put, List.setIfInBounds_toArray, List.set_cons_zero, List.set_cons_succ]
    rfl
   refine vw (i := 6) (N := some 56) (v := ?_) (a' := ?_) #[true, false, true, true, true, false, true, false, false, false, false, false] rfl rfl (xk yY.out (by kernel_rfl)) (fun _ _ _ h => h) (Or.inl ⟨by rfl, ?_⟩) ?_ ?_
   rotate_left
   ·intro w'
    go_simp
    with_reducible rfl
   rotate_left
   ·simp only [Act.put, List.setIfInBounds_toArray, List.set_cons_zero, List.set_cons_succ]
    rfl
   refine Qf (i := 1) (N := some 51) (v := ?_) (a' := ?_) #[true, true, true, true, true, false, true, false, false, false, false, false] rfl rfl (tN yY.out (by kernel_rfl)) (fun _ _ _ h => h) (Or.inl ⟨by rfl, ?_⟩) hHeld ?_ ?_
   rotate_left
   ·rintro w' ⟨s0, s1⟩
    go_simp
    with_reducible rfl
   rotate_left
   ·simp only [Act.put, List.setIfInBounds_toArray, List.set_cons_zero, List.set_cons_succ]
    rfl
   refine Qf (i := 5) (N := some 55) (v := ?_) (a' := ?_) #[true, true, true, true, true, true, true, false, false, false, false, false] rfl rfl (tN yY.out (by kernel_rfl)) (fun _ _ _ h => h) (Or.inl ⟨by rfl, ?_⟩) hHeld ?_ ?_
   rotate_left
   ·rintro w' ⟨s0, s1⟩
    go_simp
    with_reducible rfl
   rotate_left
   ·simp only [Act.put, List.setIfInBounds_toArray, List.set_cons_zero, List.set_cons_succ]
    rfl
   refine vw (i := 7) (N := some 57) (v := ?_) (a' := ?_) #[true, true, true, true, true, true, true, true, false, false, false, false] rfl rfl (xk yY.out (by kernel_rfl)) (fun _ _ _ h => h) (Or.inl ⟨by rfl, ?_⟩) ?_ ?_
   rotate_left
   ·intro w'
    go_simp
    with_reducible rfl
   rotate_left
   ·simp only [Act.put, List.setIfInBounds_toArray, List.set_cons_zero, List.set_cons_succ]
    rfl
   refine YF (i := 8) (N := some 58) #[true, true, true, true, true, true, true, true, true, false, false, false] rfl rfl (uw yY.out (by kernel_rfl)) (by decide) (fun K hK => ?_)
   refine Ph (w1 := ?_) (v := ?_) (by rfl) rfl ?_ ?_
   rotate_left 2
   ·go_simp
    constructor
    ·rfl
    ·rfl
   refine hK.out _ _ ⟨(zx (zQ BX.out _) 3).trans rfl, (zx (zQ BK.out _) _).trans (mY _ zZ1)⟩ (fun hHeld => ?_)
   clear hK K
   refine ZO (a' := ?_) ?_ ?_
   rotate_left
   ·show Act.put _ (some 58) _ = _
    simp only [Act.put, List.setIfInBounds_toArray, List.set_cons_zero, List.set_cons_succ]
    rfl
   refine YF (i := 9) (N := some 59) #[true, true, true, true, true, true, true, true, true, true, false, false] rfl rfl (uw yY.out (by kernel_rfl)) (by decide) (fun K hK => ?_)
   refine Kd.u7 jB (w0 := rH) rH.heap.size (by rfl) (.tmp 51) (.tmp 58) 22 31 (.agg #[(.string ⟨#[]⟩), (.int .i64 0)]) 24 rfl Tryz.underlying22 zxc rfl (by decide) (by omega) u (mK m) (⟨pX k, (kG (pX (k + 1))).1⟩ : qB) [.string (pX k), .int .i64 (kG (pX (k + 1))).1] (fun _ => True) (fun _ => False) rfl rfl ?aP (fun _ hk => hk.elim) ?aF ?aO ?aB ?aS ?aL ?_
   (case aP => exact V8 _ _ _ (⟨pX k, (kG (pX (k + 1))).1⟩ : qB))
   (case aF => exact (fun _ _ => trivial))
   (case aO => exact wT.out)
   (case aB => exact Zh.out)
   (case aS => exact Zh.out.size)
   (case aL => rw [zZT]; omega)
   intro v1 w18 ho hb hg hat
   rw [HKK.out, ← zwS] at ho
   obtain ⟨Ao, co, eo⟩ := Kd.yA ho
   subst eo
   generalize (mK (m + 1)).length = nn at ho hat ⊢
   have zl := zk.mk (vk BX.out hg (Kd.kT wT.out BX.out (by decide)))
   have zC := zk.mk (vk BK.out hg (Kd.kT wT.out BK.out (by decide)))
   have zM := zk.mk hb
   have zT := zk.mk ho
   clear BX BK Zh wT ho hb hg hat hHeld
   have BX := zl
   have BK := zC
   have Zh := zM
   have wT := zT
   clear zl zC zM zT
   refine hK.out _ _ ⟨(zx BX.out 3).trans rfl, (zx BK.out _).trans (mY _ zZ1)⟩ (fun hHeld => ?_)
   clear hK K
   refine ZO (a' := ?_) ?_ ?_
   rotate_left
   ·show Act.put _ (some 59) _ = _
    simp only [Act.put, List.setIfInBounds_toArray, List.set_cons_zero, List.set_cons_succ]
    rfl
   refine vw (i := 10) (N := some 60) (v := ?_) (a' := ?_) #[true, true, true, true, true, true, true, true, true, true, true, false] rfl rfl (xk yY.out (by kernel_rfl)) (fun _ _ _ h => h) (Or.inl ⟨by rfl, ?_⟩) ?_ ?_
   rotate_left
   ·intro w'
    go_simp
    with_reducible rfl
   rotate_left
   ·simp only [Act.put, List.setIfInBounds_toArray, List.set_cons_zero, List.set_cons_succ]
    rfl
   refine ZA (i := 11) (N := none) #[true, true, true, true, true, true, true, true, true, true, true, true] rfl rfl (uw yY.out (by kernel_rfl)) (by decide) (fun K hK => ?_)
   have zk4 : w18.cell? ⟨g5, 3, none⟩ = some u := (zx BX.out 3).trans rfl
   have zq5 := zw BX.out 3
   refine Xd (w1 := ?_) (by rfl) rfl ?_ ?_
   rotate_left
   ·go_simp
    rfl
   refine hK.out _ _ ?_
   clear hK K
   refine uh (vC yY.out (by kernel_rfl)) ?_
   have zl := zk.mk (zi (cs' := #[.string (⟨#[83]⟩ : ByteArray), .bool true, .int .i64 250, .slice Ao nn co, .slice none 0 0, .slice none 0 0]) BX.out 3 (.slice Ao nn co) rfl)
   have zC := zk.mk (uo BK.out (p := ⟨g5, 3, none⟩) (zKq BK.out BX.out (by decide)) (.slice Ao nn co))
   have zM := zk.mk (Zh.out.setCell (p := ⟨g5, 3, none⟩) LG5.out (.slice Ao nn co))
   have zT := zk.mk (Kd.wB wT.out BX.out (by decide) 3 (.slice Ao nn co))
   clear BX BK Zh wT hHeld zk4 zq5
   generalize w18.setCell ⟨g5, 3, none⟩ (.slice Ao nn co) = Y6 at zl zC zM zT ⊢
   have q4 : IntKind.i64.wrap ((k : Int) + 2) = ((k + 2 : Nat) : Int) := (IntWalk.i64_in _ (by omega)).trans (by omega)
   go_wp2
   go_roundw
   case rel => exact ⟨m + 1, k + 2, .slice Ao nn co, by first | rfl | (rw [q4]; done) | (simp; done), by have := HKK.out; omega, by omega, zT.out, zl.out, zC.out, zM.out⟩
   case measure => first | (simp [intOf]; omega) | (rw [q4]; simp [intOf]; omega)
  ·have zKH : m = 35 := by omega
   have q1 : decide ((k : Int) < 70) = false := decide_eq_false (by omega)
   have hR5 := wT.out
   rw [zKH] at hR5
   have BC3 := BW3.out.trans (Zh.out.mono BW3.out.size)
   have BC2 := BW2.out.trans (BC3.mono BW2.out.size)
   have BC1 := BW1.out.trans (BC2.mono BW1.out.size)
   have BC0 := BW0.out.trans (BC1.mono BW0.out.size)
   obtain ⟨Aa1, na1, ca1, Ab1, nb1, cb1, Ac1, nc1, cc1, bk1, KM1⟩ := (FB1.out.keep BC1).cells
   obtain ⟨Aa2, na2, ca2, Ab2, nb2, cb2, Ac2, nc2, cc2, bk2, KM2⟩ := (FB2.out.keep BC2).cells
   obtain ⟨Aa3, na3, ca3, Ab3, nb3, cb3, Ac3, nc3, cc3, bk3, KM3⟩ := (FB3.out.keep BC3).cells
   obtain ⟨Aa4, na4, ca4, Ab4, nb4, cb4, Ac4, nc4, cc4, bk4, KM4⟩ := (FB4.out.keep Zh.out).cells
   obtain ⟨Aa5, na5, ca5, Ab5, nb5, cb5, Ac5, nc5, cc5, bk5, KM5⟩ := (FB.mk zXy BX.out LG5.out hR5 (Kd.vD _ _ _ _ _) (Kd.vD _ _ _ _ _)).cells
   have BCA := zk.mk BC0
   have KA1 := zk.mk KM1
   have KA2 := zk.mk KM2
   have KA3 := zk.mk KM3
   have KA4 := zk.mk KM4
   have KA5 := zk.mk KM5
   have S0 := zk.mk BW0.out.size
   have S1 := zk.mk BW1.out.size
   have S2 := zk.mk BW2.out.size
   have S3 := zk.mk BW3.out.size
   have S4 := zk.mk Zh.out.size
   have zxu : wr.cell? ⟨g1, 0, none⟩ = some (.string (⟨#[82]⟩ : ByteArray)) := (zx bk1 0).trans rfl
   have zcN : wr.cell? ⟨g1, 1, none⟩ = some (.bool false) := (zx bk1 1).trans rfl
   have zyk : wr.cell? ⟨g1, 2, none⟩ = some (.int .i64 250) := (zx bk1 2).trans rfl
   have zcO : wr.cell? ⟨g1, 3, none⟩ = some (.slice Aa1 na1 ca1) := (zx bk1 3).trans rfl
   have zcP : wr.cell? ⟨g1, 4, none⟩ = some (.slice Ab1 nb1 cb1) := (zx bk1 4).trans rfl
   have zKI : wr.cell? ⟨g1, 5, none⟩ = some (.slice Ac1 nc1 cc1) := (zx bk1 5).trans rfl
   have zcR : wr.cell? ⟨g2, 0, none⟩ = some (.string (⟨#[73]⟩ : ByteArray)) := (zx bk2 0).trans rfl
   have zcS : wr.cell? ⟨g2, 1, none⟩ = some (.bool false) := (zx bk2 1).trans rfl
   have zcT : wr.cell? ⟨g2, 2, none⟩ = some (.int .i64 250) := (zx bk2 2).trans rfl
   have zcU : wr.cell? ⟨g2, 3, none⟩ = some (.slice Aa2 na2 ca2) := (zx bk2 3).trans rfl
   have hx24 : wr.cell? ⟨g2, 4, none⟩ = some (.slice Ab2 nb2 cb2) := (zx bk2 4).trans rfl
   have hx25 : wr.cell? ⟨g2, 5, none⟩ = some (.slice Ac2 nc2 cc2) := (zx bk2 5).trans rfl
   have zc0 : wr.cell? ⟨g3, 0, none⟩ = some (.string (⟨#[66]⟩ : ByteArray)) := (zx bk3 0).trans rfl
   have hx31 : wr.cell? ⟨g3, 1, none⟩ = some (.bool false) := (zx bk3 1).trans rfl
   have hx32 : wr.cell? ⟨g3, 2, none⟩ = some (.int .i64 250) := (zx bk3 2).trans rfl
   have zc1 : wr.cell? ⟨g3, 3, none⟩ = some (.slice Aa3 na3 ca3) := (zx bk3 3).trans rfl
   have hx34 : wr.cell? ⟨g3, 4, none⟩ = some (.slice Ab3 nb3 cb3) := (zx bk3 4).trans rfl
   have zc2 : wr.cell? ⟨g3, 5, none⟩ = some (.slice Ac3 nc3 cc3) := (zx bk3 5).trans rfl
   have zc3 : wr.cell? ⟨g4, 0, none⟩ = some (.string (⟨#[77]⟩ : ByteArray)) := (zx bk4 0).trans rfl
   have zc4 : wr.cell? ⟨g4, 1, none⟩ = some (.bool false) := (zx bk4 1).trans rfl
   have zc5 : wr.cell? ⟨g4, 2, none⟩ = some (.int .i64 600) := (zx bk4 2).trans rfl
   have zc6 : wr.cell? ⟨g4, 3, none⟩ = some (.slice Aa4 na4 ca4) := (zx bk4 3).trans rfl
   have zc7 : wr.cell? ⟨g4, 4, none⟩ = some (.slice Ab4 nb4 cb4) := (zx bk4 4).trans rfl
   have zc8 : wr.cell? ⟨g4, 5, none⟩ = some (.slice Ac4 nc4 cc4) := (zx bk4 5).trans rfl
   have zc9 : wr.cell? ⟨g5, 0, none⟩ = some (.string (⟨#[83]⟩ : ByteArray)) := (zx bk5 0).trans rfl
   have zdz : wr.cell? ⟨g5, 1, none⟩ = some (.bool true) := (zx bk5 1).trans rfl
   have zdq : wr.cell? ⟨g5, 2, none⟩ = some (.int .i64 250) := (zx bk5 2).trans rfl
   have zdx : wr.cell? ⟨g5, 3, none⟩ = some (.slice Aa5 na5 ca5) := (zx bk5 3).trans rfl
   have zdj : wr.cell? ⟨g5, 4, none⟩ = some (.slice Ab5 nb5 cb5) := (zx bk5 4).trans rfl
   have zdv : wr.cell? ⟨g5, 5, none⟩ = some (.slice Ac5 nc5 cc5) := (zx bk5 5).trans rfl
   clear hR5 BC0 BC1 BC2 BC3 KM1 KM2 KM3 KM4 KM5 bk1 bk2 bk3 bk4 bk5 wT BX BK Zh hkm hmk zKH hm hlt HKK FB1 FB2 FB3 FB4 BW0 BW1 BW2 BW3 GWS HGW LG5
   go_wp2
   clear zxu zcN zyk zcO zcP zKI zcR zcS zcT zcU hx24 hx25 zc0 hx31 hx32 zc1 hx34 zc2 zc3 zc4 zc5 zc6 zc7 zc8 zc9 zdz zdq zdx zdj zdv
   have hbn := yS (Below.refl wr.heap.size wr) (.cells #[.string (⟨#[82]⟩ : ByteArray), .bool false, .int .i64 250, .slice Aa1 na1 ca1, .slice Ab1 nb1 cb1, .slice Ac1 nc1 cc1, .string (⟨#[73]⟩ : ByteArray), .bool false, .int .i64 250, .slice Aa2 na2 ca2, .slice Ab2 nb2 cb2, .slice Ac2 nc2 cc2, .string (⟨#[66]⟩ : ByteArray), .bool false, .int .i64 250, .slice Aa3 na3 ca3, .slice Ab3 nb3 cb3, .slice Ac3 nc3 cc3, .string (⟨#[77]⟩ : ByteArray), .bool false, .int .i64 600, .slice Aa4 na4 ca4, .slice Ab4 nb4 cb4, .slice Ac4 nc4 cc4, .string (⟨#[83]⟩ : ByteArray), .bool true, .int .i64 250, .slice Aa5 na5 ca5, .slice Ab5 nb5 cb5, .slice Ac5 nc5 cc5] 26)
   have hnew := jQ wr (.cells #[.string (⟨#[82]⟩ : ByteArray), .bool false, .int .i64 250, .slice Aa1 na1 ca1, .slice Ab1 nb1 cb1, .slice Ac1 nc1 cc1, .string (⟨#[73]⟩ : ByteArray), .bool false, .int .i64 250, .slice Aa2 na2 ca2, .slice Ab2 nb2 cb2, .slice Ac2 nc2 cc2, .string (⟨#[66]⟩ : ByteArray), .bool false, .int .i64 250, .slice Aa3 na3 ca3, .slice Ab3 nb3 cb3, .slice Ac3 nc3 cc3, .string (⟨#[77]⟩ : ByteArray), .bool false, .int .i64 600, .slice Aa4 na4 ca4, .slice Ab4 nb4 cb4, .slice Ac4 nc4 cc4, .string (⟨#[83]⟩ : ByteArray), .bool true, .int .i64 250, .slice Aa5 na5 ca5, .slice Ab5 nb5 cb5, .slice Ac5 nc5 cc5] 26 (0, 0))
   have hbw := BCA.out.alloc BCA.out.size (.cells #[.string (⟨#[82]⟩ : ByteArray), .bool false, .int .i64 250, .slice Aa1 na1 ca1, .slice Ab1 nb1 cb1, .slice Ac1 nc1 cc1, .string (⟨#[73]⟩ : ByteArray), .bool false, .int .i64 250, .slice Aa2 na2 ca2, .slice Ab2 nb2 cb2, .slice Ac2 nc2 cc2, .string (⟨#[66]⟩ : ByteArray), .bool false, .int .i64 250, .slice Aa3 na3 ca3, .slice Ab3 nb3 cb3, .slice Ac3 nc3 cc3, .string (⟨#[77]⟩ : ByteArray), .bool false, .int .i64 600, .slice Aa4 na4 ca4, .slice Ab4 nb4 cb4, .slice Ac4 nc4 cc4, .string (⟨#[83]⟩ : ByteArray), .bool true, .int .i64 250, .slice Aa5 na5 ca5, .slice Ab5 nb5 cb5, .slice Ac5 nc5 cc5] 26)
   have hS : Kd.S k26 26 (wr.alloc (.cells #[.string (⟨#[82]⟩ : ByteArray), .bool false, .int .i64 250, .slice Aa1 na1 ca1, .slice Ab1 nb1 cb1, .slice Ac1 nc1 cc1, .string (⟨#[73]⟩ : ByteArray), .bool false, .int .i64 250, .slice Aa2 na2 ca2, .slice Ab2 nb2 cb2, .slice Ac2 nc2 cc2, .string (⟨#[66]⟩ : ByteArray), .bool false, .int .i64 250, .slice Aa3 na3 ca3, .slice Ab3 nb3 cb3, .slice Ac3 nc3 cc3, .string (⟨#[77]⟩ : ByteArray), .bool false, .int .i64 600, .slice Aa4 na4 ca4, .slice Ab4 nb4 cb4, .slice Ac4 nc4 cc4, .string (⟨#[83]⟩ : ByteArray), .bool true, .int .i64 250, .slice Aa5 na5 ca5, .slice Ab5 nb5 cb5, .slice Ac5 nc5 cc5] 26)) rG.heap.size (fun _ => True) (.slice (some ⟨wr.heap.size, 0, none⟩) 5 5) zk8 := by
    generalize wr.alloc (.cells #[.string (⟨#[82]⟩ : ByteArray), .bool false, .int .i64 250, .slice Aa1 na1 ca1, .slice Ab1 nb1 cb1, .slice Ac1 nc1 cc1, .string (⟨#[73]⟩ : ByteArray), .bool false, .int .i64 250, .slice Aa2 na2 ca2, .slice Ab2 nb2 cb2, .slice Ac2 nc2 cc2, .string (⟨#[66]⟩ : ByteArray), .bool false, .int .i64 250, .slice Aa3 na3 ca3, .slice Ab3 nb3 cb3, .slice Ac3 nc3 cc3, .string (⟨#[77]⟩ : ByteArray), .bool false, .int .i64 600, .slice Aa4 na4 ca4, .slice Ab4 nb4 cb4, .slice Ac4 nc4 cc4, .string (⟨#[83]⟩ : ByteArray), .bool true, .int .i64 250, .slice Aa5 na5 ca5, .slice Ab5 nb5 cb5, .slice Ac5 nc5 cc5] 26) = w' at hbn hnew ⊢
    have s0 := S0.out
    have s1 := S1.out
    have s2 := S2.out
    have s3 := S3.out
    have s4 := S4.out
    refine ⟨fun k => if k < W1_.heap.size then 0 else if k < W2_.heap.size then 1 else if k < W3_.heap.size then 2 else if k < rH.heap.size then 3 else 4, fun _ _ => trivial, [.string (⟨#[82]⟩ : ByteArray), .bool false, .int .i64 250, .slice Aa1 na1 ca1, .slice Ab1 nb1 cb1, .slice Ac1 nc1 cc1, .string (⟨#[73]⟩ : ByteArray), .bool false, .int .i64 250, .slice Aa2 na2 ca2, .slice Ab2 nb2 cb2, .slice Ac2 nc2 cc2, .string (⟨#[66]⟩ : ByteArray), .bool false, .int .i64 250, .slice Aa3 na3 ca3, .slice Ab3 nb3 cb3, .slice Ac3 nc3 cc3, .string (⟨#[77]⟩ : ByteArray), .bool false, .int .i64 600, .slice Aa4 na4 ca4, .slice Ab4 nb4 cb4, .slice Ac4 nc4 cc4, .string (⟨#[83]⟩ : ByteArray), .bool true, .int .i64 250, .slice Aa5 na5 ca5, .slice Ab5 nb5 cb5, .slice Ac5 nc5 cc5], ⟨rfl, .inr ⟨wr.heap.size, 5, _, rfl, BCA.out.size, hnew, by decide, by decide, rfl, rfl⟩⟩, rfl, fun j p hj => ?_⟩
    have hne : ∀ q, q < wr.heap.size → some q ≠ (Value.slice (some ⟨wr.heap.size, 0, none⟩) 5 5).ownBlock := by
     intro q hq e
     have : wr.heap.size = q := by simpa [Value.ownBlock] using e.symm
     omega
    rcases j with _ | _ | _ | _ | _ | j
    ·obtain rfl := Option.some.inj hj
     refine KA1.out w' rG.heap.size _ hbn (by omega) (fun q h1 h2 => ⟨⟨trivial, hne q (by omega)⟩, ?_⟩)
     show (if q < W1_.heap.size then 0 else if q < W2_.heap.size then 1 else if q < W3_.heap.size then 2 else if q < rH.heap.size then 3 else 4) = 0
     repeat' split
     all_goals omega
    ·obtain rfl := Option.some.inj hj
     refine KA2.out w' rG.heap.size _ hbn (by omega) (fun q h1 h2 => ⟨⟨trivial, hne q (by omega)⟩, ?_⟩)
     show (if q < W1_.heap.size then 0 else if q < W2_.heap.size then 1 else if q < W3_.heap.size then 2 else if q < rH.heap.size then 3 else 4) = 1
     repeat' split
     all_goals omega
    ·obtain rfl := Option.some.inj hj
     refine KA3.out w' rG.heap.size _ hbn (by omega) (fun q h1 h2 => ⟨⟨trivial, hne q (by omega)⟩, ?_⟩)
     show (if q < W1_.heap.size then 0 else if q < W2_.heap.size then 1 else if q < W3_.heap.size then 2 else if q < rH.heap.size then 3 else 4) = 2
     repeat' split
     all_goals omega
    ·obtain rfl := Option.some.inj hj
     refine KA4.out w' rG.heap.size _ hbn (by omega) (fun q h1 h2 => ⟨⟨trivial, hne q (by omega)⟩, ?_⟩)
     show (if q < W1_.heap.size then 0 else if q < W2_.heap.size then 1 else if q < W3_.heap.size then 2 else if q < rH.heap.size then 3 else 4) = 3
     repeat' split
     all_goals omega
    ·obtain rfl := Option.some.inj hj
     refine KA5.out w' rG.heap.size _ hbn (by omega) (fun q h1 h2 => ⟨⟨trivial, hne q (by omega)⟩, ?_⟩)
     show (if q < W1_.heap.size then 0 else if q < W2_.heap.size then 1 else if q < W3_.heap.size then 2 else if q < rH.heap.size then 3 else 4) = 4
     repeat' split
     all_goals omega
    ·simp [zk8] at hj
   clear hbn hnew
   go_ret
   exact ⟨_, rfl, hS, hbw⟩
def kD.f : Option (List Qx) := some zk8
theorem kD.calls (r : List Qx) (w : World) (hG : GW w) (h : kD.f = some r) :
  Calls Tryz.prog 13 #[] w fun e w' => ∃ v0_ : Value, e = .returned v0_ ∧ Kd.S k26 26 w' w.heap.size (fun _ => True) v0_ r ∧ Below w.heap.size w w' := by
 obtain rfl := Option.some.inj h
 exact zJA w hG
end Go.Proofs.YtaifemkokfoadaaGreatDoor
namespace Go.Proofs.YtaifemkokfoadaaGreatDoor
open Go.RowKit Go.Shelf Go.Proofs.zy.zK Go.Proofs.zy.yV Go.Proofs.YtaifemkokfoadaaGreatDoor.PX
set_option linter.unusedSimpArgs false
set_option linter.unusedVariables false
theorem zj1 {w : World} {g : Nat} {ns : List ByteArray} {t : TypeId} (h : w.heap[g]? = some (.cells (ns.map Value.string).toArray t (0, 0))) (hn : ns.length ≤ 1000) : Kd.C Kd.string w (some ⟨g, 0, none⟩) ns.length ns := by
 refine ⟨rfl, by omega, fun _ => ⟨_, rfl, fun j p hj => ⟨[.string p], rfl, rfl, fun i u hi => ?_⟩⟩⟩
 rcases i with _ | i
 ·cases hi
  have hs : Kd.string.sz = 1 := rfl
  rw [Addr.add_lit, hs]
  refine xW h _ _ ?_
  simp [hj]
 ·simp at hi
def K8 (l3 : List qB) (x : xC) : Bool := !Uq l3 [x.f0, x.f1, x.f2]
def X4 (l3 : List qB) (x : xS) : Bool := decide (x.f2 = 0) || (decide (x.f2 < -500) || (decide (500 < x.f2) || !Uq l3 [x.f0, x.f1]))
set_option maxRecDepth 100000 in
set_option maxHeartbeats 1000000 in
theorem zZ2 (B : Nat) (a : ByteArray) (b : Bool) (c : Int) (A3 : Option Addr) (c3 : Nat) (l3 : List qB) (A4 : Option Addr) (c4 : Nat) (l4 : List xC) (A5 : Option Addr) (c5 : Nat) (l5 : List xS) (g3 : l3.length ≤ c3) (g4 : l4.length ≤ c4) (g5 : l5.length ≤ c5) (hl3 : l3.length ≤ 1000000000) (w : World) (hF : Y5 w B a b c A3 c3 l3 A4 c4 l4 A5 c5 l5) :
  PredBelow Tryz.prog 49 #[.pointer (some ⟨B, 0, none⟩)] (fun x => .agg (zxm x).toArray) (K8 l3) w := fun W x hb => by
 have hl := (Array.getElem?_eq_some_iff.1 hF.blk).1
 have QL := hF.below hb
 have hlW : B < W.heap.size := Nat.lt_of_lt_of_le hl hb.size
 show Calls Tryz.prog 49 #[.agg #[.string x.f0, .string x.f1, .string x.f2], .pointer (some ⟨B, 0, none⟩)] W _
 have hbW : Below W.heap.size W ((W.alloc (.cells #[.string x.f0, .string x.f1, .string x.f2] 86)).alloc (.cells #[.string x.f0, .string x.f1, .string x.f2] 9)) := ((Below.refl _ W).alloc (Nat.le_refl _) _).alloc (by simp) _
 have hF2 := QL.below hbW
 have hblk : ((W.alloc (.cells #[.string x.f0, .string x.f1, .string x.f2] 86)).alloc (.cells #[.string x.f0, .string x.f1, .string x.f2] 9)).heap[W.heap.size + 1]? = some (.cells (([x.f0, x.f1, x.f2].map Value.string).toArray) 9 (0, 0)) := by
  have := World.alloc_heap_new (W.alloc (.cells #[.string x.f0, .string x.f1, .string x.f2] 86)) (.cells #[.string x.f0, .string x.f1, .string x.f2] 9)
  rwa [World.size_alloc] at this
 have ha := zjT a b c A3 c3 l3 A4 c4 l4 A5 c5 l5 _ 3 [x.f0, x.f1, x.f2] _ hF2.h3 g3 hF2.h4 g4 hF2.h5 g5 (zj1 hblk (by simp)) (by simp) hF2.gw hl3 (by simp)
 have k0 := xW QL.blk 0 _ rfl
 have k1 := xW QL.blk 1 _ rfl
 have k2 := xW QL.blk 2 _ rfl
 have k3 := xW QL.blk 3 _ rfl
 have k4 := xW QL.blk 4 _ rfl
 have k5 := xW QL.blk 5 _ rfl
 have hend := hb.trans (hbW.mono hb.size)
 unfold K8
 generalize Uq l3 [x.f0, x.f1, x.f2] = r at ha ⊢
 clear hF QL hF2 hblk hb g3 g4 g5
 go_enter Tryz.func49, Tryz.ntmps49
 go_wp2_with (go_at_call 50; refine ha.mono ?_; rintro e w1 ⟨rfl, hb1⟩)
 go_ret
 exact ⟨rfl, hend.trans (hb1.mono hend.size)⟩
set_option maxRecDepth 100000 in
set_option maxHeartbeats 1000000 in
theorem zZ3 (B : Nat) (a : ByteArray) (b : Bool) (c : Int) (A3 : Option Addr) (c3 : Nat) (l3 : List qB) (A4 : Option Addr) (c4 : Nat) (l4 : List xC) (A5 : Option Addr) (c5 : Nat) (l5 : List xS) (g3 : l3.length ≤ c3) (g4 : l4.length ≤ c4) (g5 : l5.length ≤ c5) (hl3 : l3.length ≤ 1000000000) (w : World) (hF : Y5 w B a b c A3 c3 l3 A4 c4 l4 A5 c5 l5) :
  PredBelow Tryz.prog 54 #[.pointer (some ⟨B, 0, none⟩)] (fun x => .agg (zxn x).toArray) (X4 l3) w := fun W x hb => by
 have hl := (Array.getElem?_eq_some_iff.1 hF.blk).1
 have QL := hF.below hb
 have hlW : B < W.heap.size := Nat.lt_of_lt_of_le hl hb.size
 show Calls Tryz.prog 54 #[.agg #[.string x.f0, .string x.f1, .int .i64 x.f2], .pointer (some ⟨B, 0, none⟩)] W _
 have hb1 : Below w.heap.size w (W.alloc (.cells #[.string x.f0, .string x.f1, .int .i64 x.f2] 76)) := hb.alloc hb.size _
 unfold X4
 by_cases q0 : x.f2 = 0
 ·have d0 : (x.f2 == 0) = true := beq_iff_eq.2 q0
  rw [decide_eq_true q0]
  clear q0 hF QL
  go_enter Tryz.func54, Tryz.ntmps54
  go_wp2
  go_ret
  exact ⟨rfl, hb1⟩
 ·have d0 : (x.f2 == 0) = false := beq_eq_false_iff_ne.2 q0
  rw [decide_eq_false q0, Bool.false_or]
  clear q0
  by_cases q1 : x.f2 < -500
  ·have d1 : decide (x.f2 < -500) = true := decide_eq_true q1
   rw [d1]
   clear q1 hF QL
   go_enter Tryz.func54, Tryz.ntmps54
   go_wp2
   go_ret
   exact ⟨rfl, hb1⟩
  ·have d1 : decide (x.f2 < -500) = false := decide_eq_false q1
   rw [d1, Bool.false_or]
   clear q1
   by_cases q2 : 500 < x.f2
   ·have d2 : decide (500 < x.f2) = true := decide_eq_true q2
    rw [d2]
    clear q2 hF QL
    go_enter Tryz.func54, Tryz.ntmps54
    go_wp2
    go_ret
    exact ⟨rfl, hb1⟩
   ·have d2 : decide (500 < x.f2) = false := decide_eq_false q2
    rw [d2, Bool.false_or]
    clear q2
    have hbW : Below W.heap.size W ((W.alloc (.cells #[.string x.f0, .string x.f1, .int .i64 x.f2] 76)).alloc (.cells #[.string x.f0, .string x.f1] 9)) := ((Below.refl _ W).alloc (Nat.le_refl _) _).alloc (by simp) _
    have hF2 := QL.below hbW
    have hblk : ((W.alloc (.cells #[.string x.f0, .string x.f1, .int .i64 x.f2] 76)).alloc (.cells #[.string x.f0, .string x.f1] 9)).heap[W.heap.size + 1]? = some (.cells (([x.f0, x.f1].map Value.string).toArray) 9 (0, 0)) := by
     have := World.alloc_heap_new (W.alloc (.cells #[.string x.f0, .string x.f1, .int .i64 x.f2] 76)) (.cells #[.string x.f0, .string x.f1] 9)
     rwa [World.size_alloc] at this
    have ha := zjT a b c A3 c3 l3 A4 c4 l4 A5 c5 l5 _ 2 [x.f0, x.f1] _ hF2.h3 g3 hF2.h4 g4 hF2.h5 g5 (zj1 hblk (by simp)) (by simp) hF2.gw hl3 (by simp)
    have k0 := xW QL.blk 0 _ rfl
    have k1 := xW QL.blk 1 _ rfl
    have k2 := xW QL.blk 2 _ rfl
    have k3 := xW QL.blk 3 _ rfl
    have k4 := xW QL.blk 4 _ rfl
    have k5 := xW QL.blk 5 _ rfl
    have hend := hb.trans (hbW.mono hb.size)
    generalize Uq l3 [x.f0, x.f1] = r at ha ⊢
    clear hF QL hF2 hblk hb g3 g4 g5
    go_enter Tryz.func54, Tryz.ntmps54
    go_wp2_with (go_at_call 50; refine ha.mono ?_; rintro e w1 ⟨rfl, hb1⟩)
    go_ret
    exact ⟨rfl, hend.trans (hb1.mono hend.size)⟩
def jy (a : ByteArray) (c : Int) (l3 : List qB) (l4 : List xC) (l5 : List xS) : Bool :=
 if (!Ze a.data.toList || (Xv c || (decide (400 < l3.length) || (decide (50 < l4.length) || decide (500 < l5.length))))) = true then false
 else if (l3.any Uz || !pY (fun i j => Qo (qI l3 (i : Int)) (qI l3 (j : Int))) l3.length) = true then false
 else if (l4.any (K8 l3) || !pY (fun i j => cmpL (xB l4 (i : Int)) (xB l4 (j : Int))) l4.length) = true then false
 else !l5.any (X4 l3) && pY (fun i j => JE (xE l5 (i : Int)) (xE l5 (j : Int))) l5.length
set_option maxRecDepth 100000 in
set_option maxHeartbeats 4000000 in
theorem zwT (a : ByteArray) (b : Bool) (c : Int) (A3 : Option Addr) (c3 : Nat) (l3 : List qB) (A4 : Option Addr) (c4 : Nat) (l4 : List xC) (A5 : Option Addr) (c5 : Nat) (l5 : List xS) (g3 : l3.length ≤ c3) (g4 : l4.length ≤ c4) (g5 : l5.length ≤ c5) (hl3 : l3.length ≤ 1000000000) (hl4 : l4.length ≤ 1000000000) (hl5 : l5.length ≤ 1000000000) (w : World) (h3 : Kd.C jB w A3 l3.length l3) (h4 : Kd.C kS w A4 l4.length l4) (h5 : Kd.C kU w A5 l5.length l5) (hG : GW w) :
  Calls Tryz.prog 17 #[.agg #[.string a, .bool b, .int .i64 c, .slice A3 l3.length c3, .slice A4 l4.length c4, .slice A5 l5.length c5]] w fun e w' => e = .returned (.bool (jy a c l3 l4 l5)) ∧ Below w.heap.size w w' := by
 have hw1 : Below w.heap.size w ((w.alloc (.cells #[.string a, .bool b, .int .i64 c, .slice A3 l3.length c3, .slice A4 l4.length c4, .slice A5 l5.length c5] 26)).alloc (.cells #[.func (.func 40) #[] #[]] 87)) := ((Below.refl _ w).alloc (Nat.le_refl _) _).alloc (by simp) _
 have hblk : ((w.alloc (.cells #[.string a, .bool b, .int .i64 c, .slice A3 l3.length c3, .slice A4 l4.length c4, .slice A5 l5.length c5] 26)).alloc (.cells #[.func (.func 40) #[] #[]] 87)).heap[w.heap.size]? = some (.cells #[.string a, .bool b, .int .i64 c, .slice A3 l3.length c3, .slice A4 l4.length c4, .slice A5 l5.length c5] 26 (0, 0)) :=
  (Below.heap_alloc _ _ _ (by simp)).trans (World.alloc_heap_new w _)
 have hfb : ((w.alloc (.cells #[.string a, .bool b, .int .i64 c, .slice A3 l3.length c3, .slice A4 l4.length c4, .slice A5 l5.length c5] 26)).alloc (.cells #[.func (.func 40) #[] #[]] 87)).heap[w.heap.size + 1]? = some (.cells #[.func (.func 40) #[] #[]] 87 (0, 0)) := by
  have := World.alloc_heap_new (w.alloc (.cells #[.string a, .bool b, .int .i64 c, .slice A3 l3.length c3, .slice A4 l4.length c4, .slice A5 l5.length c5] 26)) (.cells #[.func (.func 40) #[] #[]] 87)
  rwa [World.size_alloc] at this
 have hF : Y5 ((w.alloc (.cells #[.string a, .bool b, .int .i64 c, .slice A3 l3.length c3, .slice A4 l4.length c4, .slice A5 l5.length c5] 26)).alloc (.cells #[.func (.func 40) #[] #[]] 87)) w.heap.size a b c A3 c3 l3 A4 c4 l4 A5 c5 l5 := ⟨hblk, Kd.yE h3 hw1, Kd.yE h4 hw1, Kd.yE h5 hw1, hG.under hw1⟩
 have hfn := zq3 a ((w.alloc (.cells #[.string a, .bool b, .int .i64 c, .slice A3 l3.length c3, .slice A4 l4.length c4, .slice A5 l5.length c5] 26)).alloc (.cells #[.func (.func 40) #[] #[]] 87))
 have hwd := fun W => zxo c W
 have hhG := fun W (hF : Y5 W w.heap.size a b c A3 c3 l3 A4 c4 l4 A5 c5 l5) (hB : W.cell? ⟨w.heap.size + 1, 0, none⟩ = some (.func (.func 40) #[] #[])) => zZH A3 c3 l3 W hF.h3 hl3 Uz 43 #[.pointer (some ⟨w.heap.size + 1, 0, none⟩)] (enters_of Tryz.func43 (by kernel_rfl) rfl) (zZM _ W hB)
 have haG := fun W (hF : Y5 W w.heap.size a b c A3 c3 l3 A4 c4 l4 A5 c5 l5) => zZA A3 c3 l3 W hF.h3 hl3
 have hhL := fun W (hF : Y5 W w.heap.size a b c A3 c3 l3 A4 c4 l4 A5 c5 l5) => zZI A4 c4 l4 W hF.h4 hl4 (K8 l3) 49 #[.pointer (some ⟨w.heap.size, 0, none⟩)] (enters_of Tryz.func49 (by kernel_rfl) rfl) (zZ2 _ a b c A3 c3 l3 A4 c4 l4 A5 c5 l5 g3 g4 g5 hl3 W hF)
 have haL := fun W (hF : Y5 W w.heap.size a b c A3 c3 l3 A4 c4 l4 A5 c5 l5) => zZE A4 c4 l4 W hF.h4 hl4
 have hhK := fun W (hF : Y5 W w.heap.size a b c A3 c3 l3 A4 c4 l4 A5 c5 l5) => zZL A5 c5 l5 W hF.h5 hl5 (X4 l3) 54 #[.pointer (some ⟨w.heap.size, 0, none⟩)] (enters_of Tryz.func54 (by kernel_rfl) rfl) (zZ3 _ a b c A3 c3 l3 A4 c4 l4 A5 c5 l5 g3 g4 g5 hl3 W hF)
 have haK := fun W (hF : Y5 W w.heap.size a b c A3 c3 l3 A4 c4 l4 A5 c5 l5) => zZF A5 c5 l5 W hF.h5 hl5
 generalize hR : jy a c l3 l4 l5 = R
 have HR := Lib.hid hR
 unfold jy at hR
 generalize Ze a.data.toList = b1 at hfn hR
 generalize Xv c = b2 at hwd hR
 generalize l3.any Uz = b6 at hhG hR
 generalize pY (fun i j => Qo (qI l3 (i : Int)) (qI l3 (j : Int))) l3.length = b7 at haG hR
 generalize l4.any (K8 l3) = b8 at hhL hR
 generalize pY (fun i j => cmpL (xB l4 (i : Int)) (xB l4 (j : Int))) l4.length = b9 at haL hR
 generalize l5.any (X4 l3) = b10 at hhK hR
 generalize pY (fun i j => JE (xE l5 (i : Int)) (xE l5 (j : Int))) l5.length = b11 at haK hR
 clear g3 g4 g5 h3 h4 h5 hG HR
 go_enter Tryz.func17, Tryz.ntmps17
 have HF0 := Lib.hid hF
 have K0 := Lib.hid (xW hfb 0 _ rfl)
 have HW0 := Lib.hid hw1
 have c0 := xW hblk 0 _ rfl
 have c2 := xW hblk 2 _ rfl
 have Wm := xW hblk 3 _ rfl
 have Wn := xW hblk 4 _ rfl
 have Wo := xW hblk 5 _ rfl
 clear hF hblk hfb hw1
 go_wp2_with fail
 generalize ((w.alloc (.cells #[.string a, .bool b, .int .i64 c, .slice A3 l3.length c3, .slice A4 l4.length c4, .slice A5 l5.length c5] 26)).alloc (.cells #[.func (.func 40) #[] #[]] 87)) = W0 at hfn HF0 K0 HW0 c0 c2 Wm Wn Wo ⊢
 refine hfn.mono ?_; rintro e W1 ⟨rfl, hb1⟩
 clear hfn c0 c2 Wm Wn Wo
 have HF1 := Lib.hid (HF0.out.below hb1)
 have K1 := Lib.hid ((hb1.cell (World.block_lt_of_cell? _ _ K0.out)).trans K0.out)
 have HW1 := Lib.hid (HW0.out.trans (hb1.mono HW0.out.size))
 clear hb1
 have c2 := xW HF1.out.blk 2 _ rfl
 have Wm := xW HF1.out.blk 3 _ rfl
 have Wn := xW HF1.out.blk 4 _ rfl
 have Wo := xW HF1.out.blk 5 _ rfl
 have cb := K1.out
 cases b1 with
 | false =>
  obtain rfl : false = R := by simpa using hR
  clear hR
  go_wp2_with fail
  go_ret
  exact ⟨rfl, HW1.out⟩
 | true =>
  go_wp2_with fail
  refine (hwd _).mono ?_; rintro e W1x ⟨rfl, hx⟩; subst hx
  cases b2 with
  | false =>
   by_cases q3 : 400 < l3.length
   ·have dq3 : decide ((400 : Int) < (l3.length : Int)) = true := decide_eq_true (by omega)
    rw [decide_eq_true q3] at hR
    clear q3
    obtain rfl : false = R := by simpa using hR
    clear hR
    go_wp2_with fail
    go_ret
    exact ⟨rfl, HW1.out⟩
   ·have dq3 : decide ((400 : Int) < (l3.length : Int)) = false := decide_eq_false (by omega)
    rw [decide_eq_false q3] at hR
    clear q3
    by_cases q4 : 50 < l4.length
    ·have dq4 : decide ((50 : Int) < (l4.length : Int)) = true := decide_eq_true (by omega)
     rw [decide_eq_true q4] at hR
     clear q4
     obtain rfl : false = R := by simpa using hR
     clear hR
     go_wp2_with fail
     go_ret
     exact ⟨rfl, HW1.out⟩
    ·have dq4 : decide ((50 : Int) < (l4.length : Int)) = false := decide_eq_false (by omega)
     rw [decide_eq_false q4] at hR
     clear q4
     by_cases q5 : 500 < l5.length
     ·have dq5 : decide ((500 : Int) < (l5.length : Int)) = true := decide_eq_true (by omega)
      rw [decide_eq_true q5] at hR
      clear q5
      obtain rfl : false = R := by simpa using hR
      clear hR
      go_wp2_with fail
      go_ret
      exact ⟨rfl, HW1.out⟩
     ·have dq5 : decide ((500 : Int) < (l5.length : Int)) = false := decide_eq_false (by omega)
      rw [decide_eq_false q5] at hR
      clear q5
      simp only [Bool.not_true, Bool.or_self, Bool.false_eq_true, if_false, Bool.or_false] at hR
      go_wp2_with fail
      refine (hhG _ HF1.out K1.out).mono ?_; rintro e W2 ⟨rfl, hb2⟩
      clear c2 Wm Wn Wo cb
      have HF2 := Lib.hid (HF1.out.below hb2)
      have K2 := Lib.hid ((hb2.cell (World.block_lt_of_cell? _ _ K1.out)).trans K1.out)
      have HW2 := Lib.hid (HW1.out.trans (hb2.mono HW1.out.size))
      clear hb2
      have c2 := xW HF2.out.blk 2 _ rfl
      have Wm := xW HF2.out.blk 3 _ rfl
      have Wn := xW HF2.out.blk 4 _ rfl
      have Wo := xW HF2.out.blk 5 _ rfl
      have cb := K2.out
      cases b6 with
      | false =>
       go_wp2_with fail
       refine (haG _ HF2.out).mono ?_; rintro e W3 ⟨rfl, hb3⟩
       clear c2 Wm Wn Wo cb
       have HF3 := Lib.hid (HF2.out.below hb3)
       have K3 := Lib.hid ((hb3.cell (World.block_lt_of_cell? _ _ K2.out)).trans K2.out)
       have HW3 := Lib.hid (HW2.out.trans (hb3.mono HW2.out.size))
       clear hb3
       have c2 := xW HF3.out.blk 2 _ rfl
       have Wm := xW HF3.out.blk 3 _ rfl
       have Wn := xW HF3.out.blk 4 _ rfl
       have Wo := xW HF3.out.blk 5 _ rfl
       have cb := K3.out
       cases b7 with
       | false =>
        obtain rfl : false = R := by simpa using hR
        clear hR
        go_wp2_with fail
        go_ret
        exact ⟨rfl, HW3.out⟩
       | true =>
        go_wp2_with fail
        refine (hhL _ HF3.out).mono ?_; rintro e W4 ⟨rfl, hb4⟩
        clear c2 Wm Wn Wo cb
        have HF4 := Lib.hid (HF3.out.below hb4)
        have K4 := Lib.hid ((hb4.cell (World.block_lt_of_cell? _ _ K3.out)).trans K3.out)
        have HW4 := Lib.hid (HW3.out.trans (hb4.mono HW3.out.size))
        clear hb4
        have c2 := xW HF4.out.blk 2 _ rfl
        have Wm := xW HF4.out.blk 3 _ rfl
        have Wn := xW HF4.out.blk 4 _ rfl
        have Wo := xW HF4.out.blk 5 _ rfl
        have cb := K4.out
        cases b8 with
        | false =>
         go_wp2_with fail
         refine (haL _ HF4.out).mono ?_; rintro e W5 ⟨rfl, hb5⟩
         clear c2 Wm Wn Wo cb
         have HF5 := Lib.hid (HF4.out.below hb5)
         have K5 := Lib.hid ((hb5.cell (World.block_lt_of_cell? _ _ K4.out)).trans K4.out)
         have HW5 := Lib.hid (HW4.out.trans (hb5.mono HW4.out.size))
         clear hb5
         have c2 := xW HF5.out.blk 2 _ rfl
         have Wm := xW HF5.out.blk 3 _ rfl
         have Wn := xW HF5.out.blk 4 _ rfl
         have Wo := xW HF5.out.blk 5 _ rfl
         have cb := K5.out
         cases b9 with
         | false =>
          obtain rfl : false = R := by simpa using hR
          clear hR
          go_wp2_with fail
          go_ret
          exact ⟨rfl, HW5.out⟩
         | true =>
          go_wp2_with fail
          refine (hhK _ HF5.out).mono ?_; rintro e W6 ⟨rfl, hb6⟩
          clear c2 Wm Wn Wo cb
          have HF6 := Lib.hid (HF5.out.below hb6)
          have K6 := Lib.hid ((hb6.cell (World.block_lt_of_cell? _ _ K5.out)).trans K5.out)
          have HW6 := Lib.hid (HW5.out.trans (hb6.mono HW5.out.size))
          clear hb6
          have c2 := xW HF6.out.blk 2 _ rfl
          have Wm := xW HF6.out.blk 3 _ rfl
          have Wn := xW HF6.out.blk 4 _ rfl
          have Wo := xW HF6.out.blk 5 _ rfl
          have cb := K6.out
          cases b10 with
          | false =>
           go_wp2_with fail
           refine (haK _ HF6.out).mono ?_; rintro e W7 ⟨rfl, hb7⟩
           clear c2 Wm Wn Wo cb
           have HF7 := Lib.hid (HF6.out.below hb7)
           have K7 := Lib.hid ((hb7.cell (World.block_lt_of_cell? _ _ K6.out)).trans K6.out)
           have HW7 := Lib.hid (HW6.out.trans (hb7.mono HW6.out.size))
           clear hb7
           obtain rfl : b11 = R := by simpa using hR
           clear hR
           go_wp2_with fail
           go_ret
           exact ⟨rfl, HW7.out⟩
          | true =>
           obtain rfl : false = R := by simpa using hR
           clear hR
           go_wp2_with fail
           go_ret
           exact ⟨rfl, HW6.out⟩
        | true =>
         obtain rfl : false = R := by simpa using hR
         clear hR
         go_wp2_with fail
         go_ret
         exact ⟨rfl, HW4.out⟩
      | true =>
       obtain rfl : false = R := by simpa using hR
       clear hR
       go_wp2_with fail
       go_ret
       exact ⟨rfl, HW2.out⟩
  | true =>
   obtain rfl : false = R := by simpa using hR
   clear hR
   go_wp2_with fail
   go_ret
   exact ⟨rfl, HW1.out⟩
def kE.f (zN : ByteArray) (_ : Bool) (zP : Int) (zn : List qB) (zD : List xC) (zF : List xS) : Option Bool := if zn.length ≤ 1000000000 ∧ zD.length ≤ 1000000000 ∧ zF.length ≤ 1000000000 then some (jy zN zP zn zD zF) else none
theorem kE.calls (zN : ByteArray) (zO : Bool) (zP : Int) (qJ : Option Addr) (qZ : Nat) (zn : List qB) (qK : Option Addr) (qQ : Nat) (zD : List xC) (qY : Option Addr) (qX : Nat) (zF : List xS) (r : Bool) (w : World) (wY : Kd.C jB w qJ zn.length zn) (pW : zn.length ≤ qZ) (pE : Kd.C kS w qK zD.length zD) (pF : zD.length ≤ qQ) (pG : Kd.C kU w qY zF.length zF) (pI : zF.length ≤ qX) (hG : GW w) (h : kE.f zN zO zP zn zD zF = some r) :
  Calls Tryz.prog 17 #[.agg #[.string zN, .bool zO, .int .i64 zP, .slice qJ zn.length qZ, .slice qK zD.length qQ, .slice qY zF.length qX]] w fun e w' => e = .returned (.bool r) ∧ Below w.heap.size w w' := by
 unfold kE.f at h
 split at h
 ·rename_i hl
  obtain rfl := Option.some.inj h
  exact zwT zN zO zP qJ qZ zn qK qQ zD qY qX zF pW pF pI hl.1 hl.2.1 hl.2.2 w wY pE pG hG
 ·cases h
end Go.Proofs.YtaifemkokfoadaaGreatDoor
namespace Go.Proofs.YtaifemkokfoadaaGreatDoor.PX
open Go.RowKit Go.Proofs.zy.zK Go.Proofs.zy.yt Go.Proofs.zy.yV
attribute [local go_sem] xX xJ xP xR qD qE xV xK   -- for this text's walks alone
set_option linter.unusedVariables false
set_option linter.unusedSimpArgs false
def YA.f (zN : ByteArray) (zO : Bool) (zP : Int) (zn : List (qB)) (zD : List (xC)) (zF : List (xS)) (a1 : Int) : Option (Bool) := if a1 ≥ 1 then (if a1 ≤ 1000 then ((kE.f zN zO zP zn zD zF).bind fun zzT => (some zzT)) else (some false)) else (some false)
set_option maxHeartbeats 8000000 in
set_option maxRecDepth 100000 in
theorem YA.calls (zN : ByteArray) (zO : Bool) (zP : Int) (qJ : Option Addr) (qZ : Nat) (zn : List (qB)) (qK : Option Addr) (qQ : Nat) (zD : List (xC)) (qY : Option Addr) (qX : Nat) (zF : List (xS)) (a1 : Int) (r : Bool) (w : World) (wY : Kd.C jB w qJ zn.length zn) (pW : zn.length ≤ qZ) (pE : Kd.C kS w qK zD.length zD) (pF : zD.length ≤ qQ) (pG : Kd.C kU w qY zF.length zF) (pI : zF.length ≤ qX) (hG : GW w) (h : YA.f zN zO zP zn zD zF a1 = some r) :
  Calls Tryz.prog 26 #[.agg #[.string zN, .bool zO, .int .i64 zP, .slice qJ zn.length qZ, .slice qK zD.length qQ, .slice qY zF.length qX], .int .i64 a1] w fun e w' => e = .returned (.bool r) ∧ Below w.heap.size w w' := by
 have lX := Tryz.underlying26
 have HG := zk.mk hG
 clear hG
 have wS := zk.mk wY
 have Xh := zk.mk pW
 clear wY pW
 have ZB := zk.mk pE
 have Xi := zk.mk pF
 clear pE pF
 have ZC := zk.mk pG
 have Xl := zk.mk pI
 clear pG pI
 have HB := zk.mk (Below.refl w.heap.size w)
 have H : (if a1 ≥ 1 then (if a1 ≤ 1000 then ((kE.f zN zO zP zn zD zF).bind fun zzT => (some zzT)) else (some false)) else (some false)) = some r := h
 clear h
 by_cases c3 : a1 ≥ 1
 ·rw [if_pos c3] at H
  have XV : decide (1 ≤ a1) = true := decide_eq_true c3
  clear c3
  by_cases c4 : a1 ≤ 1000
  ·rw [if_pos c4] at H
   have JD : decide (a1 ≤ 1000) = true := decide_eq_true c4
   clear c4
   replace H := Option.bind_eq_some_iff.mp H
   obtain ⟨zzT, A50, H⟩ := H
   replace H : (some zzT) = some r := H
   have A5 := zk.mk A50
   clear A50
   obtain rfl := Option.some.inj H
   go_enter Tryz.func26, Tryz.ntmps26
   go_wp2_with (first | ((with_reducible refine xI (N := 2) rfl ?_); refine vJ ?hg (N := 2) ?hd (cs := #[.string zN, .bool zO, .int .i64 zP, .slice qJ zn.length qZ, .slice qK zD.length qQ, .slice qY zF.length qX]) (t := 26) ?hr ?_; (case hd => rfl); (case hg => rfl); (case hr => first | (go_simp; done) | (go_simp; rfl)); intro YH hg w6 vX hb; have zl := zk.mk (yg (yQ HB.out) hb); have zC := zk.mk (vX); have zM := zk.mk ((by rw [hg]; exact (zH (yQ HB.out)) : w.heap.size ≤ YH)); have zT := zk.mk ((by rw [hg]; exact (zH (yQ HB.out)) : w.heap.size ≤ YH)); clear HB; have HB := zl; have ZU := zC; have zXV := zM; have zzx := zT; clear zl zC zM zT; clear hb vX hg; have zKL : w6.cell? ⟨YH, 0, none⟩ = some (.string zN) := (zx ZU.out 0).trans rfl; have zKM : w6.cell? ⟨YH, 1, none⟩ = some (.bool zO) := (zx ZU.out 1).trans rfl; have zKN : w6.cell? ⟨YH, 2, none⟩ = some (.int .i64 zP) := (zx ZU.out 2).trans rfl; have zKO : w6.cell? ⟨YH, 3, none⟩ = some (.slice qJ zn.length qZ) := (zx ZU.out 3).trans rfl; have zKP : w6.cell? ⟨YH, 4, none⟩ = some (.slice qK zD.length qQ) := (zx ZU.out 4).trans rfl; have zKR : w6.cell? ⟨YH, 5, none⟩ = some (.slice qY zF.length qX) := (zx ZU.out 5).trans rfl; have zKS := zw ZU.out 0; have zKT := zw ZU.out 1; have zKU := zw ZU.out 2; have zK0 := zw ZU.out 3; have zK1 := zw ZU.out 4; have zK2 := zw ZU.out 5) | (go_at_call 17; (with_reducible refine (kE.calls zN zO zP _ _ zn _ _ zD _ _ zF zzT _ ?vR ?jK ?jY ?jW ?jc ?jd ?wQ A5.out).mono ?_); (case vR => repeat (first | exact (Kd.yE wS.out HB.out) | (with_reducible refine Kd.qx ?_ _) | (with_reducible refine Kd.qj ?_ _) | (with_reducible refine Kd.qo ?_))); (case jK => exact Xh.out); (case jY => repeat (first | exact (Kd.yE ZB.out HB.out) | (with_reducible refine Kd.qx ?_ _) | (with_reducible refine Kd.qj ?_ _) | (with_reducible refine Kd.qo ?_))); (case jW => exact Xi.out); (case jc => repeat (first | exact (Kd.yE ZC.out HB.out) | (with_reducible refine Kd.qx ?_ _) | (with_reducible refine Kd.qj ?_ _) | (with_reducible refine Kd.qo ?_))); (case jd => exact Xl.out); (case wQ => exact GW.under HG.out (yQ HB.out)); rintro e w8 ⟨rfl, hb⟩; have zl := zk.mk (zo (g := YH) (o := .cells #[.string zN, .bool zO, .int .i64 zP, .slice qJ zn.length qZ, .slice qK zD.length qQ, .slice qY zF.length qX] 26 (0, 0)) (qV ZU.out) hb); have zC := zk.mk (yg (yQ HB.out) hb); clear ZU; clear HB; have ZU := zl; have HB := zC; clear zl zC; (try clear hb); (try clear hb2); (try clear hk); (try clear hi)))
   go_ret
   exact ⟨by first | rfl | (simp [yw, yZ] <;> rfl) | (simp [*, yw, yZ] <;> rfl), by repeat (first | (with_reducible first | exact HB.out | apply yS | apply yx | apply yD | refine qh ?_ zzx.out) | exact HB.out)⟩
  ·rw [if_neg c4] at H
   have JD : decide (a1 ≤ 1000) = false := decide_eq_false c4
   clear c4
   obtain rfl := Option.some.inj H
   go_enter Tryz.func26, Tryz.ntmps26
   go_wp2_with (first | ((with_reducible refine xI (N := 2) rfl ?_); refine vJ ?hg (N := 2) ?hd (cs := #[.string zN, .bool zO, .int .i64 zP, .slice qJ zn.length qZ, .slice qK zD.length qQ, .slice qY zF.length qX]) (t := 26) ?hr ?_; (case hd => rfl); (case hg => rfl); (case hr => first | (go_simp; done) | (go_simp; rfl)); intro YH hg w9 vX hb; have zl := zk.mk (yg (yQ HB.out) hb); have zC := zk.mk (vX); have zM := zk.mk ((by rw [hg]; exact (zH (yQ HB.out)) : w.heap.size ≤ YH)); have zT := zk.mk ((by rw [hg]; exact (zH (yQ HB.out)) : w.heap.size ≤ YH)); clear HB; have HB := zl; have ZU := zC; have zXV := zM; have zzx := zT; clear zl zC zM zT; clear hb vX hg))
   go_ret
   exact ⟨by first | rfl | (simp [yw, yZ] <;> rfl) | (simp [*, yw, yZ] <;> rfl), by repeat (first | (with_reducible first | exact HB.out | apply yS | apply yx | apply yD | refine qh ?_ zzx.out) | exact HB.out)⟩
 ·rw [if_neg c3] at H
  have XV : decide (1 ≤ a1) = false := decide_eq_false c3
  clear c3
  obtain rfl := Option.some.inj H
  go_enter Tryz.func26, Tryz.ntmps26
  go_wp2_with (first | ((with_reducible refine xI (N := 2) rfl ?_); refine vJ ?hg (N := 2) ?hd (cs := #[.string zN, .bool zO, .int .i64 zP, .slice qJ zn.length qZ, .slice qK zD.length qQ, .slice qY zF.length qX]) (t := 26) ?hr ?_; (case hd => rfl); (case hg => rfl); (case hr => first | (go_simp; done) | (go_simp; rfl)); intro YH hg w10 vX hb; have zl := zk.mk (yg (yQ HB.out) hb); have zC := zk.mk (vX); have zM := zk.mk ((by rw [hg]; exact (zH (yQ HB.out)) : w.heap.size ≤ YH)); have zT := zk.mk ((by rw [hg]; exact (zH (yQ HB.out)) : w.heap.size ≤ YH)); clear HB; have HB := zl; have ZU := zC; have zXV := zM; have zzx := zT; clear zl zC zM zT; clear hb vX hg))
  go_ret
  exact ⟨by first | rfl | (simp [yw, yZ] <;> rfl) | (simp [*, yw, yZ] <;> rfl), by repeat (first | (with_reducible first | exact HB.out | apply yS | apply yx | apply yD | refine qh ?_ zzx.out) | exact HB.out)⟩
def VF.f (a0 : Int) (a1 : Int) : Option (Int) := if a0 < 0 then (if a1 = 0 then (none) else (some (wrap64 (-(wrap64 (Int.tdiv (wrap64 ((wrap64 ((wrap64 (-a0)) + a1)) - 1)) a1)))))) else (if a1 = 0 then (none) else (some (wrap64 (Int.tdiv a0 a1))))
set_option maxHeartbeats 8000000 in
set_option maxRecDepth 100000 in
theorem VF.calls (a0 : Int) (a1 : Int) (r : Int) (w : World) (h : VF.f a0 a1 = some r) :
  Calls Tryz.prog 88 #[.int .i64 a0, .int .i64 a1] w fun e w' => e = .returned (.int .i64 r) ∧ qy w w' := by
 have H : (if a0 < 0 then (if a1 = 0 then (none) else (some (wrap64 (-(wrap64 (Int.tdiv (wrap64 ((wrap64 ((wrap64 (-a0)) + a1)) - 1)) a1)))))) else (if a1 = 0 then (none) else (some (wrap64 (Int.tdiv a0 a1))))) = some r := h
 clear h
 by_cases c3 : a0 < 0
 ·rw [if_pos c3] at H
  have XV : decide (a0 < 0) = true := decide_eq_true c3
  clear c3
  by_cases c4 : a1 = 0
  ·rw [if_pos c4] at H
   exact absurd H (by simp)
  ·rw [if_neg c4] at H
   have JD : (a1 == 0) = false := beq_eq_false_iff_ne.mpr c4
   have zyy : (a1 != 0) = true := bne_iff_ne.mpr c4
   obtain rfl := Option.some.inj H
   go_enter Tryz.func88, Tryz.ntmps88
   go_wp2
   go_ret
   exact ⟨by first | rfl | (simp; done) | (simp [*]; done), by repeat (first | exact qy.refl _ | apply qy.step)⟩
 ·rw [if_neg c3] at H
  have XV : decide (a0 < 0) = false := decide_eq_false c3
  clear c3
  by_cases c5 : a1 = 0
  ·rw [if_pos c5] at H
   exact absurd H (by simp)
  ·rw [if_neg c5] at H
   have VB : (a1 == 0) = false := beq_eq_false_iff_ne.mpr c5
   have zk0 : (a1 != 0) = true := bne_iff_ne.mpr c5
   obtain rfl := Option.some.inj H
   go_enter Tryz.func88, Tryz.ntmps88
   go_wp2
   go_ret
   exact ⟨by first | rfl | (simp; done) | (simp [*]; done), by repeat (first | exact qy.refl _ | apply qy.step)⟩
def wC.f (a0 : Int) (a1 : Int) : Option (Int) := (VF.f (wrap64 ((wrap64 (10 * a1)) * a0)) 1000).bind fun zzU => (some zzU)
set_option maxHeartbeats 8000000 in
set_option maxRecDepth 100000 in
theorem wC.calls (a0 : Int) (a1 : Int) (r : Int) (w : World) (h : wC.f a0 a1 = some r) :
  Calls Tryz.prog 28 #[.int .i64 a0, .int .i64 a1] w fun e w' => e = .returned (.int .i64 r) ∧ qy w w' := by
 have H : ((VF.f (wrap64 ((wrap64 (10 * a1)) * a0)) 1000).bind fun zzU => (some zzU)) = some r := h
 clear h
 replace H := Option.bind_eq_some_iff.mp H
 obtain ⟨zzU, rA, H⟩ := H
 replace H : (some zzU) = some r := H
 have A3 := zk.mk rA
 clear rA
 obtain rfl := Option.some.inj H
 go_enter Tryz.func28, Tryz.ntmps28
 go_wp2_with (first | ((with_reducible refine y7 (f := 88) rfl ?_); refine jP (some 9) Tryz.func88 #[.int .i64 (wrap64 ((wrap64 (10 * a1)) * a0)), .int .i64 1000] ?_; (with_reducible refine (VF.calls (wrap64 ((wrap64 (10 * a1)) * a0)) 1000 zzU _ A3.out).mono ?_); rintro e w' ⟨rfl, ⟨nd, rfl⟩⟩; refine ⟨_, rfl, ?_⟩))
 go_ret
 exact ⟨by first | rfl | (simp; done) | (simp [*]; done), by repeat (first | exact qy.refl _ | apply qy.step)⟩
end Go.Proofs.YtaifemkokfoadaaGreatDoor.PX
namespace Go.Proofs.YtaifemkokfoadaaGreatDoor.PX
open Go.RowKit Go.Proofs.zy.zK Go.Proofs.zy.yt Go.Proofs.zy.yV
attribute [local go_sem] xX xJ xP xR qD qE xV xK   -- for this text's walks alone
set_option linter.unusedVariables false
set_option linter.unusedSimpArgs false
def wD.f (zN : ByteArray) (zO : Bool) (zP : Int) (zn : List (qB)) (zD : List (xC)) (zF : List (xS)) (a1 : ByteArray) (a2 : Int) : Option (Int × Int) := (YA.f zN zO zP zn zD zF a2).bind fun zz0 => (if zz0 = true then ((kY.f zN zO zP zn zD zF a1).bind fun pR => (if pR.2 = true then (if 0 ≤ pR.1 then (if pR.1 < (zn.length : Int) then ((wC.f ((qI zn pR.1).f1) a2).bind fun VG => (some (VG, 0))) else (none)) else (none)) else (some (0, 3)))) else (some (0, 1)))
set_option maxHeartbeats 8000000 in
set_option maxRecDepth 100000 in
theorem wD.calls (zN : ByteArray) (zO : Bool) (zP : Int) (qJ : Option Addr) (qZ : Nat) (zn : List (qB)) (qK : Option Addr) (qQ : Nat) (zD : List (xC)) (qY : Option Addr) (qX : Nat) (zF : List (xS)) (a1 : ByteArray) (a2 : Int) (r1 : Int) (r2 : Int) (w : World) (wY : Kd.C jB w qJ zn.length zn) (pW : zn.length ≤ qZ) (pE : Kd.C kS w qK zD.length zD) (pF : zD.length ≤ qQ) (pG : Kd.C kU w qY zF.length zF) (pI : zF.length ≤ qX) (hG : GW w) (h : wD.f zN zO zP zn zD zF a1 a2 = some (r1, r2)) :
  Calls Tryz.prog 11 #[.agg #[.string zN, .bool zO, .int .i64 zP, .slice qJ zn.length qZ, .slice qK zD.length qQ, .slice qY zF.length qX], .string a1, .int .i64 a2] w fun e w' => e = .returned (.tuple #[.int .i64 r1, .int .i64 r2]) ∧ Below w.heap.size w w' := by
 have lX := Tryz.underlying26
 have HG := zk.mk hG
 clear hG
 have wS := zk.mk wY
 have Xh := zk.mk pW
 clear wY pW
 have ZB := zk.mk pE
 have Xi := zk.mk pF
 clear pE pF
 have ZC := zk.mk pG
 have Xl := zk.mk pI
 clear pG pI
 have HB := zk.mk (Below.refl w.heap.size w)
 have H : ((YA.f zN zO zP zn zD zF a2).bind fun zz0 => (if zz0 = true then ((kY.f zN zO zP zn zD zF a1).bind fun pR => (if pR.2 = true then (if 0 ≤ pR.1 then (if pR.1 < (zn.length : Int) then ((wC.f ((qI zn pR.1).f1) a2).bind fun VG => (some (VG, 0))) else (none)) else (none)) else (some (0, 3)))) else (some (0, 1)))) = some (r1, r2) := h
 clear h
 replace H := Option.bind_eq_some_iff.mp H
 obtain ⟨zz0, rD, H⟩ := H
 replace H : (if zz0 = true then ((kY.f zN zO zP zn zD zF a1).bind fun pR => (if pR.2 = true then (if 0 ≤ pR.1 then (if pR.1 < (zn.length : Int) then ((wC.f ((qI zn pR.1).f1) a2).bind fun VG => (some (VG, 0))) else (none)) else (none)) else (some (0, 3)))) else (some (0, 1))) = some (r1, r2) := H
 have A4 := zk.mk rD
 clear rD
 by_cases c5 : zz0 = true
 ·subst c5
  have H1 : ((kY.f zN zO zP zn zD zF a1).bind fun pR => (if pR.2 = true then (if 0 ≤ pR.1 then (if pR.1 < (zn.length : Int) then ((wC.f ((qI zn pR.1).f1) a2).bind fun VG => (some (VG, 0))) else (none)) else (none)) else (some (0, 3)))) = some (r1, r2) := by rw [if_pos rfl] at H; exact H
  clear H
  have H := H1
  clear H1
  replace H := Option.bind_eq_some_iff.mp H
  obtain ⟨⟨XK, zK3⟩, A60, H⟩ := H
  replace H : (if zK3 = true then (if 0 ≤ XK then (if XK < (zn.length : Int) then ((wC.f ((qI zn XK).f1) a2).bind fun VG => (some (VG, 0))) else (none)) else (none)) else (some (0, 3))) = some (r1, r2) := H
  have A6 := zk.mk A60
  clear A60
  by_cases c7 : zK3 = true
  ·subst c7
   have H1 : (if 0 ≤ XK then (if XK < (zn.length : Int) then ((wC.f ((qI zn XK).f1) a2).bind fun VG => (some (VG, 0))) else (none)) else (none)) = some (r1, r2) := by rw [if_pos rfl] at H; exact H
   clear H
   have H := H1
   clear H1
   by_cases c8 : 0 ≤ XK
   ·rw [if_pos c8] at H
    have KO : decide (0 ≤ XK) = true := decide_eq_true c8
    clear c8
    by_cases c9 : XK < (zn.length : Int)
    ·rw [if_pos c9] at H
     have zkT : decide (XK < (zn.length : Int)) = true := decide_eq_true c9
     clear c9
     replace H := Option.bind_eq_some_iff.mp H
     obtain ⟨VG, zK4, H⟩ := H
     replace H : (some (VG, 0)) = some (r1, r2) := H
     have A10 := zk.mk zK4
     clear zK4
     simp only [Option.some.injEq, Prod.mk.injEq] at H
     obtain ⟨rfl, rfl⟩ := H
     go_enter Tryz.func11, Tryz.ntmps11
     go_wp2_with (first | ((with_reducible refine xI (N := 3) rfl ?_); refine vJ ?hg (N := 3) ?hd (cs := #[.string zN, .bool zO, .int .i64 zP, .slice qJ zn.length qZ, .slice qK zD.length qQ, .slice qY zF.length qX]) (t := 26) ?hr ?_; (case hd => rfl); (case hg => rfl); (case hr => first | (go_simp; done) | (go_simp; rfl)); intro vS hg iC vX hb; have zl := zk.mk (yg (yQ HB.out) hb); have zC := zk.mk (vX); have zM := zk.mk ((by rw [hg]; exact (zH (yQ HB.out)) : w.heap.size ≤ vS)); have zT := zk.mk ((by rw [hg]; exact (zH (yQ HB.out)) : w.heap.size ≤ vS)); clear HB; have HB := zl; have qc := zC; have zXK := zM; have zzj := zT; clear zl zC zM zT; clear hb vX hg; have zgA : iC.cell? ⟨vS, 0, none⟩ = some (.string zN) := (zx qc.out 0).trans rfl; have zgB : iC.cell? ⟨vS, 1, none⟩ = some (.bool zO) := (zx qc.out 1).trans rfl; have zgC : iC.cell? ⟨vS, 2, none⟩ = some (.int .i64 zP) := (zx qc.out 2).trans rfl; have zgD : iC.cell? ⟨vS, 3, none⟩ = some (.slice qJ zn.length qZ) := (zx qc.out 3).trans rfl; have zgE : iC.cell? ⟨vS, 4, none⟩ = some (.slice qK zD.length qQ) := (zx qc.out 4).trans rfl; have zgF : iC.cell? ⟨vS, 5, none⟩ = some (.slice qY zF.length qX) := (zx qc.out 5).trans rfl; have zgG := zw qc.out 0; have zgH := zw qc.out 1; have zgI := zw qc.out 2; have zgL := zw qc.out 3; have zgM := zw qc.out 4; have zgN := zw qc.out 5) | ((with_reducible refine y7 (f := 26) rfl ?_); refine jP (some 12) Tryz.func26 #[.agg #[.string zN, .bool zO, .int .i64 zP, .slice qJ zn.length qZ, .slice qK zD.length qQ, .slice qY zF.length qX], .int .i64 a2] ?_; (with_reducible refine (YA.calls zN zO zP _ _ zn _ _ zD _ _ zF a2 true _ ?vR ?jK ?jY ?jW ?jc ?jd ?wQ A4.out).mono ?_); (case vR => repeat (first | exact (Kd.yE wS.out HB.out) | (with_reducible refine Kd.qx ?_ _) | (with_reducible refine Kd.qj ?_ _) | (with_reducible refine Kd.qo ?_))); (case jK => exact Xh.out); (case jY => repeat (first | exact (Kd.yE ZB.out HB.out) | (with_reducible refine Kd.qx ?_ _) | (with_reducible refine Kd.qj ?_ _) | (with_reducible refine Kd.qo ?_))); (case jW => exact Xi.out); (case jc => repeat (first | exact (Kd.yE ZC.out HB.out) | (with_reducible refine Kd.qx ?_ _) | (with_reducible refine Kd.qj ?_ _) | (with_reducible refine Kd.qo ?_))); (case jd => exact Xl.out); (case wQ => exact GW.under HG.out (yQ HB.out)); rintro e KT ⟨rfl, hb⟩; refine ⟨_, rfl, ?_⟩; have zl := zk.mk (zo (g := vS) (o := .cells #[.string zN, .bool zO, .int .i64 zP, .slice qJ zn.length qZ, .slice qK zD.length qQ, .slice qY zF.length qX] 26 (0, 0)) (qV qc.out) hb); have zC := zk.mk (yg (yQ HB.out) hb); clear qc; clear HB; have qc := zl; have HB := zC; clear zl zC; (try clear hb); (try clear hb2); (try clear hk); (try clear hi); have zJB : KT.cell? ⟨vS, 0, none⟩ = some (.string zN) := (zx qc.out 0).trans rfl; have zJC : KT.cell? ⟨vS, 1, none⟩ = some (.bool zO) := (zx qc.out 1).trans rfl; have zJD : KT.cell? ⟨vS, 2, none⟩ = some (.int .i64 zP) := (zx qc.out 2).trans rfl; have zJE : KT.cell? ⟨vS, 3, none⟩ = some (.slice qJ zn.length qZ) := (zx qc.out 3).trans rfl; have zJF : KT.cell? ⟨vS, 4, none⟩ = some (.slice qK zD.length qQ) := (zx qc.out 4).trans rfl; have zJG : KT.cell? ⟨vS, 5, none⟩ = some (.slice qY zF.length qX) := (zx qc.out 5).trans rfl; have zJH := zw qc.out 0; have zJI := zw qc.out 1; have zJL := zw qc.out 2; have zJM := zw qc.out 3; have zJN := zw qc.out 4; have zJO := zw qc.out 5) | ((with_reducible refine y7 (f := 27) rfl ?_); refine jP (some 17) Tryz.func27 #[.agg #[.string zN, .bool zO, .int .i64 zP, .slice qJ zn.length qZ, .slice qK zD.length qQ, .slice qY zF.length qX], .string a1] ?_; (with_reducible refine (kY.calls zN zO zP _ _ zn _ _ zD _ _ zF a1 XK true _ ?vR ?jK ?jY ?jW ?jc ?jd ?wQ A6.out).mono ?_); (case vR => repeat (first | exact (Kd.yE wS.out HB.out) | (with_reducible refine Kd.qx ?_ _) | (with_reducible refine Kd.qj ?_ _) | (with_reducible refine Kd.qo ?_))); (case jK => exact Xh.out); (case jY => repeat (first | exact (Kd.yE ZB.out HB.out) | (with_reducible refine Kd.qx ?_ _) | (with_reducible refine Kd.qj ?_ _) | (with_reducible refine Kd.qo ?_))); (case jW => exact Xi.out); (case jc => repeat (first | exact (Kd.yE ZC.out HB.out) | (with_reducible refine Kd.qx ?_ _) | (with_reducible refine Kd.qj ?_ _) | (with_reducible refine Kd.qo ?_))); (case jd => exact Xl.out); (case wQ => exact GW.under HG.out (yQ HB.out)); rintro e KU ⟨rfl, hb⟩; refine ⟨_, rfl, ?_⟩; have zl := zk.mk (zo (g := vS) (o := .cells #[.string zN, .bool zO, .int .i64 zP, .slice qJ zn.length qZ, .slice qK zD.length qQ, .slice qY zF.length qX] 26 (0, 0)) (qV qc.out) hb); have zC := zk.mk (yg (yQ HB.out) hb); clear qc; clear HB; have qc := zl; have HB := zC; clear zl zC; (try clear hb); (try clear hb2); (try clear hk); (try clear hi); have PD : KU.cell? ⟨vS, 0, none⟩ = some (.string zN) := (zx qc.out 0).trans rfl; have PE : KU.cell? ⟨vS, 1, none⟩ = some (.bool zO) := (zx qc.out 1).trans rfl; have PG : KU.cell? ⟨vS, 2, none⟩ = some (.int .i64 zP) := (zx qc.out 2).trans rfl; have PI : KU.cell? ⟨vS, 3, none⟩ = some (.slice qJ zn.length qZ) := (zx qc.out 3).trans rfl; have PN : KU.cell? ⟨vS, 4, none⟩ = some (.slice qK zD.length qQ) := (zx qc.out 4).trans rfl; have PO : KU.cell? ⟨vS, 5, none⟩ = some (.slice qY zF.length qX) := (zx qc.out 5).trans rfl; have PS := zw qc.out 0; have PU := zw qc.out 1; have P5 := zw qc.out 2; have P6 := zw qc.out 3; have P7 := zw qc.out 4; have P8 := zw qc.out 5; have zZ4 : 0 ≤ (XK : Int) := of_decide_eq_true (by first | (with_reducible assumption) | assumption); have zZ5 : XK < (zn.length : Int) := of_decide_eq_true (by first | (with_reducible assumption) | assumption); obtain ⟨zlw, e246, zz1, zz2⟩ := Jh wS.out XK zZ4 zZ5; cases e246; replace zz1 := (HB.out.cell (World.block_lt_of_cell? w _ zz1)).trans zz1; replace zz2 := (HB.out.cell (World.block_lt_of_cell? w _ zz2)).trans zz2; replace zZ4 := eq_true zZ4; replace zZ5 := eq_true zZ5) | ((with_reducible refine y7 (f := 28) rfl ?_); refine jP (some 29) Tryz.func28 #[.int .i64 ((qI zn XK).f1), .int .i64 a2] ?_; (with_reducible refine (wC.calls ((qI zn XK).f1) a2 VG _ A10.out).mono ?_); rintro e w' ⟨rfl, ⟨nd, rfl⟩⟩; refine ⟨_, rfl, ?_⟩))
     go_ret2
     exact ⟨by first | rfl | (simp [yw, yZ] <;> rfl) | (simp [*, yw, yZ] <;> rfl), by repeat (first | (with_reducible first | exact HB.out | apply yS | apply yx | apply yD | refine qh ?_ zzj.out) | exact HB.out)⟩
    ·rw [if_neg c9] at H
     exact absurd H (by simp)
   ·rw [if_neg c8] at H
    exact absurd H (by simp)
  ·replace c7 := Bool.eq_false_iff.mpr c7
   subst c7
   have H1 : (some (0, 3)) = some (r1, r2) := by rw [if_neg (show ¬ (false = true) by decide)] at H; exact H
   clear H
   have H := H1
   clear H1
   simp only [Option.some.injEq, Prod.mk.injEq] at H
   obtain ⟨rfl, rfl⟩ := H
   go_enter Tryz.func11, Tryz.ntmps11
   go_wp2_with (first | ((with_reducible refine xI (N := 3) rfl ?_); refine vJ ?hg (N := 3) ?hd (cs := #[.string zN, .bool zO, .int .i64 zP, .slice qJ zn.length qZ, .slice qK zD.length qQ, .slice qY zF.length qX]) (t := 26) ?hr ?_; (case hd => rfl); (case hg => rfl); (case hr => first | (go_simp; done) | (go_simp; rfl)); intro vS hg nP vX hb; have zl := zk.mk (yg (yQ HB.out) hb); have zC := zk.mk (vX); have zM := zk.mk ((by rw [hg]; exact (zH (yQ HB.out)) : w.heap.size ≤ vS)); have zT := zk.mk ((by rw [hg]; exact (zH (yQ HB.out)) : w.heap.size ≤ vS)); clear HB; have HB := zl; have qc := zC; have zXK := zM; have zzj := zT; clear zl zC zM zT; clear hb vX hg; have P9 : nP.cell? ⟨vS, 0, none⟩ = some (.string zN) := (zx qc.out 0).trans rfl; have bq : nP.cell? ⟨vS, 1, none⟩ = some (.bool zO) := (zx qc.out 1).trans rfl; have bZ : nP.cell? ⟨vS, 2, none⟩ = some (.int .i64 zP) := (zx qc.out 2).trans rfl; have bQ : nP.cell? ⟨vS, 3, none⟩ = some (.slice qJ zn.length qZ) := (zx qc.out 3).trans rfl; have bX : nP.cell? ⟨vS, 4, none⟩ = some (.slice qK zD.length qQ) := (zx qc.out 4).trans rfl; have bJ : nP.cell? ⟨vS, 5, none⟩ = some (.slice qY zF.length qX) := (zx qc.out 5).trans rfl; have bV := zw qc.out 0; have bK := zw qc.out 1; have bY := zw qc.out 2; have bW := zw qc.out 3; have bf := zw qc.out 4; have bg := zw qc.out 5) | ((with_reducible refine y7 (f := 26) rfl ?_); refine jP (some 12) Tryz.func26 #[.agg #[.string zN, .bool zO, .int .i64 zP, .slice qJ zn.length qZ, .slice qK zD.length qQ, .slice qY zF.length qX], .int .i64 a2] ?_; (with_reducible refine (YA.calls zN zO zP _ _ zn _ _ zD _ _ zF a2 true _ ?vR ?jK ?jY ?jW ?jc ?jd ?wQ A4.out).mono ?_); (case vR => repeat (first | exact (Kd.yE wS.out HB.out) | (with_reducible refine Kd.qx ?_ _) | (with_reducible refine Kd.qj ?_ _) | (with_reducible refine Kd.qo ?_))); (case jK => exact Xh.out); (case jY => repeat (first | exact (Kd.yE ZB.out HB.out) | (with_reducible refine Kd.qx ?_ _) | (with_reducible refine Kd.qj ?_ _) | (with_reducible refine Kd.qo ?_))); (case jW => exact Xi.out); (case jc => repeat (first | exact (Kd.yE ZC.out HB.out) | (with_reducible refine Kd.qx ?_ _) | (with_reducible refine Kd.qj ?_ _) | (with_reducible refine Kd.qo ?_))); (case jd => exact Xl.out); (case wQ => exact GW.under HG.out (yQ HB.out)); rintro e Y6 ⟨rfl, hb⟩; refine ⟨_, rfl, ?_⟩; have zl := zk.mk (zo (g := vS) (o := .cells #[.string zN, .bool zO, .int .i64 zP, .slice qJ zn.length qZ, .slice qK zD.length qQ, .slice qY zF.length qX] 26 (0, 0)) (qV qc.out) hb); have zC := zk.mk (yg (yQ HB.out) hb); clear qc; clear HB; have qc := zl; have HB := zC; clear zl zC; (try clear hb); (try clear hb2); (try clear hk); (try clear hi); have zgO : Y6.cell? ⟨vS, 0, none⟩ = some (.string zN) := (zx qc.out 0).trans rfl; have zgP : Y6.cell? ⟨vS, 1, none⟩ = some (.bool zO) := (zx qc.out 1).trans rfl; have zgR : Y6.cell? ⟨vS, 2, none⟩ = some (.int .i64 zP) := (zx qc.out 2).trans rfl; have zgS : Y6.cell? ⟨vS, 3, none⟩ = some (.slice qJ zn.length qZ) := (zx qc.out 3).trans rfl; have zgT : Y6.cell? ⟨vS, 4, none⟩ = some (.slice qK zD.length qQ) := (zx qc.out 4).trans rfl; have zgU : Y6.cell? ⟨vS, 5, none⟩ = some (.slice qY zF.length qX) := (zx qc.out 5).trans rfl; have zg0 := zw qc.out 0; have zg1 := zw qc.out 1; have zg2 := zw qc.out 2; have zg3 := zw qc.out 3; have zg4 := zw qc.out 4; have zg5 := zw qc.out 5) | ((with_reducible refine y7 (f := 27) rfl ?_); refine jP (some 17) Tryz.func27 #[.agg #[.string zN, .bool zO, .int .i64 zP, .slice qJ zn.length qZ, .slice qK zD.length qQ, .slice qY zF.length qX], .string a1] ?_; (with_reducible refine (kY.calls zN zO zP _ _ zn _ _ zD _ _ zF a1 XK false _ ?vR ?jK ?jY ?jW ?jc ?jd ?wQ A6.out).mono ?_); (case vR => repeat (first | exact (Kd.yE wS.out HB.out) | (with_reducible refine Kd.qx ?_ _) | (with_reducible refine Kd.qj ?_ _) | (with_reducible refine Kd.qo ?_))); (case jK => exact Xh.out); (case jY => repeat (first | exact (Kd.yE ZB.out HB.out) | (with_reducible refine Kd.qx ?_ _) | (with_reducible refine Kd.qj ?_ _) | (with_reducible refine Kd.qo ?_))); (case jW => exact Xi.out); (case jc => repeat (first | exact (Kd.yE ZC.out HB.out) | (with_reducible refine Kd.qx ?_ _) | (with_reducible refine Kd.qj ?_ _) | (with_reducible refine Kd.qo ?_))); (case jd => exact Xl.out); (case wQ => exact GW.under HG.out (yQ HB.out)); rintro e w21 ⟨rfl, hb⟩; refine ⟨_, rfl, ?_⟩; have zl := zk.mk (zo (g := vS) (o := .cells #[.string zN, .bool zO, .int .i64 zP, .slice qJ zn.length qZ, .slice qK zD.length qQ, .slice qY zF.length qX] 26 (0, 0)) (qV qc.out) hb); have zC := zk.mk (yg (yQ HB.out) hb); clear qc; clear HB; have qc := zl; have HB := zC; clear zl zC; (try clear hb); (try clear hb2); (try clear hk); (try clear hi)))
   go_ret2
   exact ⟨by first | rfl | (simp [yw, yZ] <;> rfl) | (simp [*, yw, yZ] <;> rfl), by repeat (first | (with_reducible first | exact HB.out | apply yS | apply yx | apply yD | refine qh ?_ zzj.out) | exact HB.out)⟩
 ·replace c5 := Bool.eq_false_iff.mpr c5
  subst c5
  have H1 : (some (0, 1)) = some (r1, r2) := by rw [if_neg (show ¬ (false = true) by decide)] at H; exact H
  clear H
  have H := H1
  clear H1
  simp only [Option.some.injEq, Prod.mk.injEq] at H
  obtain ⟨rfl, rfl⟩ := H
  go_enter Tryz.func11, Tryz.ntmps11
  go_wp2_with (first | ((with_reducible refine xI (N := 3) rfl ?_); refine vJ ?hg (N := 3) ?hd (cs := #[.string zN, .bool zO, .int .i64 zP, .slice qJ zn.length qZ, .slice qK zD.length qQ, .slice qY zF.length qX]) (t := 26) ?hr ?_; (case hd => rfl); (case hg => rfl); (case hr => first | (go_simp; done) | (go_simp; rfl)); intro vS hg w22 vX hb; have zl := zk.mk (yg (yQ HB.out) hb); have zC := zk.mk (vX); have zM := zk.mk ((by rw [hg]; exact (zH (yQ HB.out)) : w.heap.size ≤ vS)); have zT := zk.mk ((by rw [hg]; exact (zH (yQ HB.out)) : w.heap.size ≤ vS)); clear HB; have HB := zl; have qc := zC; have zXK := zM; have zzj := zT; clear zl zC zM zT; clear hb vX hg; have zg6 : w22.cell? ⟨vS, 0, none⟩ = some (.string zN) := (zx qc.out 0).trans rfl; have zg7 : w22.cell? ⟨vS, 1, none⟩ = some (.bool zO) := (zx qc.out 1).trans rfl; have zg8 : w22.cell? ⟨vS, 2, none⟩ = some (.int .i64 zP) := (zx qc.out 2).trans rfl; have zg9 : w22.cell? ⟨vS, 3, none⟩ = some (.slice qJ zn.length qZ) := (zx qc.out 3).trans rfl; have zhz : w22.cell? ⟨vS, 4, none⟩ = some (.slice qK zD.length qQ) := (zx qc.out 4).trans rfl; have zhq : w22.cell? ⟨vS, 5, none⟩ = some (.slice qY zF.length qX) := (zx qc.out 5).trans rfl; have zhx := zw qc.out 0; have zhj := zw qc.out 1; have zhv := zw qc.out 2; have zhk := zw qc.out 3; have zhy := zw qc.out 4; have zhw := zw qc.out 5) | ((with_reducible refine y7 (f := 26) rfl ?_); refine jP (some 12) Tryz.func26 #[.agg #[.string zN, .bool zO, .int .i64 zP, .slice qJ zn.length qZ, .slice qK zD.length qQ, .slice qY zF.length qX], .int .i64 a2] ?_; (with_reducible refine (YA.calls zN zO zP _ _ zn _ _ zD _ _ zF a2 false _ ?vR ?jK ?jY ?jW ?jc ?jd ?wQ A4.out).mono ?_); (case vR => repeat (first | exact (Kd.yE wS.out HB.out) | (with_reducible refine Kd.qx ?_ _) | (with_reducible refine Kd.qj ?_ _) | (with_reducible refine Kd.qo ?_))); (case jK => exact Xh.out); (case jY => repeat (first | exact (Kd.yE ZB.out HB.out) | (with_reducible refine Kd.qx ?_ _) | (with_reducible refine Kd.qj ?_ _) | (with_reducible refine Kd.qo ?_))); (case jW => exact Xi.out); (case jc => repeat (first | exact (Kd.yE ZC.out HB.out) | (with_reducible refine Kd.qx ?_ _) | (with_reducible refine Kd.qj ?_ _) | (with_reducible refine Kd.qo ?_))); (case jd => exact Xl.out); (case wQ => exact GW.under HG.out (yQ HB.out)); rintro e w24 ⟨rfl, hb⟩; refine ⟨_, rfl, ?_⟩; have zl := zk.mk (zo (g := vS) (o := .cells #[.string zN, .bool zO, .int .i64 zP, .slice qJ zn.length qZ, .slice qK zD.length qQ, .slice qY zF.length qX] 26 (0, 0)) (qV qc.out) hb); have zC := zk.mk (yg (yQ HB.out) hb); clear qc; clear HB; have qc := zl; have HB := zC; clear zl zC; (try clear hb); (try clear hb2); (try clear hk); (try clear hi)))
  go_ret2
  exact ⟨by first | rfl | (simp [yw, yZ] <;> rfl) | (simp [*, yw, yZ] <;> rfl), by repeat (first | (with_reducible first | exact HB.out | apply yS | apply yx | apply yD | refine qh ?_ zzj.out) | exact HB.out)⟩
def vM.f  : Option (Bool) := (kD.f).bind fun vW => (if (vW.length : Int) = 5 then (if 0 < (vW.length : Int) then ((wD.f ((qN vW 0).f0) ((qN vW 0).f1) ((qN vW 0).f2) ((qN vW 0).f3) ((qN vW 0).f4) ((qN vW 0).f5) (⟨#[109]⟩ : ByteArray) 10).bind fun Wp => (if Wp.1 = 75 then (some (Wp.2 == 0)) else (some false))) else (none)) else (some false))
set_option maxHeartbeats 8000000 in
set_option maxRecDepth 100000 in
theorem vM.calls  (r : Bool) (w : World) (hG : GW w) (h : vM.f  = some r) :
  Calls Tryz.prog 12 #[] w fun e w' => e = .returned (.bool r) ∧ Below w.heap.size w w' := by
 have lX := Tryz.underlying26
 have HG := zk.mk hG
 clear hG
 have HB := zk.mk (Below.refl w.heap.size w)
 have H : ((kD.f).bind fun vW => (if (vW.length : Int) = 5 then (if 0 < (vW.length : Int) then ((wD.f ((qN vW 0).f0) ((qN vW 0).f1) ((qN vW 0).f2) ((qN vW 0).f3) ((qN vW 0).f4) ((qN vW 0).f5) (⟨#[109]⟩ : ByteArray) 10).bind fun Wp => (if Wp.1 = 75 then (some (Wp.2 == 0)) else (some false))) else (none)) else (some false))) = some r := h
 clear h
 replace H := Option.bind_eq_some_iff.mp H
 obtain ⟨vW, A10, H⟩ := H
 replace H : (if (vW.length : Int) = 5 then (if 0 < (vW.length : Int) then ((wD.f ((qN vW 0).f0) ((qN vW 0).f1) ((qN vW 0).f2) ((qN vW 0).f3) ((qN vW 0).f4) ((qN vW 0).f5) (⟨#[109]⟩ : ByteArray) 10).bind fun Wp => (if Wp.1 = 75 then (some (Wp.2 == 0)) else (some false))) else (none)) else (some false)) = some r := H
 have A1 := zk.mk A10
 clear A10
 by_cases c2 : (vW.length : Int) = 5
 ·rw [if_pos c2] at H
  have WT : ((vW.length : Int) == 5) = true := beq_iff_eq.mpr c2
  have zZ6 : ((vW.length : Int) != 5) = false := bne_eq_false_iff_eq.mpr c2
  clear c2
  by_cases c3 : 0 < (vW.length : Int)
  ·rw [if_pos c3] at H
   have XV : decide (0 < (vW.length : Int)) = true := decide_eq_true c3
   have zxA : decide (0 < vW.length) = true := decide_eq_true (by omega)
   clear c3
   replace H := Option.bind_eq_some_iff.mp H
   obtain ⟨⟨rM, zZ7⟩, rD, H⟩ := H
   replace H : (if rM = 75 then (some (zZ7 == 0)) else (some false)) = some r := H
   have A4 := zk.mk rD
   clear rD
   by_cases c5 : rM = 75
   ·rw [if_pos c5] at H
    have VB : (rM == 75) = true := beq_iff_eq.mpr c5
    have zk0 : (rM != 75) = false := bne_eq_false_iff_eq.mpr c5
    clear c5
    obtain rfl := Option.some.inj H
    go_enter Tryz.func12, Tryz.ntmps12
    go_wp2_with (first | ((with_reducible refine y7 (f := 13) rfl ?_); refine jP (some 4) Tryz.func13 #[] ?_; (with_reducible refine (kD.calls  vW _ ?vR A1.out).mono ?_); (case vR => exact GW.under HG.out (yQ HB.out)); rintro e w6 ⟨zK5, rfl, ho0, hb⟩; refine ⟨_, rfl, ?_⟩; have zl := zk.mk (Kd.zzM ho0 (zH (yQ HB.out))); have zC := zk.mk (yg (yQ HB.out) hb); clear HB; have Z0 := zl; have HB := zC; clear zl zC; (try clear hb); (try clear hb2); (try clear hk); (try clear hi); (try clear ho0); obtain ⟨Ao7, co7, eo7⟩ := Kd.zzN Z0.out; subst eo7; have mW : 0 ≤ (0 : Int) := (by omega); have mg : 0 < (vW.length : Int) := of_decide_eq_true (by first | (with_reducible assumption) | assumption); obtain ⟨zaW, zxB, zxC, zxD, zxE, zxF, zxG, e251, Ux, Uj, Uv, Xm, Xn, Xo, bn, bA, bB, bC, bD, bE⟩ := zwu (Kd.gU Z0.out).2.2 0 mW mg; cases e251; obtain ⟨zaa, zxH, zxI, VH⟩ := Kd.zQ7 Z0.out z26 0 mW (by first | exact mg | exact of_decide_eq_true (by first | (with_reducible assumption) | assumption) | (have e_ := (Kd.gU Z0.out).1; omega)); obtain ⟨zJP, zJR, zJS, rfl, Uk, Uy, Uw⟩ := zqH zxI; have Ye := VH 3 _ rfl; rw [uL _ _ 3 (by omega)] at Ye; replace Ye := Option.some.inj (Ye.symm.trans Xm); rw [Ye] at Uk; have UZ := zk.mk (show Kd.R jB 31 _ _ _ _ ((qN vW 0).f3) from Uk); clear Ye Uk; have Yf := VH 4 _ rfl; rw [uL _ _ 4 (by omega)] at Yf; replace Yf := Option.some.inj (Yf.symm.trans Xn); rw [Yf] at Uy; have UQ := zk.mk (show Kd.R kS 86 _ _ _ _ ((qN vW 0).f4) from Uy); clear Yf Uy; have Yg := VH 5 _ rfl; rw [uL _ _ 5 (by omega)] at Yg; replace Yg := Option.some.inj (Yg.symm.trans Xo); rw [Yg] at Uw; have UJ := zk.mk (show Kd.R kU 76 _ _ _ _ ((qN vW 0).f5) from Uw); clear Yg Uw; clear VH zxH; have zab : (0 < vW.length) = True := eq_true (by omega); (try rw [show ((0 : Int)).toNat = 0 from rfl] at Ux); (try rw [show 0 * 6 = 0 from rfl] at Ux); (try rw [Addr.add_zero'] at Ux); (try rw [show ((0 : Int)).toNat = 0 from rfl] at Uj); (try rw [show 0 * 6 = 0 from rfl] at Uj); (try rw [Addr.add_zero'] at Uj); (try rw [show ((0 : Int)).toNat = 0 from rfl] at Uv); (try rw [show 0 * 6 = 0 from rfl] at Uv); (try rw [Addr.add_zero'] at Uv); (try rw [show ((0 : Int)).toNat = 0 from rfl] at Xm); (try rw [show 0 * 6 = 0 from rfl] at Xm); (try rw [Addr.add_zero'] at Xm); (try rw [show ((0 : Int)).toNat = 0 from rfl] at Xn); (try rw [show 0 * 6 = 0 from rfl] at Xn); (try rw [Addr.add_zero'] at Xn); (try rw [show ((0 : Int)).toNat = 0 from rfl] at Xo); (try rw [show 0 * 6 = 0 from rfl] at Xo); (try rw [Addr.add_zero'] at Xo); have ZJ := zk.mk bA; have zz3 := zk.mk bn; clear bA bn; have ZV := zk.mk bC; have zz4 := zk.mk bB; clear bC bB; have ZK := zk.mk bE; have zz5 := zk.mk bD; clear bE bD; replace mW := eq_true mW; replace mg := eq_true mg) | ((with_reducible refine y7 (f := 11) rfl ?_); refine jP (some 12) Tryz.func11 #[.agg #[.string ((qN vW 0).f0), .bool ((qN vW 0).f1), .int .i64 ((qN vW 0).f2), .slice zxB ((qN vW 0).f3).length zxC, .slice zxD ((qN vW 0).f4).length zxE, .slice zxF ((qN vW 0).f5).length zxG], .string (⟨#[109]⟩ : ByteArray), .int .i64 10] ?_; (with_reducible refine (wD.calls ((qN vW 0).f0) ((qN vW 0).f1) ((qN vW 0).f2) _ _ ((qN vW 0).f3) _ _ ((qN vW 0).f4) _ _ ((qN vW 0).f5) (⟨#[109]⟩ : ByteArray) 10 rM zZ7 _ ?vR ?jK ?jY ?jW ?jc ?jd ?wQ A4.out).mono ?_); (case vR => repeat (first | exact (by repeat (first | (with_reducible exact ZJ.out) | (with_reducible refine Kd.qx ?_ _) | (with_reducible refine Kd.qj ?_ _) | (with_reducible refine Kd.qo ?_) | exact ZJ.out)) | (with_reducible refine Kd.qx ?_ _) | (with_reducible refine Kd.qj ?_ _) | (with_reducible refine Kd.qo ?_))); (case jK => exact zz3.out); (case jY => repeat (first | exact (by repeat (first | (with_reducible exact ZV.out) | (with_reducible refine Kd.qx ?_ _) | (with_reducible refine Kd.qj ?_ _) | (with_reducible refine Kd.qo ?_) | exact ZV.out)) | (with_reducible refine Kd.qx ?_ _) | (with_reducible refine Kd.qj ?_ _) | (with_reducible refine Kd.qo ?_))); (case jW => exact zz4.out); (case jc => repeat (first | exact (by repeat (first | (with_reducible exact ZK.out) | (with_reducible refine Kd.qx ?_ _) | (with_reducible refine Kd.qj ?_ _) | (with_reducible refine Kd.qo ?_) | exact ZK.out)) | (with_reducible refine Kd.qx ?_ _) | (with_reducible refine Kd.qj ?_ _) | (with_reducible refine Kd.qo ?_))); (case jd => exact zz5.out); (case wQ => exact GW.under HG.out (yQ HB.out)); rintro e w8 ⟨rfl, hb⟩; refine ⟨_, rfl, ?_⟩; have zl := zk.mk (Kd.Pn (by (with_reducible repeat (first | apply Kd.zjH | apply Kd.zjI | apply Kd.zwo)); exact Z0.out) hb); have zC := zk.mk (Kd.zf (yK UZ.out) hb); have zM := zk.mk (Kd.zf (yK UQ.out) hb); have zT := zk.mk (Kd.zf (yK UJ.out) hb); have yL := zk.mk (Kd.yE (by repeat (first | (with_reducible exact ZJ.out) | (with_reducible refine Kd.qx ?_ _) | (with_reducible refine Kd.qj ?_ _) | (with_reducible refine Kd.qo ?_) | exact ZJ.out)) hb); have y9 := zk.mk (Kd.yE (by repeat (first | (with_reducible exact ZV.out) | (with_reducible refine Kd.qx ?_ _) | (with_reducible refine Kd.qj ?_ _) | (with_reducible refine Kd.qo ?_) | exact ZV.out)) hb); have qw := zk.mk (Kd.yE (by repeat (first | (with_reducible exact ZK.out) | (with_reducible refine Kd.qx ?_ _) | (with_reducible refine Kd.qj ?_ _) | (with_reducible refine Kd.qo ?_) | exact ZK.out)) hb); have xg := zk.mk (yg (yQ HB.out) hb); clear Z0; clear UZ; clear UQ; clear UJ; clear ZJ; clear ZV; clear ZK; clear HB; have Z0 := zl; have UZ := zC; have UQ := zM; have UJ := zT; have ZJ := yL; have ZV := y9; have ZK := qw; have HB := xg; clear zl zC zM zT yL y9 qw xg; (try clear hb); (try clear hb2); (try clear hk); (try clear hi)))
    go_ret
    exact ⟨by first | rfl | (simp [yw, yZ] <;> rfl) | (simp [*, yw, yZ] <;> rfl), by repeat (first | (with_reducible first | exact HB.out | apply yS | apply yx | apply yD) | exact HB.out)⟩
   ·rw [if_neg c5] at H
    have VB : (rM == 75) = false := beq_eq_false_iff_ne.mpr c5
    have zk0 : (rM != 75) = true := bne_iff_ne.mpr c5
    obtain rfl := Option.some.inj H
    go_enter Tryz.func12, Tryz.ntmps12
    go_wp2_with (first | ((with_reducible refine y7 (f := 13) rfl ?_); refine jP (some 4) Tryz.func13 #[] ?_; (with_reducible refine (kD.calls  vW _ ?vR A1.out).mono ?_); (case vR => exact GW.under HG.out (yQ HB.out)); rintro e w9 ⟨zK5, rfl, ho0, hb⟩; refine ⟨_, rfl, ?_⟩; have zl := zk.mk (Kd.zzM ho0 (zH (yQ HB.out))); have zC := zk.mk (yg (yQ HB.out) hb); clear HB; have Z0 := zl; have HB := zC; clear zl zC; (try clear hb); (try clear hb2); (try clear hk); (try clear hi); (try clear ho0); obtain ⟨zmu, zmA, zdk⟩ := Kd.zzN Z0.out; subst zdk; have mW : 0 ≤ (0 : Int) := (by omega); have mg : 0 < (vW.length : Int) := of_decide_eq_true (by first | (with_reducible assumption) | assumption); obtain ⟨zaW, zxB, zxC, zxD, zxE, zxF, zxG, e251, Ux, Uj, Uv, Xm, Xn, Xo, bn, bA, bB, bC, bD, bE⟩ := zwu (Kd.gU Z0.out).2.2 0 mW mg; cases e251; obtain ⟨zaa, zxH, zxI, VH⟩ := Kd.zQ7 Z0.out z26 0 mW (by first | exact mg | exact of_decide_eq_true (by first | (with_reducible assumption) | assumption) | (have e_ := (Kd.gU Z0.out).1; omega)); obtain ⟨zJP, zJR, zJS, rfl, Uk, Uy, Uw⟩ := zqH zxI; have Ye := VH 3 _ rfl; rw [uL _ _ 3 (by omega)] at Ye; replace Ye := Option.some.inj (Ye.symm.trans Xm); rw [Ye] at Uk; have UZ := zk.mk (show Kd.R jB 31 _ _ _ _ ((qN vW 0).f3) from Uk); clear Ye Uk; have Yf := VH 4 _ rfl; rw [uL _ _ 4 (by omega)] at Yf; replace Yf := Option.some.inj (Yf.symm.trans Xn); rw [Yf] at Uy; have UQ := zk.mk (show Kd.R kS 86 _ _ _ _ ((qN vW 0).f4) from Uy); clear Yf Uy; have Yg := VH 5 _ rfl; rw [uL _ _ 5 (by omega)] at Yg; replace Yg := Option.some.inj (Yg.symm.trans Xo); rw [Yg] at Uw; have UJ := zk.mk (show Kd.R kU 76 _ _ _ _ ((qN vW 0).f5) from Uw); clear Yg Uw; clear VH zxH; have zab : (0 < vW.length) = True := eq_true (by omega); (try rw [show ((0 : Int)).toNat = 0 from rfl] at Ux); (try rw [show 0 * 6 = 0 from rfl] at Ux); (try rw [Addr.add_zero'] at Ux); (try rw [show ((0 : Int)).toNat = 0 from rfl] at Uj); (try rw [show 0 * 6 = 0 from rfl] at Uj); (try rw [Addr.add_zero'] at Uj); (try rw [show ((0 : Int)).toNat = 0 from rfl] at Uv); (try rw [show 0 * 6 = 0 from rfl] at Uv); (try rw [Addr.add_zero'] at Uv); (try rw [show ((0 : Int)).toNat = 0 from rfl] at Xm); (try rw [show 0 * 6 = 0 from rfl] at Xm); (try rw [Addr.add_zero'] at Xm); (try rw [show ((0 : Int)).toNat = 0 from rfl] at Xn); (try rw [show 0 * 6 = 0 from rfl] at Xn); (try rw [Addr.add_zero'] at Xn); (try rw [show ((0 : Int)).toNat = 0 from rfl] at Xo); (try rw [show 0 * 6 = 0 from rfl] at Xo); (try rw [Addr.add_zero'] at Xo); have ZJ := zk.mk bA; have zz3 := zk.mk bn; clear bA bn; have ZV := zk.mk bC; have zz4 := zk.mk bB; clear bC bB; have ZK := zk.mk bE; have zz5 := zk.mk bD; clear bE bD; replace mW := eq_true mW; replace mg := eq_true mg) | ((with_reducible refine y7 (f := 11) rfl ?_); refine jP (some 12) Tryz.func11 #[.agg #[.string ((qN vW 0).f0), .bool ((qN vW 0).f1), .int .i64 ((qN vW 0).f2), .slice zxB ((qN vW 0).f3).length zxC, .slice zxD ((qN vW 0).f4).length zxE, .slice zxF ((qN vW 0).f5).length zxG], .string (⟨#[109]⟩ : ByteArray), .int .i64 10] ?_; (with_reducible refine (wD.calls ((qN vW 0).f0) ((qN vW 0).f1) ((qN vW 0).f2) _ _ ((qN vW 0).f3) _ _ ((qN vW 0).f4) _ _ ((qN vW 0).f5) (⟨#[109]⟩ : ByteArray) 10 rM zZ7 _ ?vR ?jK ?jY ?jW ?jc ?jd ?wQ A4.out).mono ?_); (case vR => repeat (first | exact (by repeat (first | (with_reducible exact ZJ.out) | (with_reducible refine Kd.qx ?_ _) | (with_reducible refine Kd.qj ?_ _) | (with_reducible refine Kd.qo ?_) | exact ZJ.out)) | (with_reducible refine Kd.qx ?_ _) | (with_reducible refine Kd.qj ?_ _) | (with_reducible refine Kd.qo ?_))); (case jK => exact zz3.out); (case jY => repeat (first | exact (by repeat (first | (with_reducible exact ZV.out) | (with_reducible refine Kd.qx ?_ _) | (with_reducible refine Kd.qj ?_ _) | (with_reducible refine Kd.qo ?_) | exact ZV.out)) | (with_reducible refine Kd.qx ?_ _) | (with_reducible refine Kd.qj ?_ _) | (with_reducible refine Kd.qo ?_))); (case jW => exact zz4.out); (case jc => repeat (first | exact (by repeat (first | (with_reducible exact ZK.out) | (with_reducible refine Kd.qx ?_ _) | (with_reducible refine Kd.qj ?_ _) | (with_reducible refine Kd.qo ?_) | exact ZK.out)) | (with_reducible refine Kd.qx ?_ _) | (with_reducible refine Kd.qj ?_ _) | (with_reducible refine Kd.qo ?_))); (case jd => exact zz5.out); (case wQ => exact GW.under HG.out (yQ HB.out)); rintro e iC ⟨rfl, hb⟩; refine ⟨_, rfl, ?_⟩; have zl := zk.mk (Kd.Pn (by (with_reducible repeat (first | apply Kd.zjH | apply Kd.zjI | apply Kd.zwo)); exact Z0.out) hb); have zC := zk.mk (Kd.zf (yK UZ.out) hb); have zM := zk.mk (Kd.zf (yK UQ.out) hb); have zT := zk.mk (Kd.zf (yK UJ.out) hb); have yL := zk.mk (Kd.yE (by repeat (first | (with_reducible exact ZJ.out) | (with_reducible refine Kd.qx ?_ _) | (with_reducible refine Kd.qj ?_ _) | (with_reducible refine Kd.qo ?_) | exact ZJ.out)) hb); have y9 := zk.mk (Kd.yE (by repeat (first | (with_reducible exact ZV.out) | (with_reducible refine Kd.qx ?_ _) | (with_reducible refine Kd.qj ?_ _) | (with_reducible refine Kd.qo ?_) | exact ZV.out)) hb); have qw := zk.mk (Kd.yE (by repeat (first | (with_reducible exact ZK.out) | (with_reducible refine Kd.qx ?_ _) | (with_reducible refine Kd.qj ?_ _) | (with_reducible refine Kd.qo ?_) | exact ZK.out)) hb); have xg := zk.mk (yg (yQ HB.out) hb); clear Z0; clear UZ; clear UQ; clear UJ; clear ZJ; clear ZV; clear ZK; clear HB; have Z0 := zl; have UZ := zC; have UQ := zM; have UJ := zT; have ZJ := yL; have ZV := y9; have ZK := qw; have HB := xg; clear zl zC zM zT yL y9 qw xg; (try clear hb); (try clear hb2); (try clear hk); (try clear hi)))
    go_ret
    exact ⟨by first | rfl | (simp [yw, yZ] <;> rfl) | (simp [*, yw, yZ] <;> rfl), by repeat (first | (with_reducible first | exact HB.out | apply yS | apply yx | apply yD) | exact HB.out)⟩
  ·rw [if_neg c3] at H
   exact absurd H (by simp)
 ·rw [if_neg c2] at H
  have WT : ((vW.length : Int) == 5) = false := beq_eq_false_iff_ne.mpr c2
  have zZ6 : ((vW.length : Int) != 5) = true := bne_iff_ne.mpr c2
  obtain rfl := Option.some.inj H
  go_enter Tryz.func12, Tryz.ntmps12
  go_wp2_with (first | ((with_reducible refine y7 (f := 13) rfl ?_); refine jP (some 4) Tryz.func13 #[] ?_; (with_reducible refine (kD.calls  vW _ ?vR A1.out).mono ?_); (case vR => exact GW.under HG.out (yQ HB.out)); rintro e w12 ⟨zK5, rfl, ho0, hb⟩; refine ⟨_, rfl, ?_⟩; have zl := zk.mk (Kd.zzM ho0 (zH (yQ HB.out))); have zC := zk.mk (yg (yQ HB.out) hb); clear HB; have Z0 := zl; have HB := zC; clear zl zC; (try clear hb); (try clear hb2); (try clear hk); (try clear hi); (try clear ho0); obtain ⟨zmB, zmC, zdy⟩ := Kd.zzN Z0.out; subst zdy))
  go_ret
  exact ⟨by first | rfl | (simp [yw, yZ] <;> rfl) | (simp [*, yw, yZ] <;> rfl), by repeat (first | (with_reducible first | exact HB.out | apply yS | apply yx | apply yD) | exact HB.out)⟩
end Go.Proofs.YtaifemkokfoadaaGreatDoor.PX
namespace Go.Proofs.YtaifemkokfoadaaGreatDoor.PX
open Go.RowKit Go.Proofs.zy.zK Go.Proofs.zy.yt Go.Proofs.zy.yV
attribute [local go_sem] xX xJ xP xR qD qE xV xK   -- for this text's walks alone
set_option linter.unusedVariables false
set_option linter.unusedSimpArgs false
theorem zac (d : Nat) (w : World) (x0 y0 : ByteArray) (x1 y1 : Int) :
  (Op.equalIn (d + 2) 81 (.agg #[.string x0, .int .i64 x1]) (.agg #[.string y0, .int .i64 y1])).run Tryz.prog w = .ok (x0.toList == y0.toList && (x1 == y1)) w := by
 refine Po Tryz.underlying81 (by kernel_rfl) ?_
 refine Yx (by rfl) (by go_simp; rfl) (by go_simp; rfl) (by go_simp) ?_
 exact V7 (by rfl) (by go_simp; rfl) (by go_simp; rfl) (by go_simp)
end Go.Proofs.YtaifemkokfoadaaGreatDoor.PX
namespace Go.Proofs.YtaifemkokfoadaaGreatDoor.PX
open Go.RowKit Go.Proofs.zy.zK Go.Proofs.zy.yt Go.Proofs.zy.yV
attribute [local go_sem] xX xJ xP xR qD qE xV xK   -- for this text's walks alone
set_option linter.unusedVariables false
set_option linter.unusedSimpArgs false
theorem zad (d : Nat) (w : World) (x0 y0 : ByteArray) (x1 y1 : ByteArray) (x2 y2 : ByteArray) :
  (Op.equalIn (d + 2) 83 (.agg #[.string x0, .string x1, .string x2]) (.agg #[.string y0, .string y1, .string y2])).run Tryz.prog w = .ok (x0.toList == y0.toList && (x1.toList == y1.toList && (x2.toList == y2.toList))) w := by
 refine Po Tryz.underlying83 (by kernel_rfl) ?_
 refine Yx (by rfl) (by go_simp; rfl) (by go_simp; rfl) (by go_simp) ?_
 refine Yx (by rfl) (by go_simp; rfl) (by go_simp; rfl) (by go_simp) ?_
 exact V7 (by rfl) (by go_simp; rfl) (by go_simp; rfl) (by go_simp)
end Go.Proofs.YtaifemkokfoadaaGreatDoor.PX
namespace Go.Proofs.YtaifemkokfoadaaGreatDoor.PX
open Go.RowKit Go.Proofs.zy.zK Go.Proofs.zy.yt Go.Proofs.zy.yV
attribute [local go_sem] xX xJ xP xR qD qE xV xK   -- for this text's walks alone
set_option linter.unusedVariables false
set_option linter.unusedSimpArgs false
theorem zae (d : Nat) (w : World) (x0 y0 : ByteArray) (x1 y1 : ByteArray) (x2 y2 : Int) :
  (Op.equalIn (d + 2) 84 (.agg #[.string x0, .string x1, .int .i64 x2]) (.agg #[.string y0, .string y1, .int .i64 y2])).run Tryz.prog w = .ok (x0.toList == y0.toList && (x1.toList == y1.toList && (x2 == y2))) w := by
 refine Po Tryz.underlying84 (by kernel_rfl) ?_
 refine Yx (by rfl) (by go_simp; rfl) (by go_simp; rfl) (by go_simp) ?_
 refine Yx (by rfl) (by go_simp; rfl) (by go_simp; rfl) (by go_simp) ?_
 exact V7 (by rfl) (by go_simp; rfl) (by go_simp; rfl) (by go_simp)
end Go.Proofs.YtaifemkokfoadaaGreatDoor.PX
namespace Go.Proofs.YtaifemkokfoadaaGreatDoor.PX
open Go.RowKit Go.Proofs.zy.zK Go.Proofs.zy.yt Go.Proofs.zy.yV
attribute [local go_sem] xX xJ xP xR qD qE xV xK   -- for this text's walks alone
set_option linter.unusedVariables false
set_option linter.unusedSimpArgs false
attribute [local go_sem high] zac zad zae
mutual
def ze.j0 : Nat → Bool → ByteArray → Bool → Int → List (qA) → List (qM) → List (qH) → ByteArray → Bool → Int → List (qA) → List (qM) → List (qH) → Option (Bool)
 | 0, _, _, _, _, _, _, _, _, _, _, _, _, _ => none
 | k + 1, x53, Xp, Xr, Xt, ZH, ZY, ZW, Xu, XA, XB, ZI, Za, Zb => if x53 = true then (some false) else (ze.l0 k 0 Xp Xr Xt ZH ZY ZW Xu XA XB ZI Za Zb)
def ze.l0 : Nat → Int → ByteArray → Bool → Int → List (qA) → List (qM) → List (qH) → ByteArray → Bool → Int → List (qA) → List (qM) → List (qH) → Option (Bool)
 | 0, _, _, _, _, _, _, _, _, _, _, _, _, _ => none
 | k + 1, x5, Xp, Xr, Xt, ZH, ZY, ZW, Xu, XA, XB, ZI, Za, Zb => if x5 < (ZH.length : Int) then (if 0 ≤ x5 then (if x5 < (ZI.length : Int) then (if (!((((xH ZH x5).f0).toList) == (((xH ZI x5).f0).toList)) || (!(((xH ZH x5).f1) == ((xH ZI x5).f1)))) = true then (some false) else (ze.l0 k (wrap64 (x5 + 1)) Xp Xr Xt ZH ZY ZW Xu XA XB ZI Za Zb)) else (none)) else (none)) else (ze.l1 k 0 Xp Xr Xt ZH ZY ZW Xu XA XB ZI Za Zb)
def ze.l1 : Nat → Int → ByteArray → Bool → Int → List (qA) → List (qM) → List (qH) → ByteArray → Bool → Int → List (qA) → List (qM) → List (qH) → Option (Bool)
 | 0, _, _, _, _, _, _, _, _, _, _, _, _, _ => none
 | k + 1, x6, Xp, Xr, Xt, ZH, ZY, ZW, Xu, XA, XB, ZI, Za, Zb => if x6 < (ZY.length : Int) then (if 0 ≤ x6 then (if x6 < (Za.length : Int) then (if (!((((xY ZY x6).f0).toList) == (((xY Za x6).f0).toList)) || (!((((xY ZY x6).f1).toList) == (((xY Za x6).f1).toList)) || (!((((xY ZY x6).f2).toList) == (((xY Za x6).f2).toList))))) = true then (some false) else (ze.l1 k (wrap64 (x6 + 1)) Xp Xr Xt ZH ZY ZW Xu XA XB ZI Za Zb)) else (none)) else (none)) else (ze.l2 k 0 Xp Xr Xt ZH ZY ZW Xu XA XB ZI Za Zb)
def ze.l2 : Nat → Int → ByteArray → Bool → Int → List (qA) → List (qM) → List (qH) → ByteArray → Bool → Int → List (qA) → List (qM) → List (qH) → Option (Bool)
 | 0, _, _, _, _, _, _, _, _, _, _, _, _, _ => none
 | k + 1, x7, Xp, Xr, Xt, ZH, ZY, ZW, Xu, XA, XB, ZI, Za, Zb => if x7 < (ZW.length : Int) then (if 0 ≤ x7 then (if x7 < (Zb.length : Int) then (if (!((((qC ZW x7).f0).toList) == (((qC Zb x7).f0).toList)) || (!((((qC ZW x7).f1).toList) == (((qC Zb x7).f1).toList)) || (!(((qC ZW x7).f2) == ((qC Zb x7).f2))))) = true then (some false) else (ze.l2 k (wrap64 (x7 + 1)) Xp Xr Xt ZH ZY ZW Xu XA XB ZI Za Zb)) else (none)) else (none)) else (some true)
end
def ze.f (k : Nat) (zN : ByteArray) (zO : Bool) (zP : Int) (zn : List (qA)) (zD : List (qM)) (zF : List (qH)) (uT : ByteArray) (uD : Bool) (uU : Int) (vU : List (qA)) (vO : List (qM)) (uy : List (qH)) : Option (Bool) := if zN.toList = uT.toList then (if (zO != uD) = true then (ze.j0 k true zN zO zP zn zD zF uT uD uU vU vO uy) else (if zP = uU then (if (zn.length : Int) = (vU.length : Int) then (if (zD.length : Int) = (vO.length : Int) then (ze.j0 k ((zF.length : Int) != (uy.length : Int)) zN zO zP zn zD zF uT uD uU vU vO uy) else (ze.j0 k true zN zO zP zn zD zF uT uD uU vU vO uy)) else (ze.j0 k true zN zO zP zn zD zF uT uD uU vU vO uy)) else (ze.j0 k true zN zO zP zn zD zF uT uD uU vU vO uy))) else (ze.j0 k true zN zO zP zn zD zF uT uD uU vU vO uy)
set_option maxHeartbeats 8000000 in
set_option maxRecDepth 100000 in
theorem ze.calls (k : Nat) (zN : ByteArray) (zO : Bool) (zP : Int) (qJ : Option Addr) (qZ : Nat) (zn : List (qA)) (qK : Option Addr) (qQ : Nat) (zD : List (qM)) (qY : Option Addr) (qX : Nat) (zF : List (qH)) (uT : ByteArray) (uD : Bool) (uU : Int) (Yj : Option Addr) (Yv : Nat) (vU : List (qA)) (Yk : Option Addr) (Yy : Nat) (vO : List (qM)) (Yw : Option Addr) (YZ : Nat) (uy : List (qH)) (r : Bool) (w : World) (wY : Kd.C YQ w qJ zn.length zn) (pW : zn.length ≤ qZ) (pE : Kd.C Yt w qK zD.length zD) (pF : zD.length ≤ qQ) (pG : Kd.C Yu w qY zF.length zF) (pI : zF.length ≤ qX) (zXY : Kd.C YQ w Yj vU.length vU) (zXW : vU.length ≤ Yv) (zXa : Kd.C Yt w Yk vO.length vO) (zXb : vO.length ≤ Yy) (zXc : Kd.C Yu w Yw uy.length uy) (zXd : uy.length ≤ YZ) (h : ze.f k zN zO zP zn zD zF uT uD uU vU vO uy = some r) :
  Calls Tryz.prog 15 #[.agg #[.string zN, .bool zO, .int .i64 zP, .slice qJ zn.length qZ, .slice qK zD.length qQ, .slice qY zF.length qX], .agg #[.string uT, .bool uD, .int .i64 uU, .slice Yj vU.length Yv, .slice Yk vO.length Yy, .slice Yw uy.length YZ]] w fun e w' => e = .returned (.bool r) ∧ Below w.heap.size w w' := by
 have zyw := Tryz.underlying44
 have zK6 := Tryz.underlying81
 have zK7 := Tryz.underlying83
 have zK8 := Tryz.underlying84
 have wS := zk.mk wY
 have Xh := zk.mk pW
 clear wY pW
 have ZB := zk.mk pE
 have Xi := zk.mk pF
 clear pE pF
 have ZC := zk.mk pG
 have Xl := zk.mk pI
 clear pG pI
 have zXe := zk.mk zXY
 have zlZ := zk.mk zXW
 clear zXY zXW
 have zXf := zk.mk zXa
 have zlQ := zk.mk zXb
 clear zXa zXb
 have zXg := zk.mk zXc
 have zlX := zk.mk zXd
 clear zXc zXd
 have HB := zk.mk (Below.refl w.heap.size w)
 have H : (if zN.toList = uT.toList then (if (zO != uD) = true then (ze.j0 k true zN zO zP zn zD zF uT uD uU vU vO uy) else (if zP = uU then (if (zn.length : Int) = (vU.length : Int) then (if (zD.length : Int) = (vO.length : Int) then (ze.j0 k ((zF.length : Int) != (uy.length : Int)) zN zO zP zn zD zF uT uD uU vU vO uy) else (ze.j0 k true zN zO zP zn zD zF uT uD uU vU vO uy)) else (ze.j0 k true zN zO zP zn zD zF uT uD uU vU vO uy)) else (ze.j0 k true zN zO zP zn zD zF uT uD uU vU vO uy))) else (ze.j0 k true zN zO zP zn zD zF uT uD uU vU vO uy)) = some r := h
 clear h
 have HC3 := zk.mk H
 clear H
 go_enter Tryz.func15, Tryz.ntmps15
 go_upto_region 1 with (first | ((with_reducible refine xI (N := 2) rfl ?_); (try (refine ZP (by rfl) ?_; dsimp only)); refine vJ ?hg (N := 2) ?hd (cs := #[.string zN, .bool zO, .int .i64 zP, .slice qJ zn.length qZ, .slice qK zD.length qQ, .slice qY zF.length qX]) (t := 44) ?hr ?_; (case hd => rfl); (case hg => rfl); (case hr => first | (go_simp; done) | (go_simp; rfl)); intro yI hg w4 vX hb; have zl := zk.mk (yg (yQ HB.out) hb); have zC := zk.mk (vX); have zM := zk.mk ((by rw [hg]; exact (zH (yQ HB.out)) : w.heap.size ≤ yI)); have zT := zk.mk ((by rw [hg]; exact (zH (yQ HB.out)) : w.heap.size ≤ yI)); clear HB; have HB := zl; have zm := zC; have zXh := zM; have mh := zT; clear zl zC zM zT; clear hb vX hg) | ((with_reducible refine xI (N := 3) rfl ?_); (try (refine ZP (by rfl) ?_; dsimp only)); refine vJ ?hg (N := 3) ?hd (cs := #[.string uT, .bool uD, .int .i64 uU, .slice Yj vU.length Yv, .slice Yk vO.length Yy, .slice Yw uy.length YZ]) (t := 44) ?hr ?_; (case hd => rfl); (case hg => rfl); (case hr => first | (go_simp; done) | (go_simp; rfl)); intro qb hg w5 vX hb; have zl := zk.mk (zo (g := yI) (o := .cells #[.string zN, .bool zO, .int .i64 zP, .slice qJ zn.length qZ, .slice qK zD.length qQ, .slice qY zF.length qX] 44 (0, 0)) (qV zm.out) hb); have zC := zk.mk (yg (yQ HB.out) hb); have zM := zk.mk (vX); have zT := zk.mk ((by rw [hg]; exact (zH (yQ HB.out)) : w.heap.size ≤ qb)); have yL := zk.mk ((by rw [hg]; exact (zH (yQ HB.out)) : w.heap.size ≤ qb)); have y9 := zk.mk ((by rw [hg]; exact Nat.ne_of_lt (uM (g := yI) (o := .cells #[.string zN, .bool zO, .int .i64 zP, .slice qJ zn.length qZ, .slice qK zD.length qQ, .slice qY zF.length qX] 44 (0, 0)) (qV zm.out)) : yI ≠ qb)); have qw := zk.mk ((by rw [hg]; exact Nat.ne_of_gt (uM (g := yI) (o := .cells #[.string zN, .bool zO, .int .i64 zP, .slice qJ zn.length qZ, .slice qK zD.length qQ, .slice qY zF.length qX] 44 (0, 0)) (qV zm.out)) : qb ≠ yI)); clear zm; clear HB; have zm := zl; have HB := zC; have z8 := zM; have zXi := zT; have mo := yL; have jC := y9; have jD := qw; clear zl zC zM zT yL y9 qw; clear hb vX hg))
 repeat (go_quiet (first | ((with_reducible refine xI (N := 2) rfl ?_); (try (refine ZP (by rfl) ?_; dsimp only)); refine vJ ?hg (N := 2) ?hd (cs := #[.string zN, .bool zO, .int .i64 zP, .slice qJ zn.length qZ, .slice qK zD.length qQ, .slice qY zF.length qX]) (t := 44) ?hr ?_; (case hd => rfl); (case hg => rfl); (case hr => first | (go_simp; done) | (go_simp; rfl)); intro yI hg w4 vX hb; have zl := zk.mk (yg (yQ HB.out) hb); have zC := zk.mk (vX); have zM := zk.mk ((by rw [hg]; exact (zH (yQ HB.out)) : w.heap.size ≤ yI)); have zT := zk.mk ((by rw [hg]; exact (zH (yQ HB.out)) : w.heap.size ≤ yI)); clear HB; have HB := zl; have zm := zC; have zXh := zM; have mh := zT; clear zl zC zM zT; clear hb vX hg) | ((with_reducible refine xI (N := 3) rfl ?_); (try (refine ZP (by rfl) ?_; dsimp only)); refine vJ ?hg (N := 3) ?hd (cs := #[.string uT, .bool uD, .int .i64 uU, .slice Yj vU.length Yv, .slice Yk vO.length Yy, .slice Yw uy.length YZ]) (t := 44) ?hr ?_; (case hd => rfl); (case hg => rfl); (case hr => first | (go_simp; done) | (go_simp; rfl)); intro qb hg w5 vX hb; have zl := zk.mk (zo (g := yI) (o := .cells #[.string zN, .bool zO, .int .i64 zP, .slice qJ zn.length qZ, .slice qK zD.length qQ, .slice qY zF.length qX] 44 (0, 0)) (qV zm.out) hb); have zC := zk.mk (yg (yQ HB.out) hb); have zM := zk.mk (vX); have zT := zk.mk ((by rw [hg]; exact (zH (yQ HB.out)) : w.heap.size ≤ qb)); have yL := zk.mk ((by rw [hg]; exact (zH (yQ HB.out)) : w.heap.size ≤ qb)); have y9 := zk.mk ((by rw [hg]; exact Nat.ne_of_lt (uM (g := yI) (o := .cells #[.string zN, .bool zO, .int .i64 zP, .slice qJ zn.length qZ, .slice qK zD.length qQ, .slice qY zF.length qX] 44 (0, 0)) (qV zm.out)) : yI ≠ qb)); have qw := zk.mk ((by rw [hg]; exact Nat.ne_of_gt (uM (g := yI) (o := .cells #[.string zN, .bool zO, .int .i64 zP, .slice qJ zn.length qZ, .slice qK zD.length qQ, .slice qY zF.length qX] 44 (0, 0)) (qV zm.out)) : qb ≠ yI)); clear zm; clear HB; have zm := zl; have HB := zC; have z8 := zM; have zXi := zT; have mo := yL; have jC := y9; have jD := qw; clear zl zC zM zT yL y9 qw; clear hb vX hg)); go_upto_region 1 with (first | ((with_reducible refine xI (N := 2) rfl ?_); (try (refine ZP (by rfl) ?_; dsimp only)); refine vJ ?hg (N := 2) ?hd (cs := #[.string zN, .bool zO, .int .i64 zP, .slice qJ zn.length qZ, .slice qK zD.length qQ, .slice qY zF.length qX]) (t := 44) ?hr ?_; (case hd => rfl); (case hg => rfl); (case hr => first | (go_simp; done) | (go_simp; rfl)); intro yI hg w4 vX hb; have zl := zk.mk (yg (yQ HB.out) hb); have zC := zk.mk (vX); have zM := zk.mk ((by rw [hg]; exact (zH (yQ HB.out)) : w.heap.size ≤ yI)); have zT := zk.mk ((by rw [hg]; exact (zH (yQ HB.out)) : w.heap.size ≤ yI)); clear HB; have HB := zl; have zm := zC; have zXh := zM; have mh := zT; clear zl zC zM zT; clear hb vX hg) | ((with_reducible refine xI (N := 3) rfl ?_); (try (refine ZP (by rfl) ?_; dsimp only)); refine vJ ?hg (N := 3) ?hd (cs := #[.string uT, .bool uD, .int .i64 uU, .slice Yj vU.length Yv, .slice Yk vO.length Yy, .slice Yw uy.length YZ]) (t := 44) ?hr ?_; (case hd => rfl); (case hg => rfl); (case hr => first | (go_simp; done) | (go_simp; rfl)); intro qb hg w5 vX hb; have zl := zk.mk (zo (g := yI) (o := .cells #[.string zN, .bool zO, .int .i64 zP, .slice qJ zn.length qZ, .slice qK zD.length qQ, .slice qY zF.length qX] 44 (0, 0)) (qV zm.out) hb); have zC := zk.mk (yg (yQ HB.out) hb); have zM := zk.mk (vX); have zT := zk.mk ((by rw [hg]; exact (zH (yQ HB.out)) : w.heap.size ≤ qb)); have yL := zk.mk ((by rw [hg]; exact (zH (yQ HB.out)) : w.heap.size ≤ qb)); have y9 := zk.mk ((by rw [hg]; exact Nat.ne_of_lt (uM (g := yI) (o := .cells #[.string zN, .bool zO, .int .i64 zP, .slice qJ zn.length qZ, .slice qK zD.length qQ, .slice qY zF.length qX] 44 (0, 0)) (qV zm.out)) : yI ≠ qb)); have qw := zk.mk ((by rw [hg]; exact Nat.ne_of_gt (uM (g := yI) (o := .cells #[.string zN, .bool zO, .int .i64 zP, .slice qJ zn.length qZ, .slice qK zD.length qQ, .slice qY zF.length qX] 44 (0, 0)) (qV zm.out)) : qb ≠ yI)); clear zm; clear HB; have zm := zl; have HB := zC; have z8 := zM; have zXi := zT; have mo := yL; have jC := y9; have jD := qw; clear zl zC zM zT yL y9 qw; clear hb vX hg)))
 (try simp only [Act.put, List.setIfInBounds_toArray, List.set_cons_zero, List.set_cons_succ])
 go_cut [53] (fun v53 wc => ∃ (kq : Nat) (zq6 : Bool), v53 = .bool zq6 ∧ zk (ze.j0 kq zq6 zN zO zP zn zD zF uT uD uU vU vO uy = some r) ∧ zk (kq ≤ k) ∧ zk (wc.heap[yI]? = some (.cells #[.string zN, .bool zO, .int .i64 zP, (.slice qJ zn.length qZ), (.slice qK zD.length qQ), (.slice qY zF.length qX)] 44 (0, 0))) ∧ zk (wc.heap[qb]? = some (.cells #[.string uT, .bool uD, .int .i64 uU, (.slice Yj vU.length Yv), (.slice Yk vO.length Yy), (.slice Yw uy.length YZ)] 44 (0, 0))) ∧ zk (Below w.heap.size w wc))
 case first =>
  have H := HC3.out
  clear HC3
  by_cases c6 : zN.toList = uT.toList
  ·rw [if_pos c6] at H
   have Zf : (zN.toList == uT.toList) = true := beq_iff_eq.mpr c6
   have UK : (zN.toList != uT.toList) = false := bne_eq_false_iff_eq.mpr c6
   clear c6
   (first | rw [Zf] | (simp only [vZ, vQ]; rw [Zf]) | skip)
   by_cases c7 : (zO != uD) = true
   ·rw [if_pos c7] at H
    have VI : (zO != uD) = true := c7
    (try (have rO : decide (zO = uD) = false := by simpa using c7))
    (try (have zxL : (zO == uD) = false := by simpa using c7))
    (try (have zmD : ¬ (zO = uD) := by simpa using c7))
    clear c7
    have H' := zk.mk H
    clear H
    have zdw := jC.out
    have zdZ := jD.out
    have Qj : w5.cell? ⟨yI, 0, none⟩ = some (.string zN) := (zx zm.out 0).trans rfl
    have Qv : w5.cell? ⟨yI, 1, none⟩ = some (.bool zO) := (zx zm.out 1).trans rfl
    have Qk : w5.cell? ⟨yI, 2, none⟩ = some (.int .i64 zP) := (zx zm.out 2).trans rfl
    have Qy : w5.cell? ⟨yI, 3, none⟩ = some (.slice qJ zn.length qZ) := (zx zm.out 3).trans rfl
    have Qw : w5.cell? ⟨yI, 4, none⟩ = some (.slice qK zD.length qQ) := (zx zm.out 4).trans rfl
    have QZ : w5.cell? ⟨yI, 5, none⟩ = some (.slice qY zF.length qX) := (zx zm.out 5).trans rfl
    have QX := zw zm.out 0
    have QJ := zw zm.out 1
    have QV := zw zm.out 2
    have QK := zw zm.out 3
    have QY := zw zm.out 4
    have QW := zw zm.out 5
    have aZ : w5.cell? ⟨qb, 0, none⟩ = some (.string uT) := (zx z8.out 0).trans rfl
    have aQ : w5.cell? ⟨qb, 1, none⟩ = some (.bool uD) := (zx z8.out 1).trans rfl
    have aX : w5.cell? ⟨qb, 2, none⟩ = some (.int .i64 uU) := (zx z8.out 2).trans rfl
    have aJ : w5.cell? ⟨qb, 3, none⟩ = some (.slice Yj vU.length Yv) := (zx z8.out 3).trans rfl
    have aV : w5.cell? ⟨qb, 4, none⟩ = some (.slice Yk vO.length Yy) := (zx z8.out 4).trans rfl
    have aK : w5.cell? ⟨qb, 5, none⟩ = some (.slice Yw uy.length YZ) := (zx z8.out 5).trans rfl
    have aY := zw z8.out 0
    have aW := zw z8.out 1
    have ah := zw z8.out 2
    have au := zw z8.out 3
    have aA := zw z8.out 4
    have aC := zw z8.out 5
    go_wp2
    repeat (go_quiet (fail); try go_wp2)
    go_meet
    case rel => exact ⟨_, (true), (by first | rfl | (simp; done) | (simp [*]; done)), H', ⟨by first | omega | exact Nat.le_refl _⟩, ⟨qV zm.out⟩, ⟨qV z8.out⟩, ⟨yQ HB.out⟩⟩
   ·rw [if_neg c7] at H
    have VI : (zO != uD) = false := by simpa using c7
    (try (have rO : decide (zO = uD) = true := by simpa using c7))
    (try (have zxL : (zO == uD) = true := by simpa using c7))
    clear c7
    by_cases c11 : zP = uU
    ·rw [if_pos c11] at H
     have Jd : (zP == uU) = true := beq_iff_eq.mpr c11
     have zzv : (zP != uU) = false := bne_eq_false_iff_eq.mpr c11
     clear c11
     by_cases c12 : (zn.length : Int) = (vU.length : Int)
     ·rw [if_pos c12] at H
      have aD : ((zn.length : Int) == (vU.length : Int)) = true := beq_iff_eq.mpr c12
      have aG : ((zn.length : Int) != (vU.length : Int)) = false := bne_eq_false_iff_eq.mpr c12
      have zzk : (zn.length == vU.length) = true := by first | simpa using c12 | (simp at c12 ⊢; omega)
      clear c12
      by_cases c13 : (zD.length : Int) = (vO.length : Int)
      ·rw [if_pos c13] at H
       have Ws : ((zD.length : Int) == (vO.length : Int)) = true := beq_iff_eq.mpr c13
       have aH : ((zD.length : Int) != (vO.length : Int)) = false := bne_eq_false_iff_eq.mpr c13
       have zzy : (zD.length == vO.length) = true := by first | simpa using c13 | (simp at c13 ⊢; omega)
       clear c13
       have H' := zk.mk H
       clear H
       have zaf := jC.out
       have zah := jD.out
       have UY : w5.cell? ⟨yI, 0, none⟩ = some (.string zN) := (zx zm.out 0).trans rfl
       have UW : w5.cell? ⟨yI, 1, none⟩ = some (.bool zO) := (zx zm.out 1).trans rfl
       have Ua : w5.cell? ⟨yI, 2, none⟩ = some (.int .i64 zP) := (zx zm.out 2).trans rfl
       have Ub : w5.cell? ⟨yI, 3, none⟩ = some (.slice qJ zn.length qZ) := (zx zm.out 3).trans rfl
       have Uc : w5.cell? ⟨yI, 4, none⟩ = some (.slice qK zD.length qQ) := (zx zm.out 4).trans rfl
       have Ud : w5.cell? ⟨yI, 5, none⟩ = some (.slice qY zF.length qX) := (zx zm.out 5).trans rfl
       have Ue := zw zm.out 0
       have Uf := zw zm.out 1
       have Ug := zw zm.out 2
       have Uh := zw zm.out 3
       have Ui := zw zm.out 4
       have Ul := zw zm.out 5
       have PD : w5.cell? ⟨qb, 0, none⟩ = some (.string uT) := (zx z8.out 0).trans rfl
       have PE : w5.cell? ⟨qb, 1, none⟩ = some (.bool uD) := (zx z8.out 1).trans rfl
       have PG : w5.cell? ⟨qb, 2, none⟩ = some (.int .i64 uU) := (zx z8.out 2).trans rfl
       have PI : w5.cell? ⟨qb, 3, none⟩ = some (.slice Yj vU.length Yv) := (zx z8.out 3).trans rfl
       have PN : w5.cell? ⟨qb, 4, none⟩ = some (.slice Yk vO.length Yy) := (zx z8.out 4).trans rfl
       have PO : w5.cell? ⟨qb, 5, none⟩ = some (.slice Yw uy.length YZ) := (zx z8.out 5).trans rfl
       have PS := zw z8.out 0
       have PU := zw z8.out 1
       have P5 := zw z8.out 2
       have P6 := zw z8.out 3
       have P7 := zw z8.out 4
       have P8 := zw z8.out 5
       go_wp2
       repeat (go_quiet (fail); try go_wp2)
       go_meet
       case rel => exact ⟨_, (((zF.length : Int) != (uy.length : Int))), (by first | rfl | (simp; done) | (simp [*]; done)), H', ⟨by first | omega | exact Nat.le_refl _⟩, ⟨qV zm.out⟩, ⟨qV z8.out⟩, ⟨yQ HB.out⟩⟩
      ·rw [if_neg c13] at H
       have Ws : ((zD.length : Int) == (vO.length : Int)) = false := beq_eq_false_iff_ne.mpr c13
       have aH : ((zD.length : Int) != (vO.length : Int)) = true := bne_iff_ne.mpr c13
       have zzy : (zD.length == vO.length) = false := by first | simpa using c13 | (simp at c13 ⊢; omega)
       have H' := zk.mk H
       clear H
       have zlJ := jC.out
       have zlV := jD.out
       have P9 : w5.cell? ⟨yI, 0, none⟩ = some (.string zN) := (zx zm.out 0).trans rfl
       have bq : w5.cell? ⟨yI, 1, none⟩ = some (.bool zO) := (zx zm.out 1).trans rfl
       have bZ : w5.cell? ⟨yI, 2, none⟩ = some (.int .i64 zP) := (zx zm.out 2).trans rfl
       have bQ : w5.cell? ⟨yI, 3, none⟩ = some (.slice qJ zn.length qZ) := (zx zm.out 3).trans rfl
       have bX : w5.cell? ⟨yI, 4, none⟩ = some (.slice qK zD.length qQ) := (zx zm.out 4).trans rfl
       have bJ : w5.cell? ⟨yI, 5, none⟩ = some (.slice qY zF.length qX) := (zx zm.out 5).trans rfl
       have bV := zw zm.out 0
       have bK := zw zm.out 1
       have bY := zw zm.out 2
       have bW := zw zm.out 3
       have bf := zw zm.out 4
       have bg := zw zm.out 5
       have aI : w5.cell? ⟨qb, 0, none⟩ = some (.string uT) := (zx z8.out 0).trans rfl
       have aM : w5.cell? ⟨qb, 1, none⟩ = some (.bool uD) := (zx z8.out 1).trans rfl
       have aN : w5.cell? ⟨qb, 2, none⟩ = some (.int .i64 uU) := (zx z8.out 2).trans rfl
       have aR : w5.cell? ⟨qb, 3, none⟩ = some (.slice Yj vU.length Yv) := (zx z8.out 3).trans rfl
       have aT : w5.cell? ⟨qb, 4, none⟩ = some (.slice Yk vO.length Yy) := (zx z8.out 4).trans rfl
       have aU : w5.cell? ⟨qb, 5, none⟩ = some (.slice Yw uy.length YZ) := (zx z8.out 5).trans rfl
       have fq := zw z8.out 0
       have fZ := zw z8.out 1
       have fQ := zw z8.out 2
       have fJ := zw z8.out 3
       have fV := zw z8.out 4
       have fK := zw z8.out 5
       go_wp2
       repeat (go_quiet (fail); try go_wp2)
       go_meet
       case rel => exact ⟨_, (true), (by first | rfl | (simp; done) | (simp [*]; done)), H', ⟨by first | omega | exact Nat.le_refl _⟩, ⟨qV zm.out⟩, ⟨qV z8.out⟩, ⟨yQ HB.out⟩⟩
     ·rw [if_neg c12] at H
      have aD : ((zn.length : Int) == (vU.length : Int)) = false := beq_eq_false_iff_ne.mpr c12
      have aG : ((zn.length : Int) != (vU.length : Int)) = true := bne_iff_ne.mpr c12
      have zzk : (zn.length == vU.length) = false := by first | simpa using c12 | (simp at c12 ⊢; omega)
      have H' := zk.mk H
      clear H
      have zXl := jC.out
      have zXm := jD.out
      have bF : w5.cell? ⟨yI, 0, none⟩ = some (.string zN) := (zx zm.out 0).trans rfl
      have bG : w5.cell? ⟨yI, 1, none⟩ = some (.bool zO) := (zx zm.out 1).trans rfl
      have bH : w5.cell? ⟨yI, 2, none⟩ = some (.int .i64 zP) := (zx zm.out 2).trans rfl
      have bI : w5.cell? ⟨yI, 3, none⟩ = some (.slice qJ zn.length qZ) := (zx zm.out 3).trans rfl
      have bL : w5.cell? ⟨yI, 4, none⟩ = some (.slice qK zD.length qQ) := (zx zm.out 4).trans rfl
      have bM : w5.cell? ⟨yI, 5, none⟩ = some (.slice qY zF.length qX) := (zx zm.out 5).trans rfl
      have bN := zw zm.out 0
      have bO := zw zm.out 1
      have bP := zw zm.out 2
      have bR := zw zm.out 3
      have bS := zw zm.out 4
      have bT := zw zm.out 5
      have Um : w5.cell? ⟨qb, 0, none⟩ = some (.string uT) := (zx z8.out 0).trans rfl
      have Un : w5.cell? ⟨qb, 1, none⟩ = some (.bool uD) := (zx z8.out 1).trans rfl
      have Uo : w5.cell? ⟨qb, 2, none⟩ = some (.int .i64 uU) := (zx z8.out 2).trans rfl
      have Ur : w5.cell? ⟨qb, 3, none⟩ = some (.slice Yj vU.length Yv) := (zx z8.out 3).trans rfl
      have Us : w5.cell? ⟨qb, 4, none⟩ = some (.slice Yk vO.length Yy) := (zx z8.out 4).trans rfl
      have Ut : w5.cell? ⟨qb, 5, none⟩ = some (.slice Yw uy.length YZ) := (zx z8.out 5).trans rfl
      have Uu := zw z8.out 0
      have UA := zw z8.out 1
      have UC := zw z8.out 2
      have UD := zw z8.out 3
      have UE := zw z8.out 4
      have UF := zw z8.out 5
      go_wp2
      repeat (go_quiet (fail); try go_wp2)
      go_meet
      case rel => exact ⟨_, (true), (by first | rfl | (simp; done) | (simp [*]; done)), H', ⟨by first | omega | exact Nat.le_refl _⟩, ⟨qV zm.out⟩, ⟨qV z8.out⟩, ⟨yQ HB.out⟩⟩
    ·rw [if_neg c11] at H
     have Jd : (zP == uU) = false := beq_eq_false_iff_ne.mpr c11
     have zzv : (zP != uU) = true := bne_iff_ne.mpr c11
     have H' := zk.mk H
     clear H
     have zlK := jC.out
     have zlY := jD.out
     have fu : w5.cell? ⟨yI, 0, none⟩ = some (.string zN) := (zx zm.out 0).trans rfl
     have fA : w5.cell? ⟨yI, 1, none⟩ = some (.bool zO) := (zx zm.out 1).trans rfl
     have fB : w5.cell? ⟨yI, 2, none⟩ = some (.int .i64 zP) := (zx zm.out 2).trans rfl
     have fC : w5.cell? ⟨yI, 3, none⟩ = some (.slice qJ zn.length qZ) := (zx zm.out 3).trans rfl
     have fD : w5.cell? ⟨yI, 4, none⟩ = some (.slice qK zD.length qQ) := (zx zm.out 4).trans rfl
     have fE : w5.cell? ⟨yI, 5, none⟩ = some (.slice qY zF.length qX) := (zx zm.out 5).trans rfl
     have fF := zw zm.out 0
     have fG := zw zm.out 1
     have fH := zw zm.out 2
     have fI := zw zm.out 3
     have fM := zw zm.out 4
     have fO := zw zm.out 5
     have fP : w5.cell? ⟨qb, 0, none⟩ = some (.string uT) := (zx z8.out 0).trans rfl
     have fT : w5.cell? ⟨qb, 1, none⟩ = some (.bool uD) := (zx z8.out 1).trans rfl
     have fU : w5.cell? ⟨qb, 2, none⟩ = some (.int .i64 uU) := (zx z8.out 2).trans rfl
     have eZ : w5.cell? ⟨qb, 3, none⟩ = some (.slice Yj vU.length Yv) := (zx z8.out 3).trans rfl
     have eX : w5.cell? ⟨qb, 4, none⟩ = some (.slice Yk vO.length Yy) := (zx z8.out 4).trans rfl
     have eY : w5.cell? ⟨qb, 5, none⟩ = some (.slice Yw uy.length YZ) := (zx z8.out 5).trans rfl
     have eD := zw z8.out 0
     have eF := zw z8.out 1
     have eH := zw z8.out 2
     have eO := zw z8.out 3
     have eP := zw z8.out 4
     have eT := zw z8.out 5
     go_wp2
     repeat (go_quiet (fail); try go_wp2)
     go_meet
     case rel => exact ⟨_, (true), (by first | rfl | (simp; done) | (simp [*]; done)), H', ⟨by first | omega | exact Nat.le_refl _⟩, ⟨qV zm.out⟩, ⟨qV z8.out⟩, ⟨yQ HB.out⟩⟩
  ·rw [if_neg c6] at H
   have Zf : (zN.toList == uT.toList) = false := beq_eq_false_iff_ne.mpr c6
   have UK : (zN.toList != uT.toList) = true := bne_iff_ne.mpr c6
   (first | rw [Zf] | (simp only [vZ, vQ]; rw [Zf]) | skip)
   have H' := zk.mk H
   clear H
   have zXn := jC.out
   have zXo := jD.out
   have UG : w5.cell? ⟨yI, 0, none⟩ = some (.string zN) := (zx zm.out 0).trans rfl
   have UH : w5.cell? ⟨yI, 1, none⟩ = some (.bool zO) := (zx zm.out 1).trans rfl
   have UL : w5.cell? ⟨yI, 2, none⟩ = some (.int .i64 zP) := (zx zm.out 2).trans rfl
   have UM : w5.cell? ⟨yI, 3, none⟩ = some (.slice qJ zn.length qZ) := (zx zm.out 3).trans rfl
   have UN : w5.cell? ⟨yI, 4, none⟩ = some (.slice qK zD.length qQ) := (zx zm.out 4).trans rfl
   have UO : w5.cell? ⟨yI, 5, none⟩ = some (.slice qY zF.length qX) := (zx zm.out 5).trans rfl
   have QM := zw zm.out 0
   have QN := zw zm.out 1
   have QO := zw zm.out 2
   have QS := zw zm.out 3
   have QT := zw zm.out 4
   have QU := zw zm.out 5
   have Kk : w5.cell? ⟨qb, 0, none⟩ = some (.string uT) := (zx z8.out 0).trans rfl
   have Ky : w5.cell? ⟨qb, 1, none⟩ = some (.bool uD) := (zx z8.out 1).trans rfl
   have Kw : w5.cell? ⟨qb, 2, none⟩ = some (.int .i64 uU) := (zx z8.out 2).trans rfl
   have KZ : w5.cell? ⟨qb, 3, none⟩ = some (.slice Yj vU.length Yv) := (zx z8.out 3).trans rfl
   have KQ : w5.cell? ⟨qb, 4, none⟩ = some (.slice Yk vO.length Yy) := (zx z8.out 4).trans rfl
   have KX : w5.cell? ⟨qb, 5, none⟩ = some (.slice Yw uy.length YZ) := (zx z8.out 5).trans rfl
   have KJ := zw z8.out 0
   have KV := zw z8.out 1
   have KY := zw z8.out 2
   have KW := zw z8.out 3
   have Ka := zw z8.out 4
   have Ke := zw z8.out 5
   go_wp2
   repeat (go_quiet (fail); try go_wp2)
   go_meet
   case rel => exact ⟨_, (true), (by first | rfl | (simp; done) | (simp [*]; done)), H', ⟨by first | omega | exact Nat.le_refl _⟩, ⟨qV zm.out⟩, ⟨qV z8.out⟩, ⟨yQ HB.out⟩⟩
 case rest =>
  clear HC3
  try clear c1
  try clear c2
  try clear p2
  try clear c6
  try clear Zf
  try clear UK
  try clear c7
  try clear VI
  try clear rO
  try clear zxL
  try clear c8
  try clear c11
  try clear Jd
  try clear zzv
  try clear c12
  try clear aD
  try clear aG
  try clear zzk
  try clear c13
  try clear Ws
  try clear aH
  try clear zzy
  try clear c14
  try clear c15
  try clear c17
  try clear c20
  try clear c23
  try clear c26
  try clear aZ
  try clear aQ
  try clear aX
  try clear aJ
  try clear aV
  try clear aK
  try clear UY
  try clear UW
  try clear Ua
  try clear Ub
  try clear Uc
  try clear Ud
  try clear PD
  try clear PE
  try clear PG
  try clear PI
  try clear PN
  try clear PO
  try clear P9
  try clear bq
  try clear bZ
  try clear bQ
  try clear bX
  try clear bJ
  try clear aI
  try clear aM
  try clear aN
  try clear aR
  try clear aT
  try clear aU
  try clear bF
  try clear bG
  try clear bH
  try clear bI
  try clear bL
  try clear bM
  try clear Um
  try clear Un
  try clear Uo
  try clear Ur
  try clear Us
  try clear Ut
  try clear fu
  try clear fA
  try clear fB
  try clear fC
  try clear fD
  try clear fE
  try clear fP
  try clear fT
  try clear fU
  try clear eZ
  try clear eX
  try clear eY
  try clear UG
  try clear UH
  try clear UL
  try clear UM
  try clear UN
  try clear UO
  try clear Kk
  try clear Ky
  try clear Kw
  try clear KZ
  try clear KQ
  try clear KX
  try clear Qj
  try clear Qv
  try clear Qk
  try clear Qy
  try clear Qw
  try clear QZ
  try clear aY
  try clear aW
  try clear ah
  try clear au
  try clear aA
  try clear aC
  try clear Ue
  try clear Uf
  try clear Ug
  try clear Uh
  try clear Ui
  try clear Ul
  try clear PS
  try clear PU
  try clear P5
  try clear P6
  try clear P7
  try clear P8
  try clear bV
  try clear bK
  try clear bY
  try clear bW
  try clear bf
  try clear bg
  try clear fq
  try clear fZ
  try clear fQ
  try clear fJ
  try clear fV
  try clear fK
  try clear bN
  try clear bO
  try clear bP
  try clear bR
  try clear bS
  try clear bT
  try clear Uu
  try clear UA
  try clear UC
  try clear UD
  try clear UE
  try clear UF
  try clear fF
  try clear fG
  try clear fH
  try clear fI
  try clear fM
  try clear fO
  try clear eD
  try clear eF
  try clear eH
  try clear eO
  try clear eP
  try clear eT
  try clear QM
  try clear QN
  try clear QO
  try clear QS
  try clear QT
  try clear QU
  try clear KJ
  try clear KV
  try clear KY
  try clear KW
  try clear Ka
  try clear Ke
  try clear QX
  try clear QJ
  try clear QV
  try clear QK
  try clear QY
  try clear QW
  obtain ⟨kq, zq6, rfl, HA, HJ2, zm, z8, HB⟩ := hcut
  cases kq with
  | zero => exact absurd HA.out (by simp [ze.j0])
  | succ kj2 =>
   have H := HA.out
   clear HA
   simp only [ze.j0] at H
   by_cases c29 : zq6 = true
   ·subst c29
    have H1 : (some false) = some r := by rw [if_pos rfl] at H; exact H
    clear H
    have H := H1
    clear H1
    obtain rfl := Option.some.inj H
    go_wp2
    repeat (go_quiet (fail); try go_wp2)
    go_ret
    exact ⟨by first | rfl | (simp [yw, yZ] <;> rfl) | (simp [*, yw, yZ] <;> rfl), by repeat (first | (with_reducible first | exact HB.out | apply yS | apply yx | apply yD | refine qh ?_ mh.out | refine qh ?_ mo.out) | exact HB.out)⟩
   ·replace c29 := Bool.eq_false_iff.mpr c29
    subst c29
    have H1 : (ze.l0 kj2 0 zN zO zP zn zD zF uT uD uU vU vO uy) = some r := by rw [if_neg (show ¬ (false = true) by decide)] at H; exact H
    clear H
    have H := H1
    clear H1
    have H' := zk.mk H
    clear H
    go_wp2
    repeat (go_quiet (fail); try go_wp2)
    go_loopg [5] kj2 (fun kq v5 w' => ∃ (xq : Int), v5 = .int .i64 xq ∧ zk (ze.l0 kq xq zN zO zP zn zD zF uT uD uU vU vO uy = some r) ∧ zk (kq ≤ kj2) ∧ zk (w'.heap[yI]? = some (.cells #[.string zN, .bool zO, .int .i64 zP, (.slice qJ zn.length qZ), (.slice qK zD.length qQ), (.slice qY zF.length qX)] 44 (0, 0))) ∧ zk (w'.heap[qb]? = some (.cells #[.string uT, .bool uD, .int .i64 uU, (.slice Yj vU.length Yv), (.slice Yk vO.length Yy), (.slice Yw uy.length YZ)] 44 (0, 0))) ∧ zk (Below w.heap.size w w'))
    case atStart => exact ⟨(0), (by first | rfl | (simp; done) | (simp [*]; done)), H', ⟨Nat.le_refl _⟩, ⟨qV zm.out⟩, ⟨qV z8.out⟩, ⟨yQ HB.out⟩⟩
    case round =>
     clear H'
     try clear c1
     try clear c2
     try clear p2
     try clear c6
     try clear Zf
     try clear UK
     try clear c7
     try clear VI
     try clear rO
     try clear zxL
     try clear c8
     try clear c11
     try clear Jd
     try clear zzv
     try clear c12
     try clear aD
     try clear aG
     try clear zzk
     try clear c13
     try clear Ws
     try clear aH
     try clear zzy
     try clear c14
     try clear c15
     try clear c17
     try clear c20
     try clear c23
     try clear c26
     try clear c29
     try clear aZ
     try clear aQ
     try clear aX
     try clear aJ
     try clear aV
     try clear aK
     try clear UY
     try clear UW
     try clear Ua
     try clear Ub
     try clear Uc
     try clear Ud
     try clear PD
     try clear PE
     try clear PG
     try clear PI
     try clear PN
     try clear PO
     try clear P9
     try clear bq
     try clear bZ
     try clear bQ
     try clear bX
     try clear bJ
     try clear aI
     try clear aM
     try clear aN
     try clear aR
     try clear aT
     try clear aU
     try clear bF
     try clear bG
     try clear bH
     try clear bI
     try clear bL
     try clear bM
     try clear Um
     try clear Un
     try clear Uo
     try clear Ur
     try clear Us
     try clear Ut
     try clear fu
     try clear fA
     try clear fB
     try clear fC
     try clear fD
     try clear fE
     try clear fP
     try clear fT
     try clear fU
     try clear eZ
     try clear eX
     try clear eY
     try clear UG
     try clear UH
     try clear UL
     try clear UM
     try clear UN
     try clear UO
     try clear Kk
     try clear Ky
     try clear Kw
     try clear KZ
     try clear KQ
     try clear KX
     try clear Qj
     try clear Qv
     try clear Qk
     try clear Qy
     try clear Qw
     try clear QZ
     try clear aY
     try clear aW
     try clear ah
     try clear au
     try clear aA
     try clear aC
     try clear Ue
     try clear Uf
     try clear Ug
     try clear Uh
     try clear Ui
     try clear Ul
     try clear PS
     try clear PU
     try clear P5
     try clear P6
     try clear P7
     try clear P8
     try clear bV
     try clear bK
     try clear bY
     try clear bW
     try clear bf
     try clear bg
     try clear fq
     try clear fZ
     try clear fQ
     try clear fJ
     try clear fV
     try clear fK
     try clear bN
     try clear bO
     try clear bP
     try clear bR
     try clear bS
     try clear bT
     try clear Uu
     try clear UA
     try clear UC
     try clear UD
     try clear UE
     try clear UF
     try clear fF
     try clear fG
     try clear fH
     try clear fI
     try clear fM
     try clear fO
     try clear eD
     try clear eF
     try clear eH
     try clear eO
     try clear eP
     try clear eT
     try clear QM
     try clear QN
     try clear QO
     try clear QS
     try clear QT
     try clear QU
     try clear KJ
     try clear KV
     try clear KY
     try clear KW
     try clear Ka
     try clear Ke
     try clear QX
     try clear QJ
     try clear QV
     try clear QK
     try clear QY
     try clear QW
     try clear p2
     obtain ⟨xq, rfl, HA, K9, zm, z8, HB⟩ := hrel
     cases gk with
     | zero => exact absurd HA.out (by simp [ze.l0])
     | succ k2 =>
      have H := HA.out
      clear HA
      simp only [ze.l0] at H
      by_cases V4 : xq < (zn.length : Int)
      ·rw [if_pos V4] at H
       have mD : decide (xq < (zn.length : Int)) = true := decide_eq_true V4
       clear V4
       by_cases c31 : 0 ≤ xq
       ·rw [if_pos c31] at H
        have zXp : decide (0 ≤ xq) = true := decide_eq_true c31
        clear c31
        by_cases c32 : xq < (vU.length : Int)
        ·rw [if_pos c32] at H
         have zXr : decide (xq < (vU.length : Int)) = true := decide_eq_true c32
         clear c32
         by_cases c33 : (!((((xH zn xq).f0).toList) == (((xH vU xq).f0).toList)) || (!(((xH zn xq).f1) == ((xH vU xq).f1)))) = true
         ·rw [if_pos c33] at H
          have zyZ : (!((((xH zn xq).f0).toList) == (((xH vU xq).f0).toList)) || (!(((xH zn xq).f1) == ((xH vU xq).f1)))) = true := c33
          clear c33
          obtain rfl := Option.some.inj H
          have zai := jC.out
          have zal := jD.out
          have bU : wr.cell? ⟨yI, 0, none⟩ = some (.string zN) := (zx zm.out 0).trans rfl
          have cZ : wr.cell? ⟨yI, 1, none⟩ = some (.bool zO) := (zx zm.out 1).trans rfl
          have cK : wr.cell? ⟨yI, 2, none⟩ = some (.int .i64 zP) := (zx zm.out 2).trans rfl
          have cB : wr.cell? ⟨yI, 3, none⟩ = some (.slice qJ zn.length qZ) := (zx zm.out 3).trans rfl
          have cO : wr.cell? ⟨yI, 4, none⟩ = some (.slice qK zD.length qQ) := (zx zm.out 4).trans rfl
          have dx : wr.cell? ⟨yI, 5, none⟩ = some (.slice qY zF.length qX) := (zx zm.out 5).trans rfl
          have dw := zw zm.out 0
          have dZ := zw zm.out 1
          have dQ := zw zm.out 2
          have dX := zw zm.out 3
          have dJ := zw zm.out 4
          have dV := zw zm.out 5
          have mE : 0 ≤ (xq : Int) := of_decide_eq_true (by first | (with_reducible assumption) | assumption)
          have mF : xq < (zn.length : Int) := of_decide_eq_true (by first | (with_reducible assumption) | assumption)
          obtain ⟨zam, e269, XC, XD⟩ := VA wS.out xq mE mF
          cases e269
          replace XC := (HB.out.cell (World.block_lt_of_cell? w _ XC)).trans XC
          replace XD := (HB.out.cell (World.block_lt_of_cell? w _ XD)).trans XD
          replace mE := eq_true mE
          replace mF := eq_true mF
          have zj2 : wr.cell? ⟨qb, 0, none⟩ = some (.string uT) := (zx z8.out 0).trans rfl
          have zj3 : wr.cell? ⟨qb, 1, none⟩ = some (.bool uD) := (zx z8.out 1).trans rfl
          have zj4 : wr.cell? ⟨qb, 2, none⟩ = some (.int .i64 uU) := (zx z8.out 2).trans rfl
          have zj5 : wr.cell? ⟨qb, 3, none⟩ = some (.slice Yj vU.length Yv) := (zx z8.out 3).trans rfl
          have zj6 : wr.cell? ⟨qb, 4, none⟩ = some (.slice Yk vO.length Yy) := (zx z8.out 4).trans rfl
          have zj7 : wr.cell? ⟨qb, 5, none⟩ = some (.slice Yw uy.length YZ) := (zx z8.out 5).trans rfl
          have zj8 := zw z8.out 0
          have zj9 := zw z8.out 1
          have zvz := zw z8.out 2
          have zvq := zw z8.out 3
          have zvx := zw z8.out 4
          have zvj := zw z8.out 5
          have mG : 0 ≤ (xq : Int) := of_decide_eq_true (by first | (with_reducible assumption) | assumption)
          have mH : xq < (vU.length : Int) := of_decide_eq_true (by first | (with_reducible assumption) | assumption)
          obtain ⟨zan, e270, XE, XF⟩ := VA zXe.out xq mG mH
          cases e270
          replace XE := (HB.out.cell (World.block_lt_of_cell? w _ XE)).trans XE
          replace XF := (HB.out.cell (World.block_lt_of_cell? w _ XF)).trans XF
          replace mG := eq_true mG
          replace mH := eq_true mH
          go_wp2
          repeat (go_quiet (fail); try go_wp2)
          go_ret
          exact ⟨by first | rfl | (simp [yw, yZ] <;> rfl) | (simp [*, yw, yZ] <;> rfl), by repeat (first | (with_reducible first | exact HB.out | apply yS | apply yx | apply yD | refine qh ?_ mh.out | refine qh ?_ mo.out) | exact HB.out)⟩
         ·rw [if_neg c33] at H
          have zyZ : (!((((xH zn xq).f0).toList) == (((xH vU xq).f0).toList)) || (!(((xH zn xq).f1) == ((xH vU xq).f1)))) = false := by simpa using c33
          clear c33
          have H' := zk.mk H
          clear H
          have zlW := jC.out
          have zla := jD.out
          have zvv : wr.cell? ⟨yI, 0, none⟩ = some (.string zN) := (zx zm.out 0).trans rfl
          have zvk : wr.cell? ⟨yI, 1, none⟩ = some (.bool zO) := (zx zm.out 1).trans rfl
          have zvy : wr.cell? ⟨yI, 2, none⟩ = some (.int .i64 zP) := (zx zm.out 2).trans rfl
          have zvw : wr.cell? ⟨yI, 3, none⟩ = some (.slice qJ zn.length qZ) := (zx zm.out 3).trans rfl
          have zvZ : wr.cell? ⟨yI, 4, none⟩ = some (.slice qK zD.length qQ) := (zx zm.out 4).trans rfl
          have zvQ : wr.cell? ⟨yI, 5, none⟩ = some (.slice qY zF.length qX) := (zx zm.out 5).trans rfl
          have zvX := zw zm.out 0
          have zvJ := zw zm.out 1
          have zvV := zw zm.out 2
          have zvK := zw zm.out 3
          have zvY := zw zm.out 4
          have zvW := zw zm.out 5
          have mE : 0 ≤ (xq : Int) := of_decide_eq_true (by first | (with_reducible assumption) | assumption)
          have mF : xq < (zn.length : Int) := of_decide_eq_true (by first | (with_reducible assumption) | assumption)
          obtain ⟨zam, e269, XC, XD⟩ := VA wS.out xq mE mF
          cases e269
          replace XC := (HB.out.cell (World.block_lt_of_cell? w _ XC)).trans XC
          replace XD := (HB.out.cell (World.block_lt_of_cell? w _ XD)).trans XD
          replace mE := eq_true mE
          replace mF := eq_true mF
          have zva : wr.cell? ⟨qb, 0, none⟩ = some (.string uT) := (zx z8.out 0).trans rfl
          have zvb : wr.cell? ⟨qb, 1, none⟩ = some (.bool uD) := (zx z8.out 1).trans rfl
          have zvc : wr.cell? ⟨qb, 2, none⟩ = some (.int .i64 uU) := (zx z8.out 2).trans rfl
          have zvd : wr.cell? ⟨qb, 3, none⟩ = some (.slice Yj vU.length Yv) := (zx z8.out 3).trans rfl
          have zve : wr.cell? ⟨qb, 4, none⟩ = some (.slice Yk vO.length Yy) := (zx z8.out 4).trans rfl
          have zvf : wr.cell? ⟨qb, 5, none⟩ = some (.slice Yw uy.length YZ) := (zx z8.out 5).trans rfl
          have zvg := zw z8.out 0
          have zvh := zw z8.out 1
          have zvi := zw z8.out 2
          have zvl := zw z8.out 3
          have zvm := zw z8.out 4
          have zvn := zw z8.out 5
          have mG : 0 ≤ (xq : Int) := of_decide_eq_true (by first | (with_reducible assumption) | assumption)
          have mH : xq < (vU.length : Int) := of_decide_eq_true (by first | (with_reducible assumption) | assumption)
          obtain ⟨zan, e270, XE, XF⟩ := VA zXe.out xq mG mH
          cases e270
          replace XE := (HB.out.cell (World.block_lt_of_cell? w _ XE)).trans XE
          replace XF := (HB.out.cell (World.block_lt_of_cell? w _ XF)).trans XF
          replace mG := eq_true mG
          replace mH := eq_true mH
          go_wp2
          repeat (go_quiet (fail); try go_wp2)
          go_roundg k2
          case measure => have := HJ2.out; have := K9.out; omega
          case rel => exact ⟨(wrap64 (xq + 1)), (by first | rfl | (simp; done) | (simp [*]; done)), H', ⟨by have := HJ2.out; have := K9.out; omega⟩, ⟨qV zm.out⟩, ⟨qV z8.out⟩, ⟨yQ HB.out⟩⟩
        ·rw [if_neg c32] at H
         exact absurd H (by simp)
       ·rw [if_neg c31] at H
        exact absurd H (by simp)
      ·rw [if_neg V4] at H
       have mD : decide (xq < (zn.length : Int)) = false := decide_eq_false V4
       clear V4
       have H' := zk.mk H
       clear H
       have zao := jC.out
       have zar := jD.out
       have zz6 : wr.cell? ⟨yI, 0, none⟩ = some (.string zN) := (zx zm.out 0).trans rfl
       have zz7 : wr.cell? ⟨yI, 1, none⟩ = some (.bool zO) := (zx zm.out 1).trans rfl
       have zz8 : wr.cell? ⟨yI, 2, none⟩ = some (.int .i64 zP) := (zx zm.out 2).trans rfl
       have zz9 : wr.cell? ⟨yI, 3, none⟩ = some (.slice qJ zn.length qZ) := (zx zm.out 3).trans rfl
       have zqz : wr.cell? ⟨yI, 4, none⟩ = some (.slice qK zD.length qQ) := (zx zm.out 4).trans rfl
       have zqq : wr.cell? ⟨yI, 5, none⟩ = some (.slice qY zF.length qX) := (zx zm.out 5).trans rfl
       have zqx := zw zm.out 0
       have zqj := zw zm.out 1
       have zqv := zw zm.out 2
       have zqk := zw zm.out 3
       have zqy := zw zm.out 4
       have zqw := zw zm.out 5
       go_wp2
       repeat (go_quiet (fail); try go_wp2)
       go_loopg [6] k2 (fun kq v6 w' => ∃ (yO : Int), v6 = .int .i64 yO ∧ zk (ze.l1 kq yO zN zO zP zn zD zF uT uD uU vU vO uy = some r) ∧ zk (kq ≤ k2) ∧ zk (w'.heap[yI]? = some (.cells #[.string zN, .bool zO, .int .i64 zP, (.slice qJ zn.length qZ), (.slice qK zD.length qQ), (.slice qY zF.length qX)] 44 (0, 0))) ∧ zk (w'.heap[qb]? = some (.cells #[.string uT, .bool uD, .int .i64 uU, (.slice Yj vU.length Yv), (.slice Yk vO.length Yy), (.slice Yw uy.length YZ)] 44 (0, 0))) ∧ zk (Below w.heap.size w w'))
       case atStart => exact ⟨(0), (by first | rfl | (simp; done) | (simp [*]; done)), H', ⟨Nat.le_refl _⟩, ⟨qV zm.out⟩, ⟨qV z8.out⟩, ⟨yQ HB.out⟩⟩
       case round =>
        clear H'
        try clear c1
        try clear c2
        try clear p2
        try clear q2
        try clear hx2
        try clear c3
        try clear c4
        try clear c6
        try clear Zf
        try clear UK
        try clear p6
        try clear c7
        try clear VI
        try clear rO
        try clear zxL
        try clear c8
        try clear c11
        try clear Jd
        try clear zzv
        try clear c12
        try clear aD
        try clear aG
        try clear zzk
        try clear c13
        try clear Ws
        try clear aH
        try clear zzy
        try clear c14
        try clear c15
        try clear c17
        try clear c20
        try clear c23
        try clear c26
        try clear p26
        try clear q26
        try clear zdQ
        try clear p27
        try clear q27
        try clear hx27
        try clear c29
        try clear V4
        try clear mD
        try clear c31
        try clear zXp
        try clear c32
        try clear zXr
        try clear c33
        try clear zyZ
        try clear c34
        try clear c37
        try clear c40
        try clear aZ
        try clear aQ
        try clear aX
        try clear aJ
        try clear aV
        try clear aK
        try clear UY
        try clear UW
        try clear Ua
        try clear Ub
        try clear Uc
        try clear Ud
        try clear PD
        try clear PE
        try clear PG
        try clear PI
        try clear PN
        try clear PO
        try clear P9
        try clear bq
        try clear bZ
        try clear bQ
        try clear bX
        try clear bJ
        try clear aI
        try clear aM
        try clear aN
        try clear aR
        try clear aT
        try clear aU
        try clear bF
        try clear bG
        try clear bH
        try clear bI
        try clear bL
        try clear bM
        try clear Um
        try clear Un
        try clear Uo
        try clear Ur
        try clear Us
        try clear Ut
        try clear fu
        try clear fA
        try clear fB
        try clear fC
        try clear fD
        try clear fE
        try clear fP
        try clear fT
        try clear fU
        try clear eZ
        try clear eX
        try clear eY
        try clear UG
        try clear UH
        try clear UL
        try clear UM
        try clear UN
        try clear UO
        try clear Kk
        try clear Ky
        try clear Kw
        try clear KZ
        try clear KQ
        try clear KX
        try clear bU
        try clear cZ
        try clear cK
        try clear cB
        try clear cO
        try clear dx
        try clear zj2
        try clear zj3
        try clear zj4
        try clear zj5
        try clear zj6
        try clear zj7
        try clear zvv
        try clear zvk
        try clear zvy
        try clear zvw
        try clear zvZ
        try clear zvQ
        try clear zva
        try clear zvb
        try clear zvc
        try clear zvd
        try clear zve
        try clear zvf
        try clear zz6
        try clear zz7
        try clear zz8
        try clear zz9
        try clear zqz
        try clear zqq
        try clear Qj
        try clear Qv
        try clear Qk
        try clear Qy
        try clear Qw
        try clear QZ
        try clear aY
        try clear aW
        try clear ah
        try clear au
        try clear aA
        try clear aC
        try clear Ue
        try clear Uf
        try clear Ug
        try clear Uh
        try clear Ui
        try clear Ul
        try clear PS
        try clear PU
        try clear P5
        try clear P6
        try clear P7
        try clear P8
        try clear bV
        try clear bK
        try clear bY
        try clear bW
        try clear bf
        try clear bg
        try clear fq
        try clear fZ
        try clear fQ
        try clear fJ
        try clear fV
        try clear fK
        try clear bN
        try clear bO
        try clear bP
        try clear bR
        try clear bS
        try clear bT
        try clear Uu
        try clear UA
        try clear UC
        try clear UD
        try clear UE
        try clear UF
        try clear fF
        try clear fG
        try clear fH
        try clear fI
        try clear fM
        try clear fO
        try clear eD
        try clear eF
        try clear eH
        try clear eO
        try clear eP
        try clear eT
        try clear QM
        try clear QN
        try clear QO
        try clear QS
        try clear QT
        try clear QU
        try clear KJ
        try clear KV
        try clear KY
        try clear KW
        try clear Ka
        try clear Ke
        try clear dw
        try clear dZ
        try clear dQ
        try clear dX
        try clear dJ
        try clear dV
        try clear zj8
        try clear zj9
        try clear zvz
        try clear zvq
        try clear zvx
        try clear zvj
        try clear zvX
        try clear zvJ
        try clear zvV
        try clear zvK
        try clear zvY
        try clear zvW
        try clear zvg
        try clear zvh
        try clear zvi
        try clear zvl
        try clear zvm
        try clear zvn
        try clear zqx
        try clear zqj
        try clear zqv
        try clear zqk
        try clear zqy
        try clear zqw
        try clear QX
        try clear QJ
        try clear QV
        try clear QK
        try clear QY
        try clear QW
        try clear XC
        try clear XD
        try clear XE
        try clear XF
        try clear p2
        try clear mE
        try clear mG
        try clear mF
        try clear mH
        obtain ⟨yO, rfl, HA, Wt, zm, z8, HB⟩ := hrel
        cases gk with
        | zero => exact absurd HA.out (by simp [ze.l1])
        | succ k3 =>
         have H := HA.out
         clear HA
         simp only [ze.l1] at H
         by_cases c42 : yO < (zD.length : Int)
         ·rw [if_pos c42] at H
          have zXs : decide (yO < (zD.length : Int)) = true := decide_eq_true c42
          clear c42
          by_cases c43 : 0 ≤ yO
          ·rw [if_pos c43] at H
           have zas : decide (0 ≤ yO) = true := decide_eq_true c43
           clear c43
           by_cases c44 : yO < (vO.length : Int)
           ·rw [if_pos c44] at H
            have zat : decide (yO < (vO.length : Int)) = true := decide_eq_true c44
            clear c44
            by_cases c45 : (!((((xY zD yO).f0).toList) == (((xY vO yO).f0).toList)) || (!((((xY zD yO).f1).toList) == (((xY vO yO).f1).toList)) || (!((((xY zD yO).f2).toList) == (((xY vO yO).f2).toList))))) = true
            ·rw [if_pos c45] at H
             have zXt : (!((((xY zD yO).f0).toList) == (((xY vO yO).f0).toList)) || (!((((xY zD yO).f1).toList) == (((xY vO yO).f1).toList)) || (!((((xY zD yO).f2).toList) == (((xY vO yO).f2).toList))))) = true := c45
             clear c45
             obtain rfl := Option.some.inj H
             have zau := jC.out
             have zaA := jD.out
             have zJT : wr.cell? ⟨yI, 0, none⟩ = some (.string zN) := (zx zm.out 0).trans rfl
             have zJU : wr.cell? ⟨yI, 1, none⟩ = some (.bool zO) := (zx zm.out 1).trans rfl
             have zJ0 : wr.cell? ⟨yI, 2, none⟩ = some (.int .i64 zP) := (zx zm.out 2).trans rfl
             have zJ1 : wr.cell? ⟨yI, 3, none⟩ = some (.slice qJ zn.length qZ) := (zx zm.out 3).trans rfl
             have zJ2 : wr.cell? ⟨yI, 4, none⟩ = some (.slice qK zD.length qQ) := (zx zm.out 4).trans rfl
             have zJ3 : wr.cell? ⟨yI, 5, none⟩ = some (.slice qY zF.length qX) := (zx zm.out 5).trans rfl
             have zJ4 := zw zm.out 0
             have zJ5 := zw zm.out 1
             have zJ6 := zw zm.out 2
             have zJ7 := zw zm.out 3
             have zJ8 := zw zm.out 4
             have zJ9 := zw zm.out 5
             have rR : 0 ≤ (yO : Int) := of_decide_eq_true (by first | (with_reducible assumption) | assumption)
             have r9 : yO < (zD.length : Int) := of_decide_eq_true (by first | (with_reducible assumption) | assumption)
             obtain ⟨zaB, e271, Q0, Q5, Q6⟩ := KL ZB.out yO rR r9
             cases e271
             replace Q0 := (HB.out.cell (World.block_lt_of_cell? w _ Q0)).trans Q0
             replace Q5 := (HB.out.cell (World.block_lt_of_cell? w _ Q5)).trans Q5
             replace Q6 := (HB.out.cell (World.block_lt_of_cell? w _ Q6)).trans Q6
             replace rR := eq_true rR
             replace r9 := eq_true r9
             have zvo : wr.cell? ⟨qb, 0, none⟩ = some (.string uT) := (zx z8.out 0).trans rfl
             have zvp : wr.cell? ⟨qb, 1, none⟩ = some (.bool uD) := (zx z8.out 1).trans rfl
             have zvr : wr.cell? ⟨qb, 2, none⟩ = some (.int .i64 uU) := (zx z8.out 2).trans rfl
             have zvs : wr.cell? ⟨qb, 3, none⟩ = some (.slice Yj vU.length Yv) := (zx z8.out 3).trans rfl
             have zvt : wr.cell? ⟨qb, 4, none⟩ = some (.slice Yk vO.length Yy) := (zx z8.out 4).trans rfl
             have zvu : wr.cell? ⟨qb, 5, none⟩ = some (.slice Yw uy.length YZ) := (zx z8.out 5).trans rfl
             have zvA := zw z8.out 0
             have zvB := zw z8.out 1
             have zvC := zw z8.out 2
             have zvD := zw z8.out 3
             have zvE := zw z8.out 4
             have zvF := zw z8.out 5
             have sj : 0 ≤ (yO : Int) := of_decide_eq_true (by first | (with_reducible assumption) | assumption)
             have sw : yO < (vO.length : Int) := of_decide_eq_true (by first | (with_reducible assumption) | assumption)
             obtain ⟨zaC, e272, Q7, Q8, Q9⟩ := KL zXf.out yO sj sw
             cases e272
             replace Q7 := (HB.out.cell (World.block_lt_of_cell? w _ Q7)).trans Q7
             replace Q8 := (HB.out.cell (World.block_lt_of_cell? w _ Q8)).trans Q8
             replace Q9 := (HB.out.cell (World.block_lt_of_cell? w _ Q9)).trans Q9
             replace sj := eq_true sj
             replace sw := eq_true sw
             go_wp2
             repeat (go_quiet (fail); try go_wp2)
             go_ret
             exact ⟨by first | rfl | (simp [yw, yZ] <;> rfl) | (simp [*, yw, yZ] <;> rfl), by repeat (first | (with_reducible first | exact HB.out | apply yS | apply yx | apply yD | refine qh ?_ mh.out | refine qh ?_ mo.out) | exact HB.out)⟩
            ·rw [if_neg c45] at H
             have zXt : (!((((xY zD yO).f0).toList) == (((xY vO yO).f0).toList)) || (!((((xY zD yO).f1).toList) == (((xY vO yO).f1).toList)) || (!((((xY zD yO).f2).toList) == (((xY vO yO).f2).toList))))) = false := by simpa using c45
             clear c45
             have H' := zk.mk H
             clear H
             have zaD := jC.out
             have zaE := jD.out
             have dK : wr.cell? ⟨yI, 0, none⟩ = some (.string zN) := (zx zm.out 0).trans rfl
             have dY : wr.cell? ⟨yI, 1, none⟩ = some (.bool zO) := (zx zm.out 1).trans rfl
             have dW : wr.cell? ⟨yI, 2, none⟩ = some (.int .i64 zP) := (zx zm.out 2).trans rfl
             have dh : wr.cell? ⟨yI, 3, none⟩ = some (.slice qJ zn.length qZ) := (zx zm.out 3).trans rfl
             have dn : wr.cell? ⟨yI, 4, none⟩ = some (.slice qK zD.length qQ) := (zx zm.out 4).trans rfl
             have dD : wr.cell? ⟨yI, 5, none⟩ = some (.slice qY zF.length qX) := (zx zm.out 5).trans rfl
             have dF := zw zm.out 0
             have dG := zw zm.out 1
             have dH := zw zm.out 2
             have dI := zw zm.out 3
             have dL := zw zm.out 4
             have dM := zw zm.out 5
             have rR : 0 ≤ (yO : Int) := of_decide_eq_true (by first | (with_reducible assumption) | assumption)
             have r9 : yO < (zD.length : Int) := of_decide_eq_true (by first | (with_reducible assumption) | assumption)
             obtain ⟨zaB, e271, Q0, Q5, Q6⟩ := KL ZB.out yO rR r9
             cases e271
             replace Q0 := (HB.out.cell (World.block_lt_of_cell? w _ Q0)).trans Q0
             replace Q5 := (HB.out.cell (World.block_lt_of_cell? w _ Q5)).trans Q5
             replace Q6 := (HB.out.cell (World.block_lt_of_cell? w _ Q6)).trans Q6
             replace rR := eq_true rR
             replace r9 := eq_true r9
             have zvG : wr.cell? ⟨qb, 0, none⟩ = some (.string uT) := (zx z8.out 0).trans rfl
             have zvH : wr.cell? ⟨qb, 1, none⟩ = some (.bool uD) := (zx z8.out 1).trans rfl
             have zvI : wr.cell? ⟨qb, 2, none⟩ = some (.int .i64 uU) := (zx z8.out 2).trans rfl
             have zvL : wr.cell? ⟨qb, 3, none⟩ = some (.slice Yj vU.length Yv) := (zx z8.out 3).trans rfl
             have zvM : wr.cell? ⟨qb, 4, none⟩ = some (.slice Yk vO.length Yy) := (zx z8.out 4).trans rfl
             have zvN : wr.cell? ⟨qb, 5, none⟩ = some (.slice Yw uy.length YZ) := (zx z8.out 5).trans rfl
             have zvO := zw z8.out 0
             have zvP := zw z8.out 1
             have zvR := zw z8.out 2
             have zvS := zw z8.out 3
             have zvT := zw z8.out 4
             have zvU := zw z8.out 5
             have sj : 0 ≤ (yO : Int) := of_decide_eq_true (by first | (with_reducible assumption) | assumption)
             have sw : yO < (vO.length : Int) := of_decide_eq_true (by first | (with_reducible assumption) | assumption)
             obtain ⟨zaC, e272, Q7, Q8, Q9⟩ := KL zXf.out yO sj sw
             cases e272
             replace Q7 := (HB.out.cell (World.block_lt_of_cell? w _ Q7)).trans Q7
             replace Q8 := (HB.out.cell (World.block_lt_of_cell? w _ Q8)).trans Q8
             replace Q9 := (HB.out.cell (World.block_lt_of_cell? w _ Q9)).trans Q9
             replace sj := eq_true sj
             replace sw := eq_true sw
             go_wp2
             repeat (go_quiet (fail); try go_wp2)
             go_roundg k3
             case measure => have := HJ2.out; have := K9.out; have := Wt.out; omega
             case rel => exact ⟨(wrap64 (yO + 1)), (by first | rfl | (simp; done) | (simp [*]; done)), H', ⟨by have := HJ2.out; have := K9.out; have := Wt.out; omega⟩, ⟨qV zm.out⟩, ⟨qV z8.out⟩, ⟨yQ HB.out⟩⟩
           ·rw [if_neg c44] at H
            exact absurd H (by simp)
          ·rw [if_neg c43] at H
           exact absurd H (by simp)
         ·rw [if_neg c42] at H
          have zXs : decide (yO < (zD.length : Int)) = false := decide_eq_false c42
          clear c42
          have H' := zk.mk H
          clear H
          have zlb := jC.out
          have zlc := jD.out
          have zVz : wr.cell? ⟨yI, 0, none⟩ = some (.string zN) := (zx zm.out 0).trans rfl
          have zVq : wr.cell? ⟨yI, 1, none⟩ = some (.bool zO) := (zx zm.out 1).trans rfl
          have zVx : wr.cell? ⟨yI, 2, none⟩ = some (.int .i64 zP) := (zx zm.out 2).trans rfl
          have zVj : wr.cell? ⟨yI, 3, none⟩ = some (.slice qJ zn.length qZ) := (zx zm.out 3).trans rfl
          have zVv : wr.cell? ⟨yI, 4, none⟩ = some (.slice qK zD.length qQ) := (zx zm.out 4).trans rfl
          have zVk : wr.cell? ⟨yI, 5, none⟩ = some (.slice qY zF.length qX) := (zx zm.out 5).trans rfl
          have zVy := zw zm.out 0
          have zVw := zw zm.out 1
          have zVZ := zw zm.out 2
          have zVQ := zw zm.out 3
          have zVX := zw zm.out 4
          have zVJ := zw zm.out 5
          go_wp2
          repeat (go_quiet (fail); try go_wp2)
          go_loopg [7] k3 (fun kq v7 w' => ∃ (jm : Int), v7 = .int .i64 jm ∧ zk (ze.l2 kq jm zN zO zP zn zD zF uT uD uU vU vO uy = some r) ∧ zk (kq ≤ k3) ∧ zk (w'.heap[yI]? = some (.cells #[.string zN, .bool zO, .int .i64 zP, (.slice qJ zn.length qZ), (.slice qK zD.length qQ), (.slice qY zF.length qX)] 44 (0, 0))) ∧ zk (w'.heap[qb]? = some (.cells #[.string uT, .bool uD, .int .i64 uU, (.slice Yj vU.length Yv), (.slice Yk vO.length Yy), (.slice Yw uy.length YZ)] 44 (0, 0))) ∧ zk (Below w.heap.size w w'))
          case atStart => exact ⟨(0), (by first | rfl | (simp; done) | (simp [*]; done)), H', ⟨Nat.le_refl _⟩, ⟨qV zm.out⟩, ⟨qV z8.out⟩, ⟨yQ HB.out⟩⟩
          case round =>
           clear H'
           try clear c1
           try clear c2
           try clear p2
           try clear q2
           try clear hx2
           try clear c3
           try clear c4
           try clear c5
           try clear c6
           try clear Zf
           try clear UK
           try clear p6
           try clear c7
           try clear VI
           try clear rO
           try clear zxL
           try clear c8
           try clear c11
           try clear Jd
           try clear zzv
           try clear c12
           try clear aD
           try clear aG
           try clear zzk
           try clear c13
           try clear Ws
           try clear aH
           try clear zzy
           try clear c14
           try clear c15
           try clear c17
           try clear c20
           try clear c23
           try clear c26
           try clear p26
           try clear q26
           try clear zdQ
           try clear p27
           try clear q27
           try clear hx27
           try clear c29
           try clear V4
           try clear mD
           try clear c31
           try clear zXp
           try clear c32
           try clear zXr
           try clear c33
           try clear zyZ
           try clear c34
           try clear c37
           try clear c40
           try clear c42
           try clear zXs
           try clear c43
           try clear zas
           try clear c44
           try clear zat
           try clear c45
           try clear zXt
           try clear c46
           try clear c49
           try clear c52
           try clear aZ
           try clear aQ
           try clear aX
           try clear aJ
           try clear aV
           try clear aK
           try clear UY
           try clear UW
           try clear Ua
           try clear Ub
           try clear Uc
           try clear Ud
           try clear PD
           try clear PE
           try clear PG
           try clear PI
           try clear PN
           try clear PO
           try clear P9
           try clear bq
           try clear bZ
           try clear bQ
           try clear bX
           try clear bJ
           try clear aI
           try clear aM
           try clear aN
           try clear aR
           try clear aT
           try clear aU
           try clear bF
           try clear bG
           try clear bH
           try clear bI
           try clear bL
           try clear bM
           try clear Um
           try clear Un
           try clear Uo
           try clear Ur
           try clear Us
           try clear Ut
           try clear fu
           try clear fA
           try clear fB
           try clear fC
           try clear fD
           try clear fE
           try clear fP
           try clear fT
           try clear fU
           try clear eZ
           try clear eX
           try clear eY
           try clear UG
           try clear UH
           try clear UL
           try clear UM
           try clear UN
           try clear UO
           try clear Kk
           try clear Ky
           try clear Kw
           try clear KZ
           try clear KQ
           try clear KX
           try clear bU
           try clear cZ
           try clear cK
           try clear cB
           try clear cO
           try clear dx
           try clear zj2
           try clear zj3
           try clear zj4
           try clear zj5
           try clear zj6
           try clear zj7
           try clear zvv
           try clear zvk
           try clear zvy
           try clear zvw
           try clear zvZ
           try clear zvQ
           try clear zva
           try clear zvb
           try clear zvc
           try clear zvd
           try clear zve
           try clear zvf
           try clear zz6
           try clear zz7
           try clear zz8
           try clear zz9
           try clear zqz
           try clear zqq
           try clear zJT
           try clear zJU
           try clear zJ0
           try clear zJ1
           try clear zJ2
           try clear zJ3
           try clear zvo
           try clear zvp
           try clear zvr
           try clear zvs
           try clear zvt
           try clear zvu
           try clear dK
           try clear dY
           try clear dW
           try clear dh
           try clear dn
           try clear dD
           try clear zvG
           try clear zvH
           try clear zvI
           try clear zvL
           try clear zvM
           try clear zvN
           try clear zVz
           try clear zVq
           try clear zVx
           try clear zVj
           try clear zVv
           try clear zVk
           try clear Qj
           try clear Qv
           try clear Qk
           try clear Qy
           try clear Qw
           try clear QZ
           try clear aY
           try clear aW
           try clear ah
           try clear au
           try clear aA
           try clear aC
           try clear Ue
           try clear Uf
           try clear Ug
           try clear Uh
           try clear Ui
           try clear Ul
           try clear PS
           try clear PU
           try clear P5
           try clear P6
           try clear P7
           try clear P8
           try clear bV
           try clear bK
           try clear bY
           try clear bW
           try clear bf
           try clear bg
           try clear fq
           try clear fZ
           try clear fQ
           try clear fJ
           try clear fV
           try clear fK
           try clear bN
           try clear bO
           try clear bP
           try clear bR
           try clear bS
           try clear bT
           try clear Uu
           try clear UA
           try clear UC
           try clear UD
           try clear UE
           try clear UF
           try clear fF
           try clear fG
           try clear fH
           try clear fI
           try clear fM
           try clear fO
           try clear eD
           try clear eF
           try clear eH
           try clear eO
           try clear eP
           try clear eT
           try clear QM
           try clear QN
           try clear QO
           try clear QS
           try clear QT
           try clear QU
           try clear KJ
           try clear KV
           try clear KY
           try clear KW
           try clear Ka
           try clear Ke
           try clear dw
           try clear dZ
           try clear dQ
           try clear dX
           try clear dJ
           try clear dV
           try clear zj8
           try clear zj9
           try clear zvz
           try clear zvq
           try clear zvx
           try clear zvj
           try clear zvX
           try clear zvJ
           try clear zvV
           try clear zvK
           try clear zvY
           try clear zvW
           try clear zvg
           try clear zvh
           try clear zvi
           try clear zvl
           try clear zvm
           try clear zvn
           try clear zqx
           try clear zqj
           try clear zqv
           try clear zqk
           try clear zqy
           try clear zqw
           try clear zJ4
           try clear zJ5
           try clear zJ6
           try clear zJ7
           try clear zJ8
           try clear zJ9
           try clear zvA
           try clear zvB
           try clear zvC
           try clear zvD
           try clear zvE
           try clear zvF
           try clear dF
           try clear dG
           try clear dH
           try clear dI
           try clear dL
           try clear dM
           try clear zvO
           try clear zvP
           try clear zvR
           try clear zvS
           try clear zvT
           try clear zvU
           try clear zVy
           try clear zVw
           try clear zVZ
           try clear zVQ
           try clear zVX
           try clear zVJ
           try clear QX
           try clear QJ
           try clear QV
           try clear QK
           try clear QY
           try clear QW
           try clear XC
           try clear XD
           try clear XE
           try clear XF
           try clear Q0
           try clear Q5
           try clear Q6
           try clear Q7
           try clear Q8
           try clear Q9
           try clear p2
           try clear p26
           try clear mE
           try clear p27
           try clear mG
           try clear rR
           try clear sj
           try clear p6
           try clear q2
           try clear q26
           try clear mF
           try clear q27
           try clear mH
           try clear r9
           try clear sw
           obtain ⟨jm, rfl, HA, HK4, zm, z8, HB⟩ := hrel
           cases gk with
           | zero => exact absurd HA.out (by simp [ze.l2])
           | succ k4 =>
            have H := HA.out
            clear HA
            simp only [ze.l2] at H
            by_cases c54 : jm < (zF.length : Int)
            ·rw [if_pos c54] at H
             have zaF : decide (jm < (zF.length : Int)) = true := decide_eq_true c54
             clear c54
             by_cases c55 : 0 ≤ jm
             ·rw [if_pos c55] at H
              have zld : decide (0 ≤ jm) = true := decide_eq_true c55
              clear c55
              by_cases iD : jm < (uy.length : Int)
              ·rw [if_pos iD] at H
               have zq7 : decide (jm < (uy.length : Int)) = true := decide_eq_true iD
               clear iD
               by_cases Wz : (!((((qC zF jm).f0).toList) == (((qC uy jm).f0).toList)) || (!((((qC zF jm).f1).toList) == (((qC uy jm).f1).toList)) || (!(((qC zF jm).f2) == ((qC uy jm).f2))))) = true
               ·rw [if_pos Wz] at H
                have zq8 : (!((((qC zF jm).f0).toList) == (((qC uy jm).f0).toList)) || (!((((qC zF jm).f1).toList) == (((qC uy jm).f1).toList)) || (!(((qC zF jm).f2) == ((qC uy jm).f2))))) = true := Wz
                clear Wz
                obtain rfl := Option.some.inj H
                have zle := jC.out
                have zlf := jD.out
                have zhZ : wr.cell? ⟨yI, 0, none⟩ = some (.string zN) := (zx zm.out 0).trans rfl
                have zhQ : wr.cell? ⟨yI, 1, none⟩ = some (.bool zO) := (zx zm.out 1).trans rfl
                have zhX : wr.cell? ⟨yI, 2, none⟩ = some (.int .i64 zP) := (zx zm.out 2).trans rfl
                have zhJ : wr.cell? ⟨yI, 3, none⟩ = some (.slice qJ zn.length qZ) := (zx zm.out 3).trans rfl
                have zhV : wr.cell? ⟨yI, 4, none⟩ = some (.slice qK zD.length qQ) := (zx zm.out 4).trans rfl
                have zhK : wr.cell? ⟨yI, 5, none⟩ = some (.slice qY zF.length qX) := (zx zm.out 5).trans rfl
                have zhY := zw zm.out 0
                have zhW := zw zm.out 1
                have zha := zw zm.out 2
                have zhb := zw zm.out 3
                have zhc := zw zm.out 4
                have zhd := zw zm.out 5
                have lC : 0 ≤ (jm : Int) := of_decide_eq_true (by first | (with_reducible assumption) | assumption)
                have lD : jm < (zF.length : Int) := of_decide_eq_true (by first | (with_reducible assumption) | assumption)
                obtain ⟨zaG, e273, UR, UU, U0⟩ := KM ZC.out jm lC lD
                cases e273
                replace UR := (HB.out.cell (World.block_lt_of_cell? w _ UR)).trans UR
                replace UU := (HB.out.cell (World.block_lt_of_cell? w _ UU)).trans UU
                replace U0 := (HB.out.cell (World.block_lt_of_cell? w _ U0)).trans U0
                replace lC := eq_true lC
                replace lD := eq_true lD
                have zhe : wr.cell? ⟨qb, 0, none⟩ = some (.string uT) := (zx z8.out 0).trans rfl
                have zhf : wr.cell? ⟨qb, 1, none⟩ = some (.bool uD) := (zx z8.out 1).trans rfl
                have zhg : wr.cell? ⟨qb, 2, none⟩ = some (.int .i64 uU) := (zx z8.out 2).trans rfl
                have zhh : wr.cell? ⟨qb, 3, none⟩ = some (.slice Yj vU.length Yv) := (zx z8.out 3).trans rfl
                have zhi : wr.cell? ⟨qb, 4, none⟩ = some (.slice Yk vO.length Yy) := (zx z8.out 4).trans rfl
                have zhl : wr.cell? ⟨qb, 5, none⟩ = some (.slice Yw uy.length YZ) := (zx z8.out 5).trans rfl
                have zhm := zw z8.out 0
                have zhn := zw z8.out 1
                have zho := zw z8.out 2
                have zhp := zw z8.out 3
                have zhr := zw z8.out 4
                have zhs := zw z8.out 5
                have lF : 0 ≤ (jm : Int) := of_decide_eq_true (by first | (with_reducible assumption) | assumption)
                have lG : jm < (uy.length : Int) := of_decide_eq_true (by first | (with_reducible assumption) | assumption)
                obtain ⟨zaH, e274, U1, U2, U6⟩ := KM zXg.out jm lF lG
                cases e274
                replace U1 := (HB.out.cell (World.block_lt_of_cell? w _ U1)).trans U1
                replace U2 := (HB.out.cell (World.block_lt_of_cell? w _ U2)).trans U2
                replace U6 := (HB.out.cell (World.block_lt_of_cell? w _ U6)).trans U6
                replace lF := eq_true lF
                replace lG := eq_true lG
                go_wp2
                repeat (go_quiet (fail); try go_wp2)
                go_ret
                exact ⟨by first | rfl | (simp [yw, yZ] <;> rfl) | (simp [*, yw, yZ] <;> rfl), by repeat (first | (with_reducible first | exact HB.out | apply yS | apply yx | apply yD | refine qh ?_ mh.out | refine qh ?_ mo.out) | exact HB.out)⟩
               ·rw [if_neg Wz] at H
                have zq8 : (!((((qC zF jm).f0).toList) == (((qC uy jm).f0).toList)) || (!((((qC zF jm).f1).toList) == (((qC uy jm).f1).toList)) || (!(((qC zF jm).f2) == ((qC uy jm).f2))))) = false := by simpa using Wz
                clear Wz
                have H' := zk.mk H
                clear H
                have zaI := jC.out
                have zaL := jD.out
                have zVV : wr.cell? ⟨yI, 0, none⟩ = some (.string zN) := (zx zm.out 0).trans rfl
                have zVK : wr.cell? ⟨yI, 1, none⟩ = some (.bool zO) := (zx zm.out 1).trans rfl
                have zVY : wr.cell? ⟨yI, 2, none⟩ = some (.int .i64 zP) := (zx zm.out 2).trans rfl
                have zVW : wr.cell? ⟨yI, 3, none⟩ = some (.slice qJ zn.length qZ) := (zx zm.out 3).trans rfl
                have zVa : wr.cell? ⟨yI, 4, none⟩ = some (.slice qK zD.length qQ) := (zx zm.out 4).trans rfl
                have zVb : wr.cell? ⟨yI, 5, none⟩ = some (.slice qY zF.length qX) := (zx zm.out 5).trans rfl
                have zVc := zw zm.out 0
                have zVd := zw zm.out 1
                have zVe := zw zm.out 2
                have zVf := zw zm.out 3
                have zVg := zw zm.out 4
                have zVh := zw zm.out 5
                have lC : 0 ≤ (jm : Int) := of_decide_eq_true (by first | (with_reducible assumption) | assumption)
                have lD : jm < (zF.length : Int) := of_decide_eq_true (by first | (with_reducible assumption) | assumption)
                obtain ⟨zaG, e273, UR, UU, U0⟩ := KM ZC.out jm lC lD
                cases e273
                replace UR := (HB.out.cell (World.block_lt_of_cell? w _ UR)).trans UR
                replace UU := (HB.out.cell (World.block_lt_of_cell? w _ UU)).trans UU
                replace U0 := (HB.out.cell (World.block_lt_of_cell? w _ U0)).trans U0
                replace lC := eq_true lC
                replace lD := eq_true lD
                have zht : wr.cell? ⟨qb, 0, none⟩ = some (.string uT) := (zx z8.out 0).trans rfl
                have zhu : wr.cell? ⟨qb, 1, none⟩ = some (.bool uD) := (zx z8.out 1).trans rfl
                have zhA : wr.cell? ⟨qb, 2, none⟩ = some (.int .i64 uU) := (zx z8.out 2).trans rfl
                have zhB : wr.cell? ⟨qb, 3, none⟩ = some (.slice Yj vU.length Yv) := (zx z8.out 3).trans rfl
                have zhC : wr.cell? ⟨qb, 4, none⟩ = some (.slice Yk vO.length Yy) := (zx z8.out 4).trans rfl
                have zhD : wr.cell? ⟨qb, 5, none⟩ = some (.slice Yw uy.length YZ) := (zx z8.out 5).trans rfl
                have zhE := zw z8.out 0
                have zhF := zw z8.out 1
                have zhG := zw z8.out 2
                have zhH := zw z8.out 3
                have zhI := zw z8.out 4
                have zhL := zw z8.out 5
                have lF : 0 ≤ (jm : Int) := of_decide_eq_true (by first | (with_reducible assumption) | assumption)
                have lG : jm < (uy.length : Int) := of_decide_eq_true (by first | (with_reducible assumption) | assumption)
                obtain ⟨zaH, e274, U1, U2, U6⟩ := KM zXg.out jm lF lG
                cases e274
                replace U1 := (HB.out.cell (World.block_lt_of_cell? w _ U1)).trans U1
                replace U2 := (HB.out.cell (World.block_lt_of_cell? w _ U2)).trans U2
                replace U6 := (HB.out.cell (World.block_lt_of_cell? w _ U6)).trans U6
                replace lF := eq_true lF
                replace lG := eq_true lG
                go_wp2
                repeat (go_quiet (fail); try go_wp2)
                go_roundg k4
                case measure => have := HJ2.out; have := K9.out; have := Wt.out; have := HK4.out; omega
                case rel => exact ⟨(wrap64 (jm + 1)), (by first | rfl | (simp; done) | (simp [*]; done)), H', ⟨by have := HJ2.out; have := K9.out; have := Wt.out; have := HK4.out; omega⟩, ⟨qV zm.out⟩, ⟨qV z8.out⟩, ⟨yQ HB.out⟩⟩
              ·rw [if_neg iD] at H
               exact absurd H (by simp)
             ·rw [if_neg c55] at H
              exact absurd H (by simp)
            ·rw [if_neg c54] at H
             have zaF : decide (jm < (zF.length : Int)) = false := decide_eq_false c54
             clear c54
             obtain rfl := Option.some.inj H
             have zlg := jC.out
             have zlh := jD.out
             have zhM : wr.cell? ⟨yI, 0, none⟩ = some (.string zN) := (zx zm.out 0).trans rfl
             have zhN : wr.cell? ⟨yI, 1, none⟩ = some (.bool zO) := (zx zm.out 1).trans rfl
             have zhO : wr.cell? ⟨yI, 2, none⟩ = some (.int .i64 zP) := (zx zm.out 2).trans rfl
             have zhP : wr.cell? ⟨yI, 3, none⟩ = some (.slice qJ zn.length qZ) := (zx zm.out 3).trans rfl
             have zhR : wr.cell? ⟨yI, 4, none⟩ = some (.slice qK zD.length qQ) := (zx zm.out 4).trans rfl
             have zhS : wr.cell? ⟨yI, 5, none⟩ = some (.slice qY zF.length qX) := (zx zm.out 5).trans rfl
             have zhT := zw zm.out 0
             have zhU := zw zm.out 1
             have zh0 := zw zm.out 2
             have zh1 := zw zm.out 3
             have zh2 := zw zm.out 4
             have zh3 := zw zm.out 5
             go_wp2
             repeat (go_quiet (fail); try go_wp2)
             go_ret
             exact ⟨by first | rfl | (simp [yw, yZ] <;> rfl) | (simp [*, yw, yZ] <;> rfl), by repeat (first | (with_reducible first | exact HB.out | apply yS | apply yx | apply yD | refine qh ?_ mh.out | refine qh ?_ mo.out) | exact HB.out)⟩
end Go.Proofs.YtaifemkokfoadaaGreatDoor.PX
