/-
  Texts that lean on one another, laid in one file. No condition.
-/
import Derived.Test.YtaifemkokfoadaaGreatDoorGSB1
import Derived.Test.YtaifemkokfoadaaGreatDoorGSB4
import Derived.Test.YtaifemkokfoadaaGreatDoorGSB5
import Derived.RangeFuncNested
import Derived.RangeFuncBound
import Derived.RangeFuncCalls
import Derived.RangeFuncLeaves
import Derived.Deep.QuietTactic
import Derived.BigQuiet
import Derived.Test.YtaifemkokfoadaaGreatDoorGSB2
import Derived.RangeFuncBox
import Derived.RangeFuncWrites
import Derived.RangeFuncOne
import Derived.RangeFuncFrom
import Derived.BigRegionIn
import Derived.Shelf.Abstract
import Derived.WalkKit
import Derived.OwnWalkIn
import Derived.TacticsInMore
import Derived.LoopNIn
import Derived.LoopIn
import Derived.Lib.Hide
import Derived.Lib.IndexLaws
import Derived.IntWalk
import Derived.WideLaws
import Derived.Test.YtaifemkokfoadaaGreatDoorGSB3
import Derived.Deep.Slices
import Derived.ChangeArms
import Derived.ChangeSlices
import Derived.SizedLaws
import Derived.WideShapes
import Derived.Lib.LaidU8
import Derived.Shelf.Vars

set_option linter.unusedVariables false
set_option linter.unusedSimpArgs false

namespace Go.Proofs.YtaifemkokfoadaaGreatDoor
open Go.RowKit
def wC {β : Type} (Bs : Nat) (J : β → World → Prop) : Prop := ∀ s W u, J s W → J s (W.setCell ⟨Bs, 0, none⟩ u)
theorem wC.and {β : Type} {Bs : Nat} {I I' : β → World → Prop} (h : wC Bs I) (h' : wC Bs I') : wC Bs (fun s W => I s W ∧ I' s W) := fun s W u hs => ⟨h s W u hs.1, h' s W u hs.2⟩
theorem XG {W : World} {Bs k : Nat} {o : Obj} (u : Value) (h : W.heap[k]? = some o) (hne : k ≠ Bs) : (W.setCell ⟨Bs, 0, none⟩ u).heap[k]? = some o := (Below.heap_setCell W ⟨Bs, 0, none⟩ u k hne).trans h
def zvL {α : Type} (F : Fence) (n : Nat) (P : Program) (g : Nat) (lb : Array Value) (encs : α → Array Value) (Bs : Nat) (Kp : World → World → Prop) (S Sp : List α → Prop) (N : Nat) (w : World) : Prop :=
 ∀ (l : Nat) (J Jx : List α → World → Prop) (W : World), Below w.heap.size w W → AbidesFrom W.heap.size J → AbidesFrom W.heap.size Jx → wC Bs J → wC Bs Jx →
  (∀ pre x W1, J pre W1 → pre.length < N → YieldAt F (n - 1) P l (encs x) W1 fun e W' =>
   (e = .returned (.bool true) ∧ J (pre ++ [x]) W' ∧ Kp W1 W') ∨ (e = .returned (.bool false) ∧ Jx (pre ++ [x]) W')) →
  J [] W →
  CallsIn F n P g (#[.func (.yield l) #[] #[]] ++ lb) W fun e W' => (∃ v, e = .returned v) ∧ ((∃ xs, S xs ∧ J xs W') ∨ (∃ pre, Sp pre ∧ Jx pre W'))
def zQP {α : Type} (B : Nat) (Kp : World → World → Prop) (I Ix : List α → World → Prop) (xs : List α) (W : World) : Exit → Act → World → Prop
 | .normal, _, W' => KeepsFrom B W W' ∧ Kp W W' ∧ I xs W'
 | .ret, _, W' => KeepsFrom B W W' ∧ Ix xs W'
 | _, _, _ => False
variable {F : Fence} {n : Nat} {P : Program}
theorem iF {α : Type} {g : Operand} {ps : Array Tmp} {assign body : Code} {Q : Exit → Act → World → Prop} {a : Act} {w : World}
  (hro : F.round = none) (h1 : 1 ≤ n) {gf : Nat} {lb : Array Value} (hg : a.eval g = .func (.func gf) #[] lb) (hFg : F.fn gf) (eg : ∀ args w, (callFunc gf args).run P w = .ok (.enter gf args) w)
  {encs : α → Array Value} {Bs : Nat} {Kp : World → World → Prop} {S Sp : List α → Prop} {N : Nat} (hseq : zvL F (n - 1) P gf lb encs Bs Kp S Sp N w) (hBs : Bs < w.heap.size)
  (hKt : ∀ {A B C : World}, Kp A B → Kp B C → Kp A C) (hKb : ∀ (W : World) (l : Nat) (o o' : Obj), w.heap.size ≤ l → W.heap[l]? = some o → o.isCells = false → o.isWalk = false → Kp W (W.putObj l o')) (hps : ∀ x, (encs x).size = ps.size)
  (I Ix : List α → World → Prop) (hI : OwnFrom w.heap.size I) (hIx : OwnFrom w.heap.size Ix) (hIb : wC Bs I) (zdK : wC Bs Ix) (h0 : I [] w)
  (Ax : α → Act → World → Prop) (hAx : ∀ x a', OwnFrom w.heap.size (fun (_ : Unit) W => Ax x a' W))
  (hassign : ∀ (l : Nat) (pre : List α) (x : α) (W : World) (K : Act → World → Prop), I pre W → (∀ a' W', KeepsFrom w.heap.size W W' → Kp W W' → I pre W' → Ax x a' W' → K a' W') →
   assign.wpIn (F.inRound l) (n - 1 - 1) P (Exit.then K (fun _ _ _ => False)) { tmps := (ps.zip (encs x)).foldl (fun t (p, v) => t.setIfInBounds p v) a.tmps, defers := [] } W)
  (hbody : ∀ (l : Nat) (pre : List α) (x : α) (a' : Act) (W : World), w.heap.size ≤ l → (∃ r, W.heap[l]? = some (.loop r)) → I pre W → Ax x a' W → pre.length < N → body.wpIn (F.inRound l) (n - 1 - 1) P (zQP w.heap.size Kp I Ix (pre ++ [x]) W) a' W)
  (hdone : ∀ (D : Nat) (xs : List α) (W : World), w.heap.size ≤ D → S xs → I xs W → W.heap[D]? = some (.deferred (some [])) → Q .normal { a with defers := { target := .collected D, args := #[] } :: a.defers } W)
  (hstop : ∀ (D : Nat) (pre : List α) (W : World), w.heap.size ≤ D → Sp pre → Ix pre W → W.heap[D]? = some (.deferred (some [])) → Code.ret.wpIn F n P Q { a with defers := { target := .collected D, args := #[] } :: a.defers } W) :
  (Code.rangeFunc g ps assign body).wpIn F n P Q a w := by
 refine wpIn_rangeFunc ?_
 intro fn hfn
 rw [hro]
 obtain ⟨rec, hrec⟩ : ∃ rec : LoopState → Option Code → Loop, rec = fun st pe => { state := st, pending := pe, fn, tmps := a.tmps, params := ps, assign, body, defers := w.heap.size } := ⟨_, rfl⟩
 obtain ⟨W1, hW1⟩ : ∃ W1, (w.alloc (.deferred (some []))).alloc (.loop (rec .ready none)) = W1 := ⟨_, rfl⟩
 have hL1 : W1.heap[w.heap.size + 1]? = some (.loop (rec .ready none)) := by
  rw [← hW1]; have := World.alloc_heap_new (w.alloc (.deferred (some []))) (.loop (rec .ready none)); rwa [World.size_alloc] at this
 have hK1 : W1.heap[w.heap.size]? = some (.deferred (some [])) := by
  rw [← hW1]; exact (Below.heap_alloc _ _ _ (by simp)).trans (World.alloc_heap_new w _)
 have hI1 : I [] W1 := by rw [← hW1]; exact hI.alloc _ (hI.alloc _ h0)
 have hb1 : Below w.heap.size w W1 := by
  rw [← hW1]; exact ((Below.refl _ w).alloc (Nat.le_refl _) _).alloc (by simp) _
 have hz1 : W1.heap.size = w.heap.size + 2 := by rw [← hW1]; simp
 refine ⟨w.heap.size + 1, [{ target := .collected w.heap.size, args := #[] }], W1, { target := .fn (.func gf) lb, args := #[.func (.yield (w.heap.size + 1)) #[] #[]] }, W1, gf,
  #[.func (.yield (w.heap.size + 1)) #[] #[]] ++ lb, W1, ?_, ?_, ?_, ?_, fun _ => h1, ?_⟩
 ·rw [← hW1, hrec]; exact run_enterLoop_outer _ _ _ _ _
 ·simp only [resolve, hg]
  simp [go_sem]
 ·intro f' hf'; simp [Target.leads] at hf'; subst hf'; exact hFg
 ·simp [invoke, go_sem, eg]
 ·have hnw : ∀ {A B : World} {row : Option Nat}, (∀ r, row = some r → W1.heap.size ≤ r ∧ ∃ o : Obj, A.heap[r]? = some o ∧ o.isWalk = true) → (∀ r, row = some r → w.heap.size ≤ r ∧ ∃ o : Obj, A.heap[r]? = some o ∧ o.isCells = false) :=
   fun hr r e => by obtain ⟨hB, o, ho, hw⟩ := hr r e; exact ⟨by omega, o, ho, Obj.not_cells_of_walk hw⟩
  refine (hseq (w.heap.size + 1)
   (fun pre W => I pre W ∧ W.heap[w.heap.size + 1]? = some (.loop (rec .ready none)) ∧ W.heap[w.heap.size]? = some (.deferred (some [])))
   (fun pre W => Ix pre W ∧ W.heap[w.heap.size + 1]? = some (.loop (rec .done (some .ret))) ∧ W.heap[w.heap.size]? = some (.deferred (some [])))
   W1 hb1
   (fun s A B row hs hg' hr => ⟨hI s A B row hs.1 hg' (hnw (B := B) hr), (grownBy_keeps hg' (fun r e => (hr r e).2) hs.2.1 rfl).trans hs.2.1, (grownBy_keeps hg' (fun r e => (hr r e).2) hs.2.2 rfl).trans hs.2.2⟩)
   (fun s A B row hs hg' hr => ⟨hIx s A B row hs.1 hg' (hnw (B := B) hr), (grownBy_keeps hg' (fun r e => (hr r e).2) hs.2.1 rfl).trans hs.2.1, (grownBy_keeps hg' (fun r e => (hr r e).2) hs.2.2 rfl).trans hs.2.2⟩)
   (fun s A u hs => ⟨hIb s A u hs.1, XG u hs.2.1 (by omega), XG u hs.2.2 (by omega)⟩)
   (fun s A u hs => ⟨zdK s A u hs.1, XG u hs.2.1 (by omega), XG u hs.2.2 (by omega)⟩)
   ?_ ⟨hI1, hL1, hK1⟩).mono ?_
  ·rintro pre x W ⟨hi, hl, hk⟩ hlen
   have hlt : w.heap.size + 1 < W.heap.size := (Array.getElem?_eq_some_iff.1 hl).1
   have hy := run_yield (P := P) (args := encs x) hl (by rw [hrec]; exact hps x)
   rw [hrec] at hy
   refine ⟨fn, _, assign, body, hy, roundIn_of_wpIn hfn (hassign _ pre x W _ hi ?_)⟩
   clear hy
   intro a' Wa hkfa hkpa hia hax
   replace hl := hkfa.same _ _ (by omega) hl rfl
   replace hk := hkfa.same _ _ (Nat.le_refl _) hk rfl
   replace hlt : w.heap.size + 1 < Wa.heap.size := (Array.getElem?_eq_some_iff.1 hl).1
   refine ⟨_, run_beginRound hl (by rw [hrec]), ?_⟩
   have hl2 : (Wa.putObj (w.heap.size + 1) (.loop { rec .ready none with state := .busy })).heap[w.heap.size + 1]? = some (.loop { rec .ready none with state := .busy }) := World.putObj_heap_same hlt
   have hk2 : (Wa.putObj (w.heap.size + 1) (.loop { rec .ready none with state := .busy })).heap[w.heap.size]? = some (.deferred (some [])) := (World.putObj_heap_other (by omega)).trans hk
   have hw2 : Kp Wa (Wa.putObj (w.heap.size + 1) (.loop { rec .ready none with state := .busy })) := hKb _ _ _ _ (by omega) hl rfl rfl
   refine wpIn_mono (hbody _ pre x a' _ (by omega) ⟨_, hl2⟩ (hI.putObj _ hia (by omega) hl rfl) ((hAx x a').putObj (s := ()) _ hax (by omega) hl rfl) hlen) ?_
   have fin : ∀ (jump : Option Code) (W3 : World), KeepsFrom w.heap.size (Wa.putObj (w.heap.size + 1) (.loop { rec .ready none with state := .busy })) W3 →
     (Instr.endRound (w.heap.size + 1) jump).run P W3 = .ok (.bool jump.isNone) (W3.putObj (w.heap.size + 1) (.loop (rec (if jump.isNone then .ready else .done) jump))) ∧
     W3.heap[w.heap.size + 1]? = some (.loop { rec .ready none with state := .busy }) ∧
     (W3.putObj (w.heap.size + 1) (.loop (rec (if jump.isNone then .ready else .done) jump))).heap[w.heap.size + 1]? = some (.loop (rec (if jump.isNone then .ready else .done) jump)) ∧
     (W3.putObj (w.heap.size + 1) (.loop (rec (if jump.isNone then .ready else .done) jump))).heap[w.heap.size]? = some (.deferred (some [])) := fun jump W3 hk3 => by
    have hl3 := hk3.same _ _ (by omega) hl2 rfl
    have := run_endRound (P := P) jump hl3
    rw [hrec] at this ⊢
    exact ⟨this, by rw [hrec] at hl3; exact hl3, World.putObj_heap_same (Array.getElem?_eq_some_iff.1 hl3).1, (World.putObj_heap_other (by omega)).trans (hk3.same _ _ (Nat.le_refl _) hk2 rfl)⟩
   rintro e a3 W3 hp
   cases e with
   | normal =>
    obtain ⟨hk3, hkp3, hi3⟩ := hp
    obtain ⟨hr, hl3, hl4, hk4⟩ := fin none W3 hk3
    exact ⟨_, _, hr, .inl ⟨rfl, ⟨hI.putObj _ hi3 (by omega) hl3 rfl, hl4, hk4⟩, hKt hkpa (hKt (hKt hw2 hkp3) (hKb _ _ _ _ (by omega) hl3 rfl rfl))⟩⟩
   | ret =>
    obtain ⟨hk3, hi3⟩ := hp
    obtain ⟨hr, hl3, hl4, hk4⟩ := fin (some .ret) W3 hk3
    exact ⟨_, _, hr, .inr ⟨rfl, hIx.putObj _ hi3 (by omega) hl3 rfl, hl4, hk4⟩⟩
   | exit id => exact hp.elim
   | goto t => exact hp.elim
   | panic ch => exact hp.elim
   | outgrown => exact hp.elim
  ·rintro e W2 ⟨⟨v, rfl⟩, (⟨xs, hS, hi, hl, hk⟩ | ⟨pre, hSp, hi, hl, hk⟩)⟩
   ·exact ⟨none, _, by have := run_endLoop (P := P) hl (by rw [hrec]; simp); rw [hrec] at this; exact this, hdone _ xs _ (Nat.le_refl _) hS (hI.putObj _ hi (by omega) hl rfl) ((World.putObj_heap_other (by omega)).trans hk)⟩
   ·exact ⟨some .ret, _, by have := run_endLoop (P := P) hl (by rw [hrec]; simp); rw [hrec] at this; exact this, hstop _ pre _ (Nat.le_refl _) hSp (hIx.putObj _ hi (by omega) hl rfl) ((World.putObj_heap_other (by omega)).trans hk)⟩
end Go.Proofs.YtaifemkokfoadaaGreatDoor
namespace Go.Proofs.YtaifemkokfoadaaGreatDoor
open Go.RowKit Go.Proofs.zx.zK Go.Proofs.zx.zU Go.Proofs.zx.zN Go.Proofs.YtaifemkokfoadaaGreatDoor.PX
set_option linter.unusedSimpArgs false
set_option linter.unusedVariables false
def uP (base B : Nat) (w : World) (f : vZ) : Prop := ∃ v3 v4 v5, w.heap[B]? = some (.cells #[.string f.a, .bool f.b, .int .i64 f.c, v3, v4, v5] 26 (0, 0)) ∧
 Kd.R uy 31 w base (fun _ => True) v3 f.l3 ∧ Kd.R uU 86 w base (fun _ => True) v4 f.l4 ∧ Kd.R jy 76 w base (fun _ => True) v5 f.l5
def vo (base B : Nat) (w w' : World) : Prop := Below 0 w w' ∧ (∀ (k : Nat) (o : Obj), w.heap[k]? = some o → o.isCells = false → w'.heap[k]? = some o) ∧ ∀ k : Nat, k < base → k ≠ B → w'.heap[k]? = w.heap[k]?
theorem vo.refl (base B : Nat) (w : World) : vo base B w w := ⟨Below.refl _ _, fun _ _ h _ => h, fun _ _ _ => rfl⟩
theorem vo.trans {base B : Nat} {a b c : World} (h : vo base B a b) (k : vo base B b c) : vo base B a c :=
 ⟨h.1.trans k.1, fun i o hi ho => k.2.1 i o (h.2.1 i o hi ho) ho, fun i hi hb => (k.2.2 i hi hb).trans (h.2.2 i hi hb)⟩
theorem vo.below {base B : Nat} {a b : World} (h : Below a.heap.size a b) (hb : base ≤ a.heap.size) : vo base B a b :=
 ⟨h.mono (Nat.zero_le _), fun k o hk _ => (h.block k (Array.getElem?_eq_some_iff.1 hk).1).trans hk, fun k hk _ => h.block k (by omega)⟩
theorem vo.set {base B : Nat} {w : World} {cs : Array Value} {t : TypeId} {z : Nat × Nat} (h : w.heap[B]? = some (.cells cs t z)) (j : Nat) (u : Value) : vo base B w (w.setCell ⟨B, j, none⟩ u) := by
 refine ⟨(Below.refl _ _).setCell (p := ⟨B, j, none⟩) (Nat.zero_le _) u, fun k o hk ho => ?_, fun k _ hb => Below.heap_setCell w ⟨B, j, none⟩ u k hb⟩
 by_cases e : k = B
 ·subst e; rw [h] at hk; cases hk; cases ho
 ·rw [Below.heap_setCell w ⟨B, j, none⟩ u k e]; exact hk
theorem vo.grown {base B : Nat} {a b : World} {v : Value} {e : TypeId} {size n : Nat} {xs : List Value} (ho : a.ownsRow base e size v n xs) (h : a.grownBy b v.ownBlock) (hb : base ≤ a.heap.size) : vo base B a b := by
 refine ⟨⟨h.os, h.tape, h.output, h.size, fun k hk => absurd hk (Nat.not_lt_zero _)⟩, fun k o hk hc => ?_, fun k hk _ => h.block k (by omega) (fun e => ?_)⟩
 ·have hlt := (Array.getElem?_eq_some_iff.1 hk).1
  rw [h.block k hlt (fun e => ?_)]
  ·exact hk
  ·obtain ⟨cells, hcc⟩ := pV ho k e.symm
   rw [hcc] at hk; cases hk; cases hc
 ·have := QI ho k e.symm
  omega
theorem uP.below {base B : Nat} {w w' : World} {f : vZ} (h : uP base B w f) (hb : Below w.heap.size w w') : uP base B w' f := by
 obtain ⟨v3, v4, v5, h0, h3, h4, h5⟩ := h
 exact ⟨v3, v4, v5, zf h0 hb, Kd.zR h3 hb, Kd.zR h4 hb, Kd.zR h5 hb⟩
section
variable {base B : Nat} {w : World} {f : vZ} {v3 v4 v5 : Value}
theorem uP.put (h0 : w.heap[B]? = some (.cells #[.string f.a, .bool f.b, .int .i64 f.c, v3, v4, v5] 26 (0, 0))) (h3 : Kd.R uy 31 w base (fun _ => True) v3 f.l3) (h4 : Kd.R uU 86 w base (fun _ => True) v4 f.l4) (h5 : Kd.R jy 76 w base (fun _ => True) v5 f.l5) (j : Nat) (u : Value) :
  Kd.R uy 31 (w.setCell ⟨B, j, none⟩ u) base (fun _ => True) v3 f.l3 ∧ Kd.R uU 86 (w.setCell ⟨B, j, none⟩ u) base (fun _ => True) v4 f.l4 ∧ Kd.R jy 76 (w.setCell ⟨B, j, none⟩ u) base (fun _ => True) v5 f.l5 :=
 ⟨Kd.jg h3 h0 (by decide) j u, Kd.jg h4 h0 (by decide) j u, Kd.jg h5 h0 (by decide) j u⟩
end
theorem zvM {s : ByteArray} {l : List UInt8} : (s.toList == l) = decide (s = bar l) := by
 by_cases h : s = bar l
 ·subst h; rw [decide_eq_true rfl, ByteArray.toList_eq, Kg]; exact beq_self_eq_true l
 ·rw [decide_eq_false h]
  refine beq_eq_false_iff_ne.2 fun e => h ?_
  rw [ByteArray.toList_eq] at e
  rw [← e]; rfl
set_option maxRecDepth 100000 in
set_option maxHeartbeats 4000000 in
theorem zvN (B g n base : Nat) (w0 w1 : ByteArray) (f : vZ) (w : World) (c0 : w.cell? ⟨g, 0, none⟩ = some (.string w0)) (c1 : w.cell? ⟨g, 1, none⟩ = some (.string w1)) (hn : 2 ≤ n) (hn2 : n ≤ 1000000001) (Yo : (w0.toList == [102, 111, 110, 116]) = false) (Zc : (w0.toList == [115, 112, 97, 99, 101]) = false) (K8 : (w0.toList == [103]) = false) (K9 : (w0.toList == [108]) = false) (Wz : (w0.toList == [107]) = false)  :
  Calls Tryz.prog 79 #[.pointer (some ⟨B, 0, none⟩), .slice (some ⟨g, 0, none⟩) n n] w fun e w' => e = .returned (.bool false) ∧ w = w' := by
 have i0 : (0 : Int) < (n : Int) := by omega
 go_enter Tryz.func79, Tryz.ntmps79
 go_wp2_with fail
 go_ret
 exact ⟨rfl, rfl⟩
set_option maxRecDepth 100000 in
set_option maxHeartbeats 4000000 in
theorem zzI (B g n base : Nat) (w0 w1 : ByteArray) (f : vZ) (w : World) (c0 : w.cell? ⟨g, 0, none⟩ = some (.string w0)) (c1 : w.cell? ⟨g, 1, none⟩ = some (.string w1)) (hn : 2 ≤ n) (hn2 : n ≤ 1000000001) (Yo : (w0.toList == [102, 111, 110, 116]) = true) (Zc : (w0.toList == [115, 112, 97, 99, 101]) = false) (K8 : (w0.toList == [103]) = false) (K9 : (w0.toList == [108]) = false) (Wz : (w0.toList == [107]) = false) (d : decide ((n : Int) ≤ 3) = false) :
  Calls Tryz.prog 79 #[.pointer (some ⟨B, 0, none⟩), .slice (some ⟨g, 0, none⟩) n n] w fun e w' => e = .returned (.bool false) ∧ w = w' := by
 have i0 : (0 : Int) < (n : Int) := by omega
 go_enter Tryz.func79, Tryz.ntmps79
 go_wp2_with fail
 go_ret
 exact ⟨rfl, rfl⟩
set_option maxRecDepth 100000 in
set_option maxHeartbeats 4000000 in
theorem zyb (B g n base : Nat) (w0 w1 : ByteArray) (f : vZ) (w : World) (c0 : w.cell? ⟨g, 0, none⟩ = some (.string w0)) (c1 : w.cell? ⟨g, 1, none⟩ = some (.string w1)) (hn : 2 ≤ n) (hn2 : n ≤ 1000000001) (Yo : (w0.toList == [102, 111, 110, 116]) = false) (Zc : (w0.toList == [115, 112, 97, 99, 101]) = false) (K8 : (w0.toList == [103]) = true) (K9 : (w0.toList == [108]) = false) (Wz : (w0.toList == [107]) = false) (d : ((n : Int) == 3) = false) (d' : decide ((n : Int) = 3) = false) :
  Calls Tryz.prog 79 #[.pointer (some ⟨B, 0, none⟩), .slice (some ⟨g, 0, none⟩) n n] w fun e w' => e = .returned (.bool false) ∧ w = w' := by
 have i0 : (0 : Int) < (n : Int) := by omega
 go_enter Tryz.func79, Tryz.ntmps79
 go_wp2_with fail
 go_ret
 exact ⟨rfl, rfl⟩
set_option maxRecDepth 100000 in
set_option maxHeartbeats 4000000 in
theorem zyc (B g n base : Nat) (w0 w1 : ByteArray) (f : vZ) (w : World) (c0 : w.cell? ⟨g, 0, none⟩ = some (.string w0)) (c1 : w.cell? ⟨g, 1, none⟩ = some (.string w1)) (hn : 2 ≤ n) (hn2 : n ≤ 1000000001) (Yo : (w0.toList == [102, 111, 110, 116]) = false) (Zc : (w0.toList == [115, 112, 97, 99, 101]) = false) (K8 : (w0.toList == [103]) = false) (K9 : (w0.toList == [108]) = true) (Wz : (w0.toList == [107]) = false) (d : ((n : Int) == 4) = false) (d' : decide ((n : Int) = 4) = false) :
  Calls Tryz.prog 79 #[.pointer (some ⟨B, 0, none⟩), .slice (some ⟨g, 0, none⟩) n n] w fun e w' => e = .returned (.bool false) ∧ w = w' := by
 have i0 : (0 : Int) < (n : Int) := by omega
 go_enter Tryz.func79, Tryz.ntmps79
 go_wp2_with fail
 go_ret
 exact ⟨rfl, rfl⟩
set_option maxRecDepth 100000 in
set_option maxHeartbeats 4000000 in
theorem zyd (B g n base : Nat) (w0 w1 : ByteArray) (f : vZ) (w : World) (c0 : w.cell? ⟨g, 0, none⟩ = some (.string w0)) (c1 : w.cell? ⟨g, 1, none⟩ = some (.string w1)) (hn : 2 ≤ n) (hn2 : n ≤ 1000000001) (Yo : (w0.toList == [102, 111, 110, 116]) = false) (Zc : (w0.toList == [115, 112, 97, 99, 101]) = false) (K8 : (w0.toList == [103]) = false) (K9 : (w0.toList == [108]) = false) (Wz : (w0.toList == [107]) = true) (d : ((n : Int) == 4) = false) (d' : decide ((n : Int) = 4) = false) :
  Calls Tryz.prog 79 #[.pointer (some ⟨B, 0, none⟩), .slice (some ⟨g, 0, none⟩) n n] w fun e w' => e = .returned (.bool false) ∧ w = w' := by
 have i0 : (0 : Int) < (n : Int) := by omega
 go_enter Tryz.func79, Tryz.ntmps79
 go_wp2_with fail
 go_ret
 exact ⟨rfl, rfl⟩
set_option maxRecDepth 100000 in
set_option maxHeartbeats 4000000 in
theorem zvO (B g n base : Nat) (w0 w1 : ByteArray) (f : vZ) (w : World) (c0 : w.cell? ⟨g, 0, none⟩ = some (.string w0)) (c1 : w.cell? ⟨g, 1, none⟩ = some (.string w1)) (hn : 2 ≤ n) (hn2 : n ≤ 1000000001) (bb : Bool) (Yo : (w0.toList == [102, 111, 110, 116]) = true) (Zc : (w0.toList == [115, 112, 97, 99, 101]) = false) (K8 : (w0.toList == [103]) = false) (K9 : (w0.toList == [108]) = false) (Wz : (w0.toList == [107]) = false) (d : decide ((n : Int) ≤ 3) = true) (d3 : ((n : Int) == 3) = bb) (hF : uP base B w f) (hb : base ≤ w.heap.size) (hBb : B < base) :
  Calls Tryz.prog 79 #[.pointer (some ⟨B, 0, none⟩), .slice (some ⟨g, 0, none⟩) n n] w fun e w' => e = .returned (.bool true) ∧ uP base B w' { f with a := w1, b := bb } ∧ vo base B w w' := by
 obtain ⟨v3, v4, v5, h0, h3, h4, h5⟩ := hF
 have i0 : (0 : Int) < (n : Int) := by omega
 have i1 : (1 : Int) < (n : Int) := by omega
 have k0 : w.cell? ⟨B, 0, none⟩ = some (.string f.a) := (zk h0 0).trans rfl
 have z0 := zw h0 0
 have k1 : w.cell? ⟨B, 1, none⟩ = some (.bool f.b) := (zk h0 1).trans rfl
 have z1 := zw h0 1
 have Hh0 := zy.mk h0
 have Hh3 := zy.mk h3
 have Hh4 := zy.mk h4
 have Hh5 := zy.mk h5
 clear h0 h3 h4 h5
 go_enter Tryz.func79, Tryz.ntmps79
 go_wp2_with fail
 go_ret
 have g0 := zD (cs' := #[.string w1, .bool f.b, .int .i64 f.c, v3, v4, v5]) Hh0.out 0 (.string w1) rfl
 obtain ⟨q3, q4, q5⟩ := uP.put Hh0.out Hh3.out Hh4.out Hh5.out 0 (.string w1)
 obtain ⟨r3, r4, r5⟩ := uP.put (f := { f with a := w1 }) g0 q3 q4 q5 1 (.bool bb)
 exact ⟨rfl, ⟨v3, v4, v5, zD (cs' := #[.string w1, .bool bb, .int .i64 f.c, v3, v4, v5]) g0 1 (.bool bb) rfl, r3, r4, r5⟩, (vo.set Hh0.out 0 _).trans (vo.set g0 1 _)⟩
set_option maxRecDepth 100000 in
set_option maxHeartbeats 4000000 in
theorem zju (B g n base : Nat) (w0 w1 : ByteArray) (f : vZ) (w : World) (c0 : w.cell? ⟨g, 0, none⟩ = some (.string w0)) (c1 : w.cell? ⟨g, 1, none⟩ = some (.string w1)) (hn : 2 ≤ n) (hn2 : n ≤ 1000000001) (Yo : (w0.toList == [102, 111, 110, 116]) = false) (Zc : (w0.toList == [115, 112, 97, 99, 101]) = true) (K8 : (w0.toList == [103]) = false) (K9 : (w0.toList == [108]) = false) (Wz : (w0.toList == [107]) = false) (hG : GW w) (hs1 : w1.size ≤ 140737488355328) (hF : uP base B w f) (hb : base ≤ w.heap.size) (hBb : B < base) :
  Calls Tryz.prog 79 #[.pointer (some ⟨B, 0, none⟩), .slice (some ⟨g, 0, none⟩) n n] w fun e w' => e = .returned (.bool (kV w1).2) ∧ uP base B w' { f with c := (kV w1).1 } ∧ vo base B w w' := by
 obtain ⟨v3, v4, v5, h0, h3, h4, h5⟩ := hF
 have i0 : (0 : Int) < (n : Int) := by omega
 have i1 : (1 : Int) < (n : Int) := by omega
 have Yt := V3 w1 w hs1 hG
 generalize kV w1 = nv at Yt ⊢
 obtain ⟨x, y⟩ := nv
 have Hh0 := zy.mk h0
 have Hh3 := zy.mk h3
 have Hh4 := zy.mk h4
 have Hh5 := zy.mk h5
 clear h0 h3 h4 h5
 go_enter Tryz.func79, Tryz.ntmps79
 go_wp2_with (go_at_call 36; refine Yt.mono ?_; rintro e w2 ⟨rfl, hb2⟩; have g0 := zf Hh0.out hb2; have k2 : w2.cell? ⟨B, 2, none⟩ = some (.int .i64 f.c) := (zk g0 2).trans rfl; have z2 := zw g0 2; have Hg0 := zy.mk g0; have Hb2 := zy.mk hb2; clear g0 hb2 Yt)
 go_ret
 obtain ⟨r3, r4, r5⟩ := uP.put Hg0.out (Kd.zR Hh3.out Hb2.out) (Kd.zR Hh4.out Hb2.out) (Kd.zR Hh5.out Hb2.out) 2 (.int .i64 x)
 exact ⟨rfl, ⟨v3, v4, v5, zD (cs' := #[.string f.a, .bool f.b, .int .i64 x, v3, v4, v5]) Hg0.out 2 (.int .i64 x) rfl, r3, r4, r5⟩, (vo.below Hb2.out hb).trans (vo.set Hg0.out 2 _)⟩
def line.T11 : Bool × List (List Nat × List Nat) := (true, [([], []), ([], []), ([1], [1]), ([2], [2]), ([3], [3]), ([], []), ([5], [5]), ([4, 6], [4, 6]), ([0, 0, 1, 2, 3, 4, 5, 6, 7], [0]), ([8, 0, 1, 2, 3, 4, 5, 6, 7], [8]), ([9, 7, 7, 0, 1, 2, 3, 4, 5, 6, 7], [7, 9])])
def line.B11 : List Nat := [0, 0, 2, 6, 14, 0, 32, 126, 255, 511, 1023]
theorem line.zWd : vB .any (opsOf Tryz.f79 11) = line.T11 := by kernel_rfl
theorem line.zVx : vU line.T11.2 line.B11 = true := by kernel_rfl
def line.WJ : Bool × List (List Nat × List Nat) := (true, [([], []), ([], []), ([1], [1]), ([2], [2]), ([3], [3]), ([], []), ([5], [5]), ([6], [6]), ([], []), ([8], [8]), ([9], [9]), ([], []), ([11], [11]), ([12], [12]), ([7, 10, 13], [7, 10, 13]), ([14], [14]), ([4, 15], [4, 15]), ([0, 0, 1, 2, 3, 4, 5, 6, 7, 8, 9, 10, 11, 12, 13, 14, 15, 16], [0]), ([17, 0, 1, 2, 3, 4, 5, 6, 7, 8, 9, 10, 11, 12, 13, 14, 15, 16], [17]), ([18, 16, 16, 0, 1, 2, 3, 4, 5, 6, 7, 8, 9, 10, 11, 12, 13, 14, 15, 16], [16, 18])])
def line.lS : List Nat := [0, 0, 2, 6, 14, 0, 32, 96, 0, 256, 768, 0, 2048, 6144, 16352, 32736, 65534, 131071, 262143, 524287]
theorem line.YJ : vB .any (opsOf Tryz.f79 13) = line.WJ := by kernel_rfl
theorem line.pR : vU line.WJ.2 line.lS = true := by kernel_rfl
def line.T17 : Bool × List (List Nat × List Nat) := (true, [([], []), ([], []), ([1], [1]), ([2], [2]), ([3], [3]), ([], []), ([5], [5]), ([4, 6], [4, 6]), ([0, 0, 1, 2, 3, 4, 5, 6, 7], [0]), ([8, 0, 1, 2, 3, 4, 5, 6, 7], [8]), ([9, 7, 7, 0, 1, 2, 3, 4, 5, 6, 7], [7, 9])])
def line.B17 : List Nat := [0, 0, 2, 6, 14, 0, 32, 126, 255, 511, 1023]
theorem line.zWe : vB .any (opsOf Tryz.f79 17) = line.T17 := by kernel_rfl
theorem line.zVj : vU line.T17.2 line.B17 = true := by kernel_rfl
set_option maxRecDepth 100000 in
set_option maxHeartbeats 8000000 in
theorem zVv (B g base : Nat) (w0 w1 w2 w3 : ByteArray) (f : vZ) (w : World) (cw : Array Value) (hW : w.heap[g]? = some (.cells cw 9 (0, 0))) (d0 : cw[0]? = some (.string w0)) (d1 : cw[1]? = some (.string w1)) (d2 : cw[2]? = some (.string w2)) (d3 : cw[3]? = some (.string w3)) (Yo : (w0.toList == [102, 111, 110, 116]) = false) (Zc : (w0.toList == [115, 112, 97, 99, 101]) = false) (K8 : (w0.toList == [103]) = false) (K9 : (w0.toList == [108]) = true) (Wz : (w0.toList == [107]) = false) (hl : f.l4.length ≤ 1000) (hF : uP base B w f) (hb : base ≤ w.heap.size) (hBb : B < base) :
  Calls Tryz.prog 79 #[.pointer (some ⟨B, 0, none⟩), .slice (some ⟨g, 0, none⟩) 4 4] w fun e w' => e = .returned (.bool true) ∧ uP base B w' { f with l4 := f.l4 ++ [⟨w1, w2, w3⟩] } ∧ vo base B w w' := by
 obtain ⟨v3, v4, v5, h0, h3, h4, h5⟩ := hF
 have s0 : w.cell? ⟨B, 4, none⟩ = some v4 := (zk h0 4).trans rfl
 have c0 := (zk hW 0).trans d0
 have s1 := (zk hW 1).trans d1
 have s2 := (zk hW 2).trans d2
 have s3 := (zk hW 3).trans d3
 have HD1 := zy.mk d1
 have HD2 := zy.mk d2
 have HD3 := zy.mk d3
 have HW := zy.mk hW
 have HR3 := zy.mk h3
 have HR4 := zy.mk h4
 have U9 := zy.mk h5
 have kI := zy.mk h0
 have HLK := zy.mk (vo.refl base B w)
 have hb4 := hb
 clear h0 h3 h4 h5 hW d0 d1 d2 d3
 go_enter Tryz.func79, Tryz.ntmps79
 go_wp2_with fail
 clear c0 Yo Zc K8 K9 Wz
 obtain ⟨w4, hw4⟩ : ∃ w4, w4 = w := ⟨w, rfl⟩
 rw [← hw4] at s0 s1 s2 s3 HR3 HR4 U9 kI hb4 HW ⊢
 have HLK : zy (vo base B w w4) := ⟨by rw [hw4]; exact HLK.out⟩
 clear hw4
 have HS := zy.mk (fun (W : World) (h : Below w4.heap.size w4 W) => (show W.cell? ⟨B, 4, none⟩ = some (v4) ∧ W.cell? ⟨g, 1, none⟩ = some (.string w1) ∧ W.cell? ⟨g, 2, none⟩ = some (.string w2) ∧ W.cell? ⟨g, 3, none⟩ = some (.string w3) from ⟨(h.cell (World.block_lt_of_cell? w4 _ s0)).trans s0, (h.cell (World.block_lt_of_cell? w4 _ s1)).trans s1, (h.cell (World.block_lt_of_cell? w4 _ s2)).trans s2, (h.cell (World.block_lt_of_cell? w4 _ s3)).trans s3⟩))
 clear s0 s1 s2 s3
 refine RW.rSD (n := 20) [19] HS line.YJ line.pR (by kernel_rfl) rfl rfl (fun w5 H0 T U h => ?_)
 refine RW.rP 0 (some 87) T ?_; refine RW.rP 1 (some 88) T ?_; refine RW.rP 2 (some 89) T ?_; refine RW.rP 3 (some 90) T ?_; refine RW.rT 4 (some 91) T U h ?_
 refine RW.rP 5 (some 92) T ?_; refine RW.rP 6 (some 93) T ?_; refine RW.rT 7 (some 94) T U h ?_; refine RW.rP 8 (some 95) T ?_; refine RW.rP 9 (some 96) T ?_
 refine RW.rT 10 (some 97) T U h ?_; refine RW.rP 11 (some 98) T ?_; refine RW.rP 12 (some 99) T ?_; refine RW.rT 13 (some 100) T U h ?_; refine RW.rP 14 (some 101) T ?_
 have R3 := Kd.zR HR3.out H0.out
 have R4 := Kd.zR HR4.out H0.out
 have R5 := Kd.zR U9.out H0.out
 have B5 := zf kI.out H0.out
 have iW := HLK.out.trans (vo.below (B := B) H0.out hb4)
 have hb5 := Nat.le_trans hb4 H0.out.size
 have W5 := zf HW.out H0.out
 clear h
 refine XI (i := 15) (N := some 102) #[true, true, true, true, true, true, true, true, true, true, true, true, true, true, true, true, false, false, false, false] rfl rfl (vG T.out (by kernel_rfl)) (by decide) (fun K hK => ?_)
 refine Jd (w1 := ?_) (v := ?_) (by rfl) rfl ?_ ?_
 rotate_left 2
 ·have h := HS.out _ H0.out
  go_simp
  constructor
  ·rfl
  ·rfl
 refine hK.out _ _ (HS.out _ (H0.out.alloc H0.out.size _)) (fun h => ?_)
 clear hK K h
 refine wF (a' := ?_) ?_ ?_
 rotate_left
 ·show Act.put _ (some 102) _ = _
  simp only [Act.put, List.setIfInBounds_toArray, List.set_cons_zero, List.set_cons_succ]
  rfl
 refine XI (i := 16) (N := some 103) #[true, true, true, true, true, true, true, true, true, true, true, true, true, true, true, true, true, false, false, false] rfl rfl (vG T.out (by kernel_rfl)) (by decide) (fun K hK => ?_)
 refine Kd.vD uU (w0 := w5) base (by rfl) (.tmp 91) (.tmp 102) 23 86 (.agg #[.string ⟨#[]⟩, .string ⟨#[]⟩, .string ⟨#[]⟩]) 48 rfl Tryz.underlying23 zvx rfl (by decide) (by omega) v4 f.l4 (⟨w1, w2, w3⟩ : qh) [.string w1, .string w2, .string w3] (fun _ => True) (fun _ => False) rfl rfl ?aP (fun _ hk => hk.elim) ?aF ?aO ?aB ?aS ?aL ?_
 (case aP => exact Jm _ _ _ (⟨w1, w2, w3⟩ : qh))
 (case aF => exact fun _ _ => trivial)
 (case aO => exact R4)
 (case aB => exact Below.refl base w5)
 (case aS => exact hb5)
 (case aL => omega)
 intro v1 w6 ho hbw hg hat
 have B6 := qx B5 hg (Kd.uX R4 B5 (by decide))
 obtain ⟨inn, hown⟩ := Kd.JO R4
 have ig := iW.trans (vo.grown (B := B) hown hg hb5)
 have W6 := qx W5 hg (Kd.uX R4 W5 (by decide))
 have R3' := Kd.yN (Kd.Y8 (Kd.yN (Kd.jv R3) (ok' := fun k => some k ≠ v4.ownBlock) (fun k hk e => by
  obtain ⟨_, _, _, p, hp, cs, hc⟩ := hk
  obtain ⟨cs', hc'⟩ := pV hown k e.symm
  rw [hc] at hc'
  injection hc' with hc'
  injection hc' with _ hc'
  exact absurd hp (by rw [hc']; decide))) hg (fun k hk => hk)) (ok' := fun _ => True) (fun _ _ => trivial)
 have R5' := Kd.yN (Kd.Y8 (Kd.yN (Kd.jv R5) (ok' := fun k => some k ≠ v4.ownBlock) (fun k hk e => by
  obtain ⟨_, _, _, p, hp, cs, hc⟩ := hk
  obtain ⟨cs', hc'⟩ := pV hown k e.symm
  rw [hc] at hc'
  injection hc' with hc'
  injection hc' with _ hc'
  exact absurd hp (by rw [hc']; decide))) hg (fun k hk => hk)) (ok' := fun _ => True) (fun _ _ => trivial)
 have S6 : w6.cell? ⟨B, 4, none⟩ = some (v4) ∧ w6.cell? ⟨g, 1, none⟩ = some (.string w1) ∧ w6.cell? ⟨g, 2, none⟩ = some (.string w2) ∧ w6.cell? ⟨g, 3, none⟩ = some (.string w3) := ⟨(zk B6 4).trans rfl, (zk W6 1).trans HD1.out, (zk W6 2).trans HD2.out, (zk W6 3).trans HD3.out⟩
 refine hK.out _ _ S6 (fun h => ?_)
 clear hK K h
 obtain ⟨Ao, co, eo⟩ := Kd.yx ho
 subst eo
 refine wF (a' := ?_) ?_ ?_
 rotate_left
 ·show Act.put _ (some 103) _ = _
  simp only [Act.put, List.setIfInBounds_toArray, List.set_cons_zero, List.set_cons_succ]
  rfl
 refine RW.rP 17 (some 104) T ?_
 refine RW.rP 18 (some 105) T ?_
 refine kD (i := 19) (N := none) #[true, true, true, true, true, true, true, true, true, true, true, true, true, true, true, true, true, true, true, true] rfl rfl (vG T.out (by kernel_rfl)) (by decide) (fun K hK => ?_)
 have k6 : w6.cell? ⟨B, 4, none⟩ = some v4 := (zk B6 4).trans rfl
 have z6 := zw B6 4
 generalize hnn : (f.l4 ++ [(⟨w1, w2, w3⟩ : qh)]).length = nn at ho ⊢
 refine Zy (w1 := ?_) (by rfl) rfl ?_ ?_
 rotate_left
 ·go_simp
  rfl
 refine hK.out _ _ ?_
 clear hK K
 refine vO (xH T.out (by kernel_rfl)) ?_
 subst hnn
 have U3 := Kd.jg (R3') B6 (by decide) 4 (.slice Ao (f.l4 ++ [(⟨w1, w2, w3⟩ : qh)]).length co)
 have U4 := Kd.jg (Kd.yN ho (ok' := fun _ => True) (fun _ _ => trivial)) B6 (by decide) 4 (.slice Ao (f.l4 ++ [(⟨w1, w2, w3⟩ : qh)]).length co)
 have U5 := Kd.jg (R5') B6 (by decide) 4 (.slice Ao (f.l4 ++ [(⟨w1, w2, w3⟩ : qh)]).length co)
 have B7 := zD (cs' := #[.string f.a, .bool f.b, .int .i64 f.c, v3, .slice Ao (f.l4 ++ [(⟨w1, w2, w3⟩ : qh)]).length co, v5]) B6 4 (.slice Ao (f.l4 ++ [(⟨w1, w2, w3⟩ : qh)]).length co) rfl
 have iA := zy.mk (ig.trans (vo.set B6 4 (.slice Ao (f.l4 ++ [(⟨w1, w2, w3⟩ : qh)]).length co)))
 have FI : zy (uP base B (w6.setCell ⟨B, 4, none⟩ (.slice Ao (f.l4 ++ [(⟨w1, w2, w3⟩ : qh)]).length co)) { f with l4 := f.l4 ++ [⟨w1, w2, w3⟩] }) := zy.mk ⟨_, _, _, B7, U3, U4, U5⟩
 clear ho hbw hg hat B6 B5 R3 R4 R5 k6 z6 S6 ig iW U3 U4 U5 B7 hown W5 W6 R3' R5'
 generalize w6.setCell ⟨B, 4, none⟩ (.slice Ao (f.l4 ++ [(⟨w1, w2, w3⟩ : qh)]).length co) = w7 at iA FI ⊢
 go_wp2_with fail
 go_ret
 exact ⟨rfl, FI.out, iA.out⟩
set_option maxRecDepth 100000 in
set_option maxHeartbeats 8000000 in
theorem zVk (B g base : Nat) (w0 w1 w2 : ByteArray) (f : vZ) (w : World) (cw : Array Value) (hW : w.heap[g]? = some (.cells cw 9 (0, 0))) (d0 : cw[0]? = some (.string w0)) (d1 : cw[1]? = some (.string w1)) (d2 : cw[2]? = some (.string w2)) (Yo : (w0.toList == [102, 111, 110, 116]) = false) (Zc : (w0.toList == [115, 112, 97, 99, 101]) = false) (K8 : (w0.toList == [103]) = true) (K9 : (w0.toList == [108]) = false) (Wz : (w0.toList == [107]) = false) (hl : f.l3.length ≤ 1000) (hG : GW w) (hs2 : w2.size ≤ 140737488355328) (hF : uP base B w f) (hb : base ≤ w.heap.size) (hBb : B < base) :
  Calls Tryz.prog 79 #[.pointer (some ⟨B, 0, none⟩), .slice (some ⟨g, 0, none⟩) 3 3] w fun e w' => e = .returned (.bool (kV w2).2) ∧ uP base B w' { f with l3 := f.l3 ++ [⟨w1, (kV w2).1⟩] } ∧ vo base B w w' := by
 obtain ⟨v3, v4, v5, h0, h3, h4, h5⟩ := hF
 have c0 := (zk hW 0).trans d0
 have c1 := (zk hW 1).trans d1
 have c2 := (zk hW 2).trans d2
 have hlt : g < w.heap.size := (Array.getElem?_eq_some_iff.1 hW).1
 have e1 : (g = w.heap.size) = False := eq_false (by omega)
 have e2 : (w.heap.size = g) = False := eq_false (by omega)
 have Yt := zy.mk (fun (W : World) (hb : Below w.heap.size w W) => V3 w2 W hs2 (hG.under hb))
 generalize kV w2 = nv at Yt ⊢
 obtain ⟨x, y⟩ := nv
 have HR3 := zy.mk (Kd.yN (Kd.jv h3) (ok' := fun k => k ≠ w.heap.size) (fun k hk => by omega))
 have HR4 := zy.mk (Kd.yN (Kd.jv h4) (ok' := fun k => k ≠ w.heap.size) (fun k hk => by omega))
 have U9 := zy.mk (Kd.yN (Kd.jv h5) (ok' := fun k => k ≠ w.heap.size) (fun k hk => by omega))
 have kI := zy.mk h0
 have zye : B ≠ w.heap.size := by omega
 have hb2 : Below w.heap.size w (w.alloc (.cells #[.string w1, .int .i64 0] 31)) := (Below.refl _ w).alloc (Nat.le_refl _) _
 have HB2 := zy.mk hb2
 have B6 := vY w (.cells #[.string w1, .int .i64 0] 31)
 have HB6 := zy.mk B6
 have hw0 := hW
 clear h0 h3 h4 h5 hW d0 d1 d2 hb2 B6
 go_enter Tryz.func79, Tryz.ntmps79
 go_wp2_with (go_at_call 36; refine (Yt.out _ HB2.out).mono ?_; rintro e w3 ⟨rfl, hb3⟩; have B7 := zf HB6.out hb3; have k7 : w3.cell? ⟨w.heap.size, 1, none⟩ = some (.int .i64 0) := (zk B7 1).trans rfl; have z7 := zw B7 1; have HB7 := zy.mk B7; have HB3 := zy.mk hb3; clear B7 hb3 Yt)
 have HW3 := zy.mk (zf (zf hw0 HB2.out) HB3.out)
 have hz : w.heap.size < (w.alloc (.cells #[.string w1, .int .i64 0] 31)).heap.size := by simp
 have b3 := HB2.out.trans (HB3.out.mono (Nat.le_of_lt hz))
 have B8 := zD (cs' := #[.string w1, .int .i64 x]) HB7.out 1 (.int .i64 x) rfl
 have bs : Below w.heap.size w (w3.setCell ⟨w.heap.size, 1, none⟩ (.int .i64 x)) := b3.setCell (p := ⟨w.heap.size, 1, none⟩) (Nat.le_refl _) _
 have F4 := zf kI.out bs
 have rZ := Kd.qy (p := ⟨w.heap.size, 1, none⟩) (Kd.zR HR3.out b3) (fun _ hk => hk) (.int .i64 x)
 have rQ := Kd.qy (p := ⟨w.heap.size, 1, none⟩) (Kd.zR HR4.out b3) (fun _ hk => hk) (.int .i64 x)
 have rX := Kd.qy (p := ⟨w.heap.size, 1, none⟩) (Kd.zR U9.out b3) (fun _ hk => hk) (.int .i64 x)
 have LKa := vo.below (B := B) bs hb
 have hb4 := Nat.le_trans hb bs.size
 have hzz : w.heap.size < (w3.setCell ⟨w.heap.size, 1, none⟩ (.int .i64 x)).heap.size := uS B8
 clear HR3 HR4 U9 kI HB7 HB3 HW3 k7 z7 bs b3 hz HB2 HB6 hw0 c0 c1 c2 e1 e2 hlt zye
 generalize w3.setCell ⟨w.heap.size, 1, none⟩ (.int .i64 x) = w4 at B8 F4 rZ rQ rX LKa hb4 hzz ⊢
 generalize w.heap.size = g6 at B8 rZ rQ rX hzz ⊢
 have HR3 := zy.mk rZ
 have HR4 := zy.mk rQ
 have U9 := zy.mk rX
 have kI := zy.mk F4
 have HLK := zy.mk LKa
 have H8 := zy.mk B8
 have s0 : w4.cell? ⟨B, 3, none⟩ = some v3 := (zk F4 3).trans rfl
 have s1 : w4.cell? ⟨g6, 0, none⟩ = some (.string w1) := (zk B8 0).trans rfl
 have s2 : w4.cell? ⟨g6, 1, none⟩ = some (.int .i64 x) := (zk B8 1).trans rfl
 clear rZ rQ rX F4 LKa B8 Yo Zc K8 K9 Wz
 have HS := zy.mk (fun (W : World) (h : Below w4.heap.size w4 W) => (show W.cell? ⟨B, 3, none⟩ = some (v3) ∧ W.cell? ⟨g6, 0, none⟩ = some (.string w1) ∧ W.cell? ⟨g6, 1, none⟩ = some (.int .i64 x) from ⟨(h.cell (World.block_lt_of_cell? w4 _ s0)).trans s0, (h.cell (World.block_lt_of_cell? w4 _ s1)).trans s1, (h.cell (World.block_lt_of_cell? w4 _ s2)).trans s2⟩))
 clear s0 s1 s2
 refine RW.rSD (n := 11) [10] HS line.zWd line.zVx (by kernel_rfl) rfl rfl (fun w5 H0 T U h => ?_)
 refine RW.rP 0 (some 67) T ?_; refine RW.rP 1 (some 68) T ?_; refine RW.rP 2 (some 69) T ?_; refine RW.rP 3 (some 70) T ?_; refine RW.rT 4 (some 71) T U h ?_
 refine RW.rT 5 (some 72) T U h ?_
 have R3 := Kd.zR HR3.out H0.out
 have R4 := Kd.zR HR4.out H0.out
 have R5 := Kd.zR U9.out H0.out
 have B5 := zf kI.out H0.out
 have iW := HLK.out.trans (vo.below (B := B) H0.out hb4)
 have hb5 := Nat.le_trans hb4 H0.out.size
 have W5 := zf H8.out H0.out
 clear h
 refine XI (i := 6) (N := some 73) #[true, true, true, true, true, true, true, false, false, false, false] rfl rfl (vG T.out (by kernel_rfl)) (by decide) (fun K hK => ?_)
 refine Jd (w1 := ?_) (v := ?_) (by rfl) rfl ?_ ?_
 rotate_left 2
 ·have h := HS.out _ H0.out
  go_simp
  constructor
  ·rfl
  ·rfl
 refine hK.out _ _ (HS.out _ (H0.out.alloc H0.out.size _)) (fun h => ?_)
 clear hK K h
 refine wF (a' := ?_) ?_ ?_
 rotate_left
 ·show Act.put _ (some 73) _ = _
  simp only [Act.put, List.setIfInBounds_toArray, List.set_cons_zero, List.set_cons_succ]
  rfl
 refine XI (i := 7) (N := some 74) #[true, true, true, true, true, true, true, true, false, false, false] rfl rfl (vG T.out (by kernel_rfl)) (by decide) (fun K hK => ?_)
 refine Kd.vD uy (w0 := w5) base (by rfl) (.tmp 71) (.tmp 73) 22 31 (.agg #[.string ⟨#[]⟩, .int .i64 0]) 24 rfl Tryz.underlying22 gP rfl (by decide) (by omega) v3 f.l3 (⟨w1, x⟩ : qw) [.string w1, .int .i64 x] (fun k => k ≠ g6) (fun _ => False) rfl rfl ?aP (fun _ hk => hk.elim) ?aF ?aO ?aB ?aS ?aL ?_
 (case aP => exact X8 _ _ _ (⟨w1, x⟩ : qw))
 (case aF => exact fun k hk => by have := H0.out.size; omega)
 (case aO => exact R3)
 (case aB => exact Below.refl base w5)
 (case aS => exact hb5)
 (case aL => omega)
 intro v1 w6 ho hbw hg hat
 have B6 := qx B5 hg (Kd.uX R3 B5 (by decide))
 obtain ⟨inn, hown⟩ := Kd.JO R3
 have ig := iW.trans (vo.grown (B := B) hown hg hb5)
 have W6 := qx W5 hg (fun e => R3.1 g6 e.symm rfl)
 have R4' := Kd.yN (Kd.Y8 (Kd.yN (Kd.jv R4) (ok' := fun k => some k ≠ v3.ownBlock) (fun k hk e => by
  obtain ⟨_, _, _, p, hp, cs, hc⟩ := hk
  obtain ⟨cs', hc'⟩ := pV hown k e.symm
  rw [hc] at hc'
  injection hc' with hc'
  injection hc' with _ hc'
  exact absurd hp (by rw [hc']; decide))) hg (fun k hk => hk)) (ok' := fun _ => True) (fun _ _ => trivial)
 have R5' := Kd.yN (Kd.Y8 (Kd.yN (Kd.jv R5) (ok' := fun k => some k ≠ v3.ownBlock) (fun k hk e => by
  obtain ⟨_, _, _, p, hp, cs, hc⟩ := hk
  obtain ⟨cs', hc'⟩ := pV hown k e.symm
  rw [hc] at hc'
  injection hc' with hc'
  injection hc' with _ hc'
  exact absurd hp (by rw [hc']; decide))) hg (fun k hk => hk)) (ok' := fun _ => True) (fun _ _ => trivial)
 have S6 : w6.cell? ⟨B, 3, none⟩ = some (v3) ∧ w6.cell? ⟨g6, 0, none⟩ = some (.string w1) ∧ w6.cell? ⟨g6, 1, none⟩ = some (.int .i64 x) := ⟨(zk B6 3).trans rfl, (zk W6 0).trans rfl, (zk W6 1).trans rfl⟩
 refine hK.out _ _ S6 (fun h => ?_)
 clear hK K h
 obtain ⟨Ao, co, eo⟩ := Kd.yx ho
 subst eo
 refine wF (a' := ?_) ?_ ?_
 rotate_left
 ·show Act.put _ (some 74) _ = _
  simp only [Act.put, List.setIfInBounds_toArray, List.set_cons_zero, List.set_cons_succ]
  rfl
 refine RW.rP 8 (some 75) T ?_
 refine RW.rP 9 (some 76) T ?_
 refine kD (i := 10) (N := none) #[true, true, true, true, true, true, true, true, true, true, true] rfl rfl (vG T.out (by kernel_rfl)) (by decide) (fun K hK => ?_)
 have k6 : w6.cell? ⟨B, 3, none⟩ = some v3 := (zk B6 3).trans rfl
 have z6 := zw B6 3
 generalize hnn : (f.l3 ++ [(⟨w1, x⟩ : qw)]).length = nn at ho ⊢
 refine Zy (w1 := ?_) (by rfl) rfl ?_ ?_
 rotate_left
 ·go_simp
  rfl
 refine hK.out _ _ ?_
 clear hK K
 refine vO (xH T.out (by kernel_rfl)) ?_
 subst hnn
 have U3 := Kd.jg (Kd.yN ho (ok' := fun _ => True) (fun _ _ => trivial)) B6 (by decide) 3 (.slice Ao (f.l3 ++ [(⟨w1, x⟩ : qw)]).length co)
 have U4 := Kd.jg (R4') B6 (by decide) 3 (.slice Ao (f.l3 ++ [(⟨w1, x⟩ : qw)]).length co)
 have U5 := Kd.jg (R5') B6 (by decide) 3 (.slice Ao (f.l3 ++ [(⟨w1, x⟩ : qw)]).length co)
 have B7 := zD (cs' := #[.string f.a, .bool f.b, .int .i64 f.c, .slice Ao (f.l3 ++ [(⟨w1, x⟩ : qw)]).length co, v4, v5]) B6 3 (.slice Ao (f.l3 ++ [(⟨w1, x⟩ : qw)]).length co) rfl
 have iA := zy.mk (ig.trans (vo.set B6 3 (.slice Ao (f.l3 ++ [(⟨w1, x⟩ : qw)]).length co)))
 have FI : zy (uP base B (w6.setCell ⟨B, 3, none⟩ (.slice Ao (f.l3 ++ [(⟨w1, x⟩ : qw)]).length co)) { f with l3 := f.l3 ++ [⟨w1, x⟩] }) := zy.mk ⟨_, _, _, B7, U3, U4, U5⟩
 clear ho hbw hg hat B6 B5 R3 R4 R5 k6 z6 S6 ig iW U3 U4 U5 B7 hown W5 W6 R4' R5'
 generalize w6.setCell ⟨B, 3, none⟩ (.slice Ao (f.l3 ++ [(⟨w1, x⟩ : qw)]).length co) = w7 at iA FI ⊢
 go_wp2_with fail
 go_ret
 exact ⟨rfl, FI.out, iA.out⟩
set_option maxRecDepth 100000 in
set_option maxHeartbeats 8000000 in
theorem zVy (B g base : Nat) (w0 w1 w2 wn : ByteArray) (f : vZ) (w : World) (cw : Array Value) (hW : w.heap[g]? = some (.cells cw 9 (0, 0))) (d0 : cw[0]? = some (.string w0)) (d1 : cw[1]? = some (.string w1)) (d2 : cw[2]? = some (.string w2)) (d3 : cw[3]? = some (.string wn)) (Yo : (w0.toList == [102, 111, 110, 116]) = false) (Zc : (w0.toList == [115, 112, 97, 99, 101]) = false) (K8 : (w0.toList == [103]) = false) (K9 : (w0.toList == [108]) = false) (Wz : (w0.toList == [107]) = true) (hl : f.l5.length ≤ 1000) (hG : GW w) (hs2 : wn.size ≤ 140737488355328) (hF : uP base B w f) (hb : base ≤ w.heap.size) (hBb : B < base) :
  Calls Tryz.prog 79 #[.pointer (some ⟨B, 0, none⟩), .slice (some ⟨g, 0, none⟩) 4 4] w fun e w' => e = .returned (.bool (kV wn).2) ∧ uP base B w' { f with l5 := f.l5 ++ [⟨w1, w2, (kV wn).1⟩] } ∧ vo base B w w' := by
 obtain ⟨v3, v4, v5, h0, h3, h4, h5⟩ := hF
 have c0 := (zk hW 0).trans d0
 have c1 := (zk hW 1).trans d1
 have c2 := (zk hW 2).trans d2
 have c3 := (zk hW 3).trans d3
 have hlt : g < w.heap.size := (Array.getElem?_eq_some_iff.1 hW).1
 have e1 : (g = w.heap.size) = False := eq_false (by omega)
 have e2 : (w.heap.size = g) = False := eq_false (by omega)
 have Yt := zy.mk (fun (W : World) (hb : Below w.heap.size w W) => V3 wn W hs2 (hG.under hb))
 generalize kV wn = nv at Yt ⊢
 obtain ⟨x, y⟩ := nv
 have HR3 := zy.mk (Kd.yN (Kd.jv h3) (ok' := fun k => k ≠ w.heap.size) (fun k hk => by omega))
 have HR4 := zy.mk (Kd.yN (Kd.jv h4) (ok' := fun k => k ≠ w.heap.size) (fun k hk => by omega))
 have U9 := zy.mk (Kd.yN (Kd.jv h5) (ok' := fun k => k ≠ w.heap.size) (fun k hk => by omega))
 have kI := zy.mk h0
 have zye : B ≠ w.heap.size := by omega
 have hw0 := zy.mk hW
 clear h0 h3 h4 h5 hW d0 d1 d2 d3
 go_enter Tryz.func79, Tryz.ntmps79
 go_wp2_with fail
 go_region
 have HB2 : zy (Below w.heap.size w (w.alloc (.cells #[.string w1, .string w2, .int .i64 0] 76)).drew) := zy.mk ((Below.refl _ w).alloc (Nat.le_refl _) _).drew
 have B6 : (w.alloc (.cells #[.string w1, .string w2, .int .i64 0] 76)).drew.heap[w.heap.size]? = some (.cells #[.string w1, .string w2, .int .i64 0] 76 (0, 0)) := vY w _
 have HB6 := zy.mk B6
 clear B6
 go_wp2_with (go_at_call 36; refine (Yt.out _ HB2.out).mono ?_; rintro e w3 ⟨rfl, hb3⟩; have B7 := zf HB6.out hb3; have k7 : w3.cell? ⟨w.heap.size, 2, none⟩ = some (.int .i64 0) := (zk B7 2).trans rfl; have z7 := zw B7 2; have HB7 := zy.mk B7; have HB3 := zy.mk hb3; clear B7 hb3 Yt)
 have hz : w.heap.size < (w.alloc (.cells #[.string w1, .string w2, .int .i64 0] 76)).drew.heap.size := by simp
 have b3 := HB2.out.trans (HB3.out.mono (Nat.le_of_lt hz))
 have B8 := zD (cs' := #[.string w1, .string w2, .int .i64 x]) HB7.out 2 (.int .i64 x) rfl
 have bs : Below w.heap.size w (w3.setCell ⟨w.heap.size, 2, none⟩ (.int .i64 x)) := b3.setCell (p := ⟨w.heap.size, 2, none⟩) (Nat.le_refl _) _
 have F4 := zf kI.out bs
 have rZ := Kd.qy (p := ⟨w.heap.size, 2, none⟩) (Kd.zR HR3.out b3) (fun _ hk => hk) (.int .i64 x)
 have rQ := Kd.qy (p := ⟨w.heap.size, 2, none⟩) (Kd.zR HR4.out b3) (fun _ hk => hk) (.int .i64 x)
 have rX := Kd.qy (p := ⟨w.heap.size, 2, none⟩) (Kd.zR U9.out b3) (fun _ hk => hk) (.int .i64 x)
 have LKa := vo.below (B := B) bs hb
 have hb4 := Nat.le_trans hb bs.size
 have hzz : w.heap.size < (w3.setCell ⟨w.heap.size, 2, none⟩ (.int .i64 x)).heap.size := uS B8
 clear HR3 HR4 U9 kI HB7 HB3 k7 z7 bs b3 hz HB2 HB6 hw0 c0 c1 c2 c3 e1 e2 hlt zye
 generalize w3.setCell ⟨w.heap.size, 2, none⟩ (.int .i64 x) = w4 at B8 F4 rZ rQ rX LKa hb4 hzz ⊢
 generalize w.heap.size = g6 at B8 rZ rQ rX hzz ⊢
 have HR3 := zy.mk rZ
 have HR4 := zy.mk rQ
 have U9 := zy.mk rX
 have kI := zy.mk F4
 have HLK := zy.mk LKa
 have H8 := zy.mk B8
 have s0 : w4.cell? ⟨B, 5, none⟩ = some v5 := (zk F4 5).trans rfl
 have s1 : w4.cell? ⟨g6, 0, none⟩ = some (.string w1) := (zk B8 0).trans rfl
 have s2 : w4.cell? ⟨g6, 1, none⟩ = some (.string w2) := (zk B8 1).trans rfl
 have s3 : w4.cell? ⟨g6, 2, none⟩ = some (.int .i64 x) := (zk B8 2).trans rfl
 clear rZ rQ rX F4 LKa B8 Yo Zc K8 K9 Wz
 have HS := zy.mk (fun (W : World) (h : Below w4.heap.size w4 W) => (show W.cell? ⟨B, 5, none⟩ = some (v5) ∧ W.cell? ⟨g6, 0, none⟩ = some (.string w1) ∧ W.cell? ⟨g6, 1, none⟩ = some (.string w2) ∧ W.cell? ⟨g6, 2, none⟩ = some (.int .i64 x) from ⟨(h.cell (World.block_lt_of_cell? w4 _ s0)).trans s0, (h.cell (World.block_lt_of_cell? w4 _ s1)).trans s1, (h.cell (World.block_lt_of_cell? w4 _ s2)).trans s2, (h.cell (World.block_lt_of_cell? w4 _ s3)).trans s3⟩))
 clear s0 s1 s2 s3
 refine RW.rSD (n := 11) [10] HS line.zWe line.zVj (by kernel_rfl) rfl rfl (fun w5 H0 T U h => ?_)
 refine RW.rP 0 (some 131) T ?_; refine RW.rP 1 (some 132) T ?_; refine RW.rP 2 (some 133) T ?_; refine RW.rP 3 (some 134) T ?_; refine RW.rT 4 (some 135) T U h ?_
 refine RW.rT 5 (some 136) T U h ?_
 have R3 := Kd.zR HR3.out H0.out
 have R4 := Kd.zR HR4.out H0.out
 have R5 := Kd.zR U9.out H0.out
 have B5 := zf kI.out H0.out
 have iW := HLK.out.trans (vo.below (B := B) H0.out hb4)
 have hb5 := Nat.le_trans hb4 H0.out.size
 have W5 := zf H8.out H0.out
 clear h
 refine XI (i := 6) (N := some 137) #[true, true, true, true, true, true, true, false, false, false, false] rfl rfl (vG T.out (by kernel_rfl)) (by decide) (fun K hK => ?_)
 refine Jd (w1 := ?_) (v := ?_) (by rfl) rfl ?_ ?_
 rotate_left 2
 ·have h := HS.out _ H0.out
  go_simp
  constructor
  ·rfl
  ·rfl
 refine hK.out _ _ (HS.out _ (H0.out.alloc H0.out.size _)) (fun h => ?_)
 clear hK K h
 refine wF (a' := ?_) ?_ ?_
 rotate_left
 ·show Act.put _ (some 137) _ = _
  simp only [Act.put, List.setIfInBounds_toArray, List.set_cons_zero, List.set_cons_succ]
  rfl
 refine XI (i := 7) (N := some 138) #[true, true, true, true, true, true, true, true, false, false, false] rfl rfl (vG T.out (by kernel_rfl)) (by decide) (fun K hK => ?_)
 refine Kd.vD jy (w0 := w5) base (by rfl) (.tmp 135) (.tmp 137) 24 76 (.agg #[.string ⟨#[]⟩, .string ⟨#[]⟩, .int .i64 0]) 40 rfl Tryz.underlying24 zvq rfl (by decide) (by omega) v5 f.l5 (⟨w1, w2, x⟩ : xq) [.string w1, .string w2, .int .i64 x] (fun k => k ≠ g6) (fun _ => False) rfl rfl ?aP (fun _ hk => hk.elim) ?aF ?aO ?aB ?aS ?aL ?_
 (case aP => exact QM _ _ _ (⟨w1, w2, x⟩ : xq))
 (case aF => exact fun k hk => by have := H0.out.size; omega)
 (case aO => exact R5)
 (case aB => exact Below.refl base w5)
 (case aS => exact hb5)
 (case aL => omega)
 intro v1 w6 ho hbw hg hat
 have B6 := qx B5 hg (Kd.uX R5 B5 (by decide))
 obtain ⟨inn, hown⟩ := Kd.JO R5
 have ig := iW.trans (vo.grown (B := B) hown hg hb5)
 have W6 := qx W5 hg (fun e => R5.1 g6 e.symm rfl)
 have R3' := Kd.yN (Kd.Y8 (Kd.yN (Kd.jv R3) (ok' := fun k => some k ≠ v5.ownBlock) (fun k hk e => by
  obtain ⟨_, _, _, p, hp, cs, hc⟩ := hk
  obtain ⟨cs', hc'⟩ := pV hown k e.symm
  rw [hc] at hc'
  injection hc' with hc'
  injection hc' with _ hc'
  exact absurd hp (by rw [hc']; decide))) hg (fun k hk => hk)) (ok' := fun _ => True) (fun _ _ => trivial)
 have R4' := Kd.yN (Kd.Y8 (Kd.yN (Kd.jv R4) (ok' := fun k => some k ≠ v5.ownBlock) (fun k hk e => by
  obtain ⟨_, _, _, p, hp, cs, hc⟩ := hk
  obtain ⟨cs', hc'⟩ := pV hown k e.symm
  rw [hc] at hc'
  injection hc' with hc'
  injection hc' with _ hc'
  exact absurd hp (by rw [hc']; decide))) hg (fun k hk => hk)) (ok' := fun _ => True) (fun _ _ => trivial)
 have S6 : w6.cell? ⟨B, 5, none⟩ = some (v5) ∧ w6.cell? ⟨g6, 0, none⟩ = some (.string w1) ∧ w6.cell? ⟨g6, 1, none⟩ = some (.string w2) ∧ w6.cell? ⟨g6, 2, none⟩ = some (.int .i64 x) := ⟨(zk B6 5).trans rfl, (zk W6 0).trans rfl, (zk W6 1).trans rfl, (zk W6 2).trans rfl⟩
 refine hK.out _ _ S6 (fun h => ?_)
 clear hK K h
 obtain ⟨Ao, co, eo⟩ := Kd.yx ho
 subst eo
 refine wF (a' := ?_) ?_ ?_
 rotate_left
 ·show Act.put _ (some 138) _ = _
  simp only [Act.put, List.setIfInBounds_toArray, List.set_cons_zero, List.set_cons_succ]
  rfl
 refine RW.rP 8 (some 139) T ?_
 refine RW.rP 9 (some 140) T ?_
 refine kD (i := 10) (N := none) #[true, true, true, true, true, true, true, true, true, true, true] rfl rfl (vG T.out (by kernel_rfl)) (by decide) (fun K hK => ?_)
 have k6 : w6.cell? ⟨B, 5, none⟩ = some v5 := (zk B6 5).trans rfl
 have z6 := zw B6 5
 generalize hnn : (f.l5 ++ [(⟨w1, w2, x⟩ : xq)]).length = nn at ho ⊢
 refine Zy (w1 := ?_) (by rfl) rfl ?_ ?_
 rotate_left
 ·go_simp
  rfl
 refine hK.out _ _ ?_
 clear hK K
 refine vO (xH T.out (by kernel_rfl)) ?_
 subst hnn
 have U3 := Kd.jg (R3') B6 (by decide) 5 (.slice Ao (f.l5 ++ [(⟨w1, w2, x⟩ : xq)]).length co)
 have U4 := Kd.jg (R4') B6 (by decide) 5 (.slice Ao (f.l5 ++ [(⟨w1, w2, x⟩ : xq)]).length co)
 have U5 := Kd.jg (Kd.yN ho (ok' := fun _ => True) (fun _ _ => trivial)) B6 (by decide) 5 (.slice Ao (f.l5 ++ [(⟨w1, w2, x⟩ : xq)]).length co)
 have B7 := zD (cs' := #[.string f.a, .bool f.b, .int .i64 f.c, v3, v4, .slice Ao (f.l5 ++ [(⟨w1, w2, x⟩ : xq)]).length co]) B6 5 (.slice Ao (f.l5 ++ [(⟨w1, w2, x⟩ : xq)]).length co) rfl
 have iA := zy.mk (ig.trans (vo.set B6 5 (.slice Ao (f.l5 ++ [(⟨w1, w2, x⟩ : xq)]).length co)))
 have FI : zy (uP base B (w6.setCell ⟨B, 5, none⟩ (.slice Ao (f.l5 ++ [(⟨w1, w2, x⟩ : xq)]).length co)) { f with l5 := f.l5 ++ [⟨w1, w2, x⟩] }) := zy.mk ⟨_, _, _, B7, U3, U4, U5⟩
 clear ho hbw hg hat B6 B5 R3 R4 R5 k6 z6 S6 ig iW U3 U4 U5 B7 hown W5 W6 R3' R4'
 generalize w6.setCell ⟨B, 5, none⟩ (.slice Ao (f.l5 ++ [(⟨w1, w2, x⟩ : xq)]).length co) = w7 at iA FI ⊢
 go_wp2_with fail
 go_ret
 exact ⟨rfl, FI.out, iA.out⟩
theorem zyf (n m : Nat) (h : n ≠ m) : ((n : Int) == (m : Int)) = false ∧ decide ((n : Int) = (m : Int)) = false := ⟨beq_eq_false_iff_ne.2 (by omega), decide_eq_false (by omega)⟩
theorem Zk {s : ByteArray} {l : List UInt8} (h : s ≠ bar l) : (s.toList == l) = false := by rw [zvM]; exact decide_eq_false h
theorem JM {s : ByteArray} {l : List UInt8} (h : s = bar l) : (s.toList == l) = true := by rw [zvM]; exact decide_eq_true h
theorem zxq {α : Type} : ∀ {l : List α}, l.length = 2 → ∃ a b, l = [a, b]
 | [a, b], _ => ⟨a, b, rfl⟩
theorem Y7 (ws : List ByteArray) (j : Nat) (s : ByteArray) (h : ws[j]? = some s) : (ws.map Value.string).toArray[j]? = some (.string s) := by simp [h]
set_option maxRecDepth 100000 in
set_option maxHeartbeats 400000 in
theorem rJ (B g base : Nat) (ws : List ByteArray) (f : vZ) (w : World) (hW : w.heap[g]? = some (.cells (ws.map Value.string).toArray 9 (0, 0))) (h2 : 2 ≤ ws.length) (hn2 : ws.length ≤ 1000000001) (hl : f.l3.length ≤ 1000 ∧ f.l4.length ≤ 1000 ∧ f.l5.length ≤ 1000) (hG : GW w) (hs : ∀ s ∈ ws, s.size ≤ 140737488355328) (hF : uP base B w f) (hb : base ≤ w.heap.size) (hBb : B < base) :
  Calls Tryz.prog 79 #[.pointer (some ⟨B, 0, none⟩), .slice (some ⟨g, 0, none⟩) ws.length ws.length] w fun e w' => e = .returned (.bool (uo f ws).1) ∧ uP base B w' (uo f ws).2 ∧ vo base B w w' := by
 match ws, h2 with
 | w0 :: w1 :: r, _ =>
  have d0 := Y7 (w0 :: w1 :: r) 0 w0 rfl
  have d1 := Y7 (w0 :: w1 :: r) 1 w1 rfl
  have c0 := (zk hW 0).trans d0
  have c1 := (zk hW 1).trans d1
  have no : (Calls Tryz.prog 79 #[.pointer (some ⟨B, 0, none⟩), .slice (some ⟨g, 0, none⟩) (w0 :: w1 :: r).length (w0 :: w1 :: r).length] w fun e w' => e = .returned (.bool false) ∧ w = w') → uo f (w0 :: w1 :: r) = (false, f) →
    Calls Tryz.prog 79 #[.pointer (some ⟨B, 0, none⟩), .slice (some ⟨g, 0, none⟩) (w0 :: w1 :: r).length (w0 :: w1 :: r).length] w fun e w' => e = .returned (.bool (uo f (w0 :: w1 :: r)).1) ∧ uP base B w' (uo f (w0 :: w1 :: r)).2 ∧ vo base B w w' := fun hc hv => by
   rw [hv]
   exact hc.mono fun e w' ⟨h1, h3⟩ => by subst h3; exact ⟨h1, hF, vo.refl _ _ _⟩
  have hlen : (w0 :: w1 :: r).length = r.length + 2 := rfl
  have hn' : 2 ≤ (w0 :: w1 :: r).length := by omega
  by_cases q1 : w0 = bar [102, 111, 110, 116]
  ·have e1 := JM q1
   have e2 : (w0.toList == [115, 112, 97, 99, 101]) = false := Zk (by rw [q1]; decide)
   have e3 : (w0.toList == [103]) = false := Zk (by rw [q1]; decide)
   have e4 : (w0.toList == [108]) = false := Zk (by rw [q1]; decide)
   have e5 : (w0.toList == [107]) = false := Zk (by rw [q1]; decide)
   by_cases hr : r.length ≤ 1
   ·have hv : uo f (w0 :: w1 :: r) = (true, { f with a := w1, b := decide (r.length = 1) }) := by rw [uo, if_pos ⟨q1, hr⟩]
    rw [hv]
    exact zvO B g _ base w0 w1 f w c0 c1 hn' hn2 (decide (r.length = 1)) e1 e2 e3 e4 e5 (decide_eq_true (by omega)) (by rw [hlen, Bool.eq_iff_iff]; simp; omega) hF hb hBb
   ·have hv : uo f (w0 :: w1 :: r) = (false, f) := by
     rw [uo, if_neg (fun h => hr h.2), if_neg (by rw [q1]; decide), if_neg (fun h => absurd h.1 (by rw [q1]; decide)), if_neg (fun h => absurd h.1 (by rw [q1]; decide)), if_neg (fun h => absurd h.1 (by rw [q1]; decide))]
    exact no (zzI B g _ base w0 w1 f w c0 c1 hn' hn2 e1 e2 e3 e4 e5 (decide_eq_false (by omega))) hv
  have e1 := Zk q1
  by_cases q2 : w0 = bar [115, 112, 97, 99, 101]
  ·have e2 := JM q2
   have q2' : w0 = (⟨#[115, 112, 97, 99, 101]⟩ : ByteArray) := q2
   have e3 : (w0.toList == [103]) = false := Zk (by rw [q2]; decide)
   have e4 : (w0.toList == [108]) = false := Zk (by rw [q2]; decide)
   have e5 : (w0.toList == [107]) = false := Zk (by rw [q2]; decide)
   have hv : uo f (w0 :: w1 :: r) = ((kV w1).2, { f with c := (kV w1).1 }) := by rw [uo, if_neg (fun h => q1 h.1), if_pos q2']
   rw [hv]
   exact zju B g _ base w0 w1 f w c0 c1 hn' hn2 e1 e2 e3 e4 e5 hG (hs w1 (by simp)) hF hb hBb
  have e2 := Zk q2
  replace q2 : ¬ w0 = (⟨#[115, 112, 97, 99, 101]⟩ : ByteArray) := q2
  by_cases q3 : w0 = bar [103]
  ·have e3 := JM q3
   have e4 : (w0.toList == [108]) = false := Zk (by rw [q3]; decide)
   have e5 : (w0.toList == [107]) = false := Zk (by rw [q3]; decide)
   by_cases hr : r.length = 1
   ·obtain ⟨w2, rfl⟩ := List.length_eq_one_iff.1 hr
    have hv : uo f [w0, w1, w2] = ((kV w2).2, { f with l3 := f.l3 ++ [⟨w1, (kV w2).1⟩] }) := by rw [uo, if_neg (fun h => q1 h.1), if_neg q2, if_pos ⟨q3, rfl⟩]; rfl
    rw [hv, show ([w0, w1, w2] : List ByteArray).length = 3 from rfl]
    exact zVk B g base w0 w1 w2 f w _ hW d0 d1 (Y7 _ 2 w2 rfl) e1 e2 e3 e4 e5 hl.1 hG (hs w2 (by simp)) hF hb hBb
   ·have hd := zyf (w0 :: w1 :: r).length 3 (by omega)
    exact no (zyb B g _ base w0 w1 f w c0 c1 hn' hn2 e1 e2 e3 e4 e5 hd.1 hd.2) (by
     rw [uo, if_neg (fun h => q1 h.1), if_neg q2, if_neg (fun h => hr h.2), if_neg (fun h => absurd h.1 (by rw [q3]; decide)), if_neg (fun h => absurd h.1 (by rw [q3]; decide))])
  have e3 := Zk q3
  by_cases q4 : w0 = bar [108]
  ·have e4 := JM q4
   have e5 : (w0.toList == [107]) = false := Zk (by rw [q4]; decide)
   by_cases hr : r.length = 2
   ·obtain ⟨w2, w3, rfl⟩ := zxq hr
    have hv : uo f [w0, w1, w2, w3] = (true, { f with l4 := f.l4 ++ [⟨w1, w2, w3⟩] }) := by rw [uo, if_neg (fun h => q1 h.1), if_neg q2, if_neg (fun h => q3 h.1), if_pos ⟨q4, rfl⟩]; rfl
    rw [hv, show ([w0, w1, w2, w3] : List ByteArray).length = 4 from rfl]
    exact zVv B g base w0 w1 w2 w3 f w _ hW d0 d1 (Y7 _ 2 w2 rfl) (Y7 _ 3 w3 rfl) e1 e2 e3 e4 e5 hl.2.1 hF hb hBb
   ·have hd := zyf (w0 :: w1 :: r).length 4 (by omega)
    exact no (zyc B g _ base w0 w1 f w c0 c1 hn' hn2 e1 e2 e3 e4 e5 hd.1 hd.2) (by
     rw [uo, if_neg (fun h => q1 h.1), if_neg q2, if_neg (fun h => q3 h.1), if_neg (fun h => hr h.2), if_neg (fun h => absurd h.1 (by rw [q4]; decide))])
  have e4 := Zk q4
  by_cases q5 : w0 = bar [107]
  ·have e5 := JM q5
   by_cases hr : r.length = 2
   ·obtain ⟨w2, wn, rfl⟩ := zxq hr
    have hv : uo f [w0, w1, w2, wn] = ((kV wn).2, { f with l5 := f.l5 ++ [⟨w1, w2, (kV wn).1⟩] }) := by rw [uo, if_neg (fun h => q1 h.1), if_neg q2, if_neg (fun h => q3 h.1), if_neg (fun h => q4 h.1), if_pos ⟨q5, rfl⟩]; rfl
    rw [hv, show ([w0, w1, w2, wn] : List ByteArray).length = 4 from rfl]
    exact zVy B g base w0 w1 w2 wn f w _ hW d0 d1 (Y7 _ 2 w2 rfl) (Y7 _ 3 wn rfl) e1 e2 e3 e4 e5 hl.2.2 hG (hs wn (by simp)) hF hb hBb
   ·have hd := zyf (w0 :: w1 :: r).length 4 (by omega)
    exact no (zyd B g _ base w0 w1 f w c0 c1 hn' hn2 e1 e2 e3 e4 e5 hd.1 hd.2) (by
     rw [uo, if_neg (fun h => q1 h.1), if_neg q2, if_neg (fun h => q3 h.1), if_neg (fun h => q4 h.1), if_neg (fun h => hr h.2)])
  have e5 := Zk q5
  exact no (zvN B g _ base w0 w1 f w c0 c1 hn' hn2 e1 e2 e3 e4 e5) (by
   rw [uo, if_neg (fun h => q1 h.1), if_neg q2, if_neg (fun h => q3 h.1), if_neg (fun h => q4 h.1), if_neg (fun h => q5 h.1)])
end Go.Proofs.YtaifemkokfoadaaGreatDoor
namespace Go.Proofs.YtaifemkokfoadaaGreatDoor
open Go.RowKit Go.Shelf
attribute [local go_sem] Oper.semAt_some
def Jz (n₀ Bs : Nat) (W W' : World) : Prop := Below n₀ W W' ∧ W'.heap[Bs]? = W.heap[Bs]?
theorem zQR {n₀ Bs : Nat} {A B C : World} (h : Jz n₀ Bs A B) (k : Jz n₀ Bs B C) : Jz n₀ Bs A C := ⟨h.1.trans k.1, k.2.trans h.2⟩
theorem zQS {n₀ Bs : Nat} {w : World} (hn : n₀ ≤ w.heap.size) (hB : Bs < w.heap.size) (W : World) (l : Nat) (o o' : Obj) (hl : w.heap.size ≤ l) (h : W.heap[l]? = some o) (h1 : o.isCells = false) (h2 : o.isWalk = false) : Jz n₀ Bs W (W.putObj l o') :=
 ⟨belowK_b hn W l o o' hl h h1 h2, World.putObj_heap_other (by omega)⟩
set_option maxHeartbeats 1000000 in
theorem zyg (F : Fence) (n : Nat) (h4 : F.fn 76) (hro : F.round = none) (s : ByteArray) (w : World) :
  CallsIn F n Tryz.prog 76 #[.string s] w fun e w' => e = .returned (.func (.func 115) #[] #[.pointer (some ⟨w.heap.size, 0, none⟩)]) ∧ w' = w.alloc (.cells #[.string s] 9) := by
 refine callsIn_of_wp Tryz.func76 rfl h4 ?_ hro
 simp only [Tryz.ntmps76, List.size_toArray, List.length_cons, List.length_nil, Nat.reduceAdd, Nat.reduceSub, Array.replicate_succ, Array.replicate_zero, List.push_toArray, List.append_toArray, List.nil_append, List.cons_append]
 gi_wp2
 go_ret
 exact ⟨rfl, rfl⟩
abbrev Lb : Type := { x : ByteArray // x.size ≤ 1000000000 }
abbrev ll (l : List Lb) : List (List UInt8) := l.map fun b => b.1.data.toList
def zVw (n₀ Bs : Nat) (s : ByteArray) (W0 : World) (J : List Lb → World → Prop) (wr : World) : Prop :=
 ∃ (pre : List Lb) (rest : ByteArray), Boxed wr Bs 9 (.string rest) ∧ kZ s.size s.data.toList = ll pre ++ kZ rest.size rest.data.toList ∧ pre.length + rest.size ≤ s.size ∧ J pre wr ∧ Below n₀ W0 wr
def zjA (Bs : Nat) (w : World) : Nat := match w.heap[Bs]? with | some (Obj.cells c _ _) => (match c[0]? with | some (Value.string s) => s.size | _ => 0) | _ => 0
theorem KF {Bs : Nat} {w : World} {t : TypeId} {s : ByteArray} (h : Boxed w Bs t (.string s)) : zjA Bs w = s.size := by
 unfold zjA; rw [show w.heap[Bs]? = _ from h]; rfl
theorem Jq {W W' : World} {B : Nat} {t : TypeId} {v : Value} (h : Boxed W B t v) (e : W'.heap[B]? = W.heap[B]?) : Boxed W' B t v := by
 unfold Boxed at h ⊢; rw [e]; exact h
theorem zWf (s : ByteArray) (k : Nat) : (s.extract k s.size).data.toList = s.data.toList.drop k := by
 rw [Lib.extract_data, List.take_of_length_le (by simp)]
theorem KG (s : ByteArray) (k : Nat) : (s.extract 0 k).size = min k s.size := by simp
theorem KH (s : ByteArray) (k : Nat) : (s.extract k s.size).size = s.size - k := by simp
theorem zvP : ∀ (s : List UInt8) (c : UInt8), 0 ≤ Lib.indexByte s c → (Lib.indexByte s c).toNat + 1 ≤ s.length := by
 intro s c h
 obtain ⟨i, hi⟩ := Int.eq_ofNat_of_zero_le h
 have h1 := (Lib.indexByte_some hi).1
 have h2 := (List.getElem?_eq_some_iff.1 h1).1
 rw [hi, Int.toNat_natCast]; omega
theorem zjB (s : List UInt8) (i : Nat) (h : Lib.indexByte s 10 = (i : Int)) (hi : i + 1 ≤ s.length) : kZ s.length s = s.take (i + 1) :: kZ (s.length - (i + 1)) (s.drop (i + 1)) := by
 obtain ⟨n, hn⟩ : ∃ n, s.length = n + 1 := ⟨s.length - 1, by omega⟩
 have h0 : s ≠ [] := fun e => by rw [e] at hi; simp at hi
 rw [hn, kZ, if_neg h0, h, if_neg (by omega), Int.toNat_natCast, bF n (n + 1 - (i + 1)) _ (by rw [List.length_drop]; omega) (by rw [List.length_drop]; omega)]
theorem zjC (s : List UInt8) (h : Lib.indexByte s 10 < 0) (h0 : s ≠ []) : kZ s.length s = [s] := by
 obtain ⟨n, hn⟩ : ∃ n, s.length = n + 1 := ⟨s.length - 1, by have := List.length_pos_iff.2 h0; omega⟩
 rw [hn, kZ, if_neg h0, if_pos h]
theorem XD (s : ByteArray) : s.data.toList.length = s.size := Array.length_toList
set_option maxRecDepth 100000 in
set_option maxHeartbeats 4000000 in
theorem zvR (n : Nat) (hn : 1 ≤ n) (l Bs n₀ : Nat) (hn0 : 0 < n₀) (hnB : n₀ ≤ Bs) (s : ByteArray) (hs : s.size ≤ 1000000000) (J Jx : List Lb → World → Prop) (hJd : ∀ pre W, J pre W → J pre W.drew) (hJb : wC Bs J)
  (hY : ∀ pre x W, J pre W → pre.length < s.size + 1 → YieldAt Fence.wide (n - 1) Tryz.prog l #[.string x.1] W fun e W' =>
   (e = .returned (.bool true) ∧ J (pre ++ [x]) W' ∧ Jz n₀ Bs W W') ∨ (e = .returned (.bool false) ∧ Jx (pre ++ [x]) W'))
  (W : World) (b0 : Boxed W Bs 9 (.string s)) (h0 : J [] W) :
  CallsIn Fence.wide n Tryz.prog 115 #[.func (.yield l) #[] #[], .pointer (some ⟨Bs, 0, none⟩)] W fun e W' => (∃ v, e = .returned v) ∧
   ((∃ ys, ll ys = kZ s.size s.data.toList ∧ J ys W') ∨ (∃ pre, ll pre <+: kZ s.size s.data.toList ∧ Jx pre W')) := by
 refine callsIn_of_wp Tryz.func115 rfl trivial ?_ rfl
 simp only [Tryz.ntmps115, List.size_toArray, List.length_cons, List.length_nil, Nat.reduceAdd, Nat.reduceSub, Array.replicate_succ, Array.replicate_zero, List.push_toArray, List.append_toArray, List.nil_append, List.cons_append]
 gi_wp2
 gi_loopw [3, 4] (fun _ _ wr => zVw n₀ Bs s W J wr) (fun _ _ wr => zjA Bs wr)
 case atStart => exact ⟨[], s, b0, rfl, by simp, h0, Below.refl _ _⟩
 case round =>
  obtain ⟨pre, rest, d0, hsp, hlen, hJ, hb⟩ := hrel
  have k0 := d0.cell
  have f0 := d0.frozen
  by_cases hz : rest.size = 0
  ·have t1 : decide ((0 : Int) < (rest.size : Int)) = false := decide_eq_false (by omega)
   have hd : rest.data.toList = [] := List.eq_nil_of_length_eq_zero (by rw [Array.length_toList]; exact hz)
   have hsp2 : kZ s.size s.data.toList = ll pre := by
    rw [hsp, hz]; simp [kZ]
   have HS2 := Lib.hid hsp2
   clear hsp hsp2 hd
   gi_wp2
   go_end0
   exact ⟨⟨_, rfl⟩, .inl ⟨pre, HS2.out.symm, hJ⟩⟩
  ·have t1 : decide ((0 : Int) < (rest.size : Int)) = true := decide_eq_true (by omega)
   have hne : rest.data.toList ≠ [] := fun e => hz (by rw [← XD, e]; rfl)
   have hi := Tryz.strings_IndexByte rest 10 wr
   rw [show (10 : Int).toNat.toUInt8 = (10 : UInt8) from rfl] at hi
   by_cases hpos : 0 ≤ Lib.indexByte rest.data.toList 10
   ·have hroom := zvP _ _ hpos
    obtain ⟨i, hix⟩ := Int.eq_ofNat_of_zero_le hpos
    have hst := zjB _ i hix (by rw [hix] at hroom; simpa using hroom)
    rw [hix, Int.toNat_natCast, XD] at hroom
    rw [XD] at hst
    rw [hix] at hi
    have HS := Lib.hid hsp
    have HS2 := Lib.hid hst
    clear hsp hst hix hpos hne
    have t2 : decide ((0 : Int) ≤ (i : Int)) = true := decide_eq_true (by omega)
    have w1 : IntKind.i64.wrap ((i : Int) + 1) = (i : Int) + 1 := IntWalk.i64_in _ (by omega)
    have q2 : (i : Int) + 1 ≤ (rest.size : Int) := by omega
    have q4 : (0 : Int) ≤ (i : Int) + 1 := by omega
    have q5 : ((i : Int) + 1).toNat = i + 1 := by omega
    gi_wp2_with (refine ⟨trivial, ?_⟩; gi_at_call 92; refine (callsIn_wide.2 hi).mono ?_; rintro e w' ⟨rfl, rfl⟩)
    gi_region
    have hJ2 := hJd _ _ (hJb _ _ (Value.string (rest.extract (i + 1) rest.size)) hJ)
    have dB := d0.set (Value.string (rest.extract (i + 1) rest.size))
    have hb2 := (hb.setCell (p := ⟨Bs, 0, none⟩) hnB (Value.string (rest.extract (i + 1) rest.size))).drew
    have hm := KF d0
    obtain ⟨fn, tmps, assign, body, hy, hR⟩ := hY pre ⟨rest.extract 0 (i + 1), by rw [KG]; omega⟩ _ hJ2 (by omega)
    clear hY hi hJ hJ2 hb d0 k0 f0
    replace dB := Jq dB (W' := (World.setCell _ ⟨Bs, 0, none⟩ (Value.string (rest.extract (i + 1) rest.size))).drew) rfl
    generalize (World.setCell _ ⟨Bs, 0, none⟩ (Value.string (rest.extract (i + 1) rest.size))).drew = w2 at hy hR dB hb2 ⊢
    gi_wp2
    refine hR.mono ?_
    rintro e W3 (⟨rfl, hJ3, hk3⟩ | ⟨rfl, hJx3⟩)
    ·have d0' := Jq dB hk3.2
     have hb3 := hb2.trans hk3.1
     have HK := Lib.hid hk3
     clear hk3 hR hy
     gi_wp2
     refine ⟨⟨pre ++ [⟨rest.extract 0 (i + 1), by rw [KG]; omega⟩], rest.extract (i + 1) rest.size, d0', ?_, ?_, hJ3, hb3⟩, ?_⟩
     ·rw [HS.out, HS2.out, KH, zWf]
      simp [ll]
     ·rw [KH]; simp; omega
     ·rw [KF d0', hm, KH]; omega
    ·gi_wp2
     refine bodyPost_ret (results_none rfl _ _ _) rfl ?_
     refine ⟨⟨_, rfl⟩, .inr ⟨pre ++ [⟨rest.extract 0 (i + 1), by rw [KG]; omega⟩], ?_, hJx3⟩⟩
     rw [HS.out, HS2.out]
     exact ⟨kZ (rest.size - (i + 1)) (rest.data.toList.drop (i + 1)), by simp [ll]⟩
   ·have t2 : decide ((0 : Int) ≤ Lib.indexByte rest.data.toList 10) = false := decide_eq_false hpos
    have hst := zjC rest.data.toList (by omega) hne
    rw [XD] at hst
    have HS := Lib.hid hsp
    have HS2 := Lib.hid hst
    clear hsp hst hne
    generalize Lib.indexByte rest.data.toList 10 = i at hi hpos t2
    have hJ2 := hJb _ _ (Value.string ⟨#[]⟩) hJ
    have dB := d0.set (Value.string ⟨#[]⟩)
    have hb2 := hb.setCell (p := ⟨Bs, 0, none⟩) hnB (Value.string ⟨#[]⟩)
    have hm := KF d0
    obtain ⟨fn, tmps, assign, body, hy, hR⟩ := hY pre ⟨rest, by omega⟩ _ hJ2 (by omega)
    clear hY hJ hJ2 hb
    gi_wp2_with (refine ⟨trivial, ?_⟩; gi_at_call 92; refine (callsIn_wide.2 hi).mono ?_; rintro e w' ⟨rfl, rfl⟩)
    refine hR.mono ?_
    rintro e W3 (⟨rfl, hJ3, hk3⟩ | ⟨rfl, hJx3⟩)
    ·have d0' := Jq dB hk3.2
     have hb3 := hb2.trans hk3.1
     have HK := Lib.hid hk3
     clear hk3 hR hy
     gi_wp2
     refine ⟨⟨pre ++ [⟨rest, by omega⟩], ⟨#[]⟩, d0', ?_, ?_, hJ3, hb3⟩, ?_⟩
     ·rw [HS.out, HS2.out, show (⟨#[]⟩ : ByteArray).size = 0 from rfl]; simp [ll, kZ]
     ·rw [show (⟨#[]⟩ : ByteArray).size = 0 from rfl, List.length_append, List.length_singleton]; omega
     ·rw [KF d0', hm, show (⟨#[]⟩ : ByteArray).size = 0 from rfl]; omega
    ·gi_wp2
     refine bodyPost_ret (results_none rfl _ _ _) rfl ?_
     refine ⟨⟨_, rfl⟩, .inr ⟨pre ++ [⟨rest, by omega⟩], ?_, hJx3⟩⟩
     rw [HS.out, HS2.out]
     exact ⟨[], by simp [ll]⟩
theorem zzL (n : Nat) (hn : 1 ≤ n) (Bs n₀ : Nat) (hn0 : 0 < n₀) (hnB : n₀ ≤ Bs) (s : ByteArray) (hs : s.size ≤ 1000000000) (w : World) (hB : Bs < w.heap.size) (b0 : Boxed w Bs 9 (.string s)) :
  zvL Fence.wide n Tryz.prog 115 #[.pointer (some ⟨Bs, 0, none⟩)] (fun x : Lb => #[Value.string x.1]) Bs (Jz n₀ Bs)
   (fun ys => ll ys = kZ s.size s.data.toList) (fun pre => ll pre <+: kZ s.size s.data.toList) (s.size + 1) w := fun l J Jx W hW hJa _ hJb _ hY h0 =>
 zvR n hn l Bs n₀ hn0 hnB s hs J Jx (fun pre A hA => hJa pre A A.drew none hA ⟨rfl, rfl, rfl, Nat.le_refl _, fun _ _ _ => rfl⟩ (fun r e => by cases e)) hJb hY W (Jq b0 (hW.block _ hB)) h0
end Go.Proofs.YtaifemkokfoadaaGreatDoor
namespace Go.Proofs.YtaifemkokfoadaaGreatDoor
open Go.RowKit Go.Shelf Go.Proofs.zx.zK Go.Proofs.zx.zU Go.Proofs.zx.zN Go.Proofs.YtaifemkokfoadaaGreatDoor.PX
attribute [local go_sem] Oper.semAt_some
set_option linter.unusedSimpArgs false
set_option linter.unusedVariables false
theorem KI (c : UInt8) : ∀ (s p : List UInt8), p ∈ uW c s → p.length ≤ s.length
 | [], p, h => by rw [List.mem_singleton.1 h]; exact Nat.le_refl _
 | x :: s, p, h => by
  unfold uW at h
  split at h
  ·rcases List.mem_cons.1 h with rfl | h
   ·exact Nat.zero_le _
   ·have := KI c s p h; simp only [List.length_cons]; omega
  ·cases hc : uW c s with
   | nil => exact absurd hc (P7 c s)
   | cons q qs =>
    rw [hc] at h
    rcases List.mem_cons.1 h with rfl | h
    ·have := KI c s q (by rw [hc]; exact List.mem_cons_self ..); simp only [List.length_cons]; omega
    ·have := KI c s p (by rw [hc]; exact List.mem_cons_of_mem _ h); simp only [List.length_cons]; omega
theorem rV (c : UInt8) : ∀ s : List UInt8, (uW c s).length ≤ s.length + 1
 | [] => Nat.le_refl _
 | x :: s => by
  have ih := rV c s
  unfold uW
  split
  ·simp only [List.length_cons]; omega
  ·cases hc : uW c s with
   | nil => exact absurd hc (P7 c s)
   | cons q qs => rw [hc] at ih; simp only [List.length_cons] at ih ⊢; omega
theorem zzM (t : ByteArray) : ∀ s ∈ kU t, s.size ≤ t.size := fun s hs => by
 rw [WM] at hs
 obtain ⟨p, hp, rfl⟩ := List.mem_map.1 hs
 have := KI 32 _ p hp
 rw [vC]; rwa [XD] at this
theorem zjD (t : ByteArray) : (kU t).length ≤ t.size + 1 := by
 rw [WM, List.length_map]
 have := rV 32 t.data.toList
 rwa [XD] at this
theorem zzu (t : ByteArray) : (kU t).length = Lib.countB t ⟨#[32]⟩ + 1 := Lib.splitB_all ⟨#[32]⟩ (by decide) 0 _ t rfl
theorem zjE (l : ByteArray) : (wh l).size ≤ l.size := by
 unfold wh
 rw [vC]
 unfold Lib.trimSuffix
 split
 ·rw [List.length_take, XD]; omega
 ·rw [XD]; exact Nat.le_refl _
theorem zvS (f : vZ) : ∀ ws : List ByteArray, (uo f ws).2.l3.length ≤ f.l3.length + 1 ∧ (uo f ws).2.l4.length ≤ f.l4.length + 1 ∧ (uo f ws).2.l5.length ≤ f.l5.length + 1
 | [] => ⟨Nat.le_succ _, Nat.le_succ _, Nat.le_succ _⟩
 | [_] => ⟨Nat.le_succ _, Nat.le_succ _, Nat.le_succ _⟩
 | w0 :: w1 :: r => by
  rw [uo]
  repeat' split
  all_goals simp
theorem JN {W W' : World} {row : Option Nat} {k : Nat} {cs : Array Value} {t : TypeId} (h : W.heap[k]? = some (.cells cs t (0, 0))) (hg : W.grownBy W' row) (hr : ∀ r, row = some r → ∃ o : Obj, W.heap[r]? = some o ∧ o.isCells = false) : W'.heap[k]? = some (.cells cs t (0, 0)) :=
 qx h hg (fun e => by obtain ⟨o, ho, hn⟩ := hr k e.symm; rw [h] at ho; cases ho; cases hn)
theorem bZ {α : Type} {d : Kd α} {e base : Nat} {W W' : World} {row : Option Nat} {v : Value} {xs : List α} (h : d.R e W base (fun _ => True) v xs) (hg : W.grownBy W' row) (hr : ∀ r, row = some r → ∃ o : Obj, W.heap[r]? = some o ∧ o.isCells = false) : d.R e W' base (fun _ => True) v xs :=
 Kd.yN (Kd.Y8 (Kd.jv h) hg (fun k hk e => by
  obtain ⟨_, _, _, q, hq, cells, hc⟩ := hk
  obtain ⟨o, ho, hn⟩ := hr k e.symm
  rw [hc] at ho; cases ho; cases hn)) (fun _ _ => trivial)
theorem fJ {α : Type} {d : Kd α} {e base : Nat} {W : World} {v : Value} {xs : List α} (h : d.R e W base (fun _ => True) v xs) {b j : Nat} (hb : b < base) (u : Value) : d.R e (W.setCell ⟨b, j, none⟩ u) base (fun _ => True) v xs :=
 Kd.yN (Kd.qy (p := ⟨b, j, none⟩) (Kd.yN (Kd.jv h) (ok' := fun k => k ≠ b) (fun k hk => by have := hk.2.1; omega)) (fun _ hk => hk) u) (fun _ _ => trivial)
theorem zjF {base B : Nat} {W W' : World} {row : Option Nat} {f : vZ} (h : uP base B W f) (hg : W.grownBy W' row) (hr : ∀ r, row = some r → ∃ o : Obj, W.heap[r]? = some o ∧ o.isCells = false) : uP base B W' f := by
 obtain ⟨v3, v4, v5, h0, h3, h4, h5⟩ := h
 exact ⟨v3, v4, v5, JN h0 hg hr, bZ h3 hg hr, bZ h4 hg hr, bZ h5 hg hr⟩
theorem zjG {base B : Nat} {W : World} {f : vZ} (h : uP base B W f) {b j : Nat} (hne : B ≠ b) (hb : b < base) (u : Value) : uP base B (W.setCell ⟨b, j, none⟩ u) f := by
 obtain ⟨v3, v4, v5, h0, h3, h4, h5⟩ := h
 exact ⟨v3, v4, v5, vE (p := ⟨b, j, none⟩) h0 hne u, fJ h3 hb u, fJ h4 hb u, fJ h5 hb u⟩
theorem pY {base B : Nat} {W W' : World} (h : vo base B W W') {k : Nat} {o : Obj} (hk : W.heap[k]? = some o) (hb : k < base) (hne : k ≠ B) : W'.heap[k]? = some o := (h.2.2 k hb hne).trans hk
def UA (h base : Nat) (w : World) (pre : List Lb) (W : World) : Prop := ∃ f, uE vZ.zero (pre.map (·.1)) = some f ∧ uP base (h + 1 + 1) W f ∧ W.heap[h]? = some (.cells #[.string (⟨#[]⟩ : ByteArray), .bool false, .int .i64 0, .slice none 0 0, .slice none 0 0, .slice none 0 0] 26 (0, 0)) ∧ Boxed W (h + 1) 32 (.int .i64 0) ∧ Below h w W ∧ base ≤ W.heap.size ∧ (f.l3.length ≤ 401 ∧ f.l4.length ≤ 51 ∧ f.l5.length ≤ 501)
def rY (h : Nat) (w : World) (pre : List Lb) (W : World) : Prop := uE vZ.zero (pre.map (·.1)) = none ∧ W.heap[h]? = some (.cells #[.string (⟨#[]⟩ : ByteArray), .bool false, .int .i64 0, .slice none 0 0, .slice none 0 0, .slice none 0 0] 26 (0, 0)) ∧ Boxed W (h + 1) 32 (.int .i64 4) ∧ Below h w W
theorem zjH (h base : Nat) (w : World) (hh : h ≤ w.heap.size) (hb : h ≤ base) : OwnFrom base (UA h base w) := by
 rintro pre A B row ⟨f, hf, h0, h1, h2, h3, h4, h5⟩ hg hr
 have hr' : ∀ r, row = some r → ∃ o : Obj, A.heap[r]? = some o ∧ o.isCells = false := fun r e => (hr r e).2
 exact ⟨f, hf, zjF h0 hg hr', JN h1 hg hr', JN h2 hg hr', ownFrom_below (β := Unit) hh hb () A B row h3 hg hr, Nat.le_trans h4 hg.size, h5⟩
theorem zjI (h base : Nat) (w : World) (hh : h ≤ w.heap.size) (hb : h ≤ base) : OwnFrom base (rY h w) := by
 rintro pre A B row ⟨hf, h1, h2, h3⟩ hg hr
 have hr' : ∀ r, row = some r → ∃ o : Obj, A.heap[r]? = some o ∧ o.isCells = false := fun r e => (hr r e).2
 exact ⟨hf, JN h1 hg hr', JN h2 hg hr', ownFrom_below (β := Unit) hh hb () A B row h3 hg hr⟩
theorem zjL (h base : Nat) (w : World) (hb : h + 1 + 1 + 1 < base) : wC (h + 1 + 1 + 1) (UA h base w) := by
 rintro pre W u ⟨f, hf, h0, h1, h2, h3, h4, h5⟩
 exact ⟨f, hf, zjG h0 (by omega) hb u, vE (p := ⟨h + 1 + 1 + 1, 0, none⟩) h1 (by show h ≠ h + 1 + 1 + 1; omega) u, h2.other (by omega) u, h3.setCell (p := ⟨h + 1 + 1 + 1, 0, none⟩) (by show h ≤ h + 1 + 1 + 1; omega) u, by simpa using h4, h5⟩
theorem zjM (h : Nat) (w : World) : wC (h + 1 + 1 + 1) (rY h w) := by
 rintro pre W u ⟨hf, h1, h2, h3⟩
 exact ⟨hf, vE (p := ⟨h + 1 + 1 + 1, 0, none⟩) h1 (by show h ≠ h + 1 + 1 + 1; omega) u, h2.other (by omega) u, h3.setCell (p := ⟨h + 1 + 1 + 1, 0, none⟩) (by show h ≤ h + 1 + 1 + 1; omega) u⟩
theorem bL {base B : Nat} {W W' : World} (h : vo base B W W') (b : Nat) : KeepsFrom b W W' := ⟨h.1.size, fun k o _ hk ho => h.2.1 k o hk ho⟩
theorem JW {base B n₀ : Nat} {W W' : World} (h : vo base B W W') (hn : n₀ ≤ B) (hn2 : n₀ ≤ base) : Below n₀ W W' := ⟨h.1.os, h.1.tape, h.1.output, h.1.size, fun k hk => h.2.2 k (by omega) (by omega)⟩
theorem zzN {base B n₀ Bs : Nat} {W W' : World} (h : vo base B W W') (hn : n₀ ≤ B) (hn2 : n₀ ≤ base) (hb : Bs < base) (hne : Bs ≠ B) : Jz n₀ Bs W W' := ⟨JW h hn hn2, h.2.2 Bs hb hne⟩
theorem PZ (pre : List Lb) (x : Lb) (f : vZ) (h : uE vZ.zero (pre.map (·.1)) = some f) : uE vZ.zero ((pre ++ [x]).map (·.1)) = kN f x.1 := by
 rw [List.map_append, Xu, h, Option.bind_some, List.map_cons, List.map_nil, uE]
 cases kN f x.1 <;> rfl
theorem zjN {h base : Nat} {w W Wr : World} {pre : List Lb} {x : Lb} {f g : vZ} (hI : UA h base w pre W) (hf : uE vZ.zero (pre.map (·.1)) = some f) (hK : vo base (h + 1 + 1) W Wr) (hF : uP base (h + 1 + 1) Wr g) (hg : kN f x.1 = some g) (hl : g.l3.length ≤ 401 ∧ g.l4.length ≤ 51 ∧ g.l5.length ≤ 501) (hb : h + 1 + 1 + 1 < base) :
  KeepsFrom base W Wr ∧ Jz h (h + 1 + 1 + 1) W Wr ∧ UA h base w (pre ++ [x]) Wr := by
 obtain ⟨f', hf', h0, h1, h2, h3, h4, h5⟩ := hI
 exact ⟨bL hK _, zzN hK (by omega) (by omega) hb (by omega), g, by rw [PZ pre x f hf]; exact hg, hF, pY hK h1 (by omega) (by omega), pY hK h2 (by omega) (by omega), h3.trans (JW hK (by omega) (by omega)), Nat.le_trans h4 hK.1.size, hl⟩
theorem QE {h base : Nat} {w W Wr : World} {pre : List Lb} {x : Lb} {f : vZ} (hI : UA h base w pre W) (hf : uE vZ.zero (pre.map (·.1)) = some f) (hK : vo base (h + 1 + 1) W Wr) (hg : kN f x.1 = none) (hb : h + 1 + 1 + 1 < base) :
  KeepsFrom base W (((((((((((((Wr).setCell ⟨h, 0, none⟩ (.string (⟨#[]⟩ : ByteArray)))).setCell ⟨h, 1, none⟩ (.bool false))).setCell ⟨h, 2, none⟩ (.int .i64 0))).setCell ⟨h, 3, none⟩ (.slice none 0 0))).setCell ⟨h, 4, none⟩ (.slice none 0 0))).setCell ⟨h, 5, none⟩ (.slice none 0 0)).setCell ⟨h + 1, 0, none⟩ (.int .i64 4)) ∧ rY h w (pre ++ [x]) (((((((((((((Wr).setCell ⟨h, 0, none⟩ (.string (⟨#[]⟩ : ByteArray)))).setCell ⟨h, 1, none⟩ (.bool false))).setCell ⟨h, 2, none⟩ (.int .i64 0))).setCell ⟨h, 3, none⟩ (.slice none 0 0))).setCell ⟨h, 4, none⟩ (.slice none 0 0))).setCell ⟨h, 5, none⟩ (.slice none 0 0)).setCell ⟨h + 1, 0, none⟩ (.int .i64 4)) := by
 obtain ⟨f', hf', h0, h1, h2, h3, h4, h5⟩ := hI
 have b1 := pY hK h1 (by omega) (by omega)
 have b2 : Boxed Wr (h + 1) 32 (.int .i64 0) := pY hK h2 (by omega) (by omega)
 have hk := bL hK base
 have hw := h3.trans (JW (n₀ := h) hK (by omega) (by omega))
 replace b1 := zD (cs' := #[.string (⟨#[]⟩ : ByteArray), .bool false, .int .i64 0, .slice none 0 0, .slice none 0 0, .slice none 0 0]) b1 0 (.string (⟨#[]⟩ : ByteArray)) rfl
 replace b2 := b2.other (B' := h) (by omega) (.string (⟨#[]⟩ : ByteArray))
 replace hk := hk.trans ((KeepsOthers.setCell _ ⟨h, 0, none⟩ (.string (⟨#[]⟩ : ByteArray))).from _)
 replace hw := hw.setCell (p := ⟨h, 0, none⟩) (Nat.le_refl _) (.string (⟨#[]⟩ : ByteArray))
 replace b1 := zD (cs' := #[.string (⟨#[]⟩ : ByteArray), .bool false, .int .i64 0, .slice none 0 0, .slice none 0 0, .slice none 0 0]) b1 1 (.bool false) rfl
 replace b2 : Boxed _ (h + 1) 32 (.int .i64 0) := vE (p := ⟨h, 1, none⟩) b2 (by show h + 1 ≠ h; omega) (.bool false)
 replace hk := hk.trans ((KeepsOthers.setCell _ ⟨h, 1, none⟩ (.bool false)).from _)
 replace hw := hw.setCell (p := ⟨h, 1, none⟩) (Nat.le_refl _) (.bool false)
 replace b1 := zD (cs' := #[.string (⟨#[]⟩ : ByteArray), .bool false, .int .i64 0, .slice none 0 0, .slice none 0 0, .slice none 0 0]) b1 2 (.int .i64 0) rfl
 replace b2 : Boxed _ (h + 1) 32 (.int .i64 0) := vE (p := ⟨h, 2, none⟩) b2 (by show h + 1 ≠ h; omega) (.int .i64 0)
 replace hk := hk.trans ((KeepsOthers.setCell _ ⟨h, 2, none⟩ (.int .i64 0)).from _)
 replace hw := hw.setCell (p := ⟨h, 2, none⟩) (Nat.le_refl _) (.int .i64 0)
 replace b1 := zD (cs' := #[.string (⟨#[]⟩ : ByteArray), .bool false, .int .i64 0, .slice none 0 0, .slice none 0 0, .slice none 0 0]) b1 3 (.slice none 0 0) rfl
 replace b2 : Boxed _ (h + 1) 32 (.int .i64 0) := vE (p := ⟨h, 3, none⟩) b2 (by show h + 1 ≠ h; omega) (.slice none 0 0)
 replace hk := hk.trans ((KeepsOthers.setCell _ ⟨h, 3, none⟩ (.slice none 0 0)).from _)
 replace hw := hw.setCell (p := ⟨h, 3, none⟩) (Nat.le_refl _) (.slice none 0 0)
 replace b1 := zD (cs' := #[.string (⟨#[]⟩ : ByteArray), .bool false, .int .i64 0, .slice none 0 0, .slice none 0 0, .slice none 0 0]) b1 4 (.slice none 0 0) rfl
 replace b2 : Boxed _ (h + 1) 32 (.int .i64 0) := vE (p := ⟨h, 4, none⟩) b2 (by show h + 1 ≠ h; omega) (.slice none 0 0)
 replace hk := hk.trans ((KeepsOthers.setCell _ ⟨h, 4, none⟩ (.slice none 0 0)).from _)
 replace hw := hw.setCell (p := ⟨h, 4, none⟩) (Nat.le_refl _) (.slice none 0 0)
 replace b1 := zD (cs' := #[.string (⟨#[]⟩ : ByteArray), .bool false, .int .i64 0, .slice none 0 0, .slice none 0 0, .slice none 0 0]) b1 5 (.slice none 0 0) rfl
 replace b2 : Boxed _ (h + 1) 32 (.int .i64 0) := vE (p := ⟨h, 5, none⟩) b2 (by show h + 1 ≠ h; omega) (.slice none 0 0)
 replace hk := hk.trans ((KeepsOthers.setCell _ ⟨h, 5, none⟩ (.slice none 0 0)).from _)
 replace hw := hw.setCell (p := ⟨h, 5, none⟩) (Nat.le_refl _) (.slice none 0 0)
 exact ⟨hk.trans ((KeepsOthers.setCell _ ⟨h + 1, 0, none⟩ (.int .i64 4)).from _), by rw [PZ pre x f hf]; exact hg, vE (p := ⟨h + 1, 0, none⟩) b1 (by show h ≠ h + 1; omega) _, b2.set _, hw.setCell (p := ⟨h + 1, 0, none⟩) (by show h ≤ h + 1; omega) _⟩
theorem zjO {f : vZ} {l : ByteArray} (h : (kU (wh l)).length < 2 ∨ 400 < f.l3.length ∨ 50 < f.l4.length ∨ 500 < f.l5.length) : kN f l = none := by unfold kN; rw [if_pos h]
theorem zvT {f : vZ} {l : ByteArray} (h : (uo f (kU (wh l))).1 = false) : kN f l = none := by
 unfold kN
 split
 ·rfl
 ·rw [h]; rfl
theorem zjP {f : vZ} {l : ByteArray} (h : ¬ ((kU (wh l)).length < 2 ∨ 400 < f.l3.length ∨ 50 < f.l4.length ∨ 500 < f.l5.length)) (h1 : (uo f (kU (wh l))).1 = true) : kN f l = some (uo f (kU (wh l))).2 := by unfold kN; rw [if_neg h, if_pos h1]
theorem zvU {h : Nat} {W : World} {y0 y1 y2 y3 y4 y5 e0 : Value} (x0 x1 x2 x3 x4 x5 e : Value) (b1 : W.heap[h]? = some (.cells #[y0, y1, y2, y3, y4, y5] 26 (0, 0))) (b2 : Boxed W (h + 1) 32 e0) :
  (((((((((((((W).setCell ⟨h, 0, none⟩ (x0))).setCell ⟨h, 1, none⟩ (x1))).setCell ⟨h, 2, none⟩ (x2))).setCell ⟨h, 3, none⟩ (x3))).setCell ⟨h, 4, none⟩ (x4))).setCell ⟨h, 5, none⟩ (x5)).setCell ⟨h + 1, 0, none⟩ e).heap[h]? = some (.cells #[x0, x1, x2, x3, x4, x5] 26 (0, 0)) ∧ Boxed (((((((((((((W).setCell ⟨h, 0, none⟩ (x0))).setCell ⟨h, 1, none⟩ (x1))).setCell ⟨h, 2, none⟩ (x2))).setCell ⟨h, 3, none⟩ (x3))).setCell ⟨h, 4, none⟩ (x4))).setCell ⟨h, 5, none⟩ (x5)).setCell ⟨h + 1, 0, none⟩ e) (h + 1) 32 e ∧ (∀ k, k ≠ h → k ≠ h + 1 → (((((((((((((W).setCell ⟨h, 0, none⟩ (x0))).setCell ⟨h, 1, none⟩ (x1))).setCell ⟨h, 2, none⟩ (x2))).setCell ⟨h, 3, none⟩ (x3))).setCell ⟨h, 4, none⟩ (x4))).setCell ⟨h, 5, none⟩ (x5)).setCell ⟨h + 1, 0, none⟩ e).heap[k]? = W.heap[k]?) ∧ (∀ (n : Nat) (w : World), n ≤ h → Below n w W → Below n w (((((((((((((W).setCell ⟨h, 0, none⟩ (x0))).setCell ⟨h, 1, none⟩ (x1))).setCell ⟨h, 2, none⟩ (x2))).setCell ⟨h, 3, none⟩ (x3))).setCell ⟨h, 4, none⟩ (x4))).setCell ⟨h, 5, none⟩ (x5)).setCell ⟨h + 1, 0, none⟩ e)) := by
 replace b1 := zD (cs' := #[x0, y1, y2, y3, y4, y5]) b1 0 x0 rfl
 replace b2 : Boxed _ (h + 1) 32 e0 := vE (p := ⟨h, 0, none⟩) b2 (by show h + 1 ≠ h; omega) x0
 replace b1 := zD (cs' := #[x0, x1, y2, y3, y4, y5]) b1 1 x1 rfl
 replace b2 : Boxed _ (h + 1) 32 e0 := vE (p := ⟨h, 1, none⟩) b2 (by show h + 1 ≠ h; omega) x1
 replace b1 := zD (cs' := #[x0, x1, x2, y3, y4, y5]) b1 2 x2 rfl
 replace b2 : Boxed _ (h + 1) 32 e0 := vE (p := ⟨h, 2, none⟩) b2 (by show h + 1 ≠ h; omega) x2
 replace b1 := zD (cs' := #[x0, x1, x2, x3, y4, y5]) b1 3 x3 rfl
 replace b2 : Boxed _ (h + 1) 32 e0 := vE (p := ⟨h, 3, none⟩) b2 (by show h + 1 ≠ h; omega) x3
 replace b1 := zD (cs' := #[x0, x1, x2, x3, x4, y5]) b1 4 x4 rfl
 replace b2 : Boxed _ (h + 1) 32 e0 := vE (p := ⟨h, 4, none⟩) b2 (by show h + 1 ≠ h; omega) x4
 replace b1 := zD (cs' := #[x0, x1, x2, x3, x4, x5]) b1 5 x5 rfl
 replace b2 : Boxed _ (h + 1) 32 e0 := vE (p := ⟨h, 5, none⟩) b2 (by show h + 1 ≠ h; omega) x5
 refine ⟨vE (p := ⟨h + 1, 0, none⟩) b1 (by show h ≠ h + 1; omega) _, b2.set _, fun k k1 k2 => ?_, fun n w hn hb => ?_⟩
 ·rw [Below.heap_setCell _ ⟨h + 1, 0, none⟩ e k k2, Below.heap_setCell _ ⟨h, 5, none⟩ x5 k k1, Below.heap_setCell _ ⟨h, 4, none⟩ x4 k k1, Below.heap_setCell _ ⟨h, 3, none⟩ x3 k k1, Below.heap_setCell _ ⟨h, 2, none⟩ x2 k k1, Below.heap_setCell _ ⟨h, 1, none⟩ x1 k k1, Below.heap_setCell _ ⟨h, 0, none⟩ x0 k k1]
 ·exact ((((((hb.setCell (p := ⟨h, 0, none⟩) hn x0).setCell (p := ⟨h, 1, none⟩) hn x1).setCell (p := ⟨h, 2, none⟩) hn x2).setCell (p := ⟨h, 3, none⟩) hn x3).setCell (p := ⟨h, 4, none⟩) hn x4).setCell (p := ⟨h, 5, none⟩) hn x5).setCell (p := ⟨h + 1, 0, none⟩) (by show n ≤ h + 1; omega) e
theorem zyh {P : Program} {W : World} {f : ResultVar → Sem Value} {r1 r2 : ResultVar} {v1 v2 : Value} (h1 : (f r1).run P W = .ok v1 W) (h2 : (f r2).run P W = .ok v2 W) : ([r1, r2].mapM f).run P W = .ok [v1, v2] W := by
 simp [List.mapM_cons, h1, h2]
theorem XH {tmps : Array Value} {W : World} {g : Nat} {y0 y1 y2 y3 y4 y5 e : Value} (h2 : tmps.getD 2 undef = .pointer (some ⟨g, 0, none⟩)) (h3 : tmps.getD 3 undef = .pointer (some ⟨g + 1, 0, none⟩)) (b1 : W.heap[g]? = some (.cells #[y0, y1, y2, y3, y4, y5] 26 (0, 0))) (b2 : Boxed W (g + 1) 32 e) :
  (results Tryz.f22 tmps).run Tryz.prog W = .ok (.tuple #[.agg #[y0, y1, y2, y3, y4, y5], e]) W := by
 have c2 := b2.cell
 have hl := run_loadVar_row W g 26 26 #[y0, y1, y2, y3, y4, y5] (0, 0) _ b1 Tryz.underlying26 rfl (by kernel_rfl)
 have hs : (loadVar 32 ⟨g + 1, 0, none⟩).run Tryz.prog W = .ok e W := by simp [go_sem, c2]
 unfold results
 rw [show Tryz.f22.results = [ResultVar.cell 2 26, ResultVar.cell 3 32].toArray from rfl, List.mapM_toArray]
 simp only [Sem.run_bind, Sem.run_map]
 rw [zyh (v1 := .agg #[y0, y1, y2, y3, y4, y5]) (v2 := e)]
 ·simp
 ·show (do loadVar 26 (← asAddr (tmps.getD 2 undef))).run Tryz.prog W = _
  rw [h2]
  simp [asAddr, hl]
 ·show (do loadVar 32 (← asAddr (tmps.getD 3 undef))).run Tryz.prog W = _
  rw [h3]
  simp only [asAddr, Sem.run_bind, Sem.run_pure, Result.andThen_ok]
  exact hs
theorem PV {w W2 : World} {D : Nat} {y0 y1 y2 y3 y4 y5 e0 : Value} (x0 x1 x2 x3 x4 x5 e : Value) (u1 : W2.heap[w.heap.size]? = some (.cells #[y0, y1, y2, y3, y4, y5] 26 (0, 0))) (u2 : Boxed W2 (w.heap.size + 1) 32 e0) (hD : w.heap.size + 1 < D) (hK : W2.heap[D]? = some (.deferred (some []))) (hB : Below w.heap.size w W2) :
  (((((((((((((W2).setCell ⟨w.heap.size, 0, none⟩ (x0))).setCell ⟨w.heap.size, 1, none⟩ (x1))).setCell ⟨w.heap.size, 2, none⟩ (x2))).setCell ⟨w.heap.size, 3, none⟩ (x3))).setCell ⟨w.heap.size, 4, none⟩ (x4))).setCell ⟨w.heap.size, 5, none⟩ (x5)).setCell ⟨w.heap.size + 1, 0, none⟩ e).heap[D]? = some (.deferred (some [])) ∧ ((((((((((((((W2).setCell ⟨w.heap.size, 0, none⟩ (x0))).setCell ⟨w.heap.size, 1, none⟩ (x1))).setCell ⟨w.heap.size, 2, none⟩ (x2))).setCell ⟨w.heap.size, 3, none⟩ (x3))).setCell ⟨w.heap.size, 4, none⟩ (x4))).setCell ⟨w.heap.size, 5, none⟩ (x5)).setCell ⟨w.heap.size + 1, 0, none⟩ e).putObj D (.deferred none)).heap[w.heap.size]? = some (.cells #[x0, x1, x2, x3, x4, x5] 26 (0, 0)) ∧ Boxed ((((((((((((((W2).setCell ⟨w.heap.size, 0, none⟩ (x0))).setCell ⟨w.heap.size, 1, none⟩ (x1))).setCell ⟨w.heap.size, 2, none⟩ (x2))).setCell ⟨w.heap.size, 3, none⟩ (x3))).setCell ⟨w.heap.size, 4, none⟩ (x4))).setCell ⟨w.heap.size, 5, none⟩ (x5)).setCell ⟨w.heap.size + 1, 0, none⟩ e).putObj D (.deferred none)) (w.heap.size + 1) 32 e ∧ Below w.heap.size w ((((((((((((((W2).setCell ⟨w.heap.size, 0, none⟩ (x0))).setCell ⟨w.heap.size, 1, none⟩ (x1))).setCell ⟨w.heap.size, 2, none⟩ (x2))).setCell ⟨w.heap.size, 3, none⟩ (x3))).setCell ⟨w.heap.size, 4, none⟩ (x4))).setCell ⟨w.heap.size, 5, none⟩ (x5)).setCell ⟨w.heap.size + 1, 0, none⟩ e).putObj D (.deferred none)) ∧
  (∀ (α : Type) (d : Kd α) (t base : Nat) (v : Value) (xs : List α), w.heap.size + 1 < base → d.R t W2 base (fun _ => True) v xs → d.R t ((((((((((((((W2).setCell ⟨w.heap.size, 0, none⟩ (x0))).setCell ⟨w.heap.size, 1, none⟩ (x1))).setCell ⟨w.heap.size, 2, none⟩ (x2))).setCell ⟨w.heap.size, 3, none⟩ (x3))).setCell ⟨w.heap.size, 4, none⟩ (x4))).setCell ⟨w.heap.size, 5, none⟩ (x5)).setCell ⟨w.heap.size + 1, 0, none⟩ e).putObj D (.deferred none)) w.heap.size (fun _ => True) v xs) := by
 obtain ⟨s1, s2, s3, s4⟩ := zvU x0 x1 x2 x3 x4 x5 e u1 u2
 have hk := (s3 D (by omega) (by omega)).trans hK
 refine ⟨hk, (World.putObj_heap_other (by omega)).trans s1, (World.putObj_heap_other (by omega)).trans s2, (s4 w.heap.size w (Nat.le_refl _) hB).trans (belowK_b (w := w) (Nat.le_refl _) _ D _ _ (by omega) hk rfl rfl), fun α d t base v xs hb hR => ?_⟩
 have h1 := Kd.yN (ok' := fun _ => True) (Kd.Ja (Kd.jv hR) (fun k hk _ => s3 k (by have := hk.2.1; omega) (by have := hk.2.1; omega))) (fun _ _ => trivial)
 exact Kd.jk (bZ h1 (grownBy_putObj' _ D (.deferred none)) (fun r er => by cases er; exact ⟨_, hk, rfl⟩)) (by omega)
set_option maxRecDepth 100000 in
set_option maxHeartbeats 4000000 in
theorem zjR (s : ByteArray) (w : World) (hG : GW w) (hs : s.size ≤ 1000000000) :
  Calls Tryz.prog 22 #[.string s] w fun e w' => ∃ v3 v4 v5, e = .returned (.tuple #[.agg #[.string (vS s).1.a, .bool (vS s).1.b, .int .i64 (vS s).1.c, v3, v4, v5], .int .i64 (vS s).2]) ∧
   Kd.R uy 31 w' w.heap.size (fun _ => True) v3 (vS s).1.l3 ∧ Kd.R uU 86 w' w.heap.size (fun _ => True) v4 (vS s).1.l4 ∧ Kd.R jy 76 w' w.heap.size (fun _ => True) v5 (vS s).1.l5 ∧ Below w.heap.size w w' := by
 have hsz : (0 : Nat) < w.heap.size := by have := hG.inside; omega
 obtain ⟨m, hm⟩ := hG.mx
 generalize hRR : vS s = RR
 have HRR := Lib.hid hRR
 clear hRR
 refine (callsIn_wide (n := 12)).1 ?_
 refine callsIn_of_wp_marks Tryz.func22 rfl trivial ?_ rfl
 simp only [Tryz.ntmps22, List.size_toArray, List.length_cons, List.length_nil, Nat.reduceAdd, Nat.reduceSub, Array.replicate_succ, Array.replicate_zero, List.push_toArray, List.append_toArray, List.nil_append, List.cons_append]
 gi_wp2_with (refine ⟨trivial, ?_⟩; gi_at_call 76; refine (zyg Fence.wide _ trivial rfl _ _).mono ?_; rintro e w' ⟨rfl, rfl⟩)
 obtain ⟨W0, hW0⟩ : ∃ W0, (((w.alloc (.cells #[.string (⟨#[]⟩ : ByteArray), .bool false, .int .i64 0, .slice none 0 0, .slice none 0 0, .slice none 0 0] 26)).alloc (.cells #[.int .i64 0] 32)).alloc (.cells #[.string (⟨#[]⟩ : ByteArray), .bool false, .int .i64 0, .slice none 0 0, .slice none 0 0, .slice none 0 0] 26)).alloc (.cells #[.string s] 9) = W0 := ⟨_, rfl⟩
 have g1 : W0.heap[w.heap.size]? = some (.cells #[.string (⟨#[]⟩ : ByteArray), .bool false, .int .i64 0, .slice none 0 0, .slice none 0 0, .slice none 0 0] 26 (0, 0)) := by rw [← hW0]; exact zV (zV (zV (vY w _) _) _) _
 have g2 : Boxed W0 (w.heap.size + 1) 32 (.int .i64 0) := by
  rw [← hW0]; have := vY (w.alloc (.cells #[.string (⟨#[]⟩ : ByteArray), .bool false, .int .i64 0, .slice none 0 0, .slice none 0 0, .slice none 0 0] 26)) (.cells #[.int .i64 0] 32)
  rw [World.size_alloc] at this; exact zV (zV this _) _
 have g3 : W0.heap[w.heap.size + 1 + 1]? = some (.cells #[.string (⟨#[]⟩ : ByteArray), .bool false, .int .i64 0, .slice none 0 0, .slice none 0 0, .slice none 0 0] 26 (0, 0)) := by
  rw [← hW0]; have := vY ((w.alloc (.cells #[.string (⟨#[]⟩ : ByteArray), .bool false, .int .i64 0, .slice none 0 0, .slice none 0 0, .slice none 0 0] 26)).alloc (.cells #[.int .i64 0] 32)) (.cells #[.string (⟨#[]⟩ : ByteArray), .bool false, .int .i64 0, .slice none 0 0, .slice none 0 0, .slice none 0 0] 26)
  rw [World.size_alloc, World.size_alloc] at this; exact zV this _
 have g4 : Boxed W0 (w.heap.size + 1 + 1 + 1) 9 (.string s) := by
  rw [← hW0]; have := vY (((w.alloc (.cells #[.string (⟨#[]⟩ : ByteArray), .bool false, .int .i64 0, .slice none 0 0, .slice none 0 0, .slice none 0 0] 26)).alloc (.cells #[.int .i64 0] 32)).alloc (.cells #[.string (⟨#[]⟩ : ByteArray), .bool false, .int .i64 0, .slice none 0 0, .slice none 0 0, .slice none 0 0] 26)) (.cells #[.string s] 9)
  rw [World.size_alloc, World.size_alloc, World.size_alloc] at this; exact this
 have gb : Below w.heap.size w W0 := by rw [← hW0]; exact ((((Below.refl _ w).alloc (Nat.le_refl _) _).alloc (by simp) _).alloc (by simp; omega) _).alloc (by simp; omega) _
 have gz : W0.heap.size = w.heap.size + 4 := by rw [← hW0]; simp
 rw [hW0]
 have HW := Lib.hid hW0
 have gz1 := Nat.le_of_eq gz
 have gz2 := Nat.le_of_eq gz.symm
 clear hW0 gz
 have hstart : UA w.heap.size W0.heap.size w [] W0 := ⟨vZ.zero, rfl, ⟨_, _, _, g3, Kd.xE _ _ _ _ _, Kd.xE _ _ _ _ _, Kd.xE _ _ _ _ _⟩, g1, g2, gb, Nat.le_refl _, by decide, by decide, by decide⟩
 refine iF rfl (by omega) (gf := 115) (lb := #[.pointer (some ⟨w.heap.size + 1 + 1 + 1, 0, none⟩)]) rfl trivial (enters_of Tryz.func115 (by kernel_rfl) rfl)
  (zzL _ (by omega) (w.heap.size + 1 + 1 + 1) w.heap.size hsz (by omega) s hs W0 (by omega) g4) (by omega) zQR (zQS (by omega) (by omega)) (fun _ => rfl)
  (fun pre W => UA w.heap.size W0.heap.size w pre W) (fun pre W => rY w.heap.size w pre W) (zjH _ _ _ (Nat.le_refl _) (by omega)) (zjI _ _ _ (Nat.le_refl _) (by omega)) (zjL _ _ _ (by omega)) (zjM _ _) hstart
  (fun x a' _ => a' = { tmps := #[.string s, undef, .pointer (some ⟨w.heap.size, 0, none⟩), .pointer (some ⟨w.heap.size + 1, 0, none⟩), .pointer (some ⟨w.heap.size + 1 + 1, 0, none⟩), .string x.1, undef, undef, undef, .string s, Value.func (.func 115) #[] #[.pointer (some ⟨w.heap.size + 1 + 1 + 1, 0, none⟩)], .string x.1, undef, undef, undef, undef, undef, undef, undef, undef, undef, undef, undef, undef, undef, undef, undef, undef, undef, undef, undef, undef, undef, undef, undef, undef, undef, undef, undef, undef, undef, undef, undef, undef, undef, undef, undef, undef, undef, undef, undef, undef, undef, undef, undef, undef], defers := [] }) (fun _ _ _ _ _ _ hs _ _ => hs) ?assign ?body ?done ?stop
 case assign =>
  intro l pre x W K hi hK
  gi_wp2
  exact hK _ _ (KeepsFrom.refl _ _) ⟨Below.refl _ _, rfl⟩ hi rfl
 case body =>
  rintro l pre x a' W hl ⟨r, hrec⟩ hI rfl hlen
  have HI := Lib.hid hI
  obtain ⟨f, hf, hF, hr1, hr2, hbw, hbs, hl3, hl4, hl5⟩ := hI
  have hGW : GW W := hG.under hbw
  have hx2 := x.2
  have hts := zjE x.1
  have bQ : Calls Tryz.prog 78 #[.string x.1, .string ⟨#[10]⟩] W fun e w' => e = .returned (.string (wh x.1)) ∧ w' = W := Tryz.strings_TrimSuffix x.1 ⟨#[10]⟩ W (by omega)
  have hm2 := (hbw.cell (World.block_lt_of_cell? w _ hm)).trans hm
  have hsplit : Calls Tryz.prog 77 #[.string (wh x.1), .string ⟨#[32]⟩] W fun e w' => e = .returned (.slice (some ⟨W.heap.size, 0, none⟩) (kU (wh x.1)).length (kU (wh x.1)).length) ∧ w' = W.alloc (.cells ((kU (wh x.1)).map Value.string).toArray 9) := by
   rw [zzu]
   exact Tryz.strings_Split (wh x.1) ⟨#[32]⟩ m W (by omega) hm2 (by decide)
  have hwl := zjD (wh x.1)
  have hws := zzM (wh x.1)
  have zyi := @zjO f x.1
  have gno := @zvT f x.1
  have zyl := @zjP f x.1
  generalize kU (wh x.1) = ws at hsplit hwl hws zyi gno zyl
  have zlA := zvS f ws
  have QH := hF
  obtain ⟨v3, v4, v5, b0, r3, r4, r5⟩ := hF
  obtain ⟨A3, c3, rfl⟩ := Kd.yx r3
  obtain ⟨A4, c4, rfl⟩ := Kd.yx r4
  obtain ⟨A5, c5, rfl⟩ := Kd.yx r5
  have Hb0 := Lib.hid b0
  have HF0 := Lib.hid QH
  have HF := Lib.hid hf
  have Wq := Lib.hid hr1
  have Wx := Lib.hid hr2
  have HGF := Lib.hid zyi
  have HGN := Lib.hid gno
  have HGY := Lib.hid zyl
  have zlB := Lib.hid hrec
  have hwn : ws.length ≤ 1000000001 := by omega
  clear b0 r3 r4 r5 QH hf hr1 hr2 zyi gno zyl hrec hm2 hlen
  by_cases q1 : ws.length < 2
  ·have d1 : decide ((ws.length : Int) < 2) = true := decide_eq_true (by omega)
   gi_wp2_with (first | (refine ⟨trivial, ?_⟩; gi_at_call 78; refine (callsIn_wide.2 bQ).mono ?_; rintro e W ⟨rfl, rfl⟩) | (refine ⟨trivial, ?_⟩; gi_at_call 77; refine (callsIn_wide.2 hsplit).mono ?_; rintro e W1 ⟨rfl, hw1⟩; have hb1 : Below W.heap.size W W1 := (by rw [hw1]; exact (Below.refl _ _).alloc (Nat.le_refl _) _); have hg1 : W1.heap[W.heap.size]? = some (.cells (ws.map Value.string).toArray 9 (0, 0)) := (by rw [hw1]; exact vY _ _); clear hw1; have t0 := zf Hb0.out hb1; have k3 : W1.cell? ⟨w.heap.size + 1 + 1, 3, none⟩ = some (.slice A3 f.l3.length c3) := (zk t0 3).trans rfl; have k4 : W1.cell? ⟨w.heap.size + 1 + 1, 4, none⟩ = some (.slice A4 f.l4.length c4) := (zk t0 4).trans rfl; have k5 : W1.cell? ⟨w.heap.size + 1 + 1, 5, none⟩ = some (.slice A5 f.l5.length c5) := (zk t0 5).trans rfl; have HB1 := Lib.hid hb1; have HG1 := Lib.hid hg1; have u1 := zf Wq.out hb1; have u2 : Boxed W1 (w.heap.size + 1) 32 (.int .i64 0) := zf Wx.out hb1; have f0 : W1.cell? ⟨w.heap.size, 0, none⟩ = some (.string (⟨#[]⟩ : ByteArray)) := (zk u1 0).trans rfl; have y0 := zw u1 0; have f1 : W1.cell? ⟨w.heap.size, 1, none⟩ = some (.bool false) := (zk u1 1).trans rfl; have y1 := zw u1 1; have f2 : W1.cell? ⟨w.heap.size, 2, none⟩ = some (.int .i64 0) := (zk u1 2).trans rfl; have y2 := zw u1 2; have f3 : W1.cell? ⟨w.heap.size, 3, none⟩ = some (.slice none 0 0) := (zk u1 3).trans rfl; have y3 := zw u1 3; have f4 : W1.cell? ⟨w.heap.size, 4, none⟩ = some (.slice none 0 0) := (zk u1 4).trans rfl; have y4 := zw u1 4; have f5 : W1.cell? ⟨w.heap.size, 5, none⟩ = some (.slice none 0 0) := (zk u1 5).trans rfl; have y5 := zw u1 5; have f6 := u2.cell; have y6 := u2.frozen; clear hb1 hg1 t0 u1 u2))
   refine ⟨trivial, ?_⟩
   gi_wp2_with fail
   all_goals first | exact QE HI.out HF.out (vo.below (B := w.heap.size + 1 + 1) HB1.out hbs) (HGF.out (.inl q1)) (by omega) | (have hh : some undef = some (Value.bool _) := (by assumption); cases hh)
  have d1 : decide ((ws.length : Int) < 2) = false := decide_eq_false (by omega)
  by_cases q2 : 400 < f.l3.length
  ·have d2 : decide ((400 : Int) < (f.l3.length : Int)) = true := decide_eq_true (by omega)
   gi_wp2_with (first | (refine ⟨trivial, ?_⟩; gi_at_call 78; refine (callsIn_wide.2 bQ).mono ?_; rintro e W ⟨rfl, rfl⟩) | (refine ⟨trivial, ?_⟩; gi_at_call 77; refine (callsIn_wide.2 hsplit).mono ?_; rintro e W1 ⟨rfl, hw1⟩; have hb1 : Below W.heap.size W W1 := (by rw [hw1]; exact (Below.refl _ _).alloc (Nat.le_refl _) _); have hg1 : W1.heap[W.heap.size]? = some (.cells (ws.map Value.string).toArray 9 (0, 0)) := (by rw [hw1]; exact vY _ _); clear hw1; have t0 := zf Hb0.out hb1; have k3 : W1.cell? ⟨w.heap.size + 1 + 1, 3, none⟩ = some (.slice A3 f.l3.length c3) := (zk t0 3).trans rfl; have k4 : W1.cell? ⟨w.heap.size + 1 + 1, 4, none⟩ = some (.slice A4 f.l4.length c4) := (zk t0 4).trans rfl; have k5 : W1.cell? ⟨w.heap.size + 1 + 1, 5, none⟩ = some (.slice A5 f.l5.length c5) := (zk t0 5).trans rfl; have HB1 := Lib.hid hb1; have HG1 := Lib.hid hg1; have u1 := zf Wq.out hb1; have u2 : Boxed W1 (w.heap.size + 1) 32 (.int .i64 0) := zf Wx.out hb1; have f0 : W1.cell? ⟨w.heap.size, 0, none⟩ = some (.string (⟨#[]⟩ : ByteArray)) := (zk u1 0).trans rfl; have y0 := zw u1 0; have f1 : W1.cell? ⟨w.heap.size, 1, none⟩ = some (.bool false) := (zk u1 1).trans rfl; have y1 := zw u1 1; have f2 : W1.cell? ⟨w.heap.size, 2, none⟩ = some (.int .i64 0) := (zk u1 2).trans rfl; have y2 := zw u1 2; have f3 : W1.cell? ⟨w.heap.size, 3, none⟩ = some (.slice none 0 0) := (zk u1 3).trans rfl; have y3 := zw u1 3; have f4 : W1.cell? ⟨w.heap.size, 4, none⟩ = some (.slice none 0 0) := (zk u1 4).trans rfl; have y4 := zw u1 4; have f5 : W1.cell? ⟨w.heap.size, 5, none⟩ = some (.slice none 0 0) := (zk u1 5).trans rfl; have y5 := zw u1 5; have f6 := u2.cell; have y6 := u2.frozen; clear hb1 hg1 t0 u1 u2))
   refine ⟨trivial, ?_⟩
   gi_wp2_with fail
   all_goals first | exact QE HI.out HF.out (vo.below (B := w.heap.size + 1 + 1) HB1.out hbs) (HGF.out (.inr (.inl q2))) (by omega) | (have hh : some undef = some (Value.bool _) := (by assumption); cases hh)
  have d2 : decide ((400 : Int) < (f.l3.length : Int)) = false := decide_eq_false (by omega)
  by_cases q3 : 50 < f.l4.length
  ·have d3 : decide ((50 : Int) < (f.l4.length : Int)) = true := decide_eq_true (by omega)
   gi_wp2_with (first | (refine ⟨trivial, ?_⟩; gi_at_call 78; refine (callsIn_wide.2 bQ).mono ?_; rintro e W ⟨rfl, rfl⟩) | (refine ⟨trivial, ?_⟩; gi_at_call 77; refine (callsIn_wide.2 hsplit).mono ?_; rintro e W1 ⟨rfl, hw1⟩; have hb1 : Below W.heap.size W W1 := (by rw [hw1]; exact (Below.refl _ _).alloc (Nat.le_refl _) _); have hg1 : W1.heap[W.heap.size]? = some (.cells (ws.map Value.string).toArray 9 (0, 0)) := (by rw [hw1]; exact vY _ _); clear hw1; have t0 := zf Hb0.out hb1; have k3 : W1.cell? ⟨w.heap.size + 1 + 1, 3, none⟩ = some (.slice A3 f.l3.length c3) := (zk t0 3).trans rfl; have k4 : W1.cell? ⟨w.heap.size + 1 + 1, 4, none⟩ = some (.slice A4 f.l4.length c4) := (zk t0 4).trans rfl; have k5 : W1.cell? ⟨w.heap.size + 1 + 1, 5, none⟩ = some (.slice A5 f.l5.length c5) := (zk t0 5).trans rfl; have HB1 := Lib.hid hb1; have HG1 := Lib.hid hg1; have u1 := zf Wq.out hb1; have u2 : Boxed W1 (w.heap.size + 1) 32 (.int .i64 0) := zf Wx.out hb1; have f0 : W1.cell? ⟨w.heap.size, 0, none⟩ = some (.string (⟨#[]⟩ : ByteArray)) := (zk u1 0).trans rfl; have y0 := zw u1 0; have f1 : W1.cell? ⟨w.heap.size, 1, none⟩ = some (.bool false) := (zk u1 1).trans rfl; have y1 := zw u1 1; have f2 : W1.cell? ⟨w.heap.size, 2, none⟩ = some (.int .i64 0) := (zk u1 2).trans rfl; have y2 := zw u1 2; have f3 : W1.cell? ⟨w.heap.size, 3, none⟩ = some (.slice none 0 0) := (zk u1 3).trans rfl; have y3 := zw u1 3; have f4 : W1.cell? ⟨w.heap.size, 4, none⟩ = some (.slice none 0 0) := (zk u1 4).trans rfl; have y4 := zw u1 4; have f5 : W1.cell? ⟨w.heap.size, 5, none⟩ = some (.slice none 0 0) := (zk u1 5).trans rfl; have y5 := zw u1 5; have f6 := u2.cell; have y6 := u2.frozen; clear hb1 hg1 t0 u1 u2))
   refine ⟨trivial, ?_⟩
   gi_wp2_with fail
   all_goals first | exact QE HI.out HF.out (vo.below (B := w.heap.size + 1 + 1) HB1.out hbs) (HGF.out (.inr (.inr (.inl q3)))) (by omega) | (have hh : some undef = some (Value.bool _) := (by assumption); cases hh)
  have d3 : decide ((50 : Int) < (f.l4.length : Int)) = false := decide_eq_false (by omega)
  by_cases q4 : 500 < f.l5.length
  ·have d4 : decide ((500 : Int) < (f.l5.length : Int)) = true := decide_eq_true (by omega)
   gi_wp2_with (first | (refine ⟨trivial, ?_⟩; gi_at_call 78; refine (callsIn_wide.2 bQ).mono ?_; rintro e W ⟨rfl, rfl⟩) | (refine ⟨trivial, ?_⟩; gi_at_call 77; refine (callsIn_wide.2 hsplit).mono ?_; rintro e W1 ⟨rfl, hw1⟩; have hb1 : Below W.heap.size W W1 := (by rw [hw1]; exact (Below.refl _ _).alloc (Nat.le_refl _) _); have hg1 : W1.heap[W.heap.size]? = some (.cells (ws.map Value.string).toArray 9 (0, 0)) := (by rw [hw1]; exact vY _ _); clear hw1; have t0 := zf Hb0.out hb1; have k3 : W1.cell? ⟨w.heap.size + 1 + 1, 3, none⟩ = some (.slice A3 f.l3.length c3) := (zk t0 3).trans rfl; have k4 : W1.cell? ⟨w.heap.size + 1 + 1, 4, none⟩ = some (.slice A4 f.l4.length c4) := (zk t0 4).trans rfl; have k5 : W1.cell? ⟨w.heap.size + 1 + 1, 5, none⟩ = some (.slice A5 f.l5.length c5) := (zk t0 5).trans rfl; have HB1 := Lib.hid hb1; have HG1 := Lib.hid hg1; have u1 := zf Wq.out hb1; have u2 : Boxed W1 (w.heap.size + 1) 32 (.int .i64 0) := zf Wx.out hb1; have f0 : W1.cell? ⟨w.heap.size, 0, none⟩ = some (.string (⟨#[]⟩ : ByteArray)) := (zk u1 0).trans rfl; have y0 := zw u1 0; have f1 : W1.cell? ⟨w.heap.size, 1, none⟩ = some (.bool false) := (zk u1 1).trans rfl; have y1 := zw u1 1; have f2 : W1.cell? ⟨w.heap.size, 2, none⟩ = some (.int .i64 0) := (zk u1 2).trans rfl; have y2 := zw u1 2; have f3 : W1.cell? ⟨w.heap.size, 3, none⟩ = some (.slice none 0 0) := (zk u1 3).trans rfl; have y3 := zw u1 3; have f4 : W1.cell? ⟨w.heap.size, 4, none⟩ = some (.slice none 0 0) := (zk u1 4).trans rfl; have y4 := zw u1 4; have f5 : W1.cell? ⟨w.heap.size, 5, none⟩ = some (.slice none 0 0) := (zk u1 5).trans rfl; have y5 := zw u1 5; have f6 := u2.cell; have y6 := u2.frozen; clear hb1 hg1 t0 u1 u2))
   refine ⟨trivial, ?_⟩
   gi_wp2_with fail
   all_goals first | exact QE HI.out HF.out (vo.below (B := w.heap.size + 1 + 1) HB1.out hbs) (HGF.out (.inr (.inr (.inr q4)))) (by omega) | (have hh : some undef = some (Value.bool _) := (by assumption); cases hh)
  have d4 : decide ((500 : Int) < (f.l5.length : Int)) = false := decide_eq_false (by omega)
  cases hrv : (uo f ws).1 with
  | false =>
   have HR := Lib.hid hrv
   clear hrv
   gi_wp2_with (first | (refine ⟨trivial, ?_⟩; gi_at_call 78; refine (callsIn_wide.2 bQ).mono ?_; rintro e W ⟨rfl, rfl⟩) | (refine ⟨trivial, ?_⟩; gi_at_call 77; refine (callsIn_wide.2 hsplit).mono ?_; rintro e W1 ⟨rfl, hw1⟩; have hb1 : Below W.heap.size W W1 := (by rw [hw1]; exact (Below.refl _ _).alloc (Nat.le_refl _) _); have hg1 : W1.heap[W.heap.size]? = some (.cells (ws.map Value.string).toArray 9 (0, 0)) := (by rw [hw1]; exact vY _ _); clear hw1; have t0 := zf Hb0.out hb1; have k3 : W1.cell? ⟨w.heap.size + 1 + 1, 3, none⟩ = some (.slice A3 f.l3.length c3) := (zk t0 3).trans rfl; have k4 : W1.cell? ⟨w.heap.size + 1 + 1, 4, none⟩ = some (.slice A4 f.l4.length c4) := (zk t0 4).trans rfl; have k5 : W1.cell? ⟨w.heap.size + 1 + 1, 5, none⟩ = some (.slice A5 f.l5.length c5) := (zk t0 5).trans rfl; have HB1 := Lib.hid hb1; have HG1 := Lib.hid hg1; have u1 := zf Wq.out hb1; have u2 : Boxed W1 (w.heap.size + 1) 32 (.int .i64 0) := zf Wx.out hb1; have f0 : W1.cell? ⟨w.heap.size, 0, none⟩ = some (.string (⟨#[]⟩ : ByteArray)) := (zk u1 0).trans rfl; have y0 := zw u1 0; have f1 : W1.cell? ⟨w.heap.size, 1, none⟩ = some (.bool false) := (zk u1 1).trans rfl; have y1 := zw u1 1; have f2 : W1.cell? ⟨w.heap.size, 2, none⟩ = some (.int .i64 0) := (zk u1 2).trans rfl; have y2 := zw u1 2; have f3 : W1.cell? ⟨w.heap.size, 3, none⟩ = some (.slice none 0 0) := (zk u1 3).trans rfl; have y3 := zw u1 3; have f4 : W1.cell? ⟨w.heap.size, 4, none⟩ = some (.slice none 0 0) := (zk u1 4).trans rfl; have y4 := zw u1 4; have f5 : W1.cell? ⟨w.heap.size, 5, none⟩ = some (.slice none 0 0) := (zk u1 5).trans rfl; have y5 := zw u1 5; have f6 := u2.cell; have y6 := u2.frozen; clear hb1 hg1 t0 u1 u2) | (refine ⟨trivial, ?_⟩; gi_at_call 79; refine (callsIn_wide.2 (rJ (w.heap.size + 1 + 1) W.heap.size W0.heap.size ws f W1 HG1.out (by omega) (by omega) ⟨by omega, by omega, by omega⟩ (hGW.under HB1.out) (fun y hy => by have := hws y hy; omega) (HF0.out.below HB1.out) (Nat.le_trans hbs HB1.out.size) (by omega))).mono ?_; rw [HR.out]; rintro e W2 ⟨rfl, hF2, hK2⟩; clear f0 f1 f2 f3 f4 f5 f6 y0 y1 y2 y3 y4 y5 y6 k3 k4 k5; have u1 := pY hK2 (zf Wq.out HB1.out) (by omega) (by omega); have u2 : Boxed W2 (w.heap.size + 1) 32 (.int .i64 0) := pY hK2 (zf Wx.out HB1.out) (by omega) (by omega); have f0 : W2.cell? ⟨w.heap.size, 0, none⟩ = some (.string (⟨#[]⟩ : ByteArray)) := (zk u1 0).trans rfl; have y0 := zw u1 0; have f1 : W2.cell? ⟨w.heap.size, 1, none⟩ = some (.bool false) := (zk u1 1).trans rfl; have y1 := zw u1 1; have f2 : W2.cell? ⟨w.heap.size, 2, none⟩ = some (.int .i64 0) := (zk u1 2).trans rfl; have y2 := zw u1 2; have f3 : W2.cell? ⟨w.heap.size, 3, none⟩ = some (.slice none 0 0) := (zk u1 3).trans rfl; have y3 := zw u1 3; have f4 : W2.cell? ⟨w.heap.size, 4, none⟩ = some (.slice none 0 0) := (zk u1 4).trans rfl; have y4 := zw u1 4; have f5 : W2.cell? ⟨w.heap.size, 5, none⟩ = some (.slice none 0 0) := (zk u1 5).trans rfl; have y5 := zw u1 5; have f6 := u2.cell; have y6 := u2.frozen; have KN := Lib.hid hK2; have mG := Lib.hid hF2; clear u1 u2 hK2 hF2))
   all_goals first | exact QE HI.out HF.out ((vo.below (B := w.heap.size + 1 + 1) HB1.out hbs).trans KN.out) (HGN.out HR.out) (by omega) | (have hh : some undef = some (Value.bool _) := (by assumption); cases hh)
  | true =>
   have HR := Lib.hid hrv
   clear hrv
   gi_wp2_with (first | (refine ⟨trivial, ?_⟩; gi_at_call 78; refine (callsIn_wide.2 bQ).mono ?_; rintro e W ⟨rfl, rfl⟩) | (refine ⟨trivial, ?_⟩; gi_at_call 77; refine (callsIn_wide.2 hsplit).mono ?_; rintro e W1 ⟨rfl, hw1⟩; have hb1 : Below W.heap.size W W1 := (by rw [hw1]; exact (Below.refl _ _).alloc (Nat.le_refl _) _); have hg1 : W1.heap[W.heap.size]? = some (.cells (ws.map Value.string).toArray 9 (0, 0)) := (by rw [hw1]; exact vY _ _); clear hw1; have t0 := zf Hb0.out hb1; have k3 : W1.cell? ⟨w.heap.size + 1 + 1, 3, none⟩ = some (.slice A3 f.l3.length c3) := (zk t0 3).trans rfl; have k4 : W1.cell? ⟨w.heap.size + 1 + 1, 4, none⟩ = some (.slice A4 f.l4.length c4) := (zk t0 4).trans rfl; have k5 : W1.cell? ⟨w.heap.size + 1 + 1, 5, none⟩ = some (.slice A5 f.l5.length c5) := (zk t0 5).trans rfl; have HB1 := Lib.hid hb1; have HG1 := Lib.hid hg1; have u1 := zf Wq.out hb1; have u2 : Boxed W1 (w.heap.size + 1) 32 (.int .i64 0) := zf Wx.out hb1; have f0 : W1.cell? ⟨w.heap.size, 0, none⟩ = some (.string (⟨#[]⟩ : ByteArray)) := (zk u1 0).trans rfl; have y0 := zw u1 0; have f1 : W1.cell? ⟨w.heap.size, 1, none⟩ = some (.bool false) := (zk u1 1).trans rfl; have y1 := zw u1 1; have f2 : W1.cell? ⟨w.heap.size, 2, none⟩ = some (.int .i64 0) := (zk u1 2).trans rfl; have y2 := zw u1 2; have f3 : W1.cell? ⟨w.heap.size, 3, none⟩ = some (.slice none 0 0) := (zk u1 3).trans rfl; have y3 := zw u1 3; have f4 : W1.cell? ⟨w.heap.size, 4, none⟩ = some (.slice none 0 0) := (zk u1 4).trans rfl; have y4 := zw u1 4; have f5 : W1.cell? ⟨w.heap.size, 5, none⟩ = some (.slice none 0 0) := (zk u1 5).trans rfl; have y5 := zw u1 5; have f6 := u2.cell; have y6 := u2.frozen; clear hb1 hg1 t0 u1 u2) | (refine ⟨trivial, ?_⟩; gi_at_call 79; refine (callsIn_wide.2 (rJ (w.heap.size + 1 + 1) W.heap.size W0.heap.size ws f W1 HG1.out (by omega) (by omega) ⟨by omega, by omega, by omega⟩ (hGW.under HB1.out) (fun y hy => by have := hws y hy; omega) (HF0.out.below HB1.out) (Nat.le_trans hbs HB1.out.size) (by omega))).mono ?_; rw [HR.out]; rintro e W2 ⟨rfl, hF2, hK2⟩; clear f0 f1 f2 f3 f4 f5 f6 y0 y1 y2 y3 y4 y5 y6 k3 k4 k5; have u1 := pY hK2 (zf Wq.out HB1.out) (by omega) (by omega); have u2 : Boxed W2 (w.heap.size + 1) 32 (.int .i64 0) := pY hK2 (zf Wx.out HB1.out) (by omega) (by omega); have f0 : W2.cell? ⟨w.heap.size, 0, none⟩ = some (.string (⟨#[]⟩ : ByteArray)) := (zk u1 0).trans rfl; have y0 := zw u1 0; have f1 : W2.cell? ⟨w.heap.size, 1, none⟩ = some (.bool false) := (zk u1 1).trans rfl; have y1 := zw u1 1; have f2 : W2.cell? ⟨w.heap.size, 2, none⟩ = some (.int .i64 0) := (zk u1 2).trans rfl; have y2 := zw u1 2; have f3 : W2.cell? ⟨w.heap.size, 3, none⟩ = some (.slice none 0 0) := (zk u1 3).trans rfl; have y3 := zw u1 3; have f4 : W2.cell? ⟨w.heap.size, 4, none⟩ = some (.slice none 0 0) := (zk u1 4).trans rfl; have y4 := zw u1 4; have f5 : W2.cell? ⟨w.heap.size, 5, none⟩ = some (.slice none 0 0) := (zk u1 5).trans rfl; have y5 := zw u1 5; have f6 := u2.cell; have y6 := u2.frozen; have KN := Lib.hid hK2; have mG := Lib.hid hF2; clear u1 u2 hK2 hF2))
   all_goals first | exact zjN HI.out HF.out ((vo.below (B := w.heap.size + 1 + 1) HB1.out hbs).trans KN.out) mG.out (HGY.out (by omega) HR.out) ⟨by omega, by omega, by omega⟩ (by omega) | (have hh : some undef = some (Value.bool _) := (by assumption); cases hh)
 case done =>
  rintro D ys W hD hS hI hK
  obtain ⟨f, hf, ⟨v3, v4, v5, b0, r3, r4, r5⟩, hr1, hr2, hbw, hbs, hl3, hl4, hl5⟩ := hI
  have rW : (Zp s.data.toList).map bar = ys.map (·.1) := by
   unfold Zp
   rw [XD, ← hS, List.map_map]
   rfl
  have hpv : RR = if uw f.a f.c f.l3 f.l4 f.l5 = true ∧ jf f.a f.b f.c f.l3 f.l4 f.l5 = s.data.toList then (f, 0) else (vZ.zero, 4) := by
   rw [← HRR.out]; unfold vS; rw [rW, hf]
  obtain ⟨A3, c3, rfl⟩ := Kd.yx r3
  obtain ⟨A4, c4, rfl⟩ := Kd.yx r4
  obtain ⟨A5, c5, rfl⟩ := Kd.yx r5
  obtain ⟨_, _, e3, g3, C3⟩ := Kd.V8 r3
  obtain ⟨_, _, e4, g4, C4⟩ := Kd.V8 r4
  obtain ⟨_, _, e5, g5, C5⟩ := Kd.V8 r5
  cases e3; cases e4; cases e5
  have hGW : GW W := hG.under hbw
  have k0 : W.cell? ⟨w.heap.size + 1 + 1, 0, none⟩ = some (.string f.a) := (zk b0 0).trans rfl
  have k1 : W.cell? ⟨w.heap.size + 1 + 1, 1, none⟩ = some (.bool f.b) := (zk b0 1).trans rfl
  have k2 : W.cell? ⟨w.heap.size + 1 + 1, 2, none⟩ = some (.int .i64 f.c) := (zk b0 2).trans rfl
  have k3 : W.cell? ⟨w.heap.size + 1 + 1, 3, none⟩ = some (.slice A3 f.l3.length c3) := (zk b0 3).trans rfl
  have k4 : W.cell? ⟨w.heap.size + 1 + 1, 4, none⟩ = some (.slice A4 f.l4.length c4) := (zk b0 4).trans rfl
  have k5 : W.cell? ⟨w.heap.size + 1 + 1, 5, none⟩ = some (.slice A5 f.l5.length c5) := (zk b0 5).trans rfl
  have Hb0 := Lib.hid b0
  have Wq := Lib.hid hr1
  have Wx := Lib.hid hr2
  have HR3 := Lib.hid r3
  have HR4 := Lib.hid r4
  have U9 := Lib.hid r5
  have HD := Lib.hid hK
  have HPV := Lib.hid hpv
  have HBW := Lib.hid hbw
  clear rW hf hpv b0 hr1 hr2 r3 r4 r5 hK hS hbw hstart
  by_cases hv : uw f.a f.c f.l3 f.l4 f.l5 = true
  ·have hwl := iV (b := f.b) hv
   have hwr := zzf f.a f.b f.c A3 c3 f.l3 A4 c4 f.l4 A5 c5 f.l5 g3 g4 g5 W hGW C3 C4 C5 (by omega) (by omega) (by omega) hv hwl
   by_cases hT : jf f.a f.b f.c f.l3 f.l4 f.l5 = s.data.toList
   ·have hR : RR = (f, 0) := by rw [HPV.out, if_pos ⟨hv, hT⟩]
    rw [hT, YN] at hwr
    have HR := Lib.hid hR
    clear hR hT hv hwl C3 C4 C5 g3 g4 g5
    gi_wp2_with (first | (refine ⟨trivial, ?_⟩; gi_at_call 25; refine (callsIn_wide.2 hwr).mono ?_; rintro e W2 ⟨rfl, hb2⟩; have b2 := zf Hb0.out hb2; have q0 : W2.cell? ⟨w.heap.size + 1 + 1, 0, none⟩ = some (.string f.a) := (zk b2 0).trans rfl; have q1 : W2.cell? ⟨w.heap.size + 1 + 1, 1, none⟩ = some (.bool f.b) := (zk b2 1).trans rfl; have q2 : W2.cell? ⟨w.heap.size + 1 + 1, 2, none⟩ = some (.int .i64 f.c) := (zk b2 2).trans rfl; have q3 : W2.cell? ⟨w.heap.size + 1 + 1, 3, none⟩ = some (.slice A3 f.l3.length c3) := (zk b2 3).trans rfl; have q4 : W2.cell? ⟨w.heap.size + 1 + 1, 4, none⟩ = some (.slice A4 f.l4.length c4) := (zk b2 4).trans rfl; have q5 : W2.cell? ⟨w.heap.size + 1 + 1, 5, none⟩ = some (.slice A5 f.l5.length c5) := (zk b2 5).trans rfl; have u1 := zf Wq.out hb2; have u2 : Boxed W2 (w.heap.size + 1) 32 (.int .i64 0) := zf Wx.out hb2; have f0 : W2.cell? ⟨w.heap.size, 0, none⟩ = some (.string (⟨#[]⟩ : ByteArray)) := (zk u1 0).trans rfl; have y0 := zw u1 0; have f1 : W2.cell? ⟨w.heap.size, 1, none⟩ = some (.bool false) := (zk u1 1).trans rfl; have y1 := zw u1 1; have f2 : W2.cell? ⟨w.heap.size, 2, none⟩ = some (.int .i64 0) := (zk u1 2).trans rfl; have y2 := zw u1 2; have f3 : W2.cell? ⟨w.heap.size, 3, none⟩ = some (.slice none 0 0) := (zk u1 3).trans rfl; have y3 := zw u1 3; have f4 : W2.cell? ⟨w.heap.size, 4, none⟩ = some (.slice none 0 0) := (zk u1 4).trans rfl; have y4 := zw u1 4; have f5 : W2.cell? ⟨w.heap.size, 5, none⟩ = some (.slice none 0 0) := (zk u1 5).trans rfl; have y5 := zw u1 5; have f6 := u2.cell; have y6 := u2.frozen; have HU1 := Lib.hid u1; have HU2 := Lib.hid u2; have HB2 := Lib.hid hb2; clear b2 u1 u2 hb2))
    all_goals first | (have hh : some undef = some (Value.bool _) := (by assumption); cases hh) | skip
    obtain ⟨t1, t2, t3, t4, t5⟩ := PV (.string f.a) (.bool f.b) (.int .i64 f.c) (.slice A3 f.l3.length c3) (.slice A4 f.l4.length c4) (.slice A5 f.l5.length c5) (.int .i64 0) HU1.out HU2.out (by omega) (zf HD.out HB2.out) (HBW.out.trans (HB2.out.mono HBW.out.size))
    refine ⟨by simp, .inl ⟨_, _, rfl, run_takeDeferred t1, ?_⟩⟩
    refine ⟨.tuple #[.agg #[.string f.a, .bool f.b, .int .i64 f.c, .slice A3 f.l3.length c3, .slice A4 f.l4.length c4, .slice A5 f.l5.length c5], .int .i64 0], XH rfl rfl t2 t3, ?_⟩
    rw [HR.out]
    exact ⟨_, _, _, rfl, t5 _ _ _ W0.heap.size _ _ (by omega) (Kd.zR HR3.out HB2.out), t5 _ _ _ W0.heap.size _ _ (by omega) (Kd.zR HR4.out HB2.out), t5 _ _ _ W0.heap.size _ _ (by omega) (Kd.zR U9.out HB2.out), t4⟩
   ·have hR : RR = (vZ.zero, 4) := by rw [HPV.out, if_neg (fun h => hT h.2)]
    have hne : ¬ (bar (jf f.a f.b f.c f.l3 f.l4 f.l5)).toList = s.toList := by
     rw [ByteArray.toList_eq, ByteArray.toList_eq, wz]; exact hT
    generalize bar (jf f.a f.b f.c f.l3 f.l4 f.l5) = T at hwr hne
    have e1 : (T.toList == s.toList) = false := beq_eq_false_iff_ne.2 hne
    have HR := Lib.hid hR
    clear hR hT hv hwl C3 C4 C5 g3 g4 g5 hne
    gi_wp2_with (first | (refine ⟨trivial, ?_⟩; gi_at_call 25; refine (callsIn_wide.2 hwr).mono ?_; rintro e W2 ⟨rfl, hb2⟩; have b2 := zf Hb0.out hb2; have q0 : W2.cell? ⟨w.heap.size + 1 + 1, 0, none⟩ = some (.string f.a) := (zk b2 0).trans rfl; have q1 : W2.cell? ⟨w.heap.size + 1 + 1, 1, none⟩ = some (.bool f.b) := (zk b2 1).trans rfl; have q2 : W2.cell? ⟨w.heap.size + 1 + 1, 2, none⟩ = some (.int .i64 f.c) := (zk b2 2).trans rfl; have q3 : W2.cell? ⟨w.heap.size + 1 + 1, 3, none⟩ = some (.slice A3 f.l3.length c3) := (zk b2 3).trans rfl; have q4 : W2.cell? ⟨w.heap.size + 1 + 1, 4, none⟩ = some (.slice A4 f.l4.length c4) := (zk b2 4).trans rfl; have q5 : W2.cell? ⟨w.heap.size + 1 + 1, 5, none⟩ = some (.slice A5 f.l5.length c5) := (zk b2 5).trans rfl; have u1 := zf Wq.out hb2; have u2 : Boxed W2 (w.heap.size + 1) 32 (.int .i64 0) := zf Wx.out hb2; have f0 : W2.cell? ⟨w.heap.size, 0, none⟩ = some (.string (⟨#[]⟩ : ByteArray)) := (zk u1 0).trans rfl; have y0 := zw u1 0; have f1 : W2.cell? ⟨w.heap.size, 1, none⟩ = some (.bool false) := (zk u1 1).trans rfl; have y1 := zw u1 1; have f2 : W2.cell? ⟨w.heap.size, 2, none⟩ = some (.int .i64 0) := (zk u1 2).trans rfl; have y2 := zw u1 2; have f3 : W2.cell? ⟨w.heap.size, 3, none⟩ = some (.slice none 0 0) := (zk u1 3).trans rfl; have y3 := zw u1 3; have f4 : W2.cell? ⟨w.heap.size, 4, none⟩ = some (.slice none 0 0) := (zk u1 4).trans rfl; have y4 := zw u1 4; have f5 : W2.cell? ⟨w.heap.size, 5, none⟩ = some (.slice none 0 0) := (zk u1 5).trans rfl; have y5 := zw u1 5; have f6 := u2.cell; have y6 := u2.frozen; have HU1 := Lib.hid u1; have HU2 := Lib.hid u2; have HB2 := Lib.hid hb2; clear b2 u1 u2 hb2))
    all_goals first | (have hh : some undef = some (Value.bool _) := (by assumption); cases hh) | skip
    obtain ⟨t1, t2, t3, t4, t5⟩ := PV (.string (⟨#[]⟩ : ByteArray)) (.bool false) (.int .i64 0) (.slice none 0 0) (.slice none 0 0) (.slice none 0 0) (.int .i64 4) HU1.out HU2.out (by omega) (zf HD.out HB2.out) (HBW.out.trans (HB2.out.mono HBW.out.size))
    refine ⟨by simp, .inl ⟨_, _, rfl, run_takeDeferred t1, ?_⟩⟩
    refine ⟨.tuple #[.agg #[.string (⟨#[]⟩ : ByteArray), .bool false, .int .i64 0, .slice none 0 0, .slice none 0 0, .slice none 0 0], .int .i64 4], XH rfl rfl t2 t3, ?_⟩
    rw [HR.out]
    exact ⟨_, _, _, rfl, Kd.xE _ _ _ _ _, Kd.xE _ _ _ _ _, Kd.xE _ _ _ _ _, t4⟩
  ·have hwr := zvt f.a f.b f.c A3 c3 f.l3 A4 c4 f.l4 A5 c5 f.l5 g3 g4 g5 W hGW C3 C4 C5 (by omega) (by omega) (by omega) (by simpa using hv)
   have hR : RR = (vZ.zero, 4) := by rw [HPV.out, if_neg (fun h => hv h.1)]
   have HR := Lib.hid hR
   clear hR hv C3 C4 C5 g3 g4 g5
   gi_wp2_with (first | (refine ⟨trivial, ?_⟩; gi_at_call 25; refine (callsIn_wide.2 hwr).mono ?_; rintro e W2 ⟨rfl, hb2⟩; have b2 := zf Hb0.out hb2; have q0 : W2.cell? ⟨w.heap.size + 1 + 1, 0, none⟩ = some (.string f.a) := (zk b2 0).trans rfl; have q1 : W2.cell? ⟨w.heap.size + 1 + 1, 1, none⟩ = some (.bool f.b) := (zk b2 1).trans rfl; have q2 : W2.cell? ⟨w.heap.size + 1 + 1, 2, none⟩ = some (.int .i64 f.c) := (zk b2 2).trans rfl; have q3 : W2.cell? ⟨w.heap.size + 1 + 1, 3, none⟩ = some (.slice A3 f.l3.length c3) := (zk b2 3).trans rfl; have q4 : W2.cell? ⟨w.heap.size + 1 + 1, 4, none⟩ = some (.slice A4 f.l4.length c4) := (zk b2 4).trans rfl; have q5 : W2.cell? ⟨w.heap.size + 1 + 1, 5, none⟩ = some (.slice A5 f.l5.length c5) := (zk b2 5).trans rfl; have u1 := zf Wq.out hb2; have u2 : Boxed W2 (w.heap.size + 1) 32 (.int .i64 0) := zf Wx.out hb2; have f0 : W2.cell? ⟨w.heap.size, 0, none⟩ = some (.string (⟨#[]⟩ : ByteArray)) := (zk u1 0).trans rfl; have y0 := zw u1 0; have f1 : W2.cell? ⟨w.heap.size, 1, none⟩ = some (.bool false) := (zk u1 1).trans rfl; have y1 := zw u1 1; have f2 : W2.cell? ⟨w.heap.size, 2, none⟩ = some (.int .i64 0) := (zk u1 2).trans rfl; have y2 := zw u1 2; have f3 : W2.cell? ⟨w.heap.size, 3, none⟩ = some (.slice none 0 0) := (zk u1 3).trans rfl; have y3 := zw u1 3; have f4 : W2.cell? ⟨w.heap.size, 4, none⟩ = some (.slice none 0 0) := (zk u1 4).trans rfl; have y4 := zw u1 4; have f5 : W2.cell? ⟨w.heap.size, 5, none⟩ = some (.slice none 0 0) := (zk u1 5).trans rfl; have y5 := zw u1 5; have f6 := u2.cell; have y6 := u2.frozen; have HU1 := Lib.hid u1; have HU2 := Lib.hid u2; have HB2 := Lib.hid hb2; clear b2 u1 u2 hb2))
   all_goals first | (have hh : some undef = some (Value.bool _) := (by assumption); cases hh) | skip
   obtain ⟨t1, t2, t3, t4, t5⟩ := PV (.string (⟨#[]⟩ : ByteArray)) (.bool false) (.int .i64 0) (.slice none 0 0) (.slice none 0 0) (.slice none 0 0) (.int .i64 4) HU1.out HU2.out (by omega) (zf HD.out HB2.out) (HBW.out.trans (HB2.out.mono HBW.out.size))
   refine ⟨by simp, .inl ⟨_, _, rfl, run_takeDeferred t1, ?_⟩⟩
   refine ⟨.tuple #[.agg #[.string (⟨#[]⟩ : ByteArray), .bool false, .int .i64 0, .slice none 0 0, .slice none 0 0, .slice none 0 0], .int .i64 4], XH rfl rfl t2 t3, ?_⟩
   rw [HR.out]
   exact ⟨_, _, _, rfl, Kd.xE _ _ _ _ _, Kd.xE _ _ _ _ _, Kd.xE _ _ _ _ _, t4⟩
 case stop =>
  rintro D pre W hD hS hX hK
  have hQ : vS s = (vZ.zero, 4) := by
   obtain ⟨V, hV⟩ := hS
   have rW : (Zp s.data.toList).map bar = pre.map (·.1) ++ V.map bar := by
    unfold Zp
    rw [XD, ← hV, List.map_append, List.map_map]
    rfl
   unfold vS
   rw [rW, Xu, hX.1]; rfl
  have hsp : RR = (vZ.zero, 4) := by rw [← HRR.out, hQ]
  obtain ⟨h0, h1, h2, h3⟩ := hX
  have HSP := Lib.hid hsp
  have H1 := Lib.hid h1
  have H2 := Lib.hid h2
  clear hsp hQ h1 h2 g1 g2 g4
  gi_wp2
  refine ⟨by simp, .inl ⟨_, _, rfl, run_takeDeferred hK, ?_⟩⟩
  have c1 : (W.putObj D (.deferred none)).heap[w.heap.size]? = _ := (World.putObj_heap_other (by omega)).trans H1.out
  have c2 : Boxed (W.putObj D (.deferred none)) (w.heap.size + 1) 32 (.int .i64 4) := (World.putObj_heap_other (by omega)).trans H2.out
  refine ⟨.tuple #[.agg #[.string (⟨#[]⟩ : ByteArray), .bool false, .int .i64 0, .slice none 0 0, .slice none 0 0, .slice none 0 0], .int .i64 4], XH rfl rfl c1 c2, ?_⟩
  rw [HSP.out]
  exact ⟨_, _, _, rfl, Kd.xE _ _ _ _ _, Kd.xE _ _ _ _ _, Kd.xE _ _ _ _ _, h3.trans (belowK_b (w := w) (Nat.le_refl _) W D _ _ (by omega) hK rfl rfl)⟩
end Go.Proofs.YtaifemkokfoadaaGreatDoor
namespace Go.Proofs.YtaifemkokfoadaaGreatDoor
open Go.RowKit Go.Proofs.zx.zK Go.Proofs.YtaifemkokfoadaaGreatDoor.PX
set_option linter.unusedVariables false
def pJ.f (s : ByteArray) : Option (ByteArray × Bool × Int × List qw × List qh × List xq × Int) := if s.size ≤ 1000000000 then some ((vS s).1.a, (vS s).1.b, (vS s).1.c, (vS s).1.l3, (vS s).1.l4, (vS s).1.l5, (vS s).2) else none
theorem pJ.calls (a0 : ByteArray) (r1 : ByteArray) (r2 : Bool) (r3 : Int) (r4 : List qw) (r5 : List qh) (r6 : List xq) (r7 : Int) (w : World) (hG : GW w) (h : pJ.f a0 = some (r1, r2, r3, r4, r5, r6, r7)) :
  Calls Tryz.prog 22 #[.string a0] w fun e w' => ∃ Vl Vm Vn : Value, e = .returned (.tuple #[.agg #[.string r1, .bool r2, .int .i64 r3, Vl, Vm, Vn], .int .i64 r7]) ∧ Kd.R uy 31 w' w.heap.size (fun _ => True) Vl r4 ∧ Kd.R uU 86 w' w.heap.size (fun _ => True) Vm r5 ∧ Kd.R jy 76 w' w.heap.size (fun _ => True) Vn r6 ∧ Below w.heap.size w w' := by
 unfold pJ.f at h
 split at h
 ·rename_i hl
  have e := Option.some.inj h
  cases e
  exact zjR a0 w hG hl
 ·cases h
end Go.Proofs.YtaifemkokfoadaaGreatDoor
