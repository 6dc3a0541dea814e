/-
  Texts that lean on one another, laid in one file. No condition.
-/
import Derived.Below
import Derived.Deep.Draws
import Derived.Deep.AppendLies
import Derived.Maps.AppendAt
import Derived.OwnWalk
import Derived.Laws.BytesArg
import Derived.Laws.MakeOwn
import Derived.Laws.OwnMore
import Derived.Deep.OwnRows
import Derived.Tactics
import Derived.Lib.ConvBytes
import Derived.Laws.Slices
import Derived.WalkKit
import Derived.KernelRfl
import Derived.RowKit3
import Derived.Deep.LoopGhost
import Derived.Deep.QuietTactic
import Derived.BigQuiet
import Derived.WideLaws
import Derived.Deep.DeepCutAuto
import Derived.Deep.CutBlock
import Derived.Deep.RegionHeld3
import Derived.Laws.Rows
import Derived.Lib.AppendStr
import Derived.ArgAppend
import Derived.Laws.IdiomCopy
import Derived.RowKit
import Derived.OrdersHeld
import Derived.Laws.BitsLemmas
import Derived.Laws.StructEq
import Derived.Test.YtaifemkokfoadaaGreatDoorProg
import Derived.Laws.Cover1
import Derived.ProofKit
import Derived.Handed
import Derived.HandedShaped
import Derived.OpenShut
import Derived.ShutString
import Derived.ChangeOld
import Derived.Carry
import Derived.LaidMore
import Derived.Lay
import Derived.Shelf.Vars
import Derived.Lib.LaidU8
import Derived.Lib.LaidTab
import Derived.ChangeSlices
import Derived.Lib.ItoaNum
import Derived.Lib.Strings
import Derived.IntWalk
import Derived.RangeFuncRecord
set_option linter.unusedVariables false
set_option linter.unusedSimpArgs false
namespace Go.Proofs.zx.zK
open Go.RowKit
structure zy (p : Prop) : Prop where mk :: (out : p)
structure z8 (w w' : World) : Prop where mk :: (out : ∃ n, w' = w.drewN n)
theorem z8.refl (w : World) : z8 w w := ⟨⟨0, rfl⟩⟩
theorem z8.step {w w' : World} (h : z8 w w') (n : Nat) : z8 w (w'.drewN n) := by
  obtain ⟨m, rfl⟩ := h
  exact ⟨⟨m + n, World.drewN_drewN ..⟩⟩
theorem z8.grown {w w' : World} (h : z8 w w') : Grown w w' := by
  obtain ⟨n, rfl⟩ := h
  induction n with
  | zero => exact Grown.refl _
  | succ n ih => rw [← World.drew_drewN]; exact Grown.drew ih
theorem z8.below {w w' : World} (h : z8 w w') : Below w.heap.size w w' := by
  obtain ⟨n, rfl⟩ := h
  induction n with
  | zero => exact Below.refl _ _
  | succ n ih => rw [← World.drew_drewN]; exact ih.drew
def rd (xs : List Int) (i : Int) : Int := xs.getD i.toNat 0
def bt (s : ByteArray) (i : Int) : Int := if h : i.toNat < s.size then ((s[i.toNat]'h).toNat : Int) else 0
theorem Zd (s : ByteArray) (i : Int) : ∀ h : i.toNat < s.size, ((s[i.toNat]'h).toNat : Int) = bt s i := fun h => by simp [bt, h]
def nums (k : IntKind) (xs : List Int) : List Value := xs.map fun x => .int k x
theorem yt {w W : World} (h : Below w.heap.size w W) (o : Obj) : Below w.heap.size w (W.alloc o) := h.alloc h.size o
theorem wR {B : Nat} {w W : World} (h : Below B w W) : Below B w W.drew := ⟨h.os, h.tape, h.output, h.size, h.block⟩
theorem zM {B : Nat} {w W : World} (h : Below B w W) (n : Nat) : Below B w (W.drewN n) := ⟨h.os, h.tape, h.output, h.size, h.block⟩
theorem zxx {B : Nat} {w w1 w2 : World} (h : Below B w w1) (hB : B ≤ w1.heap.size) (k : Below w1.heap.size w1 w2) : Below B w w2 :=
  h.trans ⟨k.os, k.tape, k.output, k.size, fun i hi => k.block i (Nat.lt_of_lt_of_le hi hB)⟩
theorem ru {w w1 : World} (h : Below w.heap.size w w1) (row : Option Nat) : w.grownBy w1 row := ⟨h.os, h.tape, h.output, h.size, fun i hi _ => h.block i hi⟩
theorem VE {w w1 : World} (h : Below w.heap.size w w1) {a : Addr} {v : Value} (hc : w.cell? a = some v) : w1.cell? a = some v := (h.cell (World.block_lt_of_cell? w a hc)).trans hc
theorem add_plain (g j : Nat) : (⟨g, 0, none⟩ : Addr).add j = ⟨g, j, none⟩ := by unfold Addr.add; split <;> simp_all
def jL (w : World) (k : IntKind) (A : Option Addr) (n : Nat) (xs : List Int) : Prop :=
  xs.length = n ∧ n ≤ 9223372036854775807 ∧ (0 < n → ∃ ad, A = some ad ∧ ∀ j, j < n → w.cell? (ad.add j) = some (.int k (xs.getD j 0)))
theorem jL.at_ {w : World} {k : IntKind} {A : Option Addr} {n : Nat} {xs : List Int} (h : jL w k A n xs) (i : Int) (h0 : 0 ≤ i) (h1 : i < n) : ∃ ad, A = some ad ∧ w.cell? (ad.add i.toNat) = some (.int k (rd xs i)) := by
  obtain ⟨ad, e, hc⟩ := h.2.2 (by omega)
  exact ⟨ad, e, hc _ (by omega)⟩
theorem jL.below {w w1 : World} {k : IntKind} {A : Option Addr} {n : Nat} {xs : List Int} (h : jL w k A n xs) (hb : Below w.heap.size w w1) : jL w1 k A n xs :=
  ⟨h.1, h.2.1, fun hn => by
    obtain ⟨ad, e, hc⟩ := h.2.2 hn
    exact ⟨ad, e, fun j hj => VE hb (hc j hj)⟩⟩
theorem zwT (W : World) (base : Nat) (e : TypeId) (size : Nat) : W.ownsRow base e size (.slice none 0 0) 0 [] := ⟨by simp, .inl ⟨rfl, rfl⟩⟩
theorem QI {w : World} {base : Nat} {e : TypeId} {size n : Nat} {v : Value} {xs : List Value} (h : w.ownsRow base e size v n xs) (k : Nat) (hk : v.ownBlock = some k) : base ≤ k := by
  rcases h.2 with ⟨rfl, _⟩ | ⟨g, cap, cur, rfl, hb, _⟩
  · simp [Value.ownBlock] at hk
  · have : g = k := by simpa [Value.ownBlock] using hk
    omega
theorem zj1 {w : World} {base : Nat} {e : TypeId} {size n : Nat} {v : Value} {xs : List Value} (h : w.ownsRow base e size v n xs) (k : Nat) (hk : v.ownBlock = some k) : k < w.heap.size := by
  rcases h.2 with ⟨rfl, _⟩ | ⟨g, cap, cur, rfl, hb, hh, _⟩
  · simp [Value.ownBlock] at hk
  · have : g = k := by simpa [Value.ownBlock] using hk
    subst this
    exact (Array.getElem?_eq_some_iff.1 hh).1
theorem Wv {w w1 : World} {base : Nat} {e : TypeId} {size n : Nat} {v : Value} {xs : List Value} (h : w.ownsRow base e size v n xs) (hb : Below w.heap.size w w1) : w1.ownsRow base e size v n xs :=
  h.kept (ru hb none) (by cases v.ownBlock <;> simp)
theorem zj2 {w w1 : World} {base : Nat} {e : TypeId} {size n : Nat} {v : Value} {xs : List Value} (h : w.ownsRow base e size v n xs) {row : Option Nat} (hg : w.grownBy w1 row) (hne : v.ownBlock = none ∨ v.ownBlock ≠ row) : w1.ownsRow base e size v n xs := h.kept hg hne
theorem wS {P : Program} {w : World} {base n : Nat} {e' src dst e : TypeId} {v : Value} {xs : List Int} (hs : P.underlying src = some (.slice e)) (he : P.underlying e = some (.int .u8)) (hd : P.underlying dst = some .string)
    (h : w.ownsRow base e' 1 v n (nums .u8 xs)) : (convert src dst v).run P w = .ok (.string (strOfNums xs)) w := by
  have hl : xs.length = n := by have := h.1; simp [nums] at this; exact this
  rcases h.2 with ⟨rfl, rfl⟩ | ⟨g, cap, cur, rfl, _⟩
  · obtain rfl : xs = [] := List.eq_nil_of_length_eq_zero hl
    exact run_convert_bytes_nil w src e hs he 0 0 dst hd
  · refine run_convert_bytes_arg w src e hs he g 0 n cap xs hl (fun i hi => ?_) dst hd
    have hc := h.cells (g := g) rfl i (.int .u8 (xs.getD i 0)) (by simp [nums, List.getElem?_eq_getElem (show i < xs.length by omega), List.getD_eq_getElem?_getD])
    have ha : (⟨g, 0, none⟩ : Addr).add i = ⟨g, 0 + i, none⟩ := by unfold Addr.add; split <;> simp_all
    rwa [ha] at hc
section
variable {P : Program} {ops : Array Oper} {rest : List Oper} {o : Oper} {a : Act} {Q : Exit → Act → World → Prop}
end
section
variable {P : Program}
end
section
variable {P : Program} {ops : Array Oper} {rest : List Oper} {o : Oper} {a : Act} {Q : Exit → Act → World → Prop}
end
theorem jL.UC {w : World} {k : IntKind} {A : Option Addr} {n : Nat} {xs : List Int} (h : jL w k A n xs) (i : Nat) (hi : i ≤ n) : jL w k A i (xs.take i) := by
  refine ⟨by rw [List.length_take, h.1]; omega, by have := h.2.1; omega, fun hp => ?_⟩
  obtain ⟨ad, e, hc⟩ := h.2.2 (by omega)
  refine ⟨ad, e, fun j hj => ?_⟩
  rw [hc j (by omega)]
  simp [List.getD_eq_getElem?_getD, hj]
def X6 {α : Type} (a b : Option α) : Prop := ∀ r, a = some r → b = some r
theorem X6.refl {α : Type} (a : Option α) : X6 a a := fun _ h => h
theorem X6.none {α : Type} (b : Option α) : X6 Option.none b := fun _ h => by cases h
theorem X6.trans {α : Type} {a b c : Option α} (h : X6 a b) (k : X6 b c) : X6 a c := fun r hr => k r (h r hr)
theorem X6.bind {α β : Type} {a a' : Option α} {f f' : α → Option β} (h : X6 a a') (k : ∀ x, X6 (f x) (f' x)) : X6 (a.bind f) (a'.bind f') := by
  intro r hr
  obtain ⟨x, hx, hf⟩ := Option.bind_eq_some_iff.1 hr
  exact Option.bind_eq_some_iff.2 ⟨x, h x hx, k x r hf⟩
theorem X6.map {α β : Type} {a a' : Option α} (f : α → β) (h : X6 a a') : X6 (a.map f) (a'.map f) := by
  intro r hr
  obtain ⟨x, hx, hf⟩ := Option.map_eq_some_iff.1 hr
  exact Option.map_eq_some_iff.2 ⟨x, h x hx, hf⟩
theorem bV {α : Type} {g : Nat → Option α} (h : ∀ k, X6 (g k) (g (k + 1))) (k : Nat) : ∀ j, X6 (g k) (g (k + j))
  | 0 => X6.refl _
  | j + 1 => (bV h k j).trans (h (k + j))
theorem zj3 {α : Type} {g : Nat → Option α} (h : ∀ k, X6 (g k) (g (k + 1))) {k k' : Nat} (hk : k ≤ k') {r : α} (hr : g k = some r) : g k' = some r := by
  have := bV h k (k' - k) r hr
  rwa [Nat.add_sub_cancel' hk] at this
def xA {α : Type} (R : α → List Value → Prop) (size : Nat) (ps : List α) (cs : List Value) : Prop :=
  cs.length = ps.length * size ∧ ∀ j p, ps[j]? = some p → R p ((cs.drop (j * size)).take size)
theorem xA.none {α : Type} (R : α → List Value → Prop) (size : Nat) : xA R size [] [] := ⟨by simp, fun j p h => by simp at h⟩
theorem xA.snoc {α : Type} {R : α → List Value → Prop} {size : Nat} {ps : List α} {cs c : List Value} {p : α} (h : xA R size ps cs) (hp : R p c) (hc : c.length = size) : xA R size (ps ++ [p]) (cs ++ c) := by
  refine ⟨by rw [List.length_append, h.1, hc, List.length_append, List.length_singleton, Nat.add_mul, Nat.one_mul], fun j q hq => ?_⟩
  rcases Nat.lt_or_ge j ps.length with hj | hj
  · rw [List.getElem?_append_left hj] at hq
    have h1 : j * size + size ≤ cs.length := by rw [h.1, ← Nat.succ_mul]; exact Nat.mul_le_mul_right _ hj
    have h2 := h.2 j q hq
    rw [List.drop_append_of_le_length (by omega), List.take_append_of_le_length (by rw [List.length_drop]; omega)]
    exact h2
  · have hj' : j = ps.length := by
      have := (List.getElem?_eq_some_iff.1 hq).1
      rw [List.length_append, List.length_singleton] at this
      omega
    subst hj'
    have hq' : p = q := by simpa using hq
    subst hq'
    rw [← h.1, List.drop_left, ← hc, List.take_length]
    exact hp
theorem xA.VF {α : Type} {R R' : α → List Value → Prop} {size : Nat} {ps : List α} {cs : List Value} (h : xA R size ps cs) (hR : ∀ p c, R p c → R' p c) : xA R' size ps cs := ⟨h.1, fun j p hj => hR _ _ (h.2 j p hj)⟩
def ZA {α : Type} (R : α → List Value → Prop) (size : Nat) (w : World) (A : Option Addr) (n : Nat) (ps : List α) : Prop :=
  ps.length = n ∧ n ≤ 9223372036854775807 ∧ (0 < n → ∃ ad, A = some ad ∧ ∀ j p, ps[j]? = some p → ∃ c, c.length = size ∧ R p c ∧ ∀ i u, c[i]? = some u → w.cell? (ad.add (j * size + i)) = some u)
theorem ZA.zWm {α : Type} {R : α → List Value → Prop} {size : Nat} {w : World} {A : Option Addr} {n : Nat} {ps : List α} (h : ZA R size w A n ps) (d : α) (i : Int) (h0 : 0 ≤ i) (h1 : i < n) :
    ∃ ad c, A = some ad ∧ c.length = size ∧ R (ps.getD i.toNat d) c ∧ ∀ j u, c[j]? = some u → w.cell? (ad.add (i.toNat * size + j)) = some u := by
  obtain ⟨ad, e, hc⟩ := h.2.2 (by omega)
  have hl : i.toNat < ps.length := by have := h.1; omega
  obtain ⟨c, hs, hr, hcell⟩ := hc i.toNat _ (List.getElem?_eq_getElem hl)
  refine ⟨ad, c, e, hs, ?_, hcell⟩
  rw [List.getD_eq_getElem?_getD, List.getElem?_eq_getElem hl]
  exact hr
theorem ZA.VF {α : Type} {R R' : α → List Value → Prop} {size : Nat} {w w1 : World} {A : Option Addr} {n : Nat} {ps : List α} (h : ZA R size w A n ps) (hb : Below w.heap.size w w1) (hR : ∀ p c, R p c → R' p c) : ZA R' size w1 A n ps :=
  ⟨h.1, h.2.1, fun hn => by
    obtain ⟨ad, e, hc⟩ := h.2.2 hn
    refine ⟨ad, e, fun j p hj => ?_⟩
    obtain ⟨c, hs, hr, hcell⟩ := hc j p hj
    exact ⟨c, hs, hR _ _ hr, fun i u hu => VE hb (hcell i u hu)⟩⟩
theorem iB {α : Type} {R : α → List Value → Prop} {w : World} {base n size : Nat} {e : TypeId} {v : Value} {ps : List α} {cs : List Value} (h : w.ownsRow base e size v n cs) (hR : xA R size ps cs) (hn : ps.length = n) :
    ∃ A c, v = .slice A n c ∧ ZA R size w A n ps := by
  rcases Nat.eq_zero_or_pos n with h0 | h0
  · rcases h.2 with ⟨rfl, rfl⟩ | ⟨g, cap, cur, rfl, _⟩
    · exact ⟨none, 0, rfl, hn, by omega, fun hp => absurd hp (by omega)⟩
    · exact ⟨_, cap, rfl, hn, by omega, fun hp => absurd hp (by omega)⟩
  · obtain ⟨g, cap, rfl, _, _⟩ := h.form h0
    have hm : n ≤ 9223372036854775807 := by
      rcases h.2 with ⟨_, h1⟩ | ⟨g', cap', cur, he, _, _, h1, h2, _⟩
      · omega
      · simp only [maxLen] at h2
        omega
    refine ⟨_, cap, rfl, hn, hm, fun _ => ⟨_, rfl, fun j p hj => ⟨(cs.drop (j * size)).take size, ?_, hR.2 j p hj, fun i u hu => ?_⟩⟩⟩
    · have hjl := (List.getElem?_eq_some_iff.1 hj).1
      have h1 : j * size + size ≤ cs.length := by rw [hR.1, ← Nat.succ_mul]; exact Nat.mul_le_mul_right _ hjl
      rw [List.length_take, List.length_drop]
      omega
    · refine h.cells (g := g) rfl _ u ?_
      rw [List.getElem?_take] at hu
      split at hu
      · rw [List.getElem?_drop] at hu
        exact hu
      · cases hu
theorem uf (ad : Addr) (m j : Nat) (hj : 0 < j) : ad.add (m + j) = ⟨(ad.add m).block, (ad.add m).off + j, none⟩ := by
  unfold Addr.add
  by_cases hm : m = 0
  · subst hm
    simp [Nat.ne_of_gt hj]
  · simp [hm, Nat.add_assoc]
section
variable {P : Program} {ops : Array Oper} {rest : List Oper} {o : Oper} {a : Act} {Q : Exit → Act → World → Prop}
theorem Vg {w0 W : World} (base : Nat) (hgd : o.guard = none) (s x : Operand) (t e : TypeId) (z : Value) (size bytes : Nat)
    (ho : o.op = .call { callee := .builtin .append, args := #[s, x], argTypes := #[t, t] })
    (ht : P.underlying t = some (.slice e)) (hinfo : (P.info? e).map (fun i => (i.zero, i.size, i.bytes)) = some (some z, size, bytes)) (hz : z.cells.size = size) (hs0 : 0 < size) (hb0 : 0 < bytes)
    (v : Value) (n : Nat) (xs ys : List Value) (hs : a.eval s = v) (hx : a.eval x = .slice (some ⟨W.heap.size, 0, none⟩) 1 1) (hys : ys.length = size) (h1 : ∀ u ∈ ys, u.oneCell' = true)
    (HO : W.ownsRow base e size v n xs) (HB : Below base w0 W) (hbase : base ≤ W.heap.size) (hl : (n + 1) * bytes ≤ 140737488355328)
    (h : ∀ v1 w1, w1.ownsRow base e size v1 (n + 1) (xs ++ ys) → Below base w0 w1 → W.grownBy w1 v.ownBlock → (v1.ownBlock = v.ownBlock ∨ ∃ b, v1.ownBlock = some b ∧ W.heap.size ≤ b) → wpList P ops Q rest (a.put o.dst v1) w1) :
    wpList P ops Q (o :: rest) a (W.alloc (.cells ys.toArray e)) := by
  obtain ⟨i0, hi, hzz⟩ := Option.map_eq_some_iff.1 hinfo
  simp only [Prod.mk.injEq] at hzz
  obtain ⟨hz0, hz1, hz2⟩ := hzz
  have hlen : n + 1 ≤ 140737488355328 := Nat.le_trans (Nat.le_mul_of_pos_right _ hb0) hl
  refine wpList_append_own_at (W.alloc (.cells ys.toArray e)) hgd s x t ho base e i0 z size bytes ht hi hz0 hz1 hz2 hz hs0 v n xs hs (HO.alloc _) ⟨W.heap.size, 0, none⟩ 1 1 ys hx (by rw [hys]; simp)
    (by simpa using World.news_of_block (cs := ys.toArray) (t := e) (fr := (0, 0)) (heap_alloc_new W (.cells ys.toArray e))) h1 (by simp only [maxLen]; omega) hl (by simp; omega) ?_
  intro v1 w1 hown hg _ hat
  refine h v1 w1 hown ((HB.alloc hbase _).grown hg (by simp; omega) (QI HO)) (World.grownBy.trans (World.grownBy_alloc W _ _) hg) ?_
  rcases hat with hat | hat
  · exact .inl hat
  · exact .inr ⟨_, hat, by simp⟩
end
theorem own_ne {w : World} {base : Nat} {e t : TypeId} {size n g : Nat} {v : Value} {xs : List Value} {cs : Array Value} (h : w.ownsRow base e size v n xs) (hg : w.heap[g]? = some (.cells cs t (0, 0))) (hne : e ≠ t) : some g ≠ v.ownBlock := by
  rcases h.2 with ⟨rfl, _⟩ | ⟨g', cap, cur, rfl, _, hh, _⟩
  · simp [Value.ownBlock]
  · intro he
    have : g = g' := by simpa [Value.ownBlock] using he
    subst this
    rw [hg] at hh
    injection hh with hh
    injection hh with _ ht
    exact hne ht.symm
theorem zwU {w : World} {g : Nat} {t : TypeId} {cs : Array Value} (h : w.heap[g]? = some (.cells cs t (0, 0))) (i : Nat) (u : Value) : (w.setCell ⟨g, i, none⟩ u).heap[g]? = some (.cells (cs.setIfInBounds i u) t (0, 0)) := by
  simp [World.setCell, Array.getElem?_modify, h]
theorem vE {w : World} {g : Nat} {t : TypeId} {cs : Array Value} (h : w.heap[g]? = some (.cells cs t (0, 0))) {p : Addr} (hp : g ≠ p.block) (u : Value) : (w.setCell p u).heap[g]? = some (.cells cs t (0, 0)) := (Below.heap_setCell w p u g hp).trans h
theorem uS {w : World} {g : Nat} {o : Obj} (h : w.heap[g]? = some o) : g < w.heap.size := (Array.getElem?_eq_some_iff.1 h).1
theorem zk {w : World} {g : Nat} {t : TypeId} {cs : Array Value} (h : w.heap[g]? = some (.cells cs t (0, 0))) (i : Nat) : w.cell? ⟨g, i, none⟩ = cs[i]? := cell_of_row w g i cs t (0, 0) h
theorem zw {w : World} {g : Nat} {t : TypeId} {cs : Array Value} (h : w.heap[g]? = some (.cells cs t (0, 0))) (i : Nat) : w.frozen? ⟨g, i, none⟩ = false := by simp [World.frozen?, h]
theorem qx {w w1 : World} {g : Nat} {o : Obj} {row : Option Nat} (h : w.heap[g]? = some o) (hg : w.grownBy w1 row) (hne : some g ≠ row) : w1.heap[g]? = some o := (hg.block g (uS h) hne).trans h
theorem zQ0 {w : World} {g g' : Nat} {t t' : TypeId} {cs cs' : Array Value} (h : w.heap[g]? = some (.cells cs t (0, 0))) (h' : w.heap[g']? = some (.cells cs' t' (0, 0))) (hne : t ≠ t') : g ≠ g' := by
  rintro rfl
  rw [h] at h'
  injection h' with h'
  injection h' with _ ht
  exact hne ht
def jS (w w' : World) (g : Nat) (row : Option Nat) : Prop := w.heap.size ≤ w'.heap.size ∧ ∀ i, i < w.heap.size → i ≠ g → some i ≠ row → w'.heap[i]? = w.heap[i]?
theorem jS.refl (w : World) (g : Nat) (row : Option Nat) : jS w w g row := ⟨Nat.le_refl _, fun _ _ _ _ => rfl⟩
theorem jS.of_below {w w1 : World} (h : Below w.heap.size w w1) (g : Nat) (row : Option Nat) : jS w w1 g row := ⟨h.size, fun i hi _ _ => h.block i hi⟩
theorem jS.trans {w w1 w2 : World} {g : Nat} {row zv2 : Option Nat} (h : jS w w1 g row) (k : jS w1 w2 g zv2) (hr : zv2 = row ∨ ∃ b, zv2 = some b ∧ w.heap.size ≤ b) : jS w w2 g row :=
  ⟨Nat.le_trans h.1 k.1, fun i hi hg hn => by
    refine (k.2 i (Nat.lt_of_lt_of_le hi h.1) hg ?_).trans (h.2 i hi hg hn)
    rcases hr with rfl | ⟨b, rfl, hb⟩
    · exact hn
    · intro e
      injection e with e
      omega⟩
theorem jS.blk {w w1 : World} {g g' : Nat} {row : Option Nat} {o : Obj} (h : jS w w1 g row) (hb : w.heap[g']? = some o) (hg : g' ≠ g) (hr : some g' ≠ row) : w1.heap[g']? = some o := (h.2 g' (uS hb) hg hr).trans hb
theorem jS.own {w w1 : World} {g : Nat} {row : Option Nat} {base : Nat} {e : TypeId} {size n : Nat} {v : Value} {xs : List Value} (h : jS w w1 g row) (ho : w.ownsRow base e size v n xs) (hg : v.ownBlock ≠ some g) (hr : v.ownBlock = none ∨ v.ownBlock ≠ row) : w1.ownsRow base e size v n xs := by
  obtain ⟨h1, h2⟩ := ho
  refine ⟨h1, ?_⟩
  rcases h2 with h2 | ⟨b, cap, cur, rfl, hb, hh, r⟩
  · exact .inl h2
  · refine .inr ⟨b, cap, cur, rfl, hb, h.blk hh ?_ ?_, r⟩
    · intro e
      exact hg (by rw [← e]; rfl)
    · rcases hr with hr | hr
      · simp [Value.ownBlock] at hr
      · exact hr
def Ev {α : Type} (g : Nat → Option α) (r : α) : Prop := ∃ K, ∀ k, K ≤ k → g k = some r
theorem Ev.of {α : Type} {g : Nat → Option α} {r : α} (hg : ∀ k, X6 (g k) (g (k + 1))) {k : Nat} (h : g k = some r) : Ev g r := ⟨k, fun _ hk => zj3 hg hk h⟩
theorem Ev.now {α : Type} (r : α) : Ev (fun _ => some r) r := ⟨0, fun _ _ => rfl⟩
theorem Ev.rounds {α : Type} {g : Nat → Option α} {r : α} (h : Ev g r) : ∃ k, g k = some r := by
  obtain ⟨K, h⟩ := h
  exact ⟨K, h K (Nat.le_refl _)⟩
theorem Ev.bind {α β : Type} {g : Nat → Option α} {f : Nat → α → Option β} {a : α} {r : β} (h : Ev g a) (k : Ev (fun n => f n a) r) : Ev (fun n => (g n).bind (f n)) r := by
  obtain ⟨K, h⟩ := h
  obtain ⟨K', k⟩ := k
  refine ⟨max K K', fun n hn => ?_⟩
  have h1 := h n (by omega)
  have h2 := k n (by omega)
  simp only [h1, Option.bind_some]
  exact h2
theorem Ev.step {α : Type} {g f : Nat → Option α} {r : α} (h : ∀ k, g (k + 1) = f k) (k : Ev f r) : Ev g r := by
  obtain ⟨K, k⟩ := k
  refine ⟨K + 1, fun n hn => ?_⟩
  obtain ⟨m, rfl⟩ : ∃ m, n = m + 1 := ⟨n - 1, by omega⟩
  rw [h]
  exact k m (by omega)
theorem Ev.congr {α : Type} {g f : Nat → Option α} {r : α} (h : ∀ k, g k = f k) (k : Ev f r) : Ev g r := by
  obtain ⟨K, k⟩ := k
  exact ⟨K, fun n hn => (h n).trans (k n hn)⟩
section
variable {P : Program} {ops : Array Oper} {o : Oper} {a : Act} {Q : Exit → Act → World → Prop} {K : Act → World → Prop}
theorem bX {w0 W : World} (base : Nat) (hw : Region.wanted o (yielded ops a.tmps) = true) (s x : Operand) (t e : TypeId) (z : Value) (size bytes : Nat)
    (ho : o.op = .call { callee := .builtin .append, args := #[s, x], argTypes := #[t, t] })
    (ht : P.underlying t = some (.slice e)) (hinfo : (P.info? e).map (fun i => (i.zero, i.size, i.bytes)) = some (some z, size, bytes)) (hz : z.cells.size = size) (hs0 : 0 < size) (hb0 : 0 < bytes)
    (v : Value) (n : Nat) (xs ys : List Value) (hs : a.eval s = v) (hx : a.eval x = .slice (some ⟨W.heap.size, 0, none⟩) 1 1) (hys : ys.length = size) (h1 : ∀ u ∈ ys, u.oneCell' = true)
    (HO : W.ownsRow base e size v n xs) (HB : Below base w0 W) (hbase : base ≤ W.heap.size) (hl : (n + 1) * bytes ≤ 140737488355328)
    (h : ∀ v1 w1, w1.ownsRow base e size v1 (n + 1) (xs ++ ys) → Below base w0 w1 → W.grownBy w1 v.ownBlock → (v1.ownBlock = v.ownBlock ∨ ∃ b, v1.ownBlock = some b ∧ W.heap.size ≤ b) → K (a.put o.dst v1) w1) :
    if Region.wanted o (yielded ops a.tmps) = true then Oper.wp P o a (W.alloc (.cells ys.toArray e)) K Q else K (a.put o.dst undef) (W.alloc (.cells ys.toArray e)) := by
  obtain ⟨i0, hi, hzz⟩ := Option.map_eq_some_iff.1 hinfo
  simp only [Prod.mk.injEq] at hzz
  obtain ⟨hz0, hz1, hz2⟩ := hzz
  have hlen : n + 1 ≤ 140737488355328 := Nat.le_trans (Nat.le_mul_of_pos_right _ hb0) hl
  rw [if_pos hw]
  obtain ⟨v1, w1, hr, hown, hg, _, hat⟩ := run_append_own_at (P := P) (W.alloc (.cells ys.toArray e)) base t o.type e i0 z size bytes ht hi hz0 hz1 hz2 hz hs0 v n xs (HO.alloc _) ⟨W.heap.size, 0, none⟩ 1 1 ys (by rw [hys]; simp)
    (by simpa using World.news_of_block (cs := ys.toArray) (t := e) (fr := (0, 0)) (heap_alloc_new W (.cells ys.toArray e))) h1 (by simp only [maxLen]; omega) hl (by simp; omega)
  unfold Oper.wp execOp
  simp only [ho, resolve, invoke, builtin, Sem.run_bind, Sem.run_pure, Result.andThen_ok, List.map_toArray, List.map_cons, List.map_nil, hs, hx, hr]
  refine h v1 w1 hown ((HB.alloc hbase _).grown hg (by simp; omega) (QI HO)) (World.grownBy.trans (World.grownBy_alloc W _ _) hg) ?_
  rcases hat with hat | hat
  · exact .inl hat
  · exact .inr ⟨_, hat, by simp⟩
end
theorem zxj {w : World} {base base' : Nat} {e : TypeId} {size n : Nat} {v : Value} {xs : List Value} (h : w.ownsRow base e size v n xs) (hb : base' ≤ base) : w.ownsRow base' e size v n xs := by
  obtain ⟨h1, h2⟩ := h
  refine ⟨h1, ?_⟩
  rcases h2 with h2 | ⟨g, cap, cur, rfl, hg, r⟩
  · exact .inl h2
  · exact .inr ⟨g, cap, cur, rfl, Nat.le_trans hb hg, r⟩
section
variable {α : Type} {enc : α → Value} {d : α}
def encs (enc : α → Value) (xs : List α) : List Value := xs.map enc
def yG (d : α) (xs : List α) (i : Int) : α := xs.getD i.toNat d
theorem zzA (xs : List α) : (encs enc xs).length = xs.length := by simp [encs]
def jD (enc : α → Value) (d : α) (w : World) (A : Option Addr) (n : Nat) (xs : List α) : Prop :=
  xs.length = n ∧ n ≤ 9223372036854775807 ∧ (0 < n → ∃ ad, A = some ad ∧ ∀ j, j < n → w.cell? (ad.add j) = some (enc (xs.getD j d)))
theorem jD.at_ {w : World} {A : Option Addr} {n : Nat} {xs : List α} (h : jD enc d w A n xs) (i : Int) (h0 : 0 ≤ i) (h1 : i < n) : ∃ ad, A = some ad ∧ w.cell? (ad.add i.toNat) = some (enc (yG d xs i)) := by
  obtain ⟨ad, e, hc⟩ := h.2.2 (by omega)
  exact ⟨ad, e, hc _ (by omega)⟩
theorem jD.below {w w1 : World} {A : Option Addr} {n : Nat} {xs : List α} (h : jD enc d w A n xs) (hb : Below w.heap.size w w1) : jD enc d w1 A n xs :=
  ⟨h.1, h.2.1, fun hn => by
    obtain ⟨ad, e, hc⟩ := h.2.2 hn
    exact ⟨ad, e, fun j hj => VE hb (hc j hj)⟩⟩
theorem jD.UC {w : World} {A : Option Addr} {n : Nat} {xs : List α} (h : jD enc d w A n xs) (i : Nat) (hi : i ≤ n) : jD enc d w A i (xs.take i) := by
  refine ⟨by rw [List.length_take, h.1]; omega, by have := h.2.1; omega, fun hp => ?_⟩
  obtain ⟨ad, e, hc⟩ := h.2.2 (by omega)
  refine ⟨ad, e, fun j hj => ?_⟩
  rw [hc j (by omega)]
  simp [List.getD_eq_getElem?_getD, hj]
end
section
variable {α : Type} {P : Program} {ops : Array Oper} {rest : List Oper} {o : Oper} {a : Act} {Q : Exit → Act → World → Prop}
end
theorem zV {w : World} {g : Nat} {o : Obj} (h : w.heap[g]? = some o) (o' : Obj) : (w.alloc o').heap[g]? = some o := (Below.heap_alloc w o' g (uS h)).trans h
theorem zo {w : World} {g : Nat} {o : Obj} (h : w.heap[g]? = some o) : w.drew.heap[g]? = some o := h
theorem zC {w : World} {g : Nat} {o : Obj} (h : w.heap[g]? = some o) (n : Nat) : (w.drewN n).heap[g]? = some o := h
theorem zf {w w1 : World} {g : Nat} {o : Obj} (h : w.heap[g]? = some o) (hb : Below w.heap.size w w1) : w1.heap[g]? = some o := (hb.block g (uS h)).trans h
theorem vY (w : World) (o : Obj) : (w.alloc o).heap[w.heap.size]? = some o := heap_alloc_new w o
section
variable {P : Program}
theorem wT {fn : Func} {p u : Tmp} {ty : TypeId} (h : fn.results = #[.cell p ty, .tmp u]) (tmps : Array Value) (w : World) (g : Nat) (t : TypeId) (cs : Array Value) (fr : Nat × Nat) (d : TypeDesc)
    (hp : tmps.getD p undef = .pointer (some ⟨g, 0, none⟩)) (hg : w.heap[g]? = some (.cells cs t fr))
    (hu : P.underlying ty = some d) (hd : (match d with | .struct _ | .array _ _ => true | _ => false) = true) (hi : (P.info? ty).map (·.size) = some cs.size) :
    (results fn tmps).run P w = .ok (.tuple #[.agg cs, tmps.getD u undef]) w := by
  have hp' : tmps[p]?.getD undef = .pointer (some ⟨g, 0, none⟩) := by simpa using hp
  simp [results, h, hp', asAddr, run_loadVar_row w g t ty cs fr d hg hu hd hi]
end
theorem zQ1 {w : World} {base n m c size : Nat} {e : TypeId} {A : Option Addr} {xs : List Value} (h : w.ownsRow base e size (.slice A m c) n xs) : m ≤ c := by
  rcases h.2 with ⟨he, _⟩ | ⟨g, cap, cur, he, _, _, hnc, _⟩
  · injection he with _ h2 h3
    omega
  · injection he with _ h2 h3
    omega
def jq {α : Type} (R : α → List Value → Prop) (e : TypeId) (size : Nat) (w : World) (base : Nat) (v : Value) (ps : List α) : Prop :=
  ∃ inner, w.ownsRow base e size v ps.length inner ∧ xA R size ps inner
section
variable {α : Type} {R R' : α → List Value → Prop} {e : TypeId} {size : Nat} {w w1 : World} {base : Nat} {v : Value} {ps : List α}
theorem jq.none_ (R : α → List Value → Prop) (e : TypeId) (size : Nat) (w : World) (base : Nat) : jq R e size w base (.slice none 0 0) [] := ⟨[], zwT _ _ _ _, xA.none _ _⟩
theorem jq.VF (h : jq R e size w base v ps) (hR : ∀ p c, R p c → R' p c) : jq R' e size w base v ps := by
  obtain ⟨inner, ho, hr⟩ := h
  exact ⟨inner, ho, hr.VF hR⟩
theorem jq.below (h : jq R e size w base v ps) (hb : Below w.heap.size w w1) : jq R e size w1 base v ps := by
  obtain ⟨inner, ho, hr⟩ := h
  exact ⟨inner, Wv ho hb, hr⟩
theorem jq.other (h : jq R e size w base v ps) {row : Option Nat} (hg : w.grownBy w1 row) (hne : v.ownBlock = none ∨ v.ownBlock ≠ row) : jq R e size w1 base v ps := by
  obtain ⟨inner, ho, hr⟩ := h
  exact ⟨inner, zj2 ho hg hne, hr⟩
theorem jq.keep (h : jq R e size w base v ps) {g : Nat} {t : TypeId} {cells : Array Value} (hb : w.heap[g]? = some (.cells cells t (0, 0))) (ht : e ≠ t) (hk : jS w w1 g none) : jq R e size w1 base v ps := by
  obtain ⟨inner, ho, hr⟩ := h
  exact ⟨inner, hk.own ho (Ne.symm (own_ne ho hb ht)) (by cases v.ownBlock <;> simp), hr⟩
theorem jq.reads (h : jq R e size w base v ps) : ∃ A c, v = .slice A ps.length c ∧ ps.length ≤ c ∧ ZA R size w A ps.length ps := by
  obtain ⟨inner, ho, hr⟩ := h
  obtain ⟨A, c, rfl, hrow⟩ := iB ho hr rfl
  exact ⟨A, c, rfl, zQ1 ho, hrow⟩
theorem jq.zv3 (h : jq R e size w base v ps) {g : Nat} {t : TypeId} {cells : Array Value} (hb : w.heap[g]? = some (.cells cells t (0, 0))) (ht : e ≠ t) : some g ≠ v.ownBlock := by
  obtain ⟨inner, ho, hr⟩ := h
  exact own_ne ho hb ht
theorem jq.lit (W : World) (base : Nat) {inner : List Value} (hr : xA R size ps inner) (hb : base ≤ W.heap.size) (hm : ps.length ≤ 9223372036854775807) :
    jq R e size (W.alloc (.cells inner.toArray e)) base (.slice (some ⟨W.heap.size, 0, none⟩) ps.length ps.length) ps := by
  have h := World.ownsRow_lit (base := base) (e := e) (size := size) W inner.toArray ps.length hb (by simpa [maxLen] using hm) (by simpa using hr.1)
  exact ⟨inner, by simpa using h, hr⟩
end
section
variable {P : Program} {ops : Array Oper} {rest : List Oper} {o : Oper} {a : Act} {Q : Exit → Act → World → Prop} {α : Type} {R : α → List Value → Prop}
theorem jq.append {w0 W : World} (base : Nat) (hgd : o.guard = none) (s x : Operand) (t e : TypeId) (z : Value) (size bytes : Nat)
    (ho : o.op = .call { callee := .builtin .append, args := #[s, x], argTypes := #[t, t] })
    (ht : P.underlying t = some (.slice e)) (hinfo : (P.info? e).map (fun i => (i.zero, i.size, i.bytes)) = some (some z, size, bytes)) (hz : z.cells.size = size) (hs0 : 0 < size) (hb0 : 0 < bytes)
    (v : Value) (ps : List α) (p : α) (cs : List Value) (hs : a.eval s = v) (hx : a.eval x = .slice (some ⟨W.heap.size, 0, none⟩) 1 1) (hp : R p cs) (hcs : cs.length = size) (h1 : ∀ u ∈ cs, u.oneCell' = true)
    (HO : jq R e size W base v ps) (HB : Below base w0 W) (hbase : base ≤ W.heap.size) (hl : (ps.length + 1) * bytes ≤ 140737488355328)
    (h : ∀ v1 w1, jq R e size w1 base v1 (ps ++ [p]) → Below base w0 w1 → W.grownBy w1 v.ownBlock → (v1.ownBlock = v.ownBlock ∨ ∃ b, v1.ownBlock = some b ∧ W.heap.size ≤ b) → wpList P ops Q rest (a.put o.dst v1) w1) :
    wpList P ops Q (o :: rest) a (W.alloc (.cells cs.toArray e)) := by
  obtain ⟨inner, hown, hr⟩ := HO
  refine Vg base hgd s x t e z size bytes ho ht hinfo hz hs0 hb0 v ps.length inner cs hs hx hcs h1 hown HB hbase hl ?_
  intro v1 w1 hown1 hb1 hg1 bM
  exact h v1 w1 ⟨inner ++ cs, by rw [List.length_append, List.length_singleton]; exact hown1, hr.snoc hp hcs⟩ hb1 hg1 bM
end
section
variable {P : Program} {ops : Array Oper} {o : Oper} {a : Act} {Q : Exit → Act → World → Prop} {K : Act → World → Prop} {α : Type} {R : α → List Value → Prop}
end
section
variable {α : Type} {P : Program}
end
section
variable {P : Program} {ops : Array Oper} {rest : List Oper} {o : Oper} {a : Act} {Q : Exit → Act → World → Prop}
end
structure Kd (α : Type) where
  sz : Nat
  E : List Nat
  K : World → α → List Value → Prop
  M : World → Nat → (Nat → Prop) → α → List Value → Prop
  Ze : ∀ {w x cs}, K w x cs → cs.length = sz
  ZH : ∀ {w x cs}, K w x cs → ∀ u ∈ cs, u.oneCell' = true
  wD : ∀ {w w1 : World} {x cs}, Below w.heap.size w w1 → K w x cs → K w1 x cs
  jI : ∀ {w base ok x cs}, M w base ok x cs → K w x cs
  jX : ∀ {w base ok ok' x cs}, (∀ k, ok k → ok' k) → M w base ok x cs → M w base ok' x cs
  jT : ∀ {w : World} {base ok x cs}, M w base ok x cs → M w base (fun k => ok k ∧ base ≤ k ∧ k < w.heap.size ∧ ∃ q, q ∈ E ∧ ∃ cells, w.heap[k]? = some (.cells cells q (0, 0))) x cs
  wN : ∀ {w w1 : World} {base ok x cs}, (∀ k, ok k → w1.heap[k]? = w.heap[k]?) → M w base ok x cs → M w1 base ok x cs
  wE : ∀ {w base base' ok x cs}, base' ≤ base → M w base ok x cs → M w base' ok x cs
theorem zv4 {w w1 : World} {base : Nat} {e : TypeId} {size n : Nat} {v : Value} {xs : List Value} (h : w.ownsRow base e size v n xs) (hm : ∀ k, v.ownBlock = some k → w1.heap[k]? = w.heap[k]?) : w1.ownsRow base e size v n xs := by
  obtain ⟨h1, h2⟩ := h
  refine ⟨h1, ?_⟩
  rcases h2 with h2 | ⟨g, cap, cur, rfl, hg, hh, r⟩
  · exact .inl h2
  · exact .inr ⟨g, cap, cur, rfl, hg, (hm g (by simp [Value.ownBlock])).trans hh, r⟩
theorem pV {w : World} {base : Nat} {e : TypeId} {size n : Nat} {v : Value} {xs : List Value} (h : w.ownsRow base e size v n xs) (k : Nat) (hk : v.ownBlock = some k) : ∃ cells, w.heap[k]? = some (.cells cells e (0, 0)) := by
  rcases h.2 with ⟨rfl, _⟩ | ⟨g, cap, cur, rfl, hg, hh, r⟩
  · simp [Value.ownBlock] at hk
  · have : g = k := by simpa [Value.ownBlock] using hk
    subst this
    exact ⟨cur, hh⟩
namespace Kd
def C {α : Type} (d : Kd α) (w : World) (A : Option Addr) (n : Nat) (xs : List α) : Prop := ZA (d.K w) d.sz w A n xs
def R {α : Type} (d : Kd α) (e : Nat) (w : World) (base : Nat) (ok : Nat → Prop) (v : Value) (xs : List α) : Prop :=
  (∀ k, v.ownBlock = some k → ok k) ∧ jq (d.M w base (fun k => ok k ∧ some k ≠ v.ownBlock)) e d.sz w base v xs
section
variable {α : Type} {d : Kd α} {e : Nat} {w w1 : World} {base : Nat} {ok ok' : Nat → Prop} {v : Value} {xs : List α}
theorem zh {A : Option Addr} {n : Nat} (h : d.C w A n xs) (hb : Below w.heap.size w w1) : d.C w1 A n xs := ZA.VF h hb (fun _ _ hp => d.wD hb hp)
theorem xE (d : Kd α) (e : Nat) (w : World) (base : Nat) (ok : Nat → Prop) : d.R e w base ok (.slice none 0 0) [] := ⟨fun k hk => by simp [Value.ownBlock] at hk, jq.none_ _ _ _ _ _⟩
theorem yN (h : d.R e w base ok v xs) (hok : ∀ k, ok k → ok' k) : d.R e w base ok' v xs := ⟨fun k hk => hok k (h.1 k hk), h.2.VF (fun _ _ hp => d.jX (fun k hk => ⟨hok k hk.1, hk.2⟩) hp)⟩
theorem jv (h : d.R e w base ok v xs) : d.R e w base (fun k => ok k ∧ base ≤ k ∧ k < w.heap.size ∧ ∃ q, q ∈ e :: d.E ∧ ∃ cells, w.heap[k]? = some (.cells cells q (0, 0))) v xs := by
  obtain ⟨h0, inner, ho, hr⟩ := h
  refine ⟨fun k hk => ?_, inner, ho, hr.VF (fun _ _ hp => d.jX (fun k hk => ?_) (d.jT hp))⟩
  · obtain ⟨cells, hc⟩ := pV ho k hk
    exact ⟨h0 k hk, QI ho k hk, zj1 ho k hk, e, List.mem_cons_self, cells, hc⟩
  · obtain ⟨⟨h1, h2⟩, h3, h4, q, hq, hc⟩ := hk
    exact ⟨⟨h1, h3, h4, q, List.mem_cons_of_mem _ hq, hc⟩, h2⟩
theorem Wy (h : d.R e w base ok v xs) (hm : ∀ k, ok k → w1.heap[k]? = w.heap[k]?) : d.R e w1 base ok v xs := by
  obtain ⟨h0, inner, ho, hr⟩ := h
  exact ⟨h0, inner, zv4 ho (fun k hk => hm k (h0 k hk)), hr.VF (fun _ _ hp => d.wN (fun k hk => hm k hk.1) hp)⟩
theorem jk {base' : Nat} (h : d.R e w base ok v xs) (hb : base' ≤ base) : d.R e w base' ok v xs := by
  obtain ⟨h0, inner, ho, hr⟩ := h
  exact ⟨h0, inner, zxj ho hb, hr.VF (fun _ _ hp => d.wE hb hp)⟩
theorem Ja (h : d.R e w base ok v xs) (hm : ∀ k, ok k → k < w.heap.size → w1.heap[k]? = w.heap[k]?) : d.R e w1 base ok v xs :=
  yN (Wy (jv h) (fun k hk => hm k hk.1 hk.2.2.1)) (fun _ hk => hk.1)
theorem zj4 {x : α} {cs : List Value} (h : d.M w base ok x cs) (hm : ∀ k, ok k → k < w.heap.size → w1.heap[k]? = w.heap[k]?) : d.M w1 base ok x cs :=
  d.jX (fun _ hk => hk.1) (d.wN (fun k hk => hm k hk.1 hk.2.2.1) (d.jT h))
theorem zR (h : d.R e w base ok v xs) (hb : Below w.heap.size w w1) : d.R e w1 base ok v xs := Ja h (fun k _ hk => hb.block k hk)
theorem zzO {x : α} {cs : List Value} (h : d.M w base ok x cs) (hb : Below w.heap.size w w1) : d.M w1 base ok x cs := zj4 h (fun k _ hk => hb.block k hk)
theorem Y8 (h : d.R e w base ok v xs) {row : Option Nat} (hg : w.grownBy w1 row) (hok : ∀ k, ok k → some k ≠ row) : d.R e w1 base ok v xs := Ja h (fun k ho hk => hg.block k hk (hok k ho))
theorem qy (h : d.R e w base ok v xs) {p : Addr} (hok : ∀ k, ok k → k ≠ p.block) (u : Value) : d.R e (w.setCell p u) base ok v xs := Ja h (fun k ho _ => Below.heap_setCell w p u k (hok k ho))
theorem vQ (h : d.R e w base ok v xs) {g t : Nat} {cells : Array Value} (hb : w.heap[g]? = some (.cells cells t (0, 0))) (ht : ∀ q, q ∈ e :: d.E → q ≠ t) : d.R e w base (fun k => ok k ∧ k ≠ g) v xs :=
  yN (jv h) (fun k hk => ⟨hk.1, by
    obtain ⟨_, _, _, q, hq, cells', hc⟩ := hk
    rintro rfl
    rw [hc] at hb
    injection hb with hb
    injection hb with _ hb
    exact ht q hq hb⟩)
theorem jg (h : d.R e w base ok v xs) {g t : Nat} {cells : Array Value} (hb : w.heap[g]? = some (.cells cells t (0, 0))) (ht : ∀ q, q ∈ e :: d.E → q ≠ t) (j : Nat) (u : Value) : d.R e (w.setCell ⟨g, j, none⟩ u) base ok v xs :=
  yN (qy (p := ⟨g, j, none⟩) (vQ h hb ht) (fun _ hk => hk.2) u) (fun _ hk => hk.1)
theorem V8 (h : d.R e w base ok v xs) : ∃ A c, v = .slice A xs.length c ∧ xs.length ≤ c ∧ d.C w A xs.length xs := by
  obtain ⟨A, c, he, hl, hr⟩ := jq.reads h.2
  exact ⟨A, c, he, hl, hr.VF (Below.refl _ _) (fun _ _ hp => d.jI hp)⟩
theorem yx (h : d.R e w base ok v xs) : ∃ A c, v = .slice A xs.length c := by
  obtain ⟨A, c, he, _⟩ := V8 h
  exact ⟨A, c, he⟩
theorem JO (h : d.R e w base ok v xs) : ∃ inner, w.ownsRow base e d.sz v xs.length inner := by
  obtain ⟨_, inner, ho, _⟩ := h
  exact ⟨inner, ho⟩
theorem uX (h : d.R e w base ok v xs) {g t : Nat} {cells : Array Value} (hb : w.heap[g]? = some (.cells cells t (0, 0))) (ht : e ≠ t) : some g ≠ v.ownBlock := jq.zv3 h.2 hb ht
end
def scalar {α : Type} (enc : α → Value) (h1 : ∀ x, (enc x).oneCell' = true) : Kd α where
  sz := 1
  E := []
  K := fun _ x cs => cs = [enc x]
  M := fun _ _ _ x cs => cs = [enc x]
  Ze := fun h => by rw [h]; rfl
  ZH := fun h u hu => by
    rw [h] at hu
    rw [List.mem_singleton.1 hu]
    exact h1 _
  wD := fun _ h => h
  jI := fun h => h
  jX := fun _ h => h
  jT := fun h => h
  wN := fun _ h => h
  wE := fun _ h => h
def int (k : IntKind) : Kd Int := scalar (Value.int k) (fun _ => rfl)
def bool : Kd Bool := scalar Value.bool (fun _ => rfl)
def string : Kd ByteArray := scalar Value.string (fun _ => rfl)
def slice {α : Type} (e : Nat) (d : Kd α) : Kd (List α) where
  sz := 1
  E := e :: d.E
  K := fun w xs cs => ∃ A c, cs = [.slice A xs.length c] ∧ xs.length ≤ c ∧ d.C w A xs.length xs
  M := fun w base ok xs cs => ∃ v, cs = [v] ∧ d.R e w base ok v xs
  Ze := by
    rintro w x cs ⟨A, c, rfl, _⟩
    rfl
  ZH := by
    rintro w x cs ⟨A, c, rfl, _⟩ u hu
    rw [List.mem_singleton.1 hu]
    rfl
  wD := by
    rintro w w1 x cs hb ⟨A, c, rfl, hl, hr⟩
    exact ⟨A, c, rfl, hl, zh hr hb⟩
  jI := by
    rintro w base ok x cs ⟨v, rfl, h⟩
    obtain ⟨A, c, rfl, hl, hr⟩ := V8 h
    exact ⟨A, c, rfl, hl, hr⟩
  jX := by
    rintro w base ok ok' x cs hok ⟨v, rfl, h⟩
    exact ⟨v, rfl, yN h hok⟩
  jT := by
    rintro w base ok x cs ⟨v, rfl, h⟩
    exact ⟨v, rfl, jv h⟩
  wN := by
    rintro w w1 base ok x cs hm ⟨v, rfl, h⟩
    exact ⟨v, rfl, Wy h hm⟩
  wE := by
    rintro w base base' ok x cs hb ⟨v, rfl, h⟩
    exact ⟨v, rfl, jk h hb⟩
def pair {α β : Type} (a : Kd α) (b : Kd β) : Kd (α × β) where
  sz := a.sz + b.sz
  E := a.E ++ b.E
  K := fun w x cs => ∃ c0 c1, cs = c0 ++ c1 ∧ a.K w x.1 c0 ∧ b.K w x.2 c1
  M := fun w base ok x cs => ∃ c0 c1, cs = c0 ++ c1 ∧ a.M w base ok x.1 c0 ∧ b.M w base ok x.2 c1
  Ze := by
    rintro w x cs ⟨c0, c1, rfl, h0, h1⟩
    rw [List.length_append, a.Ze h0, b.Ze h1]
  ZH := by
    rintro w x cs ⟨c0, c1, rfl, h0, h1⟩ u hu
    rcases List.mem_append.1 hu with hu | hu
    · exact a.ZH h0 u hu
    · exact b.ZH h1 u hu
  wD := by
    rintro w w1 x cs hb ⟨c0, c1, rfl, h0, h1⟩
    exact ⟨c0, c1, rfl, a.wD hb h0, b.wD hb h1⟩
  jI := by
    rintro w base ok x cs ⟨c0, c1, rfl, h0, h1⟩
    exact ⟨c0, c1, rfl, a.jI h0, b.jI h1⟩
  jX := by
    rintro w base ok ok' x cs hok ⟨c0, c1, rfl, h0, h1⟩
    exact ⟨c0, c1, rfl, a.jX hok h0, b.jX hok h1⟩
  jT := by
    rintro w base ok x cs ⟨c0, c1, rfl, h0, h1⟩
    refine ⟨c0, c1, rfl, a.jX ?_ (a.jT h0), b.jX ?_ (b.jT h1)⟩
    · rintro k ⟨h2, h3, h4, q, hq, hc⟩
      exact ⟨h2, h3, h4, q, List.mem_append_left _ hq, hc⟩
    · rintro k ⟨h2, h3, h4, q, hq, hc⟩
      exact ⟨h2, h3, h4, q, List.mem_append_right _ hq, hc⟩
  wN := by
    rintro w w1 base ok x cs hm ⟨c0, c1, rfl, h0, h1⟩
    exact ⟨c0, c1, rfl, a.wN hm h0, b.wN hm h1⟩
  wE := by
    rintro w base base' ok x cs hb ⟨c0, c1, rfl, h0, h1⟩
    exact ⟨c0, c1, rfl, a.wE hb h0, b.wE hb h1⟩
def lX {α β : Type} (d : Kd α) (f : β → α) : Kd β where
  sz := d.sz
  E := d.E
  K := fun w x cs => d.K w (f x) cs
  M := fun w base ok x cs => d.M w base ok (f x) cs
  Ze := d.Ze
  ZH := d.ZH
  wD := d.wD
  jI := d.jI
  jX := d.jX
  jT := d.jT
  wN := d.wN
  wE := d.wE
def bot {α : Type} (sz : Nat) (E : List Nat) : Kd α where
  sz := sz
  E := E
  K := fun _ _ _ => False
  M := fun _ _ _ _ _ => False
  Ze := fun h => h.elim
  ZH := fun h => h.elim
  wD := fun _ h => h
  jI := fun h => h
  jX := fun _ h => h
  jT := fun h => h
  wN := fun _ h => h
  wE := fun _ h => h
def upto {α : Type} (F : Kd α → Kd α) (sz : Nat) (E : List Nat) : Nat → Kd α
  | 0 => bot sz E
  | n + 1 => F (upto F sz E n)
theorem JR {α : Type} {d : Kd α} {w : World} {A : Option Addr} {n : Nat} {xs : List α} (h : d.C w A n xs) (z : α) (i : Int) (h0 : 0 ≤ i) (h1 : i < n) :
    ∃ ad c, A = some ad ∧ c.length = d.sz ∧ d.K w (xs.getD i.toNat z) c ∧ ∀ j u, c[j]? = some u → w.cell? (ad.add (i.toNat * d.sz + j)) = some u := ZA.zWm h z i h0 h1
theorem gu {α : Type} {d : Kd α} {e base : Nat} {ok pK : Nat → Prop} {W w1 : World} {v v1 : Value} {xs : List α} {p : α} {inner cs : List Value} (h0 : ∀ k, v.ownBlock = some k → ok k) (hr : xA (d.M W base (fun k => ok k ∧ some k ≠ v.ownBlock)) d.sz xs inner) (hp : d.M W base pK p cs) (lJ : ∀ k, pK k → ok k ∧ some k ≠ v.ownBlock) (hfresh : ∀ k, W.heap.size ≤ k → ok k)
    (hown : w1.ownsRow base e d.sz v1 (xs.length + 1) (inner ++ cs)) (hg : W.grownBy w1 v.ownBlock) (hat : v1.ownBlock = v.ownBlock ∨ ∃ b, v1.ownBlock = some b ∧ W.heap.size ≤ b) : d.R e w1 base ok v1 (xs ++ [p]) := by
  have hne : ∀ k, some k ≠ v.ownBlock → k < W.heap.size → some k ≠ v1.ownBlock := by
    intro k hk hlt
    rcases hat with hat | ⟨b, hb, hle⟩
    · rw [hat]; exact hk
    · rw [hb]
      intro he
      injection he with he
      omega
  have step : ∀ {q : α} {c : List Value} {o : Nat → Prop}, d.M W base o q c → (∀ k, o k → ok k ∧ some k ≠ v.ownBlock) → d.M w1 base (fun k => ok k ∧ some k ≠ v1.ownBlock) q c := by
    intro q c o hq ho
    have h1 := d.wN (w1 := w1) (fun k hk => hg.block k hk.2.2.1 (ho k hk.1).2) (d.jT hq)
    exact d.jX (fun k hk => ⟨(ho k hk.1).1, hne k (ho k hk.1).2 hk.2.2.1⟩) h1
  refine ⟨fun k hk => ?_, inner ++ cs, by rw [List.length_append, List.length_singleton]; exact hown, ?_⟩
  · rcases hat with hat | ⟨b, hb, hle⟩
    · exact h0 k (hat ▸ hk)
    · rw [hb] at hk
      injection hk with hk
      exact hfresh k (by omega)
  · exact (hr.VF (fun _ _ hq => step hq (fun _ hk => hk))).snoc (step hp lJ) (d.Ze (d.jI hp))
section
variable {P : Program} {ops : Array Oper} {rest : List Oper} {o : Oper} {a : Act} {Q : Exit → Act → World → Prop} {α : Type}
theorem JU (d : Kd α) {w0 W : World} (base : Nat) (hgd : o.guard = none) (s x : Operand) (t e : TypeId) (z : Value) (bytes : Nat)
    (ho : o.op = .call { callee := .builtin .append, args := #[s, x], argTypes := #[t, t] })
    (ht : P.underlying t = some (.slice e)) (hinfo : (P.info? e).map (fun i => (i.zero, i.size, i.bytes)) = some (some z, d.sz, bytes)) (hz : z.cells.size = d.sz) (hs0 : 0 < d.sz) (hb0 : 0 < bytes)
    (v : Value) (xs : List α) (p : α) (cs : List Value) (ok pK : Nat → Prop) (hs : a.eval s = v) (hx : a.eval x = .slice (some ⟨W.heap.size, 0, none⟩) 1 1) (hp : d.M W base pK p cs) (lJ : ∀ k, pK k → ok k ∧ some k ≠ v.ownBlock) (hfresh : ∀ k, W.heap.size ≤ k → ok k)
    (HO : d.R e W base ok v xs) (HB : Below base w0 W) (hbase : base ≤ W.heap.size) (hl : (xs.length + 1) * bytes ≤ 140737488355328)
    (h : ∀ v1 w1, d.R e w1 base ok v1 (xs ++ [p]) → Below base w0 w1 → W.grownBy w1 v.ownBlock → (v1.ownBlock = v.ownBlock ∨ ∃ b, v1.ownBlock = some b ∧ W.heap.size ≤ b) → wpList P ops Q rest (a.put o.dst v1) w1) :
    wpList P ops Q (o :: rest) a (W.alloc (.cells cs.toArray e)) := by
  obtain ⟨h0, inner, hown, hr⟩ := HO
  refine Vg base hgd s x t e z d.sz bytes ho ht hinfo hz hs0 hb0 v xs.length inner cs hs hx (d.Ze (d.jI hp)) (d.ZH (d.jI hp)) hown HB hbase hl ?_
  intro v1 w1 hown1 hb1 hg1 bM
  exact h v1 w1 (gu h0 hr hp lJ hfresh hown1 hg1 bM) hb1 hg1 bM
end
section
variable {P : Program} {ops : Array Oper} {o : Oper} {a : Act} {Q : Exit → Act → World → Prop} {Kc : Act → World → Prop} {α : Type}
theorem vD (d : Kd α) {w0 W : World} (base : Nat) (hw : Region.wanted o (yielded ops a.tmps) = true) (s x : Operand) (t e : TypeId) (z : Value) (bytes : Nat)
    (ho : o.op = .call { callee := .builtin .append, args := #[s, x], argTypes := #[t, t] })
    (ht : P.underlying t = some (.slice e)) (hinfo : (P.info? e).map (fun i => (i.zero, i.size, i.bytes)) = some (some z, d.sz, bytes)) (hz : z.cells.size = d.sz) (hs0 : 0 < d.sz) (hb0 : 0 < bytes)
    (v : Value) (xs : List α) (p : α) (cs : List Value) (ok pK : Nat → Prop) (hs : a.eval s = v) (hx : a.eval x = .slice (some ⟨W.heap.size, 0, none⟩) 1 1) (hp : d.M W base pK p cs) (lJ : ∀ k, pK k → ok k ∧ some k ≠ v.ownBlock) (hfresh : ∀ k, W.heap.size ≤ k → ok k)
    (HO : d.R e W base ok v xs) (HB : Below base w0 W) (hbase : base ≤ W.heap.size) (hl : (xs.length + 1) * bytes ≤ 140737488355328)
    (h : ∀ v1 w1, d.R e w1 base ok v1 (xs ++ [p]) → Below base w0 w1 → W.grownBy w1 v.ownBlock → (v1.ownBlock = v.ownBlock ∨ ∃ b, v1.ownBlock = some b ∧ W.heap.size ≤ b) → Kc (a.put o.dst v1) w1) :
    if Region.wanted o (yielded ops a.tmps) = true then Oper.wp P o a (W.alloc (.cells cs.toArray e)) Kc Q else Kc (a.put o.dst undef) (W.alloc (.cells cs.toArray e)) := by
  obtain ⟨h0, inner, hown, hr⟩ := HO
  refine bX base hw s x t e z d.sz bytes ho ht hinfo hz hs0 hb0 v xs.length inner cs hs hx (d.Ze (d.jI hp)) (d.ZH (d.jI hp)) hown HB hbase hl ?_
  intro v1 w1 hown1 hb1 hg1 bM
  exact h v1 w1 (gu h0 hr hp lJ hfresh hown1 hg1 bM) hb1 hg1 bM
end
theorem YZ {α : Type} {enc : α → Value} {h1 : ∀ x, (enc x).oneCell' = true} {e : Nat} {w : World} {base : Nat} {ok : Nat → Prop} {v : Value} {xs : List α} (h : (scalar enc h1).R e w base ok v xs) : w.ownsRow base e 1 v xs.length (encs enc xs) := by
  obtain ⟨_, inner, ho, hr⟩ := h
  have : inner = encs enc xs := by
    apply List.ext_getElem?
    intro j
    rcases Nat.lt_or_ge j xs.length with hj | hj
    · have h2 := hr.2 j _ (List.getElem?_eq_getElem hj)
      have hl : j < inner.length := by have := hr.1; simp [scalar] at this; omega
      have h3 : (inner.drop (j * 1)).take 1 = [enc xs[j]] := h2
      rw [Nat.mul_one, List.drop_eq_getElem_cons hl] at h3
      have h4 : inner[j] = enc xs[j] := by
        have h5 := congrArg List.head? h3
        rw [List.take_succ_cons] at h5
        exact Option.some.inj h5
      rw [List.getElem?_eq_getElem hl, h4]
      simp [encs, List.getElem?_eq_getElem hj]
    · have h3 : inner.length = xs.length := by have := hr.1; simp [scalar] at this; omega
      rw [List.getElem?_eq_none (by omega), List.getElem?_eq_none (by rw [zzA]; omega)]
  rw [← this]
  exact ho
theorem gB {α : Type} {enc : α → Value} {d : α} {h1 : ∀ x, (enc x).oneCell' = true} {w : World} {A : Option Addr} {n : Nat} {xs : List α} (h : (scalar enc h1).C w A n xs) : jD enc d w A n xs := by
  refine ⟨h.1, h.2.1, fun hn => ?_⟩
  obtain ⟨ad, e, hc⟩ := h.2.2 hn
  refine ⟨ad, e, fun j hj => ?_⟩
  have hl : j < xs.length := by have := h.1; omega
  obtain ⟨c, _, hK, hcell⟩ := hc j _ (List.getElem?_eq_getElem hl)
  have hK' : c = [enc xs[j]] := hK
  subst hK'
  have := hcell 0 _ rfl
  simpa [scalar, List.getD_eq_getElem?_getD, List.getElem?_eq_getElem hl] using this
end Kd
namespace Kd
section
variable {α : Type} {F : Kd α → Kd α} {sz : Nat} {E : List Nat} {hs : ∀ n, (upto F sz E n).sz = sz} {hE : ∀ n q, q ∈ (upto F sz E n).E → q ∈ E}
end
end Kd
namespace Kd
end Kd
namespace Kd
section
variable {α β : Type} {d : Kd α} {d' : Kd β} {e e' : Nat} {w w1 W : World} {base b b' : Nat} {ok ok' okv oku : Nat → Prop} {v u : Value} {xs : List α} {ys : List β}
theorem qE (h : d.R e w base ok v xs) (o : Obj) : d.R e (w.alloc o) base ok v xs := zR h (yt (Below.refl _ _) o)
theorem yR (h : d.R e w base ok v xs) : d.R e w.drew base ok v xs := zR h (wR (Below.refl _ _))
theorem qp (h : d.R e w base ok v xs) (m : Nat) : d.R e (w.drewN m) base ok v xs := zR h (zM (Below.refl _ _) m)
theorem yE {A : Option Addr} {n : Nat} (h : d.C w A n xs) (o : Obj) : d.C (w.alloc o) A n xs := zh h (yt (Below.refl _ _) o)
theorem y8 {A : Option Addr} {n : Nat} (h : d.C w A n xs) : d.C w.drew A n xs := zh h (wR (Below.refl _ _))
theorem yF {A : Option Addr} {n : Nat} (h : d.C w A n xs) (m : Nat) : d.C (w.drewN m) A n xs := zh h (zM (Below.refl _ _) m)
theorem zVJ (d : Kd α) (w : World) : d.C w none ([] : List α).length [] := ⟨rfl, by simp, fun h => absurd h (Nat.lt_irrefl 0)⟩
theorem yh {A : Option Addr} {n c : Nat} (h : d.R e w base ok (.slice A n c) xs) : n = xs.length ∧ n ≤ c ∧ d.C w A xs.length xs := by
  obtain ⟨A', c', he, hl, hr⟩ := V8 h
  injection he with h1 h2 h3
  subst h1
  exact ⟨h2, by omega, hr⟩
theorem zv5 (h : d.R e w base ok v xs) : ∀ k, v.ownBlock = some k → k < w.heap.size := by
  obtain ⟨inner, ho⟩ := JO h
  exact zj1 ho
theorem lV (h : d.R e w base ok v xs) : ∀ k, v.ownBlock = some k → base ≤ k := by
  obtain ⟨inner, ho⟩ := JO h
  exact QI ho
end
section
variable {w W : World} {A : Option Addr} {n : Nat}
theorem lK {k : IntKind} {xs : List Int} (h : (Kd.int k).C w A n xs) (i : Int) (h0 : 0 ≤ i) (h1 : i < n) : ∃ ad, A = some ad ∧ w.cell? (ad.add i.toNat) = some (.int k (rd xs i)) :=
  jD.at_ (gB (enc := Value.int k) (d := (0 : Int)) (h1 := fun _ => rfl) h) i h0 h1
theorem xG {xs : List ByteArray} (h : Kd.string.C w A n xs) (i : Int) (h0 : 0 ≤ i) (h1 : i < n) : ∃ ad, A = some ad ∧ w.cell? (ad.add i.toNat) = some (.string (yG ByteArray.empty xs i)) :=
  jD.at_ (gB (enc := Value.string) (d := ByteArray.empty) (h1 := fun _ => rfl) h) i h0 h1
variable {α : Type} {enc : α → Value} {h1 : ∀ x, (enc x).oneCell' = true} {e base g cap : Nat} {ok : Nat → Prop} {xs : List α}
end
section
variable {P : Program} {ops : Array Oper} {rest : List Oper} {o : Oper} {a : Act} {Q : Exit → Act → World → Prop}
theorem fV {W w1 : World} {v : Value} (hgd : o.guard = none) (hrun : (execOp a.eval o).run P W = .ok (.value v) w1) (h : wpList P ops Q rest (a.put o.dst v) w1) : wpList P ops Q (o :: rest) a W := by
  refine wpList_plain hgd fun K hK => ?_
  unfold Oper.wp
  rw [hrun]
  exact hK _ _ h
variable {α : Type}
theorem J2 (d : Kd α) {w0 W : World} (base e : Nat) (hgd : o.guard = none) {N : Tmp} (_hd : o.dst = some N) {xs : List α} {inner : List Value} {ok pK : Nat → Prop}
    (hrun : (execOp a.eval o).run P W = .ok (.value (.slice (some ⟨W.heap.size, 0, none⟩) xs.length xs.length)) (W.alloc (.cells inner.toArray e)))
    (hrep : xA (d.M W base pK) d.sz xs inner) (hok : ∀ k, pK k → ok k) (hfresh : ok W.heap.size) (HB : Below base w0 W) (hbase : base ≤ W.heap.size) (hm : xs.length ≤ 9223372036854775807)
    (h : ∀ v1 w1, d.R e w1 base ok v1 xs → Below base w0 w1 → W.grownBy w1 none → (∃ b, v1.ownBlock = some b ∧ W.heap.size ≤ b) → wpList P ops Q rest (a.put o.dst v1) w1) : wpList P ops Q (o :: rest) a W := by
  refine fV hgd hrun (h _ _ ⟨fun k hk => ?_, inner, ?_, ?_⟩ (HB.alloc hbase _) (World.grownBy_alloc W _ none) ⟨W.heap.size, by simp [Value.ownBlock], Nat.le_refl _⟩)
  · have : W.heap.size = k := by simpa [Value.ownBlock] using hk
    subst this
    exact hfresh
  · have h2 := World.ownsRow_lit (base := base) (e := e) (size := d.sz) W inner.toArray xs.length hbase (by simpa [maxLen] using hm) (by simpa using hrep.1)
    simpa using h2
  · refine hrep.VF (fun p c hp => d.jX (fun k hk => ⟨hok k hk.1, fun he => ?_⟩) (zzO (d.jT hp) (yt (Below.refl _ _) _)))
    have h3 : k = W.heap.size := by simpa [Value.ownBlock] using he
    have := hk.2.2.1
    omega
end
end Kd
section
variable {P : Program}
end
def zQ2 (w : World) (base : Nat) (e : TypeId) (size : Nat) (v : Value) (n : Nat) (xs : List Value) : Prop :=
  xs.length = n * size ∧
  ((n = 0 ∧ ∃ A, v = .slice A 0 0 ∧ ∀ a, A = some a → base ≤ a.block ∧ ∃ cur, w.heap[a.block]? = some (.cells cur e (0, 0))) ∨
   ∃ g off cap cur, v = .slice (some ⟨g, off * size, none⟩) n cap ∧ base ≤ g ∧ w.heap[g]? = some (.cells cur e (0, 0)) ∧ n ≤ cap ∧ off + cap ≤ maxLen ∧ cur.size = (off + cap) * size ∧ (cur.toList.drop (off * size)).take (n * size) = xs)
section
variable {w w1 : World} {base n size : Nat} {e : TypeId} {v : Value} {xs : List Value}
theorem zv6 (h : w.ownsRow base e size v n xs) : zQ2 w base e size v n xs := by
  obtain ⟨h1, h2⟩ := h
  refine ⟨h1, ?_⟩
  rcases h2 with ⟨rfl, h0⟩ | ⟨g, cap, cur, rfl, hb, hh, hnc, hcm, hcs, ht⟩
  · exact .inl ⟨h0, none, rfl, fun a ha => by cases ha⟩
  · exact .inr ⟨g, 0, cap, cur, by rw [Nat.zero_mul], hb, hh, hnc, by rw [Nat.zero_add]; exact hcm, by rw [Nat.zero_add]; exact hcs, by rw [Nat.zero_mul, List.drop_zero]; exact ht⟩
theorem zQ3 (g o j : Nat) : (⟨g, o, none⟩ : Addr).add j = ⟨g, o + j, none⟩ := by unfold Addr.add; split <;> simp_all
end
section
variable {P : Program}
end
namespace Kd
def Q {α : Type} (d : Kd α) (e : Nat) (w : World) (base : Nat) (ok : Nat → Prop) (v : Value) (xs : List α) : Prop :=
  (∀ k, v.ownBlock = some k → ok k) ∧ ∃ inner, zQ2 w base e d.sz v xs.length inner ∧ xA (d.M w base (fun k => ok k ∧ some k ≠ v.ownBlock)) d.sz xs inner
section
variable {α : Type} {d : Kd α} {e : Nat} {w w1 W : World} {base : Nat} {ok ok' : Nat → Prop} {v : Value} {xs : List α}
theorem zQ4 (h : d.R e w base ok v xs) : d.Q e w base ok v xs := by
  obtain ⟨h0, inner, ho, hr⟩ := h
  exact ⟨h0, inner, zv6 ho, hr⟩
theorem jV (d : Kd α) (e : Nat) (w : World) (base : Nat) (ok : Nat → Prop) : d.Q e w base ok (.slice none 0 0) [] := zQ4 (xE d e w base ok)
end
section
variable {P : Program} {ops : Array Oper} {rest : List Oper} {o : Oper} {a : Act} {Q' : Exit → Act → World → Prop} {Kc : Act → World → Prop} {α : Type}
end
end Kd
namespace Kd
section
variable {α : Type} {d : Kd α} {e e' : Nat} {w w1 W : World} {base : Nat} {ok : Nat → Prop} {u v : Value} {xs : List α}
theorem vM (h : d.R e w base ok v xs) : ∀ k, v.ownBlock = some k → ∃ cells, w.heap[k]? = some (.cells cells e (0, 0)) := by
  obtain ⟨inner, ho⟩ := JO h
  exact fun k hk => pV ho k hk
theorem vN (h : d.R e W base ok u xs) (hty : ∀ k, v.ownBlock = some k → ∃ cells, W.heap[k]? = some (.cells cells e' (0, 0))) (ht : ∀ q, q ∈ e :: d.E → q ≠ e') (hg : W.grownBy w1 v.ownBlock) : d.R e w1 base ok u xs := by
  refine yN (Wy (jv h) (fun k hk => hg.block k hk.2.2.1 (fun he => ?_))) (fun _ hk => hk.1)
  obtain ⟨_, _, _, q, hq, cells, hc⟩ := hk
  obtain ⟨cells', hc'⟩ := hty k he.symm
  rw [hc] at hc'
  injection hc' with hc'
  injection hc' with _ hc'
  exact ht q hq hc'
theorem bN (hu : d.R e W base ok u xs) (hbase : ∀ k, v.ownBlock = some k → W.heap.size ≤ k) (hb : Below W.heap.size W w1) : d.R e w1 base (fun k => ok k ∧ some k ≠ v.ownBlock) u xs :=
  yN (Wy (jv hu) (fun k hk => hb.block k hk.2.2.1)) (fun k hk => ⟨hk.1, fun he => by have := hbase k he.symm; have := hk.2.2.1; omega⟩)
theorem lY (h : d.R e w1 W.heap.size ok v xs) (hlt : ∀ k, u.ownBlock = some k → k < W.heap.size) : d.R e w1 W.heap.size (fun k => ok k ∧ some k ≠ u.ownBlock) v xs :=
  yN (jv h) (fun k hk => ⟨hk.1, fun he => by have := hlt k he.symm; have := hk.2.1; omega⟩)
end
end Kd
namespace Kd
section
variable {α : Type} {d : Kd α} {e base g n cap : Nat} {ok pK : Nat → Prop} {W : World} {xs : List α}
theorem zQ5 (h : d.R e W base ok (.slice (some ⟨g, 0, none⟩) n cap) xs) (z : α) (i : Int) (h0 : 0 ≤ i) (h1 : i < n) :
    ∃ c, c.length = d.sz ∧ d.M W base (fun k => ok k ∧ k ≠ g) (xs.getD i.toNat z) c ∧ (∀ j u, c[j]? = some u → W.cell? ⟨g, i.toNat * d.sz + j, none⟩ = some u) ∧ ∀ j, W.frozen? ⟨g, i.toNat * d.sz + j, none⟩ = false := by
  obtain ⟨hn, hnc, hC⟩ := yh h
  obtain ⟨_, inner, ho, hr⟩ := h
  have hil : i.toNat < xs.length := by omega
  have hseg : i.toNat * d.sz + d.sz ≤ inner.length := by rw [hr.1, ← Nat.succ_mul]; exact Nat.mul_le_mul_right _ hil
  have hM := hr.2 i.toNat _ (List.getElem?_eq_getElem hil)
  refine ⟨(inner.drop (i.toNat * d.sz)).take d.sz, by rw [List.length_take, List.length_drop]; omega, ?_, fun j u hu => ?_, fun j => ?_⟩
  · rw [List.getD_eq_getElem?_getD, List.getElem?_eq_getElem hil]
    exact d.jX (fun k hk => ⟨hk.1, fun he => hk.2 (by rw [he]; simp [Value.ownBlock])⟩) hM
  · rw [List.getElem?_take] at hu
    split at hu
    · rw [List.getElem?_drop] at hu
      have := ho.cells (g := g) (by simp [Value.ownBlock]) _ u hu
      rwa [add_plain] at this
    · cases hu
  · obtain ⟨cells, hc⟩ := pV ho g (by simp [Value.ownBlock])
    exact zw hc _
end
end Kd
namespace Kd
section
variable {α : Type} {F : Kd α → Kd α} {sz : Nat} {E : List Nat} {hs : ∀ n, (upto F sz E n).sz = sz} {hE : ∀ n q, q ∈ (upto F sz E n).E → q ∈ E}
end
end Kd
namespace Kd
section
variable {P : Program} {ops : Array Oper} {rest : List Oper} {o : Oper} {a : Act} {Q : Exit → Act → World → Prop} {α : Type}
end
end Kd
namespace Kd
section
variable {P : Program} {ops : Array Oper} {rest : List Oper} {o : Oper} {a : Act} {Q : Exit → Act → World → Prop} {α : Type}
end
end Kd
theorem add_add (a : Addr) (i j : Nat) : (a.add i).add j = a.add (i + j) := by
  unfold Addr.add
  by_cases h1 : i = 0 <;> by_cases h2 : j = 0 <;> simp [h1, h2, Nat.add_assoc]
namespace Kd
section
variable {α : Type} {k : Kd α} {w : World} {A : Option Addr} {xs : List α} {m c : Nat}
end
end Kd
section
variable {P : Program}
end
theorem zO {w W : World} (h : Below w.heap.size w W) : w.heap.size ≤ W.heap.size := h.size
theorem yY {w W w2 : World} (h : Below w.heap.size w W) (k : Below W.heap.size W w2) : Below w.heap.size w w2 := zxx h h.size k
theorem jL.nil (W : World) (k : IntKind) : jL W k none ([] : List Int).length [] := ⟨rfl, by simp, fun h => absurd h (Nat.lt_irrefl 0)⟩
theorem jL.drewN {W : World} {k : IntKind} {A : Option Addr} {n : Nat} {xs : List Int} (h : jL W k A n xs) (m : Nat) : jL (W.drewN m) k A n xs := h
theorem qo {w W : World} {g j : Nat} {v : Value} (h : Below w.heap.size w W) (hg : w.heap.size ≤ g) : Below w.heap.size w (W.setCell ⟨g, j, none⟩ v) := h.setCell hg _
theorem fK {w W : World} {g : Nat} (h : jS w W g none) {a : Addr} {v : Value} (hc : w.cell? a = some v) (hne : a.block ≠ g) : W.cell? a = some v := by
  have := h.2 a.block (World.block_lt_of_cell? w a hc) hne (by simp)
  simpa [World.cell?, this] using hc
theorem add_block (a : Addr) (i : Nat) : (a.add i).block = a.block := by unfold Addr.add; split <;> rfl
theorem jD.nil {α : Type} (enc : α → Value) (d : α) (W : World) : jD enc d W none ([] : List α).length [] := ⟨rfl, by simp, fun h => absurd h (Nat.lt_irrefl 0)⟩
theorem jD.drewN {α : Type} {enc : α → Value} {d : α} {W : World} {A : Option Addr} {n : Nat} {xs : List α} (h : jD enc d W A n xs) (m : Nat) : jD enc d (W.drewN m) A n xs := h
theorem jL.keep {w W : World} {k : IntKind} {A : Option Addr} {n g : Nat} {xs : List Int} (h : jL w k A n xs) (hk : jS w W g none) (hf : ∀ ad, A = some ad → 0 < n → ad.block ≠ g) : jL W k A n xs :=
  ⟨h.1, h.2.1, fun hn => by
    obtain ⟨ad, e, hc⟩ := h.2.2 hn
    exact ⟨ad, e, fun j hj => fK hk (hc j hj) (by rw [add_block]; exact hf ad e hn)⟩⟩
theorem jD.keep {α : Type} {enc : α → Value} {d : α} {w W : World} {A : Option Addr} {n g : Nat} {xs : List α} (h : jD enc d w A n xs) (hk : jS w W g none) (hf : ∀ ad, A = some ad → 0 < n → ad.block ≠ g) : jD enc d W A n xs :=
  ⟨h.1, h.2.1, fun hn => by
    obtain ⟨ad, e, hc⟩ := h.2.2 hn
    exact ⟨ad, e, fun j hj => fK hk (hc j hj) (by rw [add_block]; exact hf ad e hn)⟩⟩
theorem zD {w : World} {g : Nat} {t : TypeId} {cs cs' : Array Value} (h : w.heap[g]? = some (.cells cs t (0, 0))) (i : Nat) (u : Value) (e : cs.setIfInBounds i u = cs') : (w.setCell ⟨g, i, none⟩ u).heap[g]? = some (.cells cs' t (0, 0)) := e ▸ zwU h i u
theorem yP {base : Nat} {w W : World} (h : Below base w W) : Below base w W.drew := h.drew
namespace Kd
section
variable {α β : Type} {d : Kd α} {d' : Kd β} {e e' base base' n : Nat} {ok ok' : Nat → Prop} {w W w1 W1 : World} {v u : Value} {xs : List α} {ys : List β} {A : Option Addr} {c : Nat}
end
section
variable {α : Type} {enc : α → Value} {h1 : ∀ x, (enc x).oneCell' = true} {w W : World} {A : Option Addr} {n g : Nat} {xs : List α}
end
end Kd
namespace Kd
section
variable {α : Type} {d : Kd α} {e base g : Nat} {ok : Nat → Prop} {w w1 : World} {v : Value} {xs : List α} {o : Obj}
end
end Kd
section
variable {P : Program} {ops : Array Oper} {rest : List Oper} {o : Oper} {a : Act} {Q : Exit → Act → World → Prop}
theorem xR {W : World} (hgd : o.guard = none) {N : Tmp} (_hd : o.dst = some N) {cs : Array Value} {t : TypeId}
    (hrun : (execOp a.eval o).run P W = .ok (.value (.pointer (some ⟨W.heap.size, 0, none⟩))) (W.alloc (.cells cs t (0, 0))))
    (h : ∀ g, g = W.heap.size → ∀ w1, w1.heap[g]? = some (.cells cs t (0, 0)) → Below W.heap.size W w1 → wpList P ops Q rest (a.put o.dst (.pointer (some ⟨g, 0, none⟩))) w1) : wpList P ops Q (o :: rest) a W :=
  Kd.fV hgd hrun (h _ rfl _ (vY W _) (yt (Below.refl _ _) _))
end
namespace Kd
section
variable {α : Type} {enc : α → Value} {h1 : ∀ x, (enc x).oneCell' = true} {e base g n cap : Nat} {ok : Nat → Prop} {W : World} {xs : List α}
end
end Kd
section
variable {P : Program} {ops : Array Oper} {rest : List Oper} {o : Oper} {a : Act} {Q : Exit → Act → World → Prop}
end
namespace Kd
section
variable {α : Type} {enc : α → Value} {h1 : ∀ x, (enc x).oneCell' = true} {e base g n cap : Nat} {ok : Nat → Prop} {W : World} {xs : List α}
end
end Kd
section
variable {P : Program} {ops : Array Oper} {rest : List Oper} {o : Oper} {a : Act} {Q : Exit → Act → World → Prop} {W : World}
theorem xI {N : Tmp} (_hN : o.dst = some N) (h : wpList P ops Q (o :: rest) a W) : wpList P ops Q (o :: rest) a W := h
end
section
variable {P : Program} {ops : Array Oper} {o : Oper} {a : Act} {Q : Exit → Act → World → Prop} {Kc : Act → World → Prop}
theorem zxv {W w1 : World} {v : Value} (hw : Region.wanted o (yielded ops a.tmps) = true) (hrun : (execOp a.eval o).run P W = .ok (.value v) w1) (h : Kc (a.put o.dst v) w1) : if Region.wanted o (yielded ops a.tmps) = true then Oper.wp P o a W Kc Q else Kc (a.put o.dst undef) W := by
  rw [if_pos hw]
  unfold Oper.wp
  rw [hrun]
  exact h
namespace Kd
variable {α : Type}
theorem VR (d : Kd α) {w0 W : World} (base e : Nat) (hw : Region.wanted o (yielded ops a.tmps) = true) {N : Tmp} (_hd : o.dst = some N) {xs : List α} {inner : List Value} {ok pK : Nat → Prop}
    (hrun : (execOp a.eval o).run P W = .ok (.value (.slice (some ⟨W.heap.size, 0, none⟩) xs.length xs.length)) (W.alloc (.cells inner.toArray e)))
    (hrep : xA (d.M W base pK) d.sz xs inner) (hok : ∀ k, pK k → ok k) (hfresh : ok W.heap.size) (HB : Below base w0 W) (hbase : base ≤ W.heap.size) (hm : xs.length ≤ 9223372036854775807)
    (h : ∀ v1 w1, d.R e w1 base ok v1 xs → Below base w0 w1 → W.grownBy w1 none → (∃ b, v1.ownBlock = some b ∧ W.heap.size ≤ b) → Kc (a.put o.dst v1) w1) : if Region.wanted o (yielded ops a.tmps) = true then Oper.wp P o a W Kc Q else Kc (a.put o.dst undef) W := by
  refine zxv hw hrun (h _ _ ⟨fun k hk => ?_, inner, ?_, ?_⟩ (HB.alloc hbase _) (World.grownBy_alloc W _ none) ⟨W.heap.size, by simp [Value.ownBlock], Nat.le_refl _⟩)
  · have : W.heap.size = k := by simpa [Value.ownBlock] using hk
    subst this
    exact hfresh
  · have h2 := World.ownsRow_lit (base := base) (e := e) (size := d.sz) W inner.toArray xs.length hbase (by simpa [maxLen] using hm) (by simpa using hrep.1)
    simpa using h2
  · refine hrep.VF (fun p c hp => d.jX (fun k hk => ⟨hok k hk.1, fun he => ?_⟩) (zzO (d.jT hp) (yt (Below.refl _ _) _)))
    have h3 : k = W.heap.size := by simpa [Value.ownBlock] using he
    have := hk.2.2.1
    omega
end Kd
end
inductive lW (P : Program) (tmps : Array Value) (w : World) : List ResultVar → List Value → Prop where
  | nil : lW P tmps w [] []
  | tmp {u : Tmp} {rs : List ResultVar} {vs : List Value} (h : lW P tmps w rs vs) : lW P tmps w (.tmp u :: rs) (tmps.getD u undef :: vs)
  | cell {p : Tmp} {ty : TypeId} {rs : List ResultVar} {vs : List Value} (g : Nat) (t : TypeId) (cs : Array Value) (fr : Nat × Nat) (d : TypeDesc)
      (hp : tmps.getD p undef = .pointer (some ⟨g, 0, none⟩)) (hg : w.heap[g]? = some (.cells cs t fr))
      (hu : P.underlying ty = some d) (hd : (match d with | .struct _ | .array _ _ => true | _ => false) = true) (hi : (P.info? ty).map (·.size) = some cs.size)
      (h : lW P tmps w rs vs) : lW P tmps w (.cell p ty :: rs) (.agg cs :: vs)
section
variable {P : Program} {tmps : Array Value} {w : World}
end
namespace Kd
section
variable {P : Program} {α : Type}
end
section
variable {P : Program} {ops : Array Oper} {rest : List Oper} {o : Oper} {a : Act} {Q : Exit → Act → World → Prop} {Kc : Act → World → Prop} {α : Type}
end
end Kd
end Go.Proofs.zx.zK
namespace Go.Proofs.zx.zU
section
variable {P : Program} {ops : Array Oper} {Q : Exit → Act → World → Prop} {md : Region.Mode} {S : World → Prop} {ds : List Nat}
def Region.Yi (md : Region.Mode) (ops : Array Oper) (i : Nat) : Nat → Nat → Bool
 | 0, _ => false
 | fuel + 1, d => match ops[d]? with
  | some o => o.after.any fun e => Region.binds md e && (e.on == i || Region.Yi md ops i fuel e.on)
  | none => false
def Region.Jb (md : Region.Mode) (ops : Array Oper) (listed : Array Bool) : Bool :=
 (List.range ops.size).all fun j => !listed.getD j false || match ops[j]? with
  | some o => o.after.all fun e => !Region.binds md e || listed.getD e.on false
  | none => true
def Region.lastB (md : Region.Mode) (ops : Array Oper) (listed : Array Bool) (ds : List Nat) (i : Nat) : Bool :=
 ds.all fun d => listed.getD d true || Region.Yi md ops i ops.size d
def pI (md : Region.Mode) (ops : Array Oper) (listed : Array Bool) : Prop :=
 ∀ j oj, ops[j]? = some oj → listed.getD j false = true → ∀ e ∈ oj.after, Region.binds md e = true → listed.getD e.on false = true
theorem Region.lg {listed : Array Bool} (h : Region.Jb md ops listed = true) : pI md ops listed := by
 intro j oj hj hl e he hb
 have hlt : j < ops.size := (Array.getElem?_eq_some_iff.1 hj).1
 have h1 := List.all_eq_true.1 h j (List.mem_range.2 hlt)
 simp only [hl, hj, Bool.not_true, Bool.false_or] at h1
 have h2 := Array.all_eq_true_iff_forall_mem.1 h1 e he
 simpa [hb] using h2
theorem pI.set {listed : Array Bool} {i : Nat} (h : pI md ops listed) (hi : i ∈ Region.ready md ops listed) : pI md ops (listed.setIfInBounds i true) := by
 obtain ⟨_, oi, hoi, hall⟩ := mem_ready.1 hi
 intro j oj hj hl e he hb
 by_cases hij : i = j
 ·subst hij
  have : oj = oi := Option.some.inj (hj.symm.trans hoi)
  subst this
  exact getD_set_true (hall e he hb)
 ·rw [getD_set_ne false hij] at hl
  exact getD_set_true (h j oj hj hl e he hb)
theorem Region.Ww {listed : Array Bool} {i : Nat} (hc : pI md ops listed) : ∀ (fuel d : Nat), Region.Yi md ops i fuel d = true → listed.getD d false = true → listed.getD i false = true
 | 0, _, h, _ => by simp [Region.Yi] at h
 | fuel + 1, d, h, hl => by
  unfold Region.Yi at h
  cases ho : ops[d]? with
  | none => rw [ho] at h; simp at h
  | some o =>
   rw [ho] at h
   obtain ⟨e, he, h1⟩ := Array.any_eq_true'.1 h
   simp only [Bool.and_eq_true, Bool.or_eq_true, beq_iff_eq] at h1
   have hle := hc d o ho hl e he h1.1
   rcases h1.2 with h2 | h2
   ·rw [← h2]; exact hle
   ·exact Region.Ww hc fuel e.on h2 hle
theorem Region.gD {listed : Array Bool} {i d fuel : Nat} (hc : pI md ops listed) (hr : Region.Yi md ops i fuel d = true) (hun : listed.getD i true = false) : d ∉ Region.ready md ops listed := by
 intro hd
 obtain ⟨_, o, ho, hall⟩ := mem_ready.1 hd
 have hi : listed.getD i false = true := by
  cases fuel with
  | zero => simp [Region.Yi] at hr
  | succ n =>
   unfold Region.Yi at hr
   rw [ho] at hr
   obtain ⟨e, he, h1⟩ := Array.any_eq_true'.1 hr
   simp only [Bool.and_eq_true, Bool.or_eq_true, beq_iff_eq] at h1
   have hle := hall e he h1.1
   rcases h1.2 with h2 | h2
   ·rw [← h2]; exact hle
   ·exact Region.Ww hc n e.on h2 hle
 rcases Nat.lt_or_ge i listed.size with h' | h'
 ·simp [h'] at hun hi
  rw [hun] at hi
  cases hi
 ·simp [Array.getElem?_eq_none h'] at hun
def yg (P : Program) (md : Region.Mode) (ops : Array Oper) (Q : Exit → Act → World → Prop) (S : World → Prop) (ds : List Nat) : Nat → Array Bool → Act → World → Prop
 | 0, listed, a, w => Region.ready md ops listed = [] ∧ Q .normal a w
 | fuel + 1, listed, a, w =>
  (Region.ready md ops listed = [] → Q .normal a w) ∧
  ∀ i ∈ Region.ready md ops listed, wpOp P ops Q i (fun a' w' => (i ∉ ds → S w → S w') ∧ yg P md ops Q S ds fuel (listed.setIfInBounds i true) a' w') a w
theorem KL : ∀ (fuel : Nat) (listed : Array Bool) (a : Act) (w : World), yg P md ops Q S ds fuel listed a w → wpAny P md ops Q fuel listed a w
 | 0, _, _, _, h => h
 | fuel + 1, _, _, _, h => ⟨h.1, fun i hi => wpOp_mono (fun a' w' h' => KL fuel _ a' w' h'.2) (h.2 i hi)⟩
theorem gF {i : Nat} {oi : Oper} {v : Value} (hi : ops[i]? = some oi) (hsel : ∀ (j : Nat) (o : Oper) cs b, ops[j]? = some o → o.op ≠ .select cs b)
  (hQ : ∀ c a w, Q (.panic c) (a.put oi.dst v) w → Q (.panic c) a w) (n : Nat) :
  ∀ (fuel : Nat) (listed : Array Bool) (a : Act) (w : World),
   (∀ j oj, ops[j]? = some oj → j ≠ i → listed.getD j true = false → (∀ e ∈ oj.after, Region.binds md e = true → e.on ≠ i) → oi.apart ops oj = true) →
   pI md ops listed → (∀ d ∈ ds, listed.getD d true = false → Region.Yi md ops i n d = true) →
   i ∈ Region.ready md ops listed → YieldsIf P ops S oi v a → S w →
   yg P md ops Q S ds fuel (listed.setIfInBounds i true) (a.put oi.dst v) w → yg P md ops Q S ds (fuel + 1) listed a w := by
 intro fuel
 induction fuel with
 | zero =>
  intro listed a w _ _ _ hr hy hS H
  refine ⟨fun h => (by rw [h] at hr; cases hr), fun j hj => ?_⟩
  by_cases hji : j = i
  ·subst hji; exact hy.wpOp hi hS ⟨fun _ h => h, H⟩
  ·have := ready_mono hj hji
   rw [H.1] at this
   cases this
 | succ fuel ih =>
  intro listed a w hfree hc hd hr hy hS H
  refine ⟨fun h => (by rw [h] at hr; cases hr), fun j hj => ?_⟩
  by_cases hji : j = i
  ·subst hji; exact hy.wpOp hi hS ⟨fun _ h => h, H⟩
  ·have h1 := H.2 j (ready_mono hj hji)
   obtain ⟨hjun, oj, hoj, hall⟩ := mem_ready.1 hj
   have rA := (mem_ready.1 hr).1
   have hnot : ∀ e ∈ oj.after, Region.binds md e = true → e.on ≠ i := fun e he hb heq => by
    have h1 := hall e he hb
    rw [heq] at h1
    rcases Nat.lt_or_ge i listed.size with h' | h'
    ·simp [h'] at rA h1; rw [rA] at h1; cases h1
    ·simp [Array.getElem?_eq_none h'] at h1
   have hjd : j ∉ ds := fun hm => Region.gD hc (hd j hm hjun) rA hj
   have h2 := wpOp_putIf hoj (hfree j oj hoj hji hjun hnot) (fun cs b => hsel i oi cs b hi) (fun cs b => hsel j oj cs b hoj) hQ hy h1
   have hfree' : ∀ k ok, ops[k]? = some ok → k ≠ i → (listed.setIfInBounds j true).getD k true = false →
     (∀ e ∈ ok.after, Region.binds md e = true → e.on ≠ i) → oi.apart ops ok = true := fun k ok hk hki hun hno => by
    refine hfree k ok hk hki ?_ hno
    by_cases hjk : j = k
    ·subst hjk; exact hjun
    ·rw [getD_set_ne true hjk] at hun; exact hun
   have hd' : ∀ d ∈ ds, (listed.setIfInBounds j true).getD d true = false → Region.Yi md ops i n d = true := fun d hm hun => by
    refine hd d hm ?_
    by_cases hjk : j = d
    ·subst hjk; exact hjun
    ·rw [getD_set_ne true hjk] at hun; exact hun
   refine wpOp_mono (fun a' w' h3 => ⟨h3.2.1, ih (listed.setIfInBounds j true) a' w' hfree' (hc.set hj) hd' (ready_mono hr (Ne.symm hji)) h3.1 (h3.2.1 hjd hS) ?_⟩) h2
   rw [Array.setIfInBounds_comm _ _ hji]
   exact h3.2.2
theorem iC {i : Nat} {oi : Oper} {v : Value} (hi : ops[i]? = some oi) (hsel : ∀ (j : Nat) (o : Oper) cs b, ops[j]? = some o → o.op ≠ .select cs b)
  (hQ : ∀ c a w, Q (.panic c) (a.put oi.dst v) w → Q (.panic c) a w) :
  ∀ (fuel : Nat) (listed : Array Bool) (a : Act) (w : World),
   (∀ j oj, ops[j]? = some oj → j ≠ i → listed.getD j true = false → (∀ e ∈ oj.after, Region.binds md e = true → e.on ≠ i) → oi.apart ops oj = true) →
   i ∈ Region.ready md ops listed → Yields P ops oi v a →
   yg P md ops Q S ds fuel (listed.setIfInBounds i true) (a.put oi.dst v) w → yg P md ops Q S ds (fuel + 1) listed a w := by
 intro fuel
 induction fuel with
 | zero =>
  intro listed a w _ hr hy H
  refine ⟨fun h => (by rw [h] at hr; cases hr), fun j hj => ?_⟩
  by_cases hji : j = i
  ·subst hji; exact (hy.yieldsIf (S := fun _ => True)).wpOp hi trivial ⟨fun _ h => h, H⟩
  ·have := ready_mono hj hji
   rw [H.1] at this
   cases this
 | succ fuel ih =>
  intro listed a w hfree hr hy H
  refine ⟨fun h => (by rw [h] at hr; cases hr), fun j hj => ?_⟩
  by_cases hji : j = i
  ·subst hji; exact (hy.yieldsIf (S := fun _ => True)).wpOp hi trivial ⟨fun _ h => h, H⟩
  ·have h1 := H.2 j (ready_mono hj hji)
   obtain ⟨hjun, oj, hoj, hall⟩ := mem_ready.1 hj
   have rA := (mem_ready.1 hr).1
   have hnot : ∀ e ∈ oj.after, Region.binds md e = true → e.on ≠ i := fun e he hb heq => by
    have h1 := hall e he hb
    rw [heq] at h1
    rcases Nat.lt_or_ge i listed.size with h' | h'
    ·simp [h'] at rA h1; rw [rA] at h1; cases h1
    ·simp [Array.getElem?_eq_none h'] at h1
   have h2 := wpOp_put hoj (hfree j oj hoj hji hjun hnot) (fun cs b => hsel i oi cs b hi) (fun cs b => hsel j oj cs b hoj) hQ hy h1
   have hfree' : ∀ k ok, ops[k]? = some ok → k ≠ i → (listed.setIfInBounds j true).getD k true = false →
     (∀ e ∈ ok.after, Region.binds md e = true → e.on ≠ i) → oi.apart ops ok = true := fun k ok hk hki hun hno => by
    refine hfree k ok hk hki ?_ hno
    by_cases hjk : j = k
    ·subst hjk; exact hjun
    ·rw [getD_set_ne true hjk] at hun; exact hun
   refine wpOp_mono (fun a' w' h3 => ⟨h3.2.1, ih (listed.setIfInBounds j true) a' w' hfree' (ready_mono hr (Ne.symm hji)) h3.1 ?_⟩) h2
   rw [Array.setIfInBounds_comm _ _ hji]
   exact h3.2.2
theorem rD {i : Nat} {oi : Oper} {v : Value} {fuel : Nat} {listed : Array Bool} {a : Act} {w : World} (hi : ops[i]? = some oi)
  (hs : Region.noSelect ops = true) (hf : Region.free md ops listed i = true) (hr : (Region.ready md ops listed).contains i = true)
  (hc : Region.Jb md ops listed = true) (hl : Region.lastB md ops listed ds i = true)
  (hQ : ∀ c a w, Q (.panic c) (a.put oi.dst v) w → Q (.panic c) a w) (hy : YieldsIf P ops S oi v a) (hS : S w)
  (h : yg P md ops Q S ds fuel (listed.setIfInBounds i true) (a.put oi.dst v) w) : yg P md ops Q S ds (fuel + 1) listed a w :=
 gF hi (Region.noSelect_spec hs) hQ ops.size fuel listed a w (Region.free_spec hi hf) (Region.lg hc)
  (fun d hm hun => by have := List.all_eq_true.1 hl d hm; rw [hun] at this; simpa using this) (by simpa using hr) hy hS h
theorem iD {rs : List Nat} {fuel : Nat} {listed : Array Bool} {a : Act} {w : World} (hr : Region.ready md ops listed = rs) (hne : rs ≠ [])
  (h : ∀ i ∈ rs, wpOp P ops Q i (fun a' w' => (i ∉ ds → S w → S w') ∧ yg P md ops Q S ds fuel (listed.setIfInBounds i true) a' w') a w) : yg P md ops Q S ds (fuel + 1) listed a w :=
 ⟨fun h0 => absurd (hr ▸ h0) hne, hr ▸ h⟩
theorem rE {listed : Array Bool} {a : Act} {w : World} (hr : Region.ready md ops listed = []) (h : Q .normal a w) :
  ∀ fuel, yg P md ops Q S ds fuel listed a w
 | 0 => ⟨hr, h⟩
 | _ + 1 => ⟨fun _ => h, by rw [hr]; simp⟩
theorem rF {id : Nat} {a : Act} {w : World} (hm : P.follows .mixedOrders = true)
  (h : yg P .any ops Q S ds ops.size (Array.replicate ops.size false) a { w with drawn := w.drawn + 1 }) : (Code.region id ops true).wp P Q a w :=
 wp_region_any hm (KL _ _ _ _ h)
end
section
variable {P : Program} {ops : Array Oper} {Q : Exit → Act → World → Prop} {md : Region.Mode} {S : World → Prop} {ds : List Nat}
def jl (P : Program) (md : Region.Mode) (ops : Array Oper) (Q : Exit → Act → World → Prop) (S : World → Prop) (ds : List Nat) (fuel : Nat) (listed : Array Bool) (a : Act) (w : World) (rs : List Nat) : Prop :=
 ∀ i ∈ rs, wpOp P ops Q i (fun a' w' => (i ∉ ds → S w → S w') ∧ yg P md ops Q S ds fuel (listed.setIfInBounds i true) a' w') a w
theorem jl.nil {fuel : Nat} {listed : Array Bool} {a : Act} {w : World} : jl P md ops Q S ds fuel listed a w [] := fun _ h => by cases h
theorem jl.cons {fuel : Nat} {listed : Array Bool} {a : Act} {w : World} {i : Nat} {o : Oper} {rs : List Nat} (ho : ops[i]? = some o) (hd : i ∉ ds)
  (h : ∀ K' : Act → World → Prop, Shut (∀ a w, S w → (S w → yg P md ops Q S ds fuel (listed.setIfInBounds i true) a w) → K' a w) → if Region.wanted o (yielded ops a.tmps) = true then Oper.wp P o a w K' Q else K' (a.put o.dst undef) w)
  (hs : jl P md ops Q S ds fuel listed a w rs) : jl P md ops Q S ds fuel listed a w (i :: rs) := fun j hj => by
 rcases List.mem_cons.1 hj with rfl | hj
 ·exact wpOp_step ho (fun K' hK => h K' (fun a w hS hW => hK a w ⟨fun _ _ => hS, hW hS⟩))
 ·exact hs j hj
theorem jl.zj5 {fuel : Nat} {listed : Array Bool} {a : Act} {w : World} {i : Nat} {o : Oper} {rs : List Nat} (ho : ops[i]? = some o) (hd : i ∈ ds)
  (h : ∀ K' : Act → World → Prop, Shut (∀ a w, yg P md ops Q S ds fuel (listed.setIfInBounds i true) a w → K' a w) → if Region.wanted o (yielded ops a.tmps) = true then Oper.wp P o a w K' Q else K' (a.put o.dst undef) w)
  (hs : jl P md ops Q S ds fuel listed a w rs) : jl P md ops Q S ds fuel listed a w (i :: rs) := fun j hj => by
 rcases List.mem_cons.1 hj with rfl | hj
 ·exact wpOp_step ho (fun K' hK => h K' (fun a w hW => hK a w ⟨fun hn => absurd hd hn, hW⟩))
 ·exact hs j hj
theorem QJ {rs : List Nat} {fuel : Nat} {listed : Array Bool} {a : Act} {w : World} (hr : Region.ready md ops listed = rs) (hne : rs ≠ [])
  (h : jl P md ops Q S ds fuel listed a w rs) : yg P md ops Q S ds (fuel + 1) listed a w := iD hr hne h
theorem jU {id n : Nat} {a : Act} {w : World} (l : Array Bool) (hm : P.follows .mixedOrders = true) (hn : ops.size = n) (hl : Array.replicate n false = l) (hS : S w.drew)
  (h : S w.drew → yg P .any ops Q S ds n l a w.drew) : (Code.region id ops true).wp P Q a w := by
 subst hn
 subst hl
 exact rF hm (h hS)
def takeB (md : Region.Mode) (ops : Array Oper) (ds : List Nat) (l l' : Array Bool) (i : Nat) : Bool :=
 Region.noSelect ops && Region.free md ops l i && (Region.ready md ops l).contains i && Region.Jb md ops l && Region.lastB md ops l ds i && (l.setIfInBounds i true == l')
theorem UC {i : Nat} {N : Option Tmp} {oi : Oper} {v : Value} {fuel : Nat} {l : Array Bool} {a : Act} {w : World} (l' : Array Bool) (hi : ops[i]? = some oi) (hN : oi.dst = N) (hc : takeB md ops ds l l' i = true)
  (hQ : ∀ c a w, Q (.panic c) (a.put oi.dst v) w → Q (.panic c) a w) (hy : YieldsIf P ops S oi v a) (hS : S w) {a' : Act} (ha : a.put N v = a')
  (h : yg P md ops Q S ds fuel l' a' w) : yg P md ops Q S ds (fuel + 1) l a w := by
 subst ha
 subst hN
 simp only [takeB, Bool.and_eq_true, beq_iff_eq] at hc
 obtain ⟨⟨⟨⟨⟨h1, h2⟩, h3⟩, h4⟩, h5⟩, h6⟩ := hc
 subst h6
 exact rD hi h1 h2 h3 h4 h5 hQ hy hS h
def zxk (md : Region.Mode) (ops : Array Oper) (l l' : Array Bool) (i : Nat) : Bool :=
 Region.noSelect ops && Region.free md ops l i && (Region.ready md ops l).contains i && (l.setIfInBounds i true == l')
theorem jh {i : Nat} {N : Option Tmp} {oi : Oper} {v : Value} {fuel : Nat} {l : Array Bool} {a : Act} {w : World} (l' : Array Bool) (hi : ops[i]? = some oi) (hN : oi.dst = N) (hc : zxk md ops l l' i = true)
  (hQ : ∀ c a w, Q (.panic c) (a.put oi.dst v) w → Q (.panic c) a w) (hy : Yields P ops oi v a) {a' : Act} (ha : a.put N v = a')
  (h : yg P md ops Q S ds fuel l' a' w) : yg P md ops Q S ds (fuel + 1) l a w := by
 subst ha
 subst hN
 simp only [zxk, Bool.and_eq_true, beq_iff_eq] at hc
 obtain ⟨⟨⟨h1, h2⟩, h3⟩, h6⟩ := hc
 subst h6
 exact iC hi (Region.noSelect_spec h1) hQ fuel l a w (Region.free_spec hi h2) (by simpa using h3) hy h
def Jc (md : Region.Mode) (ops : Array Oper) (l l' : Array Bool) (i : Nat) : Bool := (Region.ready md ops l == [i]) && (l.setIfInBounds i true == l')
theorem XI {i : Nat} {N : Option Tmp} {oi : Oper} {fuel : Nat} {l : Array Bool} {a : Act} {w : World} (l' : Array Bool) (hi : ops[i]? = some oi) (hN : oi.dst = N) (hc : Jc md ops l l' i = true) (hd : i ∉ ds)
  (h : ∀ K : Act → World → Prop, Shut (∀ a' w', S w' → (S w' → yg P md ops Q S ds fuel l' a' w') → K a' w') → if Region.wanted oi (yielded ops a.tmps) = true then Oper.wp P oi a w K Q else K (a.put N undef) w) :
  yg P md ops Q S ds (fuel + 1) l a w := by
 subst hN
 simp only [Jc, Bool.and_eq_true, beq_iff_eq] at hc
 obtain ⟨h1, h2⟩ := hc
 subst h2
 exact QJ h1 (by simp) (jl.cons hi hd (fun K hK => h K hK) jl.nil)
theorem kD {i : Nat} {N : Option Tmp} {oi : Oper} {fuel : Nat} {l : Array Bool} {a : Act} {w : World} (l' : Array Bool) (hi : ops[i]? = some oi) (hN : oi.dst = N) (hc : Jc md ops l l' i = true) (hd : i ∈ ds)
  (h : ∀ K : Act → World → Prop, Shut (∀ a' w', yg P md ops Q S ds fuel l' a' w' → K a' w') → if Region.wanted oi (yielded ops a.tmps) = true then Oper.wp P oi a w K Q else K (a.put N undef) w) :
  yg P md ops Q S ds (fuel + 1) l a w := by
 subst hN
 simp only [Jc, Bool.and_eq_true, beq_iff_eq] at hc
 obtain ⟨h1, h2⟩ := hc
 subst h2
 exact QJ h1 (by simp) (jl.zj5 hi hd (fun K hK => h K hK) jl.nil)
theorem vO {l : Array Bool} {a : Act} {w : World} {n : Nat} (hr : (Region.ready md ops l == []) = true) (h : Q .normal a w) : yg P md ops Q S ds n l a w := rE (by simpa using hr) h n
theorem zxy {i j : Nat} {Ni Nj : Option Tmp} {oi oj : Oper} {fuel : Nat} {l : Array Bool} {a : Act} {w : World} (li lj : Array Bool) (hi : ops[i]? = some oi) (hj : ops[j]? = some oj) (hNi : oi.dst = Ni) (hNj : oj.dst = Nj)
  (hc : (Region.ready md ops l == [i, j] && l.setIfInBounds i true == li && l.setIfInBounds j true == lj) = true) (hdi : i ∉ ds) (hdj : j ∉ ds)
  (h1 : ∀ K : Act → World → Prop, Shut (∀ a' w', S w' → (S w' → yg P md ops Q S ds fuel li a' w') → K a' w') → if Region.wanted oi (yielded ops a.tmps) = true then Oper.wp P oi a w K Q else K (a.put Ni undef) w)
  (h2 : ∀ K : Act → World → Prop, Shut (∀ a' w', S w' → (S w' → yg P md ops Q S ds fuel lj a' w') → K a' w') → if Region.wanted oj (yielded ops a.tmps) = true then Oper.wp P oj a w K Q else K (a.put Nj undef) w) :
  yg P md ops Q S ds (fuel + 1) l a w := by
 subst hNi
 subst hNj
 simp only [Bool.and_eq_true, beq_iff_eq] at hc
 obtain ⟨⟨h3, h4⟩, h5⟩ := hc
 subst h4
 subst h5
 exact QJ h3 (by simp) (jl.cons hi hdi (fun K hK => h1 K hK) (jl.cons hj hdj (fun K hK => h2 K hK) jl.nil))
def YI : Act → List (Tmp × Value) → Act
 | a, [] => a
 | a, (n, v) :: r => YI (a.put (some n) v) r
theorem zyn {σ : Type} {fuel : Nat} {l : Array Bool} {a : Act} {w : World} (fuel' : Nat) (l' : Array Bool) (ns : σ → List (Tmp × Value)) (F : σ → World → Prop)
  (hcont : ∀ s w', F s w' → yg P md ops Q S ds fuel' l' (YI a (ns s)) w')
  (h : (∀ s w', F s w' → yg P md ops Q S ds fuel' l' (YI a (ns s)) w') → yg P md ops Q S ds fuel l a w) : yg P md ops Q S ds fuel l a w := h hcont
theorem wF {fuel : Nat} {l : Array Bool} {a a' : Act} {w : World} (ha : a = a') (h : yg P md ops Q S ds fuel l a' w) : yg P md ops Q S ds fuel l a w := by
 subst ha
 exact h
theorem call_ {oi : Oper} {N : Option Tmp} {a : Act} {w : World} {K : Act → World → Prop} (f : FuncId) (args : Array Value) (hw : Region.wanted oi (yielded ops a.tmps) = true) (hN : oi.dst = N) (hrun : (execOp a.eval oi).run P w = .ok (.enter f args) w)
  (h : Calls P f args w fun e w' => ∃ v, e = .returned v ∧ K (a.put N v) w') : if Region.wanted oi (yielded ops a.tmps) = true then Oper.wp P oi a w K Q else K (a.put N undef) w := by
 rw [if_pos hw]
 subst hN
 unfold Oper.wp
 rw [hrun, Oper.upon_enter]
 refine h.mono fun e w'' hh => ?_
 obtain ⟨v, rfl, hk⟩ := hh
 exact hk
theorem PK {f : FuncId} {fn : Func} (hf : P.funcs[f]? = some fn) (hname : (fn.name == "runtime.NumGoroutine") = false) (hb : fn.body.isSome = true) (args : Array Value) (w : World) : (callFunc f args).run P w = .ok (.enter f args) w := by
 have h1 : fn.name ≠ "runtime.NumGoroutine" := by simpa using hname
 obtain ⟨c, hc⟩ := Option.isSome_iff_exists.1 hb
 simp [callFunc, hf, h1, hc]
theorem QV {oi : Oper} {N : Option Tmp} {a : Act} {w : World} {K : Act → World → Prop} {f : FuncId} {fn : Func} {zq : Array Operand} {ts : Array TypeId} (hf : P.funcs[f]? = some fn) (hname : (fn.name == "runtime.NumGoroutine") = false) (hb : fn.body.isSome = true) (args : Array Value)
  (hw : Region.wanted oi (yielded ops a.tmps) = true) (hN : oi.dst = N) (hop : oi.op = .call { callee := .value (.func f), args := zq, argTypes := ts }) (hargs : zq.map a.eval = args)
  (h : Calls P f args w fun e w' => ∃ v, e = .returned v ∧ K (a.put N v) w') : if Region.wanted oi (yielded ops a.tmps) = true then Oper.wp P oi a w K Q else K (a.put N undef) w := by
 refine call_ f args hw hN ?_ h
 have he := PK hf hname hb args w
 unfold execOp
 simp [hop, resolve, Deferred.ofValue, invoke, Act.eval, hargs, he]
theorem zQ6 {rest : List Oper} {oi : Oper} {a : Act} {w : World} (N : Option Tmp) (hd : oi.dst = N) (hg : oi.guard = none) {f : FuncId} {fn : Func} {zq : Array Operand} {ts : Array TypeId} (hf : P.funcs[f]? = some fn) (hname : (fn.name == "runtime.NumGoroutine") = false) (hb : fn.body.isSome = true) (args : Array Value)
  (hop : oi.op = .call { callee := .value (.func f), args := zq, argTypes := ts }) (hargs : zq.map a.eval = args)
  (h : Calls P f args w fun e w' => ∃ v, e = .returned v ∧ wpList P ops Q rest (a.put N v) w') : wpList P ops Q (oi :: rest) a w := by
 refine wpList_plain hg fun K hK => ?_
 have he := PK hf hname hb args w
 have hrun : (execOp a.eval oi).run P w = .ok (.enter f args) w := by
  unfold execOp
  simp [hop, resolve, Deferred.ofValue, invoke, Act.eval, hargs, he]
 unfold Oper.wp
 rw [hrun, Oper.upon_enter]
 refine h.mono fun e w'' hh => ?_
 obtain ⟨v, rfl, hk⟩ := hh
 subst hd
 exact hK _ _ hk
theorem Jd {oi : Oper} {N : Option Tmp} {a : Act} {w w1 : World} {v : Value} {K : Act → World → Prop} (hw : Region.wanted oi (yielded ops a.tmps) = true) (hN : oi.dst = N) (hrun : (execOp a.eval oi).run P w = .ok (.value v) w1)
  (h : K (a.put N v) w1) : if Region.wanted oi (yielded ops a.tmps) = true then Oper.wp P oi a w K Q else K (a.put N undef) w := by
 rw [if_pos hw]
 subst hN
 unfold Oper.wp
 rw [hrun]
 exact h
theorem Zy {oi : Oper} {a : Act} {w w1 : World} {K : Act → World → Prop} (hw : Region.wanted oi (yielded ops a.tmps) = true) (hN : oi.dst = none) (hrun : (execOp a.eval oi).run P w = .ok .skip w1)
  (h : K a w1) : if Region.wanted oi (yielded ops a.tmps) = true then Oper.wp P oi a w K Q else K (a.put none undef) w := by
 rw [if_pos hw]
 unfold Oper.wp
 rw [hrun]
 show K (a.put oi.dst undef) w1
 rw [hN]
 exact h
theorem wJ (n : Int) : IntKind.i64.wrap n = Go.RowKit.wrap64 n := by unfold Go.RowKit.wrap64; exact IntKind.wrap_i64 n
theorem wV (n : Int) : IntKind.i32.wrap n = Go.RowKit.wrap32 n := by unfold Go.RowKit.wrap32; exact IntKind.wrap_i32 n
end
end Go.Proofs.zx.zU
namespace Go.Proofs.zx.zU
open Go.Proofs.zx.zK (zy)
def V9 (md : Region.Mode) (o : Oper) : List Nat := (o.after.toList.filter (fun e => Region.binds md e)).map (fun e => e.on)
def rG (md : Region.Mode) (ops : Array Oper) (i : Nat) (oi : Oper) : List Nat := (List.range ops.size).filter fun j => !(j == i) && match ops[j]? with
 | some oj => !(oj.after.any (fun e => Region.binds md e && e.on == i) || oi.apart ops oj)
 | none => false
def vB (md : Region.Mode) (ops : Array Oper) : Bool × List (List Nat × List Nat) := (Region.noSelect ops, (List.range ops.size).map fun i => match ops[i]? with
 | some o => (V9 md o, rG md ops i o)
 | none => ([], []))
def X7 (T : List (List Nat × List Nat)) (l : List Bool) (i : Nat) : Bool := !l.getD i true && match T[i]? with
 | some r => r.1.all (fun j => l.getD j false)
 | none => false
def Xm (T : List (List Nat × List Nat)) (l : List Bool) : List Nat := (List.range T.length).filter (X7 T l)
def gG (T : List (List Nat × List Nat)) (l : List Bool) (i : Nat) : Bool := match T[i]? with
 | some r => r.2.all (fun j => l.getD j true)
 | none => false
def PY (T : List (List Nat × List Nat)) (l : List Bool) : Bool := (List.range T.length).all fun j => !l.getD j false || match T[j]? with
 | some r => r.1.all (fun k => l.getD k false)
 | none => true
def Je (T : List (List Nat × List Nat)) (i : Nat) : Nat → Nat → Bool
 | 0, _ => false
 | fuel + 1, d => match T[d]? with
  | some r => r.1.any fun j => j == i || Je T i fuel j
  | none => false
def lastT (T : List (List Nat × List Nat)) (l : List Bool) (ds : List Nat) (i : Nat) : Bool := ds.all fun d => l.getD d true || Je T i T.length d
section
variable {md : Region.Mode} {ops : Array Oper} {T : Bool × List (List Nat × List Nat)} {l l' li lj lk : Array Bool} {ds : List Nat} {i j k : Nat}
theorem gd (l : Array Bool) (j : Nat) (b : Bool) : l.getD j b = l.toList.getD j b := by simp [Array.getD_eq_getD_getElem?, List.getD_eq_getElem?_getD]
theorem fu (o : Oper) (p : Nat → Bool) : o.after.all (fun e => !Region.binds md e || p e.on) = (V9 md o).all p := by
 unfold V9
 rw [← Array.all_toList]
 induction o.after.toList with
 | nil => rfl
 | cons e r ih =>
  rw [List.all_cons, ih, List.filter_cons]
  cases h : Region.binds md e <;> simp
theorem zj6 (o : Oper) (p : Nat → Bool) : o.after.any (fun e => Region.binds md e && p e.on) = (V9 md o).any p := by
 unfold V9
 rw [← Array.any_toList]
 induction o.after.toList with
 | nil => rfl
 | cons e r ih =>
  rw [List.any_cons, ih, List.filter_cons]
  cases h : Region.binds md e <;> simp
theorem VW : (vB md ops).2.length = ops.size := by simp [vB]
theorem UD {o : Oper} (h : ops[i]? = some o) : (vB md ops).2[i]? = some (V9 md o, rG md ops i o) := by
 have hi := (Array.getElem?_eq_some_iff.1 h).1
 unfold vB
 rw [List.getElem?_map, List.getElem?_range hi, Option.map_some, h]
theorem UE (h : ops[i]? = none) : (vB md ops).2[i]? = none := by
 have hi : ops.size ≤ i := Array.getElem?_eq_none_iff.1 h
 exact List.getElem?_eq_none (by rw [VW]; exact hi)
theorem zxw : X7 (vB md ops).2 l.toList i = (!l.getD i true && ((ops[i]?).map (·.after.all fun e => !Region.binds md e || l.getD e.on false)).getD false) := by
 unfold X7
 rw [gd]
 cases h : ops[i]? with
 | none => rw [UE h]; rfl
 | some o =>
  rw [UD h]
  simp only [Option.map_some, Option.getD_some]
  rw [← fu]
  simp only [gd]
theorem ready_eq : Region.ready md ops l = Xm (vB md ops).2 l.toList := by
 unfold Region.ready Xm
 rw [VW]
 refine List.filter_congr (fun i _ => ?_)
 rw [zxw]
theorem free_eq : Region.free md ops l i = gG (vB md ops).2 l.toList i := by
 unfold Region.free gG
 cases h : ops[i]? with
 | none => rw [UE h]
 | some oi =>
  rw [UD h]
  simp only [rG]
  rw [List.all_filter]
  congr 1
  funext j
  rw [gd]
  cases hj : ops[j]? with
  | none => cases (j == i) <;> cases (l.toList.getD j true) <;> simp
  | some oj =>
   cases (j == i) <;> cases (l.toList.getD j true) <;> cases (oj.after.any (fun e => Region.binds md e && e.on == i) || oi.apart ops oj) <;> simp_all
theorem zj7 : Region.Jb md ops l = PY (vB md ops).2 l.toList := by
 unfold Region.Jb PY
 rw [VW]
 congr 1
 funext j
 rw [gd]
 cases h : ops[j]? with
 | none => rw [UE h]
 | some o =>
  rw [UD h]
  simp only
  rw [← fu]
  simp only [gd]
theorem lu : ∀ (fuel d : Nat), Region.Yi md ops i fuel d = Je (vB md ops).2 i fuel d
 | 0, _ => rfl
 | fuel + 1, d => by
  unfold Region.Yi Je
  cases h : ops[d]? with
  | none => rw [UE h]
  | some o =>
   rw [UD h]
   simp only
   rw [← zj6]
   congr 1
   funext e
   rw [lu fuel]
theorem zw0 : Region.lastB md ops l ds i = lastT (vB md ops).2 l.toList ds i := by
 unfold Region.lastB lastT
 rw [VW]
 congr 1
 funext d
 rw [gd, lu]
theorem bK (h : X7 T.2 l.toList i = true) (hT : vB md ops = T) : (Region.ready md ops l).contains i = true := by
 subst hT
 rw [ready_eq]
 unfold Xm
 rw [List.contains_iff_mem, List.mem_filter, List.mem_range]
 refine ⟨?_, h⟩
 unfold X7 at h
 rw [Bool.and_eq_true] at h
 cases hq : (vB md ops).2[i]? with
 | none => rw [hq] at h; simp at h
 | some r => exact (List.getElem?_eq_some_iff.1 hq).1
theorem WZ (h : (l.toList.set i true == l'.toList) = true) : (l.setIfInBounds i true == l') = true := by
 rw [beq_iff_eq] at h ⊢
 apply Array.ext'
 rw [Array.toList_setIfInBounds]
 exact h
def bO (T : Bool × List (List Nat × List Nat)) (l l' : List Bool) (i : Nat) : Bool := T.1 && gG T.2 l i && X7 T.2 l i && (l.set i true == l')
theorem uF (hT : vB md ops = T) (h : bO T l.toList l'.toList i = true) : zxk md ops l l' i = true := by
 simp only [bO, Bool.and_eq_true] at h
 obtain ⟨⟨⟨h1, h2⟩, h3⟩, h4⟩ := h
 have h5 := bK h3 hT
 have h6 := WZ h4
 subst hT
 simp only [zxk, Bool.and_eq_true]
 exact ⟨⟨⟨h1, by rw [free_eq]; exact h2⟩, h5⟩, h6⟩
def zxZ (T : Bool × List (List Nat × List Nat)) (ds : List Nat) (l l' : List Bool) (i : Nat) : Bool := T.1 && gG T.2 l i && X7 T.2 l i && PY T.2 l && lastT T.2 l ds i && (l.set i true == l')
theorem PW (hT : vB md ops = T) (h : zxZ T ds l.toList l'.toList i = true) : takeB md ops ds l l' i = true := by
 simp only [zxZ, Bool.and_eq_true] at h
 obtain ⟨⟨⟨⟨⟨h1, h2⟩, h3⟩, h4⟩, h5⟩, h6⟩ := h
 have h7 := bK h3 hT
 have h8 := WZ h6
 subst hT
 simp only [takeB, Bool.and_eq_true]
 exact ⟨⟨⟨⟨⟨h1, by rw [free_eq]; exact h2⟩, h7⟩, by rw [zj7]; exact h4⟩, by rw [zw0]; exact h5⟩, h8⟩
theorem vG (hT : vB md ops = T) (h : (Xm T.2 l.toList == [i] && l.toList.set i true == l'.toList) = true) : Jc md ops l l' i = true := by
 simp only [Bool.and_eq_true] at h
 obtain ⟨h1, h2⟩ := h
 subst hT
 simp only [Jc, Bool.and_eq_true]
 exact ⟨by rw [ready_eq]; exact h1, WZ h2⟩
theorem gH (hT : vB md ops = T) (h : (Xm T.2 l.toList == [i, j] && l.toList.set i true == li.toList && l.toList.set j true == lj.toList) = true) : (Region.ready md ops l == [i, j] && l.setIfInBounds i true == li && l.setIfInBounds j true == lj) = true := by
 simp only [Bool.and_eq_true] at h ⊢
 obtain ⟨⟨h1, h2⟩, h3⟩ := h
 subst hT
 exact ⟨⟨by rw [ready_eq]; exact h1, WZ h2⟩, WZ h3⟩
theorem xH (hT : vB md ops = T) (h : (Xm T.2 l.toList == []) = true) : (Region.ready md ops l == []) = true := by
 subst hT
 rw [ready_eq]
 exact h
def lC (B : List Nat) (d : Nat) : List Nat → Nat
 | [] => 0
 | n :: r => (2 ^ n ||| (if n < d then B.getD n 0 else 0)) ||| lC B d r
def vU (T : List (List Nat × List Nat)) (B : List Nat) : Bool := (List.range T.length).all fun d => match T[d]? with
 | some r => (B.getD d 0 ||| lC B d r.1) == lC B d r.1
 | none => false
theorem zzP {B : List Nat} {d i : Nat} : ∀ {ns : List Nat}, (lC B d ns).testBit i = true → ∃ n ∈ ns, n = i ∨ (n < d ∧ (B.getD n 0).testBit i = true)
 | [], h => by simp [lC] at h
 | n :: r, h => by
  unfold lC at h
  rw [Nat.testBit_or, Nat.testBit_or, Bool.or_eq_true, Bool.or_eq_true] at h
  rcases h with (h | h) | h
  ·rw [Nat.testBit_two_pow] at h
   exact ⟨n, List.mem_cons_self, .inl (by simpa using h)⟩
  ·by_cases hn : n < d
   ·rw [if_pos hn] at h
    exact ⟨n, List.mem_cons_self, .inr ⟨hn, h⟩⟩
   ·rw [if_neg hn] at h
    simp at h
  ·obtain ⟨m, hm, h2⟩ := zzP h
   exact ⟨m, List.mem_cons_of_mem _ hm, h2⟩
theorem fA {T : List (List Nat × List Nat)} {B : List Nat} (hB : vU T B = true) : ∀ (fuel d : Nat), d < fuel → d < T.length → (B.getD d 0).testBit i = true → Je T i fuel d = true
 | 0, d, h, _, _ => by omega
 | fuel + 1, d, h, hd, hb => by
  have h1 := List.all_eq_true.1 hB d (List.mem_range.2 hd)
  cases hr : T[d]? with
  | none => rw [hr] at h1; simp at h1
  | some r =>
   rw [hr] at h1
   simp only [beq_iff_eq] at h1
   have h2 : (lC B d r.1).testBit i = true := by rw [← h1, Nat.testBit_or, hb, Bool.true_or]
   obtain ⟨n, hn, h3⟩ := zzP h2
   unfold Je
   rw [hr]
   simp only
   rw [List.any_eq_true]
   refine ⟨n, hn, ?_⟩
   rcases h3 with rfl | ⟨h4, h5⟩
   ·simp
   ·rw [fA hB fuel n (by omega) (by omega) h5, Bool.or_true]
def zyo (T : List (List Nat × List Nat)) (B : List Nat) (l : List Bool) (ds : List Nat) (i : Nat) : Bool := ds.all fun d => l.getD d true || (decide (d < T.length) && (B.getD d 0).testBit i)
def gI (T : Bool × List (List Nat × List Nat)) (B : List Nat) (ds : List Nat) (l l' : List Bool) (i : Nat) : Bool := T.1 && gG T.2 l i && X7 T.2 l i && PY T.2 l && zyo T.2 B l ds i && (l.set i true == l')
theorem bP {B : List Nat} (hT : vB md ops = T) (hB : vU T.2 B = true) (h : gI T B ds l.toList l'.toList i = true) : takeB md ops ds l l' i = true := by
 refine PW hT ?_
 simp only [gI, zxZ, Bool.and_eq_true] at h ⊢
 obtain ⟨⟨⟨⟨⟨h1, h2⟩, h3⟩, h4⟩, h5⟩, h6⟩ := h
 refine ⟨⟨⟨⟨⟨h1, h2⟩, h3⟩, h4⟩, ?_⟩, h6⟩
 unfold zyo at h5
 unfold lastT
 rw [List.all_eq_true] at h5 ⊢
 intro d hd
 have h7 := h5 d hd
 rw [Bool.or_eq_true, Bool.and_eq_true, decide_eq_true_eq] at h7
 rcases h7 with h7 | ⟨h8, h9⟩
 ·rw [h7, Bool.true_or]
 ·rw [fA hB _ d h8 h8 h9, Bool.or_true]
theorem jN {P : Program} {Q : Exit → Act → World → Prop} {S : World → Prop} {n : Nat} {a : Act} {w : World} {B : List Nat} (hT : vB md ops = T) (hB : vU T.2 B = true) (h : zy (vB md ops = T) → zy (vU T.2 B = true) → yg P md ops Q S ds n l a w) : yg P md ops Q S ds n l a w := h ⟨hT⟩ ⟨hB⟩
theorem J3 {P : Program} {Q : Exit → Act → World → Prop} {S : World → Prop} {n : Nat} {a : Act} {w : World} (hT : vB md ops = T) (h : zy (vB md ops = T) → yg P md ops Q S ds n l a w) : yg P md ops Q S ds n l a w := h ⟨hT⟩
end
def Va : Code → Nat → Option (Array Oper)
 | .region id ops _, k => if id == k then some ops else none
 | .seq a b, k => match Va a k with
  | some o => some o
  | none => Va b k
 | .cond _ a b, k => match Va a k with
  | some o => some o
  | none => Va b k
 | .block _ c, k => Va c k
 | .loop c, k => Va c k
 | .scope c, k => Va c k
 | .rangeFunc _ _ a b, k => match Va a k with
  | some o => some o
  | none => Va b k
 | _, _ => none
def opsOf (f : Func) (k : Nat) : Array Oper := ((f.body.bind fun c => Va c k)).getD #[]
end Go.Proofs.zx.zU
namespace Go.Proofs.zx.zU
section
variable {P : Program} {ops : Array Oper} {Q : Exit → Act → World → Prop} {md : Region.Mode} {S : World → Prop} {ds : List Nat} {T : Bool × List (List Nat × List Nat)}
end
end Go.Proofs.zx.zU
namespace Go.Proofs.zx.zK
open Go.RowKit
namespace Kd
section
variable {α : Type} {d : Kd α} {e base g o n cap : Nat} {ok pK : Nat → Prop} {w W : World} {v : Value} {xs : List α}
end
section
variable {α : Type} {enc : α → Value} {h1 : ∀ x, (enc x).oneCell' = true} {e base g o n cap : Nat} {ok : Nat → Prop} {W : World} {xs : List α}
end
end Kd
end Go.Proofs.zx.zK
namespace Go.Proofs.zx.zK
open Go.RowKit
namespace Kd
def tag {α : Type} (f : Nat → Nat) (d : Kd α) : Kd (α × Nat) where
  sz := d.sz
  E := d.E
  K := fun w x cs => d.K w x.1 cs
  M := fun w base ok x cs => d.M w base (fun k => ok k ∧ f k = x.2) x.1 cs
  Ze := fun h => d.Ze h
  ZH := fun h => d.ZH h
  wD := fun hb h => d.wD hb h
  jI := fun h => d.jI h
  jX := fun hok h => d.jX (fun k hk => ⟨hok k hk.1, hk.2⟩) h
  jT := fun h => d.jX (fun _ hk => ⟨⟨hk.1.1, hk.2⟩, hk.1.2⟩) (d.jT h)
  wN := fun hm h => d.wN (fun k hk => hm k hk.1) h
  wE := fun hb h => d.wE hb h
def raw (sz : Nat) : Kd (List Value) where
  sz := sz
  E := []
  K := fun _ x cs => cs = x ∧ cs.length = sz ∧ ∀ u ∈ cs, u.oneCell' = true
  M := fun _ _ _ x cs => cs = x ∧ cs.length = sz ∧ ∀ u ∈ cs, u.oneCell' = true
  Ze := fun h => h.2.1
  ZH := fun h => h.2.2
  wD := fun _ h => h
  jI := fun h => h
  jX := fun _ h => h
  jT := fun h => h
  wN := fun _ h => h
  wE := fun _ h => h
def S {α : Type} (d : Kd α) (e : Nat) (w : World) (base : Nat) (ok : Nat → Prop) (v : Value) (xs : List α) : Prop := ∃ f, (tag f d).R e w base ok v xs.zipIdx
section
variable {α β : Type} {d : Kd α} {d' : Kd β} {e e' : Nat} {w w1 W : World} {base b : Nat} {ok ok' okv oku : Nat → Prop} {u v : Value} {xs : List α} {ys : List β}
theorem zQ7 {xs : List α} {j : Nat} {p : α} (h : xs[j]? = some p) : xs.zipIdx[j]? = some (p, j) := by rw [List.getElem?_zipIdx, h, Nat.zero_add]; rfl
theorem S_R (h : S d e w base ok v xs) : d.R e w base ok v xs := by
  obtain ⟨f, h0, inner, ho, hr⟩ := h
  rw [List.length_zipIdx] at ho
  exact ⟨h0, inner, ho, by have := hr.1; rw [List.length_zipIdx] at this; exact this, fun j p hj => d.jX (fun _ hk => hk.1) (hr.2 j (p, j) (zQ7 hj))⟩
theorem zQ8 {ad : Addr} {n cap : Nat} (h : d.R e w base ok (.slice (some ad) n cap) xs) : ∃ g, ad = ⟨g, 0, none⟩ := by
  obtain ⟨_, inner, ho, hr⟩ := h
  rcases ho.2 with ⟨hv, _⟩ | ⟨g, cap', cur, hv, _⟩
  · cases hv
  · injection hv with ha _ _
    injection ha with ha
    exact ⟨g, ha⟩
theorem zQ9 {ad : Addr} {n cap : Nat} (h : d.R e W base ok (.slice (some ad) n cap) xs) (z : α) (i : Int) (h0 : 0 ≤ i) (h1 : i < n) :
    ∃ c, c.length = d.sz ∧ d.M W base (fun k => ok k ∧ some k ≠ (Value.slice (some ad) n cap).ownBlock) (xs.getD i.toNat z) c ∧ ∀ j u, c[j]? = some u → W.cell? (ad.add (i.toNat * d.sz + j)) = some u := by
  obtain ⟨g, rfl⟩ := zQ8 h
  obtain ⟨c, hcl, hM, hcc, _⟩ := zQ5 h z i h0 h1
  refine ⟨c, hcl, d.jX (fun k hk => ⟨hk.1, fun he => hk.2 (by simpa [Value.ownBlock] using he)⟩) hM, fun j u hu => ?_⟩
  rw [zQ3, Nat.zero_add]
  exact hcc j u hu
theorem jK (d : Kd α) (e : Nat) (w : World) (base : Nat) (ok : Nat → Prop) : S d e w base ok (.slice none 0 0) [] := ⟨fun _ => 0, xE _ _ _ _ _⟩
theorem zXz (h : S d e w base ok v xs) (hok : ∀ k, ok k → ok' k) : S d e w base ok' v xs := by
  obtain ⟨f, h⟩ := h
  exact ⟨f, yN h hok⟩
theorem zw1 (h : S d e w base ok v xs) : S d e w base (fun k => ok k ∧ base ≤ k ∧ k < w.heap.size ∧ ∃ q, q ∈ e :: d.E ∧ ∃ cells, w.heap[k]? = some (.cells cells q (0, 0))) v xs := by
  obtain ⟨f, h⟩ := h
  exact ⟨f, jv h⟩
theorem zXq (h : S d e w base ok v xs) (hm : ∀ k, ok k → w1.heap[k]? = w.heap[k]?) : S d e w1 base ok v xs := by
  obtain ⟨f, h⟩ := h
  exact ⟨f, Wy h hm⟩
theorem rH {base' : Nat} (h : S d e w base ok v xs) (hb : base' ≤ base) : S d e w base' ok v xs := by
  obtain ⟨f, h⟩ := h
  exact ⟨f, jk h hb⟩
theorem zXx (h : S d e w base ok v xs) (hm : ∀ k, ok k → k < w.heap.size → w1.heap[k]? = w.heap[k]?) : S d e w1 base ok v xs :=
  zXz (zXq (zw1 h) (fun k hk => hm k hk.1 hk.2.2.1)) (fun _ hk => hk.1)
theorem Jf (h : S d e w base ok v xs) (hb : Below w.heap.size w w1) : S d e w1 base ok v xs := zXx h (fun k _ hk => hb.block k hk)
theorem zzR (h : S d e w base ok v xs) (o : Obj) : S d e (w.alloc o) base ok v xs := Jf h (yt (Below.refl _ _) o)
theorem zj8 (h : S d e w base ok v xs) : S d e w.drew base ok v xs := Jf h (wR (Below.refl _ _))
theorem zzS (h : S d e w base ok v xs) (m : Nat) : S d e (w.drewN m) base ok v xs := Jf h (zM (Below.refl _ _) m)
end
section
variable {α β : Type} {d : Kd α} {d' : Kd β} {e e' g : Nat} {w w1 W : World} {base b : Nat} {ok ok' okv oku : Nat → Prop} {u v : Value} {xs : List α} {ys : List β}
theorem rM (h : S d e w base ok v xs) : ∃ A c, v = .slice A xs.length c := yx (S_R h)
theorem J4 {A : Option Addr} {n c : Nat} (h : S d e w base ok (.slice A n c) xs) : n = xs.length ∧ n ≤ c ∧ d.C w A xs.length xs := yh (S_R h)
theorem zyp {ad : Addr} {n cap : Nat} (h : S d e W base ok (.slice (some ad) n cap) xs) (z : α) (i : Int) (h0 : 0 ≤ i) (h1 : i < n) :
    ∃ c, c.length = d.sz ∧ d.M W base (fun k => ok k ∧ some k ≠ (Value.slice (some ad) n cap).ownBlock) (xs.getD i.toNat z) c ∧ ∀ j u, c[j]? = some u → W.cell? (ad.add (i.toNat * d.sz + j)) = some u := zQ9 (S_R h) z i h0 h1
end
section
variable {P : Program} {ops : Array Oper} {rest : List Oper} {o : Oper} {a : Act} {Q : Exit → Act → World → Prop} {Kc : Act → World → Prop} {α : Type}
end
def gap {α : Type} (f : Nat → Nat) (d : Kd α) (i : Nat) (c : List Value) : Kd (α × Nat) where
  sz := d.sz
  E := d.E
  K := fun w x cs => (x.2 = i → cs = c ∧ cs.length = d.sz ∧ ∀ u ∈ cs, u.oneCell' = true) ∧ (x.2 ≠ i → d.K w x.1 cs)
  M := fun w base ok x cs => (x.2 = i → cs = c ∧ cs.length = d.sz ∧ ∀ u ∈ cs, u.oneCell' = true) ∧ (x.2 ≠ i → d.M w base (fun k => ok k ∧ f k = x.2) x.1 cs)
  Ze := fun {w x cs} h => by
    by_cases hx : x.2 = i
    · exact (h.1 hx).2.1
    · exact d.Ze (h.2 hx)
  ZH := fun {w x cs} h => by
    by_cases hx : x.2 = i
    · exact (h.1 hx).2.2
    · exact d.ZH (h.2 hx)
  wD := fun hb h => ⟨h.1, fun hx => d.wD hb (h.2 hx)⟩
  jI := fun h => ⟨h.1, fun hx => d.jI (h.2 hx)⟩
  jX := fun hok h => ⟨h.1, fun hx => d.jX (fun k hk => ⟨hok k hk.1, hk.2⟩) (h.2 hx)⟩
  jT := fun h => ⟨h.1, fun hx => d.jX (fun _ hk => ⟨⟨hk.1.1, hk.2⟩, hk.1.2⟩) (d.jT (h.2 hx))⟩
  wN := fun hm h => ⟨h.1, fun hx => d.wN (fun k hk => hm k hk.1) (h.2 hx)⟩
  wE := fun hb h => ⟨h.1, fun hx => d.wE hb (h.2 hx)⟩
def H {α : Type} (d : Kd α) (e : Nat) (w : World) (base : Nat) (ok : Nat → Prop) (v : Value) (xs : List α) (i : Int) (oki : Nat → Prop) (c : List Value) : Prop :=
  (∀ k, oki k → ok k) ∧ ∃ f, (gap f d i.toNat c).R e w base (fun k => ok k ∧ ¬ oki k) v xs.zipIdx
section
variable {α β : Type} {d : Kd α} {e e' g n cap : Nat} {w w1 W : World} {base : Nat} {ok ok' oki pK : Nat → Prop} {u v : Value} {xs : List α} {i : Int} {c : List Value}
end
section
variable {P : Program} {ops : Array Oper} {rest : List Oper} {o : Oper} {a : Act} {Q : Exit → Act → World → Prop} {α : Type}
end
end Kd
end Go.Proofs.zx.zK
namespace Go.Proofs.zx.zK
open Go.RowKit
namespace Kd
section
variable {α : Type} {n : Nat} {d : Kd α} {hs : 0 < d.sz} {w : World} {base : Nat} {ok : Nat → Prop} {xs : List α} {cs : List Value}
end
section
variable {α : Type} {n : Nat} {enc : α → Value} {h1 : ∀ x, (enc x).oneCell' = true} {hs : 0 < (scalar enc h1).sz} {w : World} {base : Nat} {ok : Nat → Prop} {xs : List α} {cs : List Value}
end
end Kd
end Go.Proofs.zx.zK
namespace Go.Proofs.zx.zK
open Go.RowKit
section
variable {P : Program}
end
namespace Kd
section
variable {P : Program} {ops : Array Oper} {rest : List Oper} {o : Oper} {a : Act} {Q : Exit → Act → World → Prop} {Kc : Act → World → Prop} {α : Type}
end
section
variable {α : Type} {d : Kd α} {e : Nat} {w : World} {base : Nat} {ok : Nat → Prop} {v : Value} {xs : List α}
end
section
variable {P : Program} {ops : Array Oper} {rest : List Oper} {o : Oper} {a : Act} {Q : Exit → Act → World → Prop} {Kc : Act → World → Prop} {α : Type}
end
end Kd
end Go.Proofs.zx.zK
namespace Go.Proofs.zx.zK
open Go.RowKit
namespace Kd
structure Heap {α : Type} (d : Kd α) : Prop where
 K : ∀ {w w1 : World} {x : α} {cs : List Value}, (∀ k, k < w.heap.size → w1.heap[k]? = w.heap[k]?) → d.K w x cs → d.K w1 x cs
theorem zj9 {w w1 : World} (hb : ∀ k, k < w.heap.size → w1.heap[k]? = w.heap[k]?) {a : Addr} {v : Value} (h : w.cell? a = some v) : w1.cell? a = some v := by
 have := hb a.block (World.block_lt_of_cell? w a h)
 simpa [World.cell?, this] using h
theorem Heap.C {α : Type} {d : Kd α} (hd : Heap d) {w w1 : World} {A : Option Addr} {n : Nat} {xs : List α} (hb : ∀ k, k < w.heap.size → w1.heap[k]? = w.heap[k]?) (h : d.C w A n xs) : d.C w1 A n xs :=
 ⟨h.1, h.2.1, fun hn => by
  obtain ⟨ad, e, hc⟩ := h.2.2 hn
  refine ⟨ad, e, fun j p hj => ?_⟩
  obtain ⟨c, hs, hr, hcell⟩ := hc j p hj
  exact ⟨c, hs, hd.K hb hr, fun i u hu => zj9 hb (hcell i u hu)⟩⟩
section
variable {α : Type} {d : Kd α} {e base g n c : Nat} {ok : Nat → Prop} {w w0 W : World} {A : Option Addr} {xs : List α}
end
end Kd
end Go.Proofs.zx.zK
namespace Go.Proofs.zx.zK
open Go.RowKit
def Kept (w W : World) (S : Nat → Prop) : Prop := w.heap.size ≤ W.heap.size ∧ ∀ i, i < w.heap.size → ¬ S i → W.heap[i]? = w.heap[i]?
section
variable {w W W2 : World} {S S2 S' : Nat → Prop}
theorem Kept.refl (w : World) (S : Nat → Prop) : Kept w w S := ⟨Nat.le_refl _, fun _ _ _ => rfl⟩
theorem Kept.of_below (h : Below w.heap.size w W) (S : Nat → Prop) : Kept w W S := ⟨h.size, fun i hi _ => h.block i hi⟩
theorem Kept.mono (h : Kept w W S) (hs : ∀ k, S k → S' k) : Kept w W S' := ⟨h.1, fun i hi hn => h.2 i hi (fun hk => hn (hs i hk))⟩
theorem Kept.then_ (h : Kept w W S) (k : Kept W W2 S2) (hs : ∀ k, S2 k → S k ∨ w.heap.size ≤ k) : Kept w W2 S :=
 ⟨Nat.le_trans h.1 k.1, fun i hi hn => (k.2 i (Nat.lt_of_lt_of_le hi h.1) (fun h2 => (hs i h2).elim hn (fun h3 => by omega))).trans (h.2 i hi hn)⟩
theorem Kept.below (h : Kept w W S) (hb : Below W.heap.size W W2) : Kept w W2 S := h.then_ (Kept.of_below hb (fun _ => False)) (fun _ hk => hk.elim)
theorem Kept.alloc (h : Kept w W S) (o : Obj) : Kept w (W.alloc o) S := h.below (yt (Below.refl _ _) o)
theorem Kept.drew (h : Kept w W S) : Kept w W.drew S := h
theorem Kept.drewN (h : Kept w W S) (m : Nat) : Kept w (W.drewN m) S := h
theorem Kept.setCell (h : Kept w W S) {p : Addr} (hp : S p.block ∨ w.heap.size ≤ p.block) (u : Value) : Kept w (W.setCell p u) S :=
 h.then_ (S2 := fun k => k = p.block) ⟨by simp [World.setCell], fun i _ hn => Below.heap_setCell W p u i hn⟩ (fun k hk => by rw [hk]; exact hp)
theorem Kept.keep {g : Nat} (h : jS w W g none) (k : Kept W W2 S2) (hs : ∀ k, S2 k → w.heap.size ≤ k) : jS w W2 g none :=
 ⟨Nat.le_trans h.1 k.1, fun i hi hg hr => (k.2 i (Nat.lt_of_lt_of_le hi h.1) (fun h2 => by have := hs i h2; omega)).trans (h.2 i hi hg hr)⟩
end
namespace Kd
section
variable {α : Type} {d : Kd α} {e base n c : Nat} {ok oki S S2 : Nat → Prop} {w w0 W W1 W2 : World} {v : Value} {A : Option Addr} {xs : List α} {i : Int} {cs : List Value}
theorem gL (h : d.R e W base ok v xs) (hk : Kept W W2 S) (hne : ∀ k, ok k → ¬ S k) : d.R e W2 base ok v xs := Ja h (fun k ho hlt => hk.2 k hlt (hne k ho))
end
end Kd
end Go.Proofs.zx.zK
namespace Go.Proofs.zx.zK
open Go.RowKit
def XL (P : World → Prop) (W : World) (ok : Nat → Prop) : Prop := ∀ W' : World, (∀ k, ok k → k < W.heap.size → W'.heap[k]? = W.heap[k]?) → P W'
theorem zw2 {W W1 : World} {k : Nat} (h : W1.heap[k]? = W.heap[k]?) (hlt : k < W.heap.size) : k < W1.heap.size := by
 rw [Array.getElem?_eq_getElem hlt] at h
 exact (Array.getElem?_eq_some_iff.1 h).1
namespace XL
variable {P Q : World → Prop} {W W1 : World} {ok ok' : Nat → Prop}
theorem now (h : XL P W ok) : P W := h W (fun _ _ _ => rfl)
theorem mono (h : XL P W ok) (hok : ∀ k, ok k → ok' k) : XL P W ok' := fun W' hW => h W' (fun k hk hlt => hW k (hok k hk) hlt)
theorem bound (h : XL P W ok) : XL P W (fun k => ok k ∧ k < W.heap.size) := fun W' hW => h W' (fun k hk hlt => hW k ⟨hk, hlt⟩ hlt)
theorem step (h : XL P W ok) (hm : ∀ k, ok k → k < W.heap.size → W1.heap[k]? = W.heap[k]?) : XL P W1 ok := fun W' hW => h W' (fun k hk hlt => (hW k hk (zw2 (hm k hk hlt) hlt)).trans (hm k hk hlt))
theorem imp (h : XL P W ok) (hi : ∀ W', P W' → Q W') : XL Q W ok := fun W' hW => hi W' (h W' hW)
theorem old (h : XL P W ok) (hb : Below W.heap.size W W1) : XL P W1 (fun k => ok k ∧ k < W.heap.size) := (h.bound).step (fun k _ hlt => hb.block k hlt)
end XL
namespace Kd
def F {α : Type} (d : Kd α) (W : World) (ok : Nat → Prop) (A : Option Addr) (n : Nat) (xs : List α) : Prop := XL (fun W => d.C W A n xs) W ok
def FK {α : Type} (d : Kd α) (W : World) (ok : Nat → Prop) (x : α) (c : List Value) : Prop := XL (fun W => d.K W x c) W ok
section
variable {α β : Type} {d : Kd α} {e base n n' cc g N : Nat} {ok ok' pK S : Nat → Prop} {w w0 w1 W W1 : World} {A A' : Option Addr} {u v v1 : Value} {xs : List α} {xs' : List β} {d' : Kd β} {x : α} {c : List Value}
theorem zVV (d : Kd α) (W : World) (ok : Nat → Prop) : F d W ok none ([] : List α).length [] := fun W' _ => zVJ d W'
theorem zw3 (h : d.M W base ok x c) : FK d W ok x c := fun _ hW => d.jI (zj4 h hW)
end
end Kd
end Go.Proofs.zx.zK
namespace Go.Proofs.zx.zK
open Go.RowKit
namespace Kd
def chunks (sz : Nat) (n : Nat) (inner : List Value) : List (List Value) := (List.range n).map fun j => (inner.drop (j * sz)).take sz
theorem Yl (sz n : Nat) (inner : List Value) : (chunks sz n inner).length = n := by simp [chunks]
theorem zvz {sz n : Nat} {inner : List Value} {j : Nat} (hj : j < n) : (chunks sz n inner)[j]? = some ((inner.drop (j * sz)).take sz) := by simp [chunks, hj]
theorem gM {sz n : Nat} {inner : List Value} {j : Nat} {c : List Value} (h : (chunks sz n inner)[j]? = some c) : c = (inner.drop (j * sz)).take sz := by
 have hj : j < n := by have := (List.getElem?_eq_some_iff.1 h).1; rwa [Yl] at this
 rw [zvz hj] at h
 injection h with h
 exact h.symm
theorem zv7 {α : Type} {Rr : α → List Value → Prop} {sz : Nat} {xs : List α} {inner : List Value} (h : xA Rr sz xs inner) (hR : ∀ x c, Rr x c → c.length = sz ∧ ∀ u ∈ c, u.oneCell' = true) : xA (fun x cs => cs = x ∧ cs.length = sz ∧ ∀ u ∈ cs, u.oneCell' = true) sz (chunks sz xs.length inner) inner := by
 refine ⟨by rw [Yl]; exact h.1, fun j p hj => ?_⟩
 have hjl : j < xs.length := by have := (List.getElem?_eq_some_iff.1 hj).1; rwa [Yl] at this
 have hp := gM hj
 exact ⟨hp.symm, hR _ _ (h.2 j _ (List.getElem?_eq_getElem hjl))⟩
section
variable {α : Type} {d : Kd α} {e base n cc g : Nat} {ok ok' pK S : Nat → Prop} {w w1 W W1 : World} {A : Option Addr} {u v v1 : Value} {xs : List α} {x : α} {c : List Value}
def N {α : Type} (d : Kd α) (e : Nat) (w : World) (base : Nat) (ok : Nat → Prop) (v : Value) (xs : List α) : Prop :=
 (∀ k, v.ownBlock = some k → ok k) ∧ ∃ rows : List (List Value), rows.length = xs.length ∧ (raw d.sz).R e w base (fun k => some k = v.ownBlock) v rows ∧ ∀ (j : Nat) (x : α) (c : List Value), xs[j]? = some x → rows[j]? = some c → FK d w (fun k => ok k ∧ some k ≠ v.ownBlock) x c
theorem R_N (h : d.R e w base ok v xs) : N d e w base ok v xs := by
 obtain ⟨h0, inner, ho, hr⟩ := h
 refine ⟨h0, chunks d.sz xs.length inner, Yl _ _ _, ⟨fun k hk => hk.symm, inner, by rw [Yl]; exact ho, zv7 hr (fun x c hp => ⟨d.Ze (d.jI hp), d.ZH (d.jI hp)⟩)⟩, fun j x c hx hc => ?_⟩
 rw [gM hc]
 exact zw3 (hr.2 j x hx)
theorem jY (d : Kd α) (e : Nat) (w : World) (base : Nat) (ok : Nat → Prop) : N d e w base ok (.slice none 0 0) [] := R_N (xE _ _ _ _ _)
end
end Kd
end Go.Proofs.zx.zK
namespace Go.Proofs.zx.zK
open Go.RowKit
namespace Kd
section
variable {α : Type} {d : Kd α} {W : World} {g n : Nat} {S ok : Nat → Prop} {A : Option Addr} {ad : Addr} {xs : List α}
end
end Kd
end Go.Proofs.zx.zK
namespace Go.Proofs.zx.zK
open Go.RowKit
section
variable {w w' u : World} {m B g : Nat} {o : Obj} {row : Option Nat} {S : Nat → Prop} {a : Addr} {v : Value}
end
namespace Kd
section
variable {α : Type} {d : Kd α} {e base n m : Nat} {ok : Nat → Prop} {w w' : World} {v : Value} {A : Option Addr} {xs : List α}
end
end Kd
end Go.Proofs.zx.zK
namespace Go.Proofs.zx.zK
open Go.RowKit
section
variable {P : Program} {d : Nat} {xs ys : Array Value} {f : Field} {fs : List Field} {a b : Value} {r s : Bool} {w : World}
theorem QL (hn : (f.name == "_") = false) (ha : (part f.type xs f.offset).run P w = .ok a w) (hb : (part f.type ys f.offset).run P w = .ok b w) (he : (Op.equalIn d f.type a b).run P w = .ok r w) : (Op.eqFields d xs ys [f]).run P w = .ok r w := by
 have hn' : f.name ≠ "_" := by simpa using hn
 simp only [Op.eqFields, if_pos hn', Sem.run_bind, ha, hb, he, Result.andThen_ok]
 cases r <;> simp
theorem ZB (hn : (f.name == "_") = false) (ha : (part f.type xs f.offset).run P w = .ok a w) (hb : (part f.type ys f.offset).run P w = .ok b w) (he : (Op.equalIn d f.type a b).run P w = .ok r w) (hr : (Op.eqFields d xs ys fs).run P w = .ok s w) : (Op.eqFields d xs ys (f :: fs)).run P w = .ok (r && s) w := by
 have hn' : f.name ≠ "_" := by simpa using hn
 rw [Op.eqFields]
 simp only [if_pos hn', Sem.run_bind, ha, hb, he, Result.andThen_ok]
 cases r
 ·simp
 ·simpa using hr
theorem Jg {t : TypeId} {fs : Array Field} (hu : P.underlying t = some (.struct fs)) (hp : P.stoodInHeld t = false) (h : (Op.eqFields d xs ys fs.toList).run P w = .ok r w) : (Op.equalIn (d + 1) t (.agg xs) (.agg ys)).run P w = .ok r w := by
 have hf : P.fieldsOf t = fs := by simp [Program.fieldsOf, hu]
 rw [run_equalIn_struct (P := P) w d t xs ys (by rw [hf]; exact hu) hp, hf]
 exact h
end
end Go.Proofs.zx.zK
namespace Go.Proofs.zx.zK
theorem xA.one {α : Type} {R : α → List Value → Prop} {ps : List α} {cs : List Value} {p : α} {v : Value} (hp : R p [v]) (h : xA R 1 ps cs) : xA R 1 (p :: ps) (v :: cs) := by
 refine ⟨by simp [h.1], fun j q hq => ?_⟩
 cases j with
 | zero =>
  simp only [List.getElem?_cons_zero, Option.some.injEq] at hq
  subst hq
  simpa using hp
 | succ j =>
  simp only [List.getElem?_cons_succ] at hq
  have h1 := h.2 j q hq
  simpa [Nat.mul_one] using h1
theorem xA.front {α : Type} {R : α → List Value → Prop} {size : Nat} {ps : List α} {cs c all : List Value} {p : α} (hp : R p c) (hc : c.length = size) (h : xA R size ps cs) (ha : c ++ cs = all) : xA R size (p :: ps) all := by
 subst ha
 refine ⟨by rw [List.length_append, hc, h.1, List.length_cons, Nat.succ_mul, Nat.add_comm], fun j q hq => ?_⟩
 cases j with
 | zero =>
  simp only [List.getElem?_cons_zero, Option.some.injEq] at hq
  subst hq
  rw [Nat.zero_mul, List.drop_zero, List.take_append_of_le_length (by omega), List.take_of_length_le (by omega)]
  exact hp
 | succ j =>
  simp only [List.getElem?_cons_succ] at hq
  have h1 := h.2 j q hq
  rw [Nat.succ_mul, List.drop_append, List.drop_of_length_le (by rw [hc]; exact Nat.le_add_left _ _), List.nil_append, hc, Nat.add_sub_cancel]
  exact h1
theorem xA.c2 {α : Type} {R : α → List Value → Prop} {ps : List α} {cs : List Value} {p : α} {va vb : Value} (hp : R p [va, vb]) (h : xA R 2 ps cs) : xA R 2 (p :: ps) (va :: vb :: cs) := xA.front hp rfl h rfl
theorem xA.c3 {α : Type} {R : α → List Value → Prop} {ps : List α} {cs : List Value} {p : α} {va vb vc : Value} (hp : R p [va, vb, vc]) (h : xA R 3 ps cs) : xA R 3 (p :: ps) (va :: vb :: vc :: cs) := xA.front hp rfl h rfl
theorem xA.c4 {α : Type} {R : α → List Value → Prop} {ps : List α} {cs : List Value} {p : α} {va vb vc vd : Value} (hp : R p [va, vb, vc, vd]) (h : xA R 4 ps cs) : xA R 4 (p :: ps) (va :: vb :: vc :: vd :: cs) := xA.front hp rfl h rfl
theorem xA.c5 {α : Type} {R : α → List Value → Prop} {ps : List α} {cs : List Value} {p : α} {va vb vc vd ve : Value} (hp : R p [va, vb, vc, vd, ve]) (h : xA R 5 ps cs) : xA R 5 (p :: ps) (va :: vb :: vc :: vd :: ve :: cs) := xA.front hp rfl h rfl
theorem xA.c6 {α : Type} {R : α → List Value → Prop} {ps : List α} {cs : List Value} {p : α} {va vb vc vd ve vf : Value} (hp : R p [va, vb, vc, vd, ve, vf]) (h : xA R 6 ps cs) : xA R 6 (p :: ps) (va :: vb :: vc :: vd :: ve :: vf :: cs) := xA.front hp rfl h rfl
theorem xA.c7 {α : Type} {R : α → List Value → Prop} {ps : List α} {cs : List Value} {p : α} {va vb vc vd ve vf vg : Value} (hp : R p [va, vb, vc, vd, ve, vf, vg]) (h : xA R 7 ps cs) : xA R 7 (p :: ps) (va :: vb :: vc :: vd :: ve :: vf :: vg :: cs) := xA.front hp rfl h rfl
theorem xA.c8 {α : Type} {R : α → List Value → Prop} {ps : List α} {cs : List Value} {p : α} {va vb vc vd ve vf vg vh : Value} (hp : R p [va, vb, vc, vd, ve, vf, vg, vh]) (h : xA R 8 ps cs) : xA R 8 (p :: ps) (va :: vb :: vc :: vd :: ve :: vf :: vg :: vh :: cs) := xA.front hp rfl h rfl
theorem xA.c9 {α : Type} {R : α → List Value → Prop} {ps : List α} {cs : List Value} {p : α} {va vb vc vd ve vf vg vh vi : Value} (hp : R p [va, vb, vc, vd, ve, vf, vg, vh, vi]) (h : xA R 9 ps cs) : xA R 9 (p :: ps) (va :: vb :: vc :: vd :: ve :: vf :: vg :: vh :: vi :: cs) := xA.front hp rfl h rfl
theorem xA.c10 {α : Type} {R : α → List Value → Prop} {ps : List α} {cs : List Value} {p : α} {va vb vc vd ve vf vg vh vi vj : Value} (hp : R p [va, vb, vc, vd, ve, vf, vg, vh, vi, vj]) (h : xA R 10 ps cs) : xA R 10 (p :: ps) (va :: vb :: vc :: vd :: ve :: vf :: vg :: vh :: vi :: vj :: cs) := xA.front hp rfl h rfl
end Go.Proofs.zx.zK
namespace Go.Proofs.zx.zU
section
variable {P : Program} {ops : Array Oper} {Q : Exit → Act → World → Prop} {md : Region.Mode} {T : Bool × List (List Nat × List Nat)} {B : List Nat} {O : List Nat} {b : Nat → Bool} {i j n : Nat}
end
end Go.Proofs.zx.zU
namespace Go.Proofs.zx.zK
open Go.RowKit
end Go.Proofs.zx.zK
namespace Go.Proofs.zx.zU
section
variable {ops : Array Oper} {a : Act} {o og : Oper} {g : Nat} {t : Tmp} {u : Bool}
end
end Go.Proofs.zx.zU
namespace Go.Proofs.zx.zK
open Go.RowKit
section
variable {P : Program} {ops : Array Oper} {rest : List Oper} {o : Oper} {a : Act} {Q : Exit → Act → World → Prop} {W : World}
theorem gN (hw : Region.wanted o (yielded ops a.tmps) = true) (h : wpList P ops Q ({ o with guard := none } :: rest) a W) : wpList P ops Q (o :: rest) a W := by
 have h1 : Region.wanted { o with guard := none } (yielded ops a.tmps) = true := rfl
 unfold wpList at h ⊢
 rw [if_pos h1] at h
 rw [if_pos hw]
 exact h
end
end Go.Proofs.zx.zK
namespace Go.Proofs.zx.zK
open Go.RowKit
namespace Kd
section
variable {α : Type} {d : Kd α} {e base n cap g : Nat} {ok ok' pK : Nat → Prop} {w w1 W : World} {v v1 : Value} {xs ys : List α}
end
section
variable {P : Program} {ops : Array Oper} {rest : List Oper} {o : Oper} {a : Act} {Q : Exit → Act → World → Prop} {Kc : Act → World → Prop} {α : Type}
end
end Kd
end Go.Proofs.zx.zK
namespace Go.Proofs.zx.zN
open Go.RowKit Go.Proofs.zx.zK
namespace Kd
open Go.Proofs.zx.zK.Kd
end Kd
namespace Kd
open Go.Proofs.zx.zK.Kd
section
variable {α : Type} {d : Kd α} {e base g N : Nat} {ok : Nat → Prop} {W w1 : World} {u v : Value} {xs : List α}
end
end Kd
theorem qF (k k' : IntKind) (x y : Int) : Builtin.max2 (.int k x) (.int k' y) = pure (.int k (if x < y then y else x)) := by simp only [Builtin.max2, gt_iff_lt]
theorem qG (k k' : IntKind) (x y : Int) : Builtin.min2 (.int k x) (.int k' y) = pure (.int k (if y < x then y else x)) := by simp only [Builtin.min2]
theorem xC (ats : Array TypeId) (ty : TypeId) (a b : Value) : Builtin.max_ ats ty #[a, b] = (Builtin.max2 a b >>= fun s => pure s) := by simp only [Builtin.max_, List.foldlM_cons, List.foldlM_nil]
theorem xD (ats : Array TypeId) (ty : TypeId) (a b : Value) : Builtin.min_ ats ty #[a, b] = (Builtin.min2 a b >>= fun s => pure s) := by simp only [Builtin.min_, List.foldlM_cons, List.foldlM_nil]
theorem qY (ats : Array TypeId) (ty : TypeId) (a b c : Value) : Builtin.max_ ats ty #[a, b, c] = (Builtin.max2 a b >>= fun s => Builtin.max2 s c >>= fun s => pure s) := by simp only [Builtin.max_, List.foldlM_cons, List.foldlM_nil]
theorem qW (ats : Array TypeId) (ty : TypeId) (a b c : Value) : Builtin.min_ ats ty #[a, b, c] = (Builtin.min2 a b >>= fun s => Builtin.min2 s c >>= fun s => pure s) := by simp only [Builtin.min_, List.foldlM_cons, List.foldlM_nil]
theorem qH (ats : Array TypeId) (ty : TypeId) (a b c d : Value) : Builtin.max_ ats ty #[a, b, c, d] = (Builtin.max2 a b >>= fun s => Builtin.max2 s c >>= fun s => Builtin.max2 s d >>= fun s => pure s) := by simp only [Builtin.max_, List.foldlM_cons, List.foldlM_nil]
theorem qI (ats : Array TypeId) (ty : TypeId) (a b c d : Value) : Builtin.min_ ats ty #[a, b, c, d] = (Builtin.min2 a b >>= fun s => Builtin.min2 s c >>= fun s => Builtin.min2 s d >>= fun s => pure s) := by simp only [Builtin.min_, List.foldlM_cons, List.foldlM_nil]
end Go.Proofs.zx.zN
namespace Go.Proofs.zx.zK
open Go.RowKit
section
variable {P : Program} {ops : Array Oper} {rest : List Oper} {o : Oper} {a : Act} {Q : Exit → Act → World → Prop} {W : World}
theorem yI {f : FuncId} {zq : Array Operand} {ts : Array TypeId} (_ho : o.op = .call { callee := .value (.func f), args := zq, argTypes := ts }) (h : wpList P ops Q (o :: rest) a W) : wpList P ops Q (o :: rest) a W := h
theorem QK {b : Builtin} {xs : Array Operand} {ts : Array TypeId} (_ho : o.op = .call { callee := .builtin b, args := xs, argTypes := ts }) (h : wpList P ops Q (o :: rest) a W) : wpList P ops Q (o :: rest) a W := h
end
def mx (a b : Int) : Int := if a < b then b else a
theorem VT (w : World) (n : Nat) : w.drewN n = w.drewN n := rfl
namespace Kd
section
variable {α : Type} {d : Kd α} {e base : Nat} {ok : Nat → Prop} {W w1 : World} {v : Value} {xs : List α}
end
section
variable {α : Type} {d : Kd α} {e base g n cap : Nat} {ok oki pK : Nat → Prop} {W : World} {xs : List α} {i : Int} {c : List Value}
end
section
variable {α : Type} {d : Kd α} {e base b b' g N : Nat} {ok ok1 : Nat → Prop} {W W2 w1 : World} {u v : Value} {xs ys : List α} {S : Nat → Prop}
end
end Kd
end Go.Proofs.zx.zK
namespace Go.Proofs.zx.zK
open Go.RowKit
namespace Kd
def V {α : Type} (d : Kd α) (_e : Nat) (W : World) (_base : Nat) (ok : Nat → Prop) (v : Value) (xs : List α) : Prop := ∃ A c, v = .slice A xs.length c ∧ xs.length ≤ c ∧ F d W ok A xs.length xs
section
variable {α β : Type} {d : Kd α} {e base base' n m c g N' lo hi : Nat} {ok ok' S : Nat → Prop} {w W w1 : World} {A : Option Addr} {ad : Addr} {u v v1 : Value} {xs : List α}
theorem jW (d : Kd α) (e : Nat) (W : World) (base : Nat) (ok : Nat → Prop) : V d e W base ok (.slice none 0 0) [] := ⟨none, 0, rfl, Nat.le_refl _, zVV d W ok⟩
end
end Kd
end Go.Proofs.zx.zK
namespace Go.Proofs.YtaifemkokfoadaaGreatDoor.PX
open Go.RowKit Go.Proofs.zx.zK Go.Proofs.zx.zU Go.Proofs.zx.zN
attribute [local go_sem] qF qG xC xD qY qW qH qI   -- for this text's walks alone
set_option linter.unusedVariables false
set_option linter.unusedSimpArgs false
def zXj : Option Int → Value
 | none => .nilIface
 | some c => .iface 0 (.int .i64 c)
theorem yZ : zXj none = .nilIface := rfl
theorem yQ (c : Int) : zXj (some c) = .iface 0 (.int .i64 c) := rfl
theorem zyr : (Tryz.prog.info? 9).map (fun i => (i.zero, i.size, i.bytes)) = some (some (.string ⟨#[]⟩), 1, 16) := by kernel_rfl
theorem gP : (Tryz.prog.info? 31).map (fun i => (i.zero, i.size, i.bytes)) = some (some (.agg #[(.string ⟨#[]⟩), (.int .i64 0)]), 2, 24) := by kernel_rfl
theorem zvq : (Tryz.prog.info? 76).map (fun i => (i.zero, i.size, i.bytes)) = some (some (.agg #[(.string ⟨#[]⟩), (.string ⟨#[]⟩), (.int .i64 0)]), 3, 40) := by kernel_rfl
theorem WQ : (Tryz.prog.info? 81).map (fun i => (i.zero, i.size, i.bytes)) = some (some (.agg #[(.string ⟨#[]⟩), (.int .i64 0)]), 2, 24) := by kernel_rfl
theorem lD : (Tryz.prog.info? 83).map (fun i => (i.zero, i.size, i.bytes)) = some (some (.agg #[(.string ⟨#[]⟩), (.string ⟨#[]⟩), (.string ⟨#[]⟩)]), 3, 48) := by kernel_rfl
theorem gT : (Tryz.prog.info? 84).map (fun i => (i.zero, i.size, i.bytes)) = some (some (.agg #[(.string ⟨#[]⟩), (.string ⟨#[]⟩), (.int .i64 0)]), 3, 40) := by kernel_rfl
theorem zvx : (Tryz.prog.info? 86).map (fun i => (i.zero, i.size, i.bytes)) = some (some (.agg #[(.string ⟨#[]⟩), (.string ⟨#[]⟩), (.string ⟨#[]⟩)]), 3, 48) := by kernel_rfl
structure qJ where
 f0 : ByteArray
 f1 : Int
def z81 : qJ := ⟨(⟨#[]⟩ : ByteArray), (0 : Int)⟩
def jC : Kd qJ := Kd.lX (Kd.pair Kd.string (Kd.int .i64)) (fun x : qJ => (x.f0, x.f1))
theorem zv8 {w : World} {x : qJ} {cs : List Value} (h : jC.K w x cs) : cs = [.string x.f0, .int .i64 x.f1] := by
 obtain ⟨_, _, rfl, rfl, rfl⟩ := h
 exact rfl
theorem Jh (w : World) (base : Nat) (ok : Nat → Prop) (x : qJ)  : jC.M w base ok x [.string x.f0, .int .i64 x.f1] := ⟨[.string x.f0], [.int .i64 x.f1], rfl, rfl, rfl⟩
def zS (xs : List qJ) (i : Int) : qJ := xs.getD i.toNat z81
theorem YL {w : World} {A : Option Addr} {n : Nat} {xs : List qJ} (h : Kd.C jC w A n xs) (i : Int) (h0 : 0 ≤ i) (h1 : i < n) : ∃ ad , A = some ad ∧ w.cell? (ad.add (i.toNat * 2)) = some (.string (zS xs i).f0) ∧ w.cell? ⟨(ad.add (i.toNat * 2)).block, (ad.add (i.toNat * 2)).off + 1, none⟩ = some (.int .i64 (zS xs i).f1) := by
 obtain ⟨ad, c, e, _, hK, hc0⟩ := Kd.JR h z81 i h0 h1
 have hc : ∀ j u, c[j]? = some u → w.cell? (ad.add (i.toNat * 2 + j)) = some u := hc0
 obtain rfl := zv8 hK
 exact ⟨ad, e, hc 0 _ rfl, by rw [← uf _ _ 1 (by omega)]; exact hc 1 _ rfl⟩
structure xK where
 f0 : ByteArray
 f1 : ByteArray
 f2 : ByteArray
def z83 : xK := ⟨(⟨#[]⟩ : ByteArray), (⟨#[]⟩ : ByteArray), (⟨#[]⟩ : ByteArray)⟩
def kR : Kd xK := Kd.lX (Kd.pair Kd.string (Kd.pair Kd.string Kd.string)) (fun x : xK => (x.f0, x.f1, x.f2))
theorem zv9 {w : World} {x : xK} {cs : List Value} (h : kR.K w x cs) : cs = [.string x.f0, .string x.f1, .string x.f2] := by
 obtain ⟨_, _, rfl, rfl, ⟨_, _, rfl, rfl, rfl⟩⟩ := h
 exact rfl
theorem rO (w : World) (base : Nat) (ok : Nat → Prop) (x : xK)  : kR.M w base ok x [.string x.f0, .string x.f1, .string x.f2] := ⟨[.string x.f0], [.string x.f1, .string x.f2], rfl, rfl, ⟨[.string x.f1], [.string x.f2], rfl, rfl, rfl⟩⟩
def vP (xs : List xK) (i : Int) : xK := xs.getD i.toNat z83
theorem Ji {w : World} {A : Option Addr} {n : Nat} {xs : List xK} (h : Kd.C kR w A n xs) (i : Int) (h0 : 0 ≤ i) (h1 : i < n) : ∃ ad , A = some ad ∧ w.cell? (ad.add (i.toNat * 3)) = some (.string (vP xs i).f0) ∧ w.cell? ⟨(ad.add (i.toNat * 3)).block, (ad.add (i.toNat * 3)).off + 1, none⟩ = some (.string (vP xs i).f1) ∧ w.cell? ⟨(ad.add (i.toNat * 3)).block, (ad.add (i.toNat * 3)).off + 2, none⟩ = some (.string (vP xs i).f2) := by
 obtain ⟨ad, c, e, _, hK, hc0⟩ := Kd.JR h z83 i h0 h1
 have hc : ∀ j u, c[j]? = some u → w.cell? (ad.add (i.toNat * 3 + j)) = some u := hc0
 obtain rfl := zv9 hK
 exact ⟨ad, e, hc 0 _ rfl, by rw [← uf _ _ 1 (by omega)]; exact hc 1 _ rfl, by rw [← uf _ _ 2 (by omega)]; exact hc 2 _ rfl⟩
structure xY where
 f0 : ByteArray
 f1 : ByteArray
 f2 : Int
def z84 : xY := ⟨(⟨#[]⟩ : ByteArray), (⟨#[]⟩ : ByteArray), (0 : Int)⟩
def kE : Kd xY := Kd.lX (Kd.pair Kd.string (Kd.pair Kd.string (Kd.int .i64))) (fun x : xY => (x.f0, x.f1, x.f2))
theorem zkz {w : World} {x : xY} {cs : List Value} (h : kE.K w x cs) : cs = [.string x.f0, .string x.f1, .int .i64 x.f2] := by
 obtain ⟨_, _, rfl, rfl, ⟨_, _, rfl, rfl, rfl⟩⟩ := h
 exact rfl
theorem Pb (w : World) (base : Nat) (ok : Nat → Prop) (x : xY)  : kE.M w base ok x [.string x.f0, .string x.f1, .int .i64 x.f2] := ⟨[.string x.f0], [.string x.f1, .int .i64 x.f2], rfl, rfl, ⟨[.string x.f1], [.int .i64 x.f2], rfl, rfl, rfl⟩⟩
def vJ (xs : List xY) (i : Int) : xY := xs.getD i.toNat z84
theorem Jl {w : World} {A : Option Addr} {n : Nat} {xs : List xY} (h : Kd.C kE w A n xs) (i : Int) (h0 : 0 ≤ i) (h1 : i < n) : ∃ ad , A = some ad ∧ w.cell? (ad.add (i.toNat * 3)) = some (.string (vJ xs i).f0) ∧ w.cell? ⟨(ad.add (i.toNat * 3)).block, (ad.add (i.toNat * 3)).off + 1, none⟩ = some (.string (vJ xs i).f1) ∧ w.cell? ⟨(ad.add (i.toNat * 3)).block, (ad.add (i.toNat * 3)).off + 2, none⟩ = some (.int .i64 (vJ xs i).f2) := by
 obtain ⟨ad, c, e, _, hK, hc0⟩ := Kd.JR h z84 i h0 h1
 have hc : ∀ j u, c[j]? = some u → w.cell? (ad.add (i.toNat * 3 + j)) = some u := hc0
 obtain rfl := zkz hK
 exact ⟨ad, e, hc 0 _ rfl, by rw [← uf _ _ 1 (by omega)]; exact hc 1 _ rfl, by rw [← uf _ _ 2 (by omega)]; exact hc 2 _ rfl⟩
structure qw where
 f0 : ByteArray
 f1 : Int
def z31 : qw := ⟨(⟨#[]⟩ : ByteArray), (0 : Int)⟩
def uy : Kd qw := Kd.lX (Kd.pair Kd.string (Kd.int .i64)) (fun x : qw => (x.f0, x.f1))
theorem lF {w : World} {x : qw} {cs : List Value} (h : uy.K w x cs) : cs = [.string x.f0, .int .i64 x.f1] := by
 obtain ⟨_, _, rfl, rfl, rfl⟩ := h
 exact rfl
theorem zvj {w : World} {base : Nat} {ok : Nat → Prop} {x : qw} {cs : List Value} (h : uy.M w base ok x cs) : cs = [.string x.f0, .int .i64 x.f1] := by
 obtain ⟨_, _, rfl, rfl, rfl⟩ := h
 exact rfl
theorem X8 (w : World) (base : Nat) (ok : Nat → Prop) (x : qw)  : uy.M w base ok x [.string x.f0, .int .i64 x.f1] := ⟨[.string x.f0], [.int .i64 x.f1], rfl, rfl, rfl⟩
def qV (xs : List qw) (i : Int) : qw := xs.getD i.toNat z31
theorem YM {w : World} {A : Option Addr} {n : Nat} {xs : List qw} (h : Kd.C uy w A n xs) (i : Int) (h0 : 0 ≤ i) (h1 : i < n) : ∃ ad , A = some ad ∧ w.cell? (ad.add (i.toNat * 2)) = some (.string (qV xs i).f0) ∧ w.cell? ⟨(ad.add (i.toNat * 2)).block, (ad.add (i.toNat * 2)).off + 1, none⟩ = some (.int .i64 (qV xs i).f1) := by
 obtain ⟨ad, c, e, _, hK, hc0⟩ := Kd.JR h z31 i h0 h1
 have hc : ∀ j u, c[j]? = some u → w.cell? (ad.add (i.toNat * 2 + j)) = some u := hc0
 obtain rfl := lF hK
 exact ⟨ad, e, hc 0 _ rfl, by rw [← uf _ _ 1 (by omega)]; exact hc 1 _ rfl⟩
structure qh where
 f0 : ByteArray
 f1 : ByteArray
 f2 : ByteArray
def z86 : qh := ⟨(⟨#[]⟩ : ByteArray), (⟨#[]⟩ : ByteArray), (⟨#[]⟩ : ByteArray)⟩
def uU : Kd qh := Kd.lX (Kd.pair Kd.string (Kd.pair Kd.string Kd.string)) (fun x : qh => (x.f0, x.f1, x.f2))
theorem lG {w : World} {x : qh} {cs : List Value} (h : uU.K w x cs) : cs = [.string x.f0, .string x.f1, .string x.f2] := by
 obtain ⟨_, _, rfl, rfl, ⟨_, _, rfl, rfl, rfl⟩⟩ := h
 exact rfl
theorem Jm (w : World) (base : Nat) (ok : Nat → Prop) (x : qh)  : uU.M w base ok x [.string x.f0, .string x.f1, .string x.f2] := ⟨[.string x.f0], [.string x.f1, .string x.f2], rfl, rfl, ⟨[.string x.f1], [.string x.f2], rfl, rfl, rfl⟩⟩
def qO (xs : List qh) (i : Int) : qh := xs.getD i.toNat z86
theorem Vh {w : World} {A : Option Addr} {n : Nat} {xs : List qh} (h : Kd.C uU w A n xs) (i : Int) (h0 : 0 ≤ i) (h1 : i < n) : ∃ ad , A = some ad ∧ w.cell? (ad.add (i.toNat * 3)) = some (.string (qO xs i).f0) ∧ w.cell? ⟨(ad.add (i.toNat * 3)).block, (ad.add (i.toNat * 3)).off + 1, none⟩ = some (.string (qO xs i).f1) ∧ w.cell? ⟨(ad.add (i.toNat * 3)).block, (ad.add (i.toNat * 3)).off + 2, none⟩ = some (.string (qO xs i).f2) := by
 obtain ⟨ad, c, e, _, hK, hc0⟩ := Kd.JR h z86 i h0 h1
 have hc : ∀ j u, c[j]? = some u → w.cell? (ad.add (i.toNat * 3 + j)) = some u := hc0
 obtain rfl := lG hK
 exact ⟨ad, e, hc 0 _ rfl, by rw [← uf _ _ 1 (by omega)]; exact hc 1 _ rfl, by rw [← uf _ _ 2 (by omega)]; exact hc 2 _ rfl⟩
structure xq where
 f0 : ByteArray
 f1 : ByteArray
 f2 : Int
def z76 : xq := ⟨(⟨#[]⟩ : ByteArray), (⟨#[]⟩ : ByteArray), (0 : Int)⟩
def jy : Kd xq := Kd.lX (Kd.pair Kd.string (Kd.pair Kd.string (Kd.int .i64))) (fun x : xq => (x.f0, x.f1, x.f2))
theorem lH {w : World} {x : xq} {cs : List Value} (h : jy.K w x cs) : cs = [.string x.f0, .string x.f1, .int .i64 x.f2] := by
 obtain ⟨_, _, rfl, rfl, ⟨_, _, rfl, rfl, rfl⟩⟩ := h
 exact rfl
theorem QM (w : World) (base : Nat) (ok : Nat → Prop) (x : xq)  : jy.M w base ok x [.string x.f0, .string x.f1, .int .i64 x.f2] := ⟨[.string x.f0], [.string x.f1, .int .i64 x.f2], rfl, rfl, ⟨[.string x.f1], [.int .i64 x.f2], rfl, rfl, rfl⟩⟩
def xk (xs : List xq) (i : Int) : xq := xs.getD i.toNat z76
theorem Vi {w : World} {A : Option Addr} {n : Nat} {xs : List xq} (h : Kd.C jy w A n xs) (i : Int) (h0 : 0 ≤ i) (h1 : i < n) : ∃ ad , A = some ad ∧ w.cell? (ad.add (i.toNat * 3)) = some (.string (xk xs i).f0) ∧ w.cell? ⟨(ad.add (i.toNat * 3)).block, (ad.add (i.toNat * 3)).off + 1, none⟩ = some (.string (xk xs i).f1) ∧ w.cell? ⟨(ad.add (i.toNat * 3)).block, (ad.add (i.toNat * 3)).off + 2, none⟩ = some (.int .i64 (xk xs i).f2) := by
 obtain ⟨ad, c, e, _, hK, hc0⟩ := Kd.JR h z76 i h0 h1
 have hc : ∀ j u, c[j]? = some u → w.cell? (ad.add (i.toNat * 3 + j)) = some u := hc0
 obtain rfl := lH hK
 exact ⟨ad, e, hc 0 _ rfl, by rw [← uf _ _ 1 (by omega)]; exact hc 1 _ rfl, by rw [← uf _ _ 2 (by omega)]; exact hc 2 _ rfl⟩
structure Xn where
 f0 : ByteArray
 f1 : Bool
 f2 : Int
 f3 : (List qw)
 f4 : (List qh)
 f5 : (List xq)
def z26 : Xn := ⟨(⟨#[]⟩ : ByteArray), false, (0 : Int), ([] : List qw), ([] : List qh), ([] : List xq)⟩
def k26 : Kd Xn := Kd.lX (Kd.pair Kd.string (Kd.pair Kd.bool (Kd.pair (Kd.int .i64) (Kd.pair (Kd.slice 31 uy) (Kd.pair (Kd.slice 86 uU) (Kd.slice 76 jy)))))) (fun x : Xn => (x.f0, x.f1, x.f2, x.f3, x.f4, x.f5))
theorem zkq {w : World} {x : Xn} {cs : List Value} (h : k26.K w x cs) : ∃ A3 c3 A4 c4 A5 c5, cs = [.string x.f0, .bool x.f1, .int .i64 x.f2, .slice A3 x.f3.length c3, .slice A4 x.f4.length c4, .slice A5 x.f5.length c5] ∧ x.f3.length ≤ c3 ∧ uy.C w A3 x.f3.length x.f3 ∧ x.f4.length ≤ c4 ∧ uU.C w A4 x.f4.length x.f4 ∧ x.f5.length ≤ c5 ∧ jy.C w A5 x.f5.length x.f5 := by
 obtain ⟨_, _, rfl, rfl, ⟨_, _, rfl, rfl, ⟨_, _, rfl, rfl, ⟨_, _, rfl, ⟨A3, c3, rfl, l3, g3⟩, ⟨_, _, rfl, ⟨A4, c4, rfl, l4, g4⟩, ⟨A5, c5, rfl, l5, g5⟩⟩⟩⟩⟩⟩ := h
 exact ⟨A3, c3, A4, c4, A5, c5, rfl, l3, g3, l4, g4, l5, g5⟩
theorem fB {w : World} {base : Nat} {ok : Nat → Prop} {x : Xn} {cs : List Value} (h : k26.M w base ok x cs) : ∃ v3 v4 v5, cs = [.string x.f0, .bool x.f1, .int .i64 x.f2, v3, v4, v5] ∧ uy.R 31 w base ok v3 x.f3 ∧ uU.R 86 w base ok v4 x.f4 ∧ jy.R 76 w base ok v5 x.f5 := by
 obtain ⟨_, _, rfl, rfl, ⟨_, _, rfl, rfl, ⟨_, _, rfl, rfl, ⟨_, _, rfl, ⟨v3, rfl, g3⟩, ⟨_, _, rfl, ⟨v4, rfl, g4⟩, ⟨v5, rfl, g5⟩⟩⟩⟩⟩⟩ := h
 exact ⟨v3, v4, v5, rfl, g3, g4, g5⟩
theorem zw4 (w : World) (base : Nat) (ok : Nat → Prop) (x : Xn) {v3 : Value} (g3 : uy.R 31 w base ok v3 x.f3) {v4 : Value} (g4 : uU.R 86 w base ok v4 x.f4) {v5 : Value} (g5 : jy.R 76 w base ok v5 x.f5) : k26.M w base ok x [.string x.f0, .bool x.f1, .int .i64 x.f2, v3, v4, v5] := ⟨[.string x.f0], [.bool x.f1, .int .i64 x.f2, v3, v4, v5], rfl, rfl, ⟨[.bool x.f1], [.int .i64 x.f2, v3, v4, v5], rfl, rfl, ⟨[.int .i64 x.f2], [v3, v4, v5], rfl, rfl, ⟨[v3], [v4, v5], rfl, ⟨v3, rfl, g3⟩, ⟨[v4], [v5], rfl, ⟨v4, rfl, g4⟩, ⟨v5, rfl, g5⟩⟩⟩⟩⟩⟩
def qB (xs : List Xn) (i : Int) : Xn := xs.getD i.toNat z26
theorem zvv {w : World} {A : Option Addr} {n : Nat} {xs : List Xn} (h : Kd.C k26 w A n xs) (i : Int) (h0 : 0 ≤ i) (h1 : i < n) : ∃ ad A3 c3 A4 c4 A5 c5, A = some ad ∧ w.cell? (ad.add (i.toNat * 6)) = some (.string (qB xs i).f0) ∧ w.cell? ⟨(ad.add (i.toNat * 6)).block, (ad.add (i.toNat * 6)).off + 1, none⟩ = some (.bool (qB xs i).f1) ∧ w.cell? ⟨(ad.add (i.toNat * 6)).block, (ad.add (i.toNat * 6)).off + 2, none⟩ = some (.int .i64 (qB xs i).f2) ∧ w.cell? ⟨(ad.add (i.toNat * 6)).block, (ad.add (i.toNat * 6)).off + 3, none⟩ = some (.slice A3 (qB xs i).f3.length c3) ∧ w.cell? ⟨(ad.add (i.toNat * 6)).block, (ad.add (i.toNat * 6)).off + 4, none⟩ = some (.slice A4 (qB xs i).f4.length c4) ∧ w.cell? ⟨(ad.add (i.toNat * 6)).block, (ad.add (i.toNat * 6)).off + 5, none⟩ = some (.slice A5 (qB xs i).f5.length c5) ∧ (qB xs i).f3.length ≤ c3 ∧ uy.C w A3 (qB xs i).f3.length (qB xs i).f3 ∧ (qB xs i).f4.length ≤ c4 ∧ uU.C w A4 (qB xs i).f4.length (qB xs i).f4 ∧ (qB xs i).f5.length ≤ c5 ∧ jy.C w A5 (qB xs i).f5.length (qB xs i).f5 := by
 obtain ⟨ad, c, e, _, hK, hc0⟩ := Kd.JR h z26 i h0 h1
 have hc : ∀ j u, c[j]? = some u → w.cell? (ad.add (i.toNat * 6 + j)) = some u := hc0
 obtain ⟨A3, c3, A4, c4, A5, c5, rfl, l3, g3, l4, g4, l5, g5⟩ := zkq hK
 exact ⟨ad, A3, c3, A4, c4, A5, c5, e, hc 0 _ rfl, by rw [← uf _ _ 1 (by omega)]; exact hc 1 _ rfl, by rw [← uf _ _ 2 (by omega)]; exact hc 2 _ rfl, by rw [← uf _ _ 3 (by omega)]; exact hc 3 _ rfl, by rw [← uf _ _ 4 (by omega)]; exact hc 4 _ rfl, by rw [← uf _ _ 5 (by omega)]; exact hc 5 _ rfl, l3, g3, l4, g4, l5, g5⟩
theorem gU : ∀ (x y : List UInt8), (!(Op.bytesLess x y || x == y)) = Op.bytesLess y x
 | [], [] => rfl
 | [], _ :: _ => rfl
 | _ :: _, [] => rfl
 | a :: x, b :: y => by
  have ih := gU x y
  unfold Op.bytesLess
  by_cases h1 : a < b
  ·have h2 : ¬ b < a := UInt8.not_lt.2 (UInt8.le_of_lt h1)
   have h3 : ¬ a = b := fun e => by subst e; exact h2 h1
   have h4 : ¬ b = a := fun e => h3 e.symm
   simp [h1, h2, h3, h4]
  ·by_cases h2 : b < a
   ·have h3 : a ≠ b := fun e => by subst e; exact absurd h2 h1
    simp [h1, h2, h3]
   ·have h3 : a = b := UInt8.le_antisymm (UInt8.not_lt.1 h2) (UInt8.not_lt.1 h1)
    subst h3
    simp [h1, ← ih]
theorem Uz (x y : List UInt8) : (!(Op.bytesLess x y || x == y)) = Op.bytesLess y x := gU x y
theorem lI : ∀ x : List UInt8, Op.bytesLess x x = false
 | [] => rfl
 | a :: x => by
  have h : ¬ a < a := fun h => absurd h (UInt8.not_lt.2 (UInt8.le_refl a))
  simp [Op.bytesLess, h, lI x]
theorem zxQ {x y : List UInt8} (h : Op.bytesLess x y = true) : (x == y) = false := by
 rw [beq_eq_false_iff_ne]; intro e; subst e; rw [lI] at h; cases h
theorem lM {x y : List UInt8} (h : Op.bytesLess x y = true) : (y == x) = false := by
 rw [beq_eq_false_iff_ne]; intro e; subst e; rw [lI] at h; cases h
theorem rR {x y : List UInt8} (h : Op.bytesLess x y = true) : Op.bytesLess y x = false := by
 rw [← gU x y, h]; rfl
theorem Pf {x y : List UInt8} (h : Op.bytesLess x y = false) (k : Op.bytesLess y x = false) : (x == y) = true := by
 have := gU x y
 rw [h, k] at this
 simpa using this
end Go.Proofs.YtaifemkokfoadaaGreatDoor.PX
namespace Go.Proofs.YtaifemkokfoadaaGreatDoor
open Go.RowKit Go.Proofs.zx.zK Go.Proofs.zx.zU Go.Proofs.zx.zN
section
variable {P : Program} {ops : Array Oper} {Q : Exit → Act → World → Prop} {md : Region.Mode} {S : World → Prop} {ds : List Nat} {T : Bool × List (List Nat × List Nat)}
theorem qz (i : Nat) (N : Option Tmp) {oi : Oper} {v : Value} {fuel : Nat} {l : Array Bool} {a a' : Act} {w : World} (HT : zy (vB md ops = T)) (h : yg P md ops Q S ds fuel (l.setIfInBounds i true) a' w)
  (hi : ops[i]? = some oi := by exact rfl) (hN : oi.dst = N := by exact rfl) (hc : bO T l.toList (l.setIfInBounds i true).toList i = true := by kernel_rfl) (hQ : ∀ c a w, Q (.panic c) (a.put oi.dst v) w → Q (.panic c) a w := by exact fun _ _ _ h => h)
  (hg : Region.wanted oi (yielded ops a.tmps) = true := by rfl) (hy : ∀ w, (execOp a.eval oi).run P w = .ok (.value v) w := by intro w'; go_simp; with_reducible rfl) (ha : a.put N v = a' := by simp only [Act.put, List.setIfInBounds_toArray, List.set_cons_zero, List.set_cons_succ, wJ, wV]; rfl) :
  yg P md ops Q S ds (fuel + 1) l a w := jh _ hi hN (uF HT.out hc) hQ (Or.inl ⟨hg, hy⟩) ha h
theorem uG {B : List Nat} (i : Nat) (N : Option Tmp) {oi : Oper} {v : Value} {fuel : Nat} {l : Array Bool} {a a' : Act} {w : World} (HT : zy (vB md ops = T)) (HW : zy (vU T.2 B = true)) (hS : S w) (h : yg P md ops Q S ds fuel (l.setIfInBounds i true) a' w)
  (hi : ops[i]? = some oi := by exact rfl) (hN : oi.dst = N := by exact rfl) (hc : gI T B ds l.toList (l.setIfInBounds i true).toList i = true := by kernel_rfl) (hQ : ∀ c a w, Q (.panic c) (a.put oi.dst v) w → Q (.panic c) a w := by exact fun _ _ _ h => h)
  (hg : Region.wanted oi (yielded ops a.tmps) = true := by rfl) (hy : ∀ w, S w → (execOp a.eval oi).run P w = .ok (.value v) w := by intro w' hs_; go_simp; with_reducible rfl) (ha : a.put N v = a' := by simp only [Act.put, List.setIfInBounds_toArray, List.set_cons_zero, List.set_cons_succ, wJ, wV]; rfl) :
  yg P md ops Q S ds (fuel + 1) l a w := UC _ hi hN (bP HT.out HW.out hc) hQ (Or.inl ⟨hg, hy⟩) hS ha h
theorem jO (N : Option Tmp) {v : Value} {fuel : Nat} {l : Array Bool} {a a' : Act} {w : World} (h : yg P md ops Q S ds fuel l a' w) (ha : a.put N v = a' := by simp only [Act.put, List.setIfInBounds_toArray, List.set_cons_zero, List.set_cons_succ, wJ, wV]; rfl) : yg P md ops Q S ds fuel l (a.put N v) w := wF ha h
theorem QY {oi : Oper} {N : Option Tmp} {a : Act} {w w1 : World} {v : Value} {K : Act → World → Prop} (h : K (a.put N v) w1) (hw : Region.wanted oi (yielded ops a.tmps) = true := by rfl) (hN : oi.dst = N := by exact rfl) (hrun : (execOp a.eval oi).run P w = .ok (.value v) w1 := by go_simp <;> (constructor <;> rfl)) :
  if Region.wanted oi (yielded ops a.tmps) = true then Oper.wp P oi a w K Q else K (a.put N undef) w := Jd hw hN hrun h
theorem pO (i : Nat) (N : Option Tmp) {oi : Oper} {fuel : Nat} {l : Array Bool} {a : Act} {w : World} (HT : zy (vB md ops = T))
  (h : ∀ K : Act → World → Prop, Shut (∀ a' w', S w' → (S w' → yg P md ops Q S ds fuel (l.setIfInBounds i true) a' w') → K a' w') → if Region.wanted oi (yielded ops a.tmps) = true then Oper.wp P oi a w K Q else K (a.put N undef) w)
  (hi : ops[i]? = some oi := by exact rfl) (hN : oi.dst = N := by exact rfl) (hc : (Xm T.2 l.toList == [i] && l.toList.set i true == (l.setIfInBounds i true).toList) = true := by kernel_rfl) (hd : i ∉ ds := by decide) :
  yg P md ops Q S ds (fuel + 1) l a w := XI _ hi hN (vG HT.out hc) hd h
end
theorem qX {W W' : World} {g : Nat} {o : Obj} (h : W.heap[g]? = some o) (e : W.heap[g]? = some o → W'.heap[g]? = some o := by intro h_; (with_reducible repeat (first | refine zC ?_ _ | refine zo ?_ | refine zV ?_ _)); exact h_) : W'.heap[g]? = some o := e h
theorem yK {α : Type} {d : Kd α} {e base : Nat} {W W' : World} {ok : Nat → Prop} {v : Value} {xs : List α} (h : d.R e W base ok v xs) (k : d.R e W base ok v xs → d.R e W' base ok v xs := by intro h_; (with_reducible repeat (first | apply Kd.qE | apply Kd.qp | apply Kd.yR)); exact h_) : d.R e W' base ok v xs := k h
theorem yX {b : Nat} {w0 W W' : World} (h : Below b w0 W) (k : Below b w0 W → Below b w0 W' := by intro h_; repeat (first | (with_reducible first | exact h_ | apply yt | apply zM | apply yP | refine qo ?_ (zy.out (by assumption))) | exact h_)) : Below b w0 W' := k h
theorem bY {W W' : World} {g : Nat} {o : Obj} (h : W.heap[g]? = some o) (e : W.heap[g]? = some o → W'.heap[g]? = some o := by intro h_; (with_reducible repeat (first | refine zC ?_ _ | refine zo ?_ | refine zV ?_ _ | refine vE ?_ (zy.out (by assumption)) _)); exact h_) : W'.heap[g]? = some o := e h
end Go.Proofs.YtaifemkokfoadaaGreatDoor
namespace Go.Proofs.YtaifemkokfoadaaGreatDoor
open Go.RowKit Go.Proofs.zx.zK Go.Proofs.zx.zU Go.Proofs.zx.zN
theorem je {P : Program} {ops : Array Oper} {Q : Exit → Act → World → Prop} {rest : List Oper} {oi : Oper} {a : Act} {w : World} (N : Option Tmp) {f : FuncId} {fn : Func} {WX : Array Operand} {ts : Array TypeId} (hf : P.funcs[f]? = some fn) (args : Array Value) (h : Calls P f args w fun e w' => ∃ v, e = .returned v ∧ wpList P ops Q rest (a.put N v) w')
  (hd : oi.dst = N := by exact rfl) (hg : oi.guard = none := by exact rfl) (hname : (fn.name == "runtime.NumGoroutine") = false := by kernel_rfl) (hb : fn.body.isSome = true := by exact rfl) (hop : oi.op = .call { callee := .value (.func f), args := WX, argTypes := ts } := by exact rfl)
  (hargs : WX.map a.eval = args := by (try simp only [List.map_toArray, List.map_cons, List.map_nil]); first | done | rfl | (simp only [List.length_drop, List.length_take]; rfl)) : wpList P ops Q (oi :: rest) a w := zQ6 N hd hg hf hname hb args hop hargs h
end Go.Proofs.YtaifemkokfoadaaGreatDoor
namespace Go.Proofs.YtaifemkokfoadaaGreatDoor
open Go.ChangeShapes Go.WideShapes Go.ChangeAt Go.RowKit
def zVK (s : ChangeSpec) (n : Nat) : Prop := s.vars = [] ∧ ∀ (H : Type) (ds : List (DataW H)), ds.length = n → (s.fn H ds).results = [.lit (.bool true)] ∧ (s.fn H ds).args = ds ∧ (s.fn H ds).vars = []
theorem mq {H : Type} {enc : TypeId × Value → H} {P : Program} (hl : laidOutB P = true) {W W' : World} (hb : Below W.heap.size W W') :
  ∀ {ts : List TypeId} {vs : List Value} {ds : List (DataW H)} {ps : List MemPlace}, (∀ t ∈ ts, P.readableRec t = true ∧ t < P.types.size) →
   DataW.TrodAll enc P W 0 (fun _ => true) true ts vs ds ps → DataW.TrodAll enc P W' 0 (fun b => decide (b < W.heap.size)) true ts vs ds ps
 | [], [], [], _, _, h => h
 | t :: ts, v :: vs, d :: ds, ps, ht, ⟨a, b, h1, h2, e⟩ => by
  have hlt : ∀ x ∈ a, x.block < W.heap.size := by obtain ⟨m, hm⟩ := h1; exact DataW.trod_lt m _ _ _ hm
  exact ⟨a, b, Below.trod hl (ht t (by simp)).1 (ht t (by simp)).2 h1 hb hlt, mq hl hb (fun t' h' => ht t' (by simp [h'])) h2, e⟩
theorem trodAll_length {H : Type} {enc : TypeId × Value → H} {P : Program} {W : World} {sp : Nat → Bool} {held : Bool} :
  ∀ {ts : List TypeId} {vs : List Value} {ds : List (DataW H)} {ps : List MemPlace}, DataW.TrodAll enc P W 0 sp held ts vs ds ps → ds.length = ts.length
 | [], [], [], _, _ => rfl
 | _ :: _, _ :: _, _ :: _, _, ⟨_, _, _, h2, _⟩ => by simp [trodAll_length h2]
theorem zxX {H : Type} {enc : TypeId × Value → H} {C : Checked} {os : Os} {f : FuncId} {fn : Func} {s : ChangeSpec} {X : World → Array Value → Prop} {tb : TypeId}
  (hX : ∀ (w w' : World) (args : Array Value), w.heap = w'.heap → X w args → X w' args)
  (own : ownKnob C.prog.godebug = none) (started : os.Started) (noInit : C.prog.inits.idxOf? f = none) (hfn : C.prog.funcs[f]? = some fn)
  (witness : ∃ (w : World) (tape : Tape) (i : Input), w.os = os ∧ (w.forCall tape i).Shaped C.prog ∧ i.vars = [] ∧ Input.okWide C.prog (w.forCall tape i) .any w.heap.size f i ∧
   ((s.pre enc C.prog fn [] false (w.forCall tape i).memory i.args ∧ X (w.forCall tape i).memory i.args) ∧ sizedMet enc C.prog fn (OpenSpec.ofChange s) false (w.forCall tape i).memory i.args) ∧ ({} : Assume).holds C.prog (lone (Frame.enter C.prog f i.args .normal) [] (w.forCall tape i)))
  (hl : laidOutB C.prog = true) (hs : zVK s fn.params.toList.length) (hres : fn.resultTypes = #[tb]) (htb : C.prog.underlying tb = some .bool)
  (hread : ∀ t ∈ fn.params.toList, C.prog.readableRec t = true ∧ t < C.prog.types.size)
  (walk : ∀ (W : World) (base : Nat) (args : Array Value) (ds : List (DataW H)) (ps : List MemPlace),
   (∀ (j : Nat) t v, fn.params[j]? = some t → args[j]? = some v → Value.okWide C.prog W .any base t v) →
   DataW.TrodAll enc C.prog W 0 (fun _ => true) true fn.params.toList args.toList ds ps →
   (DataW.weightsEach C.prog fn.params.toList ds).all (· ≤ reachBytes) = true → X W args → W.ShapedOpen C.prog →
   Calls C.prog f args W fun e W' => e = .returned (.bool true) ∧ Below W.heap.size W W') :
  ReturnsInHanded {} C os f .any (fun w args => (s.pre enc C.prog fn [] false w args ∧ X w args) ∧ sizedMet enc C.prog fn (OpenSpec.ofChange s) false w args) (s.post enc C.prog fn false true false false) := by
 refine returnsInHanded_of_calls own started noInit witness ?_
 intro w tape i _ hsh _ hok hpre _
 obtain ⟨_, _, _, fn', hfn', _, _, _, _, hval⟩ := hok
 have e : fn' = fn := Option.some.inj (hfn'.symm.trans hfn)
 subst e
 obtain ⟨⟨⟨ds, gs, before, hw, _⟩, hx⟩, hz⟩ := hpre
 have hw' := DataW.Whole.of_heap (w' := w.forCall tape i) (by rfl) hw
 have hwt : (DataW.weightsEach C.prog (fn'.params.toList ++ s.plain.varTypes C.prog) (ds ++ gs)).all (· ≤ reachBytes) = true := hz.weights hw
 obtain ⟨p, q, hA, hV, rfl, hfz, hnd⟩ := hw'
 have hV' := hV
 rw [hs.1] at hV'
 obtain ⟨rfl, rfl⟩ := trodVars_none hV'
 have zWn : (DataW.weightsEach C.prog fn'.params.toList ds).all (· ≤ reachBytes) = true := by
  have hvt : s.plain.varTypes C.prog = [] := by
   simp [DataSpec.varTypes, ChangeSpec.plain, hs.1]
  rw [hvt, List.append_nil, List.append_nil] at hwt
  exact hwt
 obtain ⟨e1, e2, e3⟩ := hs.2 H ds (trodAll_length hA)
 refine (walk (w.forCall tape i) w.heap.size i.args ds p hval hA zWn (hX _ _ _ (by rfl) hx) hsh).mono fun e W' ⟨he, hb⟩ => ?_
 subst he
 have hp : s.post enc C.prog fn' false true false false (w.forCall tape i) i.args (.bool true) W' := by
  refine ⟨ds, [], p ++ [], [], p, [], ⟨p, [], hA, hV, rfl, hfz, hnd⟩, ?_, ?_, ?_, hb.frame _, fun h => by cases h⟩
  ·rw [List.append_nil, e1, hres]
   exact trodAll_mk1 (shut_bool htb _)
  ·rw [List.append_nil, e2]
   exact mq hl hb hread hA
  ·rw [List.append_nil, e3, hs.1]
   rfl
 exact ChangeSpec.post_blind hp
section
variable {H : Type} {enc : TypeId × Value → H} {P : Program} {w : World} {base : Nat} {spare : Nat → Bool} {held : Bool}
end
theorem KM {P : Program} {W : World} {name : String} {k : IntKind} {zs : List Int} {laid : List (String × DataW Unit)} {g : Nat} {t e : TypeId} {n : Nat}
  (hg : P.globalNamed name = some g) (hty : (P.globals[g]?).map (·.type) = some t) (ht : P.underlying t = some (.array n e)) (he : P.underlying e = some (.int k)) (hce : P.cellsOf e = 1) (hct : P.cellsOf t = n)
  (h : laidMet P laid W) (hm : (name, Lib.tabData k zs) ∈ laid) : Lib.TabIs P W name k zs := by
 obtain ⟨g', t', cs, fuel, p, hg', ht', hvar, hd⟩ := Lib.laidMet.reads h hm
 obtain rfl := Option.some.inj (hg.symm.trans hg')
 obtain rfl := Option.some.inj (hty.symm.trans ht')
 unfold Lib.TabIs
 rw [hvar, ← Lib.cells_of_tab ht he hce hct hd]
theorem zxJ {H : Type} {enc : TypeId × Value → H} {P : Program} {W : World} {t0 t1 t2 : TypeId} {args : Array Value} {ds : List (DataW H)} {ps : List MemPlace} (h : DataW.TrodAll enc P W 0 (fun _ => true) true [t0, t1, t2] args.toList ds ps) :
  ∃ v0 v1 v2 d0 d1 d2 p0 p1 p2, args = #[v0, v1, v2] ∧ ds = [d0, d1, d2] ∧ DataW.Trod enc P W 0 (fun _ => true) true t0 v0 d0 p0 ∧ DataW.Trod enc P W 0 (fun _ => true) true t1 v1 d1 p1 ∧ DataW.Trod enc P W 0 (fun _ => true) true t2 v2 d2 p2 := by
 obtain ⟨v, vs, d, ds', p, q, e, rfl, rfl, h0, h1⟩ := trodAll_cons h
 obtain ⟨v1, vs1, d1, ds1, p1, q1, rfl, rfl, rfl, h2, h3⟩ := trodAll_cons h1
 obtain ⟨v2, vs2, d2, ds2, p2, q2, rfl, rfl, rfl, h4, h5⟩ := trodAll_cons h3
 obtain ⟨rfl, rfl, rfl⟩ := trodAll_nil h5
 exact ⟨v, v1, v2, d, d1, d2, p, p1, p2, by cases args; simp_all, rfl, h0, h2, h4⟩
end Go.Proofs.YtaifemkokfoadaaGreatDoor
namespace Go.Proofs.YtaifemkokfoadaaGreatDoor
open Go.RowKit Go.Proofs.zx.zK
theorem YA {x : Int} (a : -9223372036854775808 ≤ x) (b : x ≤ 9223372036854775807) : wrap64 x = x := IntWalk.wrap64_in x ⟨a, b⟩
theorem zL {α : Type} {c : Prop} [Decidable c] {a b : Nat → Option α} {r : α} (h : c) (k : Ev a r) : Ev (fun n => if c then a n else b n) r := by
 simp only [if_pos h]; exact k
theorem qN {α : Type} {c : Prop} [Decidable c] {a b : Nat → Option α} {r : α} (h : ¬ c) (k : Ev b r) : Ev (fun n => if c then a n else b n) r := by
 simp only [if_neg h]; exact k
theorem Zf {α β : Type} {x : α} {f : Nat → α → Option β} {r : β} (k : Ev (fun n => f n x) r) : Ev (fun n => (some x).bind (f n)) r := k
theorem mZ {α β : Type} {x : Option α} {y : α} {f : Nat → α → Option β} {r : β} (h : x = some y) (k : Ev (fun n => f n y) r) : Ev (fun n => x.bind (f n)) r := by
 subst h; exact k
theorem zXv {α : Type} {x : Option α} {r : α} (h : x = some r) : Ev (fun _ => x) r := by subst h; exact Ev.now r
theorem UZ {α : Type} {g : Nat → Option α} {r r' : α} (h : r = r') (k : Ev g r) : Ev g r' := h ▸ k
def bar (l : List UInt8) : ByteArray := ⟨l.toArray⟩
theorem wz (l : List UInt8) : (bar l).data.toList = l := rfl
theorem vC (l : List UInt8) : (bar l).size = l.length := by simp [bar, ByteArray.size]
theorem YN (s : ByteArray) : bar s.data.toList = s := by
 apply ByteArray.ext; apply Array.toList_inj.1; rfl
theorem Pg (a b : List UInt8) : bar a ++ bar b = bar (a ++ b) := by
 apply ByteArray.ext; apply Array.toList_inj.1
 rw [ByteArray.data_append]; simp [bar]
theorem Zg (l : List UInt8) : (bar l).toList = l := by rw [Lib.toList_data]; rfl
theorem bW (l : List UInt8) (a b : Nat) : (bar l).extract a b = bar ((l.take b).drop a) := by
 apply ByteArray.ext; apply Array.toList_inj.1
 rw [ByteArray.data_extract]
 simp [bar, List.drop_take]
theorem zXk (l : List UInt8) (i : Int) (h : i.toNat < l.length) : bt (bar l) i = (l[i.toNat].toNat : Int) := by
 unfold bt
 rw [dif_pos (by rw [vC]; exact h)]
 rfl
theorem Y9 (l : List UInt8) (i : Nat) (h : i < l.length) : bt (bar l) (i : Int) = (l[i].toNat : Int) := zXk l i (by simpa using h)
theorem X9 (n : Int) : strOfNums [n] = bar [UInt8.ofNat n.toNat] := rfl
theorem bR {α : Type} (d : α) (l : List α) (i : Nat) : yG d l (i : Int) = l.getD i d := rfl
end Go.Proofs.YtaifemkokfoadaaGreatDoor
namespace Go.Proofs.YtaifemkokfoadaaGreatDoor
open Go.RowKit Go.Proofs.zx.zK Go.Proofs.zx.zU Go.Proofs.zx.zN Go.Proofs.YtaifemkokfoadaaGreatDoor.PX
set_option linter.unusedSimpArgs false
set_option linter.unusedVariables false
abbrev Jv : Array Value := #[.string (⟨#[]⟩ : ByteArray), .bool false, .int .i64 0, .slice none 0 0, .slice none 0 0, .slice none 0 0]
structure XS {α β γ : Type} (dA : Kd α) (eA : TypeId) (dB : Kd β) (eB : TypeId) (dC : Kd γ) (eC : TypeId) (tF tX : TypeId) (w : World) (gf gr gx : Nat) (CF : Array Value) (a : ByteArray) (b : Bool) (c : Int) (v3 v4 v5 : Value) (m3 : List α) (m4 : List β) (m5 : List γ) (W : World) : Prop where
 bf : W.heap[gf]? = some (.cells CF tF (0, 0))
 br : W.heap[gr]? = some (.cells Jv tX (0, 0))
 bx : W.heap[gx]? = some (.cells #[.string a, .bool b, .int .i64 c, v3, v4, v5] tX (0, 0))
 r3 : dA.R eA W w.heap.size (fun _ => True) v3 m3
 r4 : dB.R eB W w.heap.size (fun _ => True) v4 m4
 r5 : dC.R eC W w.heap.size (fun _ => True) v5 m5
 hb : Below w.heap.size w W
 nf : gf ≠ gx
 nr : gr ≠ gx
 ge : w.heap.size ≤ gx
section
variable {α β γ : Type} {dA : Kd α} {eA : TypeId} {dB : Kd β} {eB : TypeId} {dC : Kd γ} {eC tF tX : TypeId} {w : World} {gf gr gx : Nat} {CF : Array Value} {a : ByteArray} {b : Bool} {c : Int} {v3 v4 v5 : Value} {m3 : List α} {m4 : List β} {m5 : List γ} {W : World}
theorem XS.mv {W' : World} (h : XS dA eA dB eB dC eC tF tX w gf gr gx CF a b c v3 v4 v5 m3 m4 m5 W) (k : Below W.heap.size W W') : XS dA eA dB eB dC eC tF tX w gf gr gx CF a b c v3 v4 v5 m3 m4 m5 W' :=
 ⟨zf h.bf k, zf h.br k, zf h.bx k, Kd.zR h.r3 k, Kd.zR h.r4 k, Kd.zR h.r5 k, h.hb.trans (k.mono h.hb.size), h.nf, h.nr, h.ge⟩
theorem XS.zXy {W1 : World} {v : Value} {m : List α} (h : XS dA eA dB eB dC eC tF tX w gf gr gx CF a b c v3 v4 v5 m3 m4 m5 W) (hg : W.grownBy W1 v3.ownBlock) (ho : dA.R eA W1 w.heap.size (fun _ => True) v m) (hb : Below w.heap.size w W1)
  (t1 : eA ≠ tF) (t2 : ∀ q, q ∈ eA :: dA.E → q ≠ tX) (t3 : ∀ q, q ∈ eB :: dB.E → q ≠ eA) (t4 : ∀ q, q ∈ eC :: dC.E → q ≠ eA) (t5 : ∀ q, q ∈ eB :: dB.E → q ≠ tX) (t6 : ∀ q, q ∈ eC :: dC.E → q ≠ tX) :
  XS dA eA dB eB dC eC tF tX w gf gr gx CF a b c v v4 v5 m m4 m5 (W1.setCell ⟨gx, 3, none⟩ v) := by
 have fC : eA ≠ tX := t2 _ List.mem_cons_self
 have b1 := qx h.bx hg (Kd.uX h.r3 h.bx fC)
 exact ⟨vE (qx h.bf hg (Kd.uX h.r3 h.bf t1)) h.nf _, vE (qx h.br hg (Kd.uX h.r3 h.br fC)) h.nr _, zD b1 3 _ rfl, Kd.jg ho b1 t2 3 _, Kd.jg (Kd.vN h.r4 (Kd.vM h.r3) t3 hg) b1 t5 3 _, Kd.jg (Kd.vN h.r5 (Kd.vM h.r3) t4 hg) b1 t6 3 _, hb.setCell h.ge _, h.nf, h.nr, h.ge⟩
theorem XS.zXw {W1 : World} {v : Value} {m : List β} (h : XS dA eA dB eB dC eC tF tX w gf gr gx CF a b c v3 v4 v5 m3 m4 m5 W) (hg : W.grownBy W1 v4.ownBlock) (ho : dB.R eB W1 w.heap.size (fun _ => True) v m) (hb : Below w.heap.size w W1)
  (t1 : eB ≠ tF) (t2 : ∀ q, q ∈ eB :: dB.E → q ≠ tX) (t3 : ∀ q, q ∈ eA :: dA.E → q ≠ eB) (t4 : ∀ q, q ∈ eC :: dC.E → q ≠ eB) (t5 : ∀ q, q ∈ eA :: dA.E → q ≠ tX) (t6 : ∀ q, q ∈ eC :: dC.E → q ≠ tX) :
  XS dA eA dB eB dC eC tF tX w gf gr gx CF a b c v3 v v5 m3 m m5 (W1.setCell ⟨gx, 4, none⟩ v) := by
 have fC : eB ≠ tX := t2 _ List.mem_cons_self
 have b1 := qx h.bx hg (Kd.uX h.r4 h.bx fC)
 exact ⟨vE (qx h.bf hg (Kd.uX h.r4 h.bf t1)) h.nf _, vE (qx h.br hg (Kd.uX h.r4 h.br fC)) h.nr _, zD b1 4 _ rfl, Kd.jg (Kd.vN h.r3 (Kd.vM h.r4) t3 hg) b1 t5 4 _, Kd.jg ho b1 t2 4 _, Kd.jg (Kd.vN h.r5 (Kd.vM h.r4) t4 hg) b1 t6 4 _, hb.setCell h.ge _, h.nf, h.nr, h.ge⟩
theorem XS.zXZ {W1 : World} {v : Value} {m : List γ} (h : XS dA eA dB eB dC eC tF tX w gf gr gx CF a b c v3 v4 v5 m3 m4 m5 W) (hg : W.grownBy W1 v5.ownBlock) (ho : dC.R eC W1 w.heap.size (fun _ => True) v m) (hb : Below w.heap.size w W1)
  (t1 : eC ≠ tF) (t2 : ∀ q, q ∈ eC :: dC.E → q ≠ tX) (t3 : ∀ q, q ∈ eA :: dA.E → q ≠ eC) (t4 : ∀ q, q ∈ eB :: dB.E → q ≠ eC) (t5 : ∀ q, q ∈ eA :: dA.E → q ≠ tX) (t6 : ∀ q, q ∈ eB :: dB.E → q ≠ tX) :
  XS dA eA dB eB dC eC tF tX w gf gr gx CF a b c v3 v4 v m3 m4 m (W1.setCell ⟨gx, 5, none⟩ v) := by
 have fC : eC ≠ tX := t2 _ List.mem_cons_self
 have b1 := qx h.bx hg (Kd.uX h.r5 h.bx fC)
 exact ⟨vE (qx h.bf hg (Kd.uX h.r5 h.bf t1)) h.nf _, vE (qx h.br hg (Kd.uX h.r5 h.br fC)) h.nr _, zD b1 5 _ rfl, Kd.jg (Kd.vN h.r3 (Kd.vM h.r5) t3 hg) b1 t5 5 _, Kd.jg (Kd.vN h.r4 (Kd.vM h.r5) t4 hg) b1 t6 5 _, Kd.jg ho b1 t2 5 _, hb.setCell h.ge _, h.nf, h.nr, h.ge⟩
end
abbrev six (W : World) (g : Nat) (u0 u1 u2 u3 u4 u5 : Value) : World := (((((W.setCell ⟨g, 0, none⟩ u0).setCell ⟨g, 1, none⟩ u1).setCell ⟨g, 2, none⟩ u2).setCell ⟨g, 3, none⟩ u3).setCell ⟨g, 4, none⟩ u4).setCell ⟨g, 5, none⟩ u5
theorem zzT {W : World} {g t : Nat} (h : W.heap[g]? = some (.cells Jv t (0, 0))) (u0 u1 u2 u3 u4 u5 : Value) : (six W g u0 u1 u2 u3 u4 u5).heap[g]? = some (.cells #[u0, u1, u2, u3, u4, u5] t (0, 0)) :=
 zD (zD (zD (zD (zD (zD (cs' := #[u0, .bool false, .int .i64 0, .slice none 0 0, .slice none 0 0, .slice none 0 0]) h 0 _ rfl) (cs' := #[u0, u1, .int .i64 0, .slice none 0 0, .slice none 0 0, .slice none 0 0]) 1 _ rfl)
  (cs' := #[u0, u1, u2, .slice none 0 0, .slice none 0 0, .slice none 0 0]) 2 _ rfl) (cs' := #[u0, u1, u2, u3, .slice none 0 0, .slice none 0 0]) 3 _ rfl) (cs' := #[u0, u1, u2, u3, u4, .slice none 0 0]) 4 _ rfl) 5 _ rfl
theorem Ph {α : Type} {d : Kd α} {e t g : Nat} {W : World} {B : Nat} {cs : Array Value} {v : Value} {xs : List α} (h : d.R e W B (fun _ => True) v xs) (hb : W.heap[g]? = some (.cells cs t (0, 0))) (ht : ∀ q, q ∈ e :: d.E → q ≠ t) (u0 u1 u2 u3 u4 u5 : Value) :
  d.R e (six W g u0 u1 u2 u3 u4 u5) B (fun _ => True) v xs :=
 Kd.yN (Kd.qy (p := ⟨g, 5, none⟩) (Kd.qy (p := ⟨g, 4, none⟩) (Kd.qy (p := ⟨g, 3, none⟩) (Kd.qy (p := ⟨g, 2, none⟩) (Kd.qy (p := ⟨g, 1, none⟩) (Kd.qy (p := ⟨g, 0, none⟩) (Kd.vQ h hb ht) (fun _ hk => hk.2) u0) (fun _ hk => hk.2) u1) (fun _ hk => hk.2) u2) (fun _ hk => hk.2) u3) (fun _ hk => hk.2) u4) (fun _ hk => hk.2) u5) (fun _ _ => trivial)
theorem fD {W0 W : World} {B g : Nat} (h : Below B W0 W) (hg : B ≤ g) (u0 u1 u2 u3 u4 u5 : Value) : Below B W0 (six W g u0 u1 u2 u3 u4 u5) :=
 (((((h.setCell hg _).setCell hg _).setCell hg _).setCell hg _).setCell hg _).setCell hg _
theorem Qz {α β : Type} (f : α → β) (l : List α) (i : Nat) (x : α) (h : l[i]? = some x) : (l.take (i + 1)).map f = (l.take i).map f ++ [f x] := by rw [List.take_add_one, h]; simp
end Go.Proofs.YtaifemkokfoadaaGreatDoor
namespace Go.Proofs.YtaifemkokfoadaaGreatDoor
open Go.RowKit Go.Proofs.zx.zK Go.Proofs.zx.zU Go.Proofs.zx.zN Go.Proofs.YtaifemkokfoadaaGreatDoor.PX
set_option linter.unusedSimpArgs false
set_option linter.unusedVariables false
def wH (x : qJ) : qw := ⟨x.f0, x.f1⟩
def Yx.T5 : Bool × List (List Nat × List Nat) := (true, [([], []), ([0], [0]), ([], []), ([2], [2]), ([], []), ([3, 4], [3, 4]), ([5], [5]), ([6], [6]), ([], []), ([8], [8]), ([], []), ([9, 10], [9, 10]), ([11], [11]), ([12], [12]), ([7, 13], [7, 13]), ([14], [14]), ([1, 15], [1, 15]), ([0, 1, 2, 3, 4, 5, 6, 7, 8, 9, 10, 11, 12, 13, 14, 15, 16], []), ([17, 16, 16, 0, 1, 2, 3, 4, 5, 6, 7, 8, 9, 10, 11, 12, 13, 14, 15, 16], [16, 17])])
def Yx.B5 : List Nat := [0, 1, 0, 4, 0, 28, 60, 124, 0, 256, 0, 1792, 3840, 7936, 16380, 32764, 65535, 131071, 262143]
theorem Yx.lN : vB .any (opsOf Tryz.f19 5) = Yx.T5 := by kernel_rfl
theorem Yx.zxV : vU Yx.T5.2 Yx.B5 = true := by kernel_rfl
def YQ (x : xK) : qh := ⟨x.f0, x.f1, x.f2⟩
def Yx.T9 : Bool × List (List Nat × List Nat) := (true, [([], []), ([0], [0]), ([], []), ([2], [2]), ([], []), ([3, 4], [3, 4]), ([5], [5]), ([6], [6]), ([], []), ([8], [8]), ([], []), ([9, 10], [9, 10]), ([11], [11]), ([12], [12]), ([], []), ([14], [14]), ([], []), ([15, 16], [15, 16]), ([17], [17]), ([18], [18]), ([7, 13, 19], [7, 13, 19]), ([20], [20]), ([1, 21], [1, 21]), ([0, 1, 2, 3, 4, 5, 6, 7, 8, 9, 10, 11, 12, 13, 14, 15, 16, 17, 18, 19, 20, 21, 22], []), ([23, 22, 22, 0, 1, 2, 3, 4, 5, 6, 7, 8, 9, 10, 11, 12, 13, 14, 15, 16, 17, 18, 19, 20, 21, 22], [22, 23])])
def Yx.B9 : List Nat := [0, 1, 0, 4, 0, 28, 60, 124, 0, 256, 0, 1792, 3840, 7936, 0, 16384, 0, 114688, 245760, 507904, 1048572, 2097148, 4194303, 8388607, 16777215]
theorem Yx.zkx : vB .any (opsOf Tryz.f19 9) = Yx.T9 := by kernel_rfl
theorem Yx.zxK : vU Yx.T9.2 Yx.B9 = true := by kernel_rfl
def YX (x : xY) : xq := ⟨x.f0, x.f1, x.f2⟩
def Yx.WJ : Bool × List (List Nat × List Nat) := (true, [([], []), ([0], [0]), ([], []), ([2], [2]), ([], []), ([3, 4], [3, 4]), ([5], [5]), ([6], [6]), ([], []), ([8], [8]), ([], []), ([9, 10], [9, 10]), ([11], [11]), ([12], [12]), ([], []), ([14], [14]), ([], []), ([15, 16], [15, 16]), ([17], [17]), ([18], [18]), ([7, 13, 19], [7, 13, 19]), ([20], [20]), ([1, 21], [1, 21]), ([0, 1, 2, 3, 4, 5, 6, 7, 8, 9, 10, 11, 12, 13, 14, 15, 16, 17, 18, 19, 20, 21, 22], []), ([23, 22, 22, 0, 1, 2, 3, 4, 5, 6, 7, 8, 9, 10, 11, 12, 13, 14, 15, 16, 17, 18, 19, 20, 21, 22], [22, 23])])
def Yx.lS : List Nat := [0, 1, 0, 4, 0, 28, 60, 124, 0, 256, 0, 1792, 3840, 7936, 0, 16384, 0, 114688, 245760, 507904, 1048572, 2097148, 4194303, 8388607, 16777215]
theorem Yx.YJ : vB .any (opsOf Tryz.f19 13) = Yx.WJ := by kernel_rfl
theorem Yx.pR : vU Yx.WJ.2 Yx.lS = true := by kernel_rfl
set_option maxRecDepth 100000 in
set_option maxHeartbeats 8000000 in
theorem zw5 (a : ByteArray) (b : Bool) (c : Int) (A3 : Option Addr) (c3 : Nat) (l3 : List qJ) (A4 : Option Addr) (c4 : Nat) (l4 : List xK) (A5 : Option Addr) (c5 : Nat) (l5 : List xY) (w : World) (h3 : Kd.C jC w A3 l3.length l3) (h4 : Kd.C kR w A4 l4.length l4) (h5 : Kd.C kE w A5 l5.length l5) (hl3 : l3.length ≤ 1000000) (hl4 : l4.length ≤ 1000000) (hl5 : l5.length ≤ 1000000) :
  Calls Tryz.prog 19 #[.agg #[.string a, .bool b, .int .i64 c, .slice A3 l3.length c3, .slice A4 l4.length c4, .slice A5 l5.length c5]] w fun e w' => ∃ Vl Vm Vn : Value, e = .returned (.agg #[.string a, .bool b, .int .i64 c, Vl, Vm, Vn]) ∧ Kd.R uy 31 w' w.heap.size (fun _ => True) Vl (l3.map wH) ∧ Kd.R uU 86 w' w.heap.size (fun _ => True) Vm (l4.map YQ) ∧ Kd.R jy 76 w' w.heap.size (fun _ => True) Vn (l5.map YX) ∧ Below w.heap.size w w' := by
 have hu1 := Tryz.underlying44
 have hu2 := Tryz.underlying26
 have H3 := zy.mk h3
 have H4 := zy.mk h4
 have H5 := zy.mk h5
 clear h3 h4 h5
 have X0 : XS uy 31 uU 86 jy 76 44 26 w w.heap.size (w.heap.size + 1) (w.heap.size + 2) #[.string a, .bool b, .int .i64 c, .slice A3 l3.length c3, .slice A4 l4.length c4, .slice A5 l5.length c5] a b c (.slice none 0 0) (.slice none 0 0) (.slice none 0 0) [] [] [] (((w.alloc (.cells #[.string a, .bool b, .int .i64 c, .slice A3 l3.length c3, .slice A4 l4.length c4, .slice A5 l5.length c5] 44)).alloc (.cells Jv 26)).alloc (.cells #[.string a, .bool b, .int .i64 c, .slice none 0 0, .slice none 0 0, .slice none 0 0] 26)) := by
  have e1 : (w.alloc (.cells #[.string a, .bool b, .int .i64 c, .slice A3 l3.length c3, .slice A4 l4.length c4, .slice A5 l5.length c5] 44)).heap.size = w.heap.size + 1 := by simp
  have e2 : ((w.alloc (.cells #[.string a, .bool b, .int .i64 c, .slice A3 l3.length c3, .slice A4 l4.length c4, .slice A5 l5.length c5] 44)).alloc (.cells Jv 26)).heap.size = w.heap.size + 2 := by simp
  refine ⟨zV (zV (vY _ _) _) _, ?_, ?_, Kd.xE _ _ _ _ _, Kd.xE _ _ _ _ _, Kd.xE _ _ _ _ _, (((Below.refl _ w).alloc (Nat.le_refl _) _).alloc (by simp) _).alloc (by rw [e2]; omega) _, by omega, by omega, by omega⟩
  ·have := zV (vY (w.alloc (.cells #[.string a, .bool b, .int .i64 c, .slice A3 l3.length c3, .slice A4 l4.length c4, .slice A5 l5.length c5] 44)) (.cells Jv 26)) (.cells #[.string a, .bool b, .int .i64 c, .slice none 0 0, .slice none 0 0, .slice none 0 0] 26)
   rwa [e1] at this
  ·have := vY ((w.alloc (.cells #[.string a, .bool b, .int .i64 c, .slice A3 l3.length c3, .slice A4 l4.length c4, .slice A5 l5.length c5] 44)).alloc (.cells Jv 26)) (.cells #[.string a, .bool b, .int .i64 c, .slice none 0 0, .slice none 0 0, .slice none 0 0] 26)
   rwa [e2] at this
 go_enter Tryz.func19, Tryz.ntmps19
 go_wp2
 go_loopw [4] (fun y W => ∃ (i : Nat) (u : Value), y = .int .i64 (i : Int) ∧ i ≤ l3.length ∧ zy (XS uy 31 uU 86 jy 76 44 26 w w.heap.size (w.heap.size + 1) (w.heap.size + 2) #[.string a, .bool b, .int .i64 c, .slice A3 l3.length c3, .slice A4 l4.length c4, .slice A5 l5.length c5] a b c u (.slice none 0 0) (.slice none 0 0) ((l3.take i).map wH) [] [] W)) (fun y _ => l3.length - (intOf y).toNat)
 case atStart => exact ⟨0, .slice none 0 0, rfl, Nat.zero_le _, ⟨X0⟩⟩
 case round =>
  obtain ⟨i, u, rfl, hi, HX⟩ := hrel
  have X := HX.out
  clear X0
  have hcf : wr.cell? ⟨w.heap.size, 3, none⟩ = some (.slice A3 l3.length c3) := (zk X.bf 3).trans rfl
  by_cases hlt : i < l3.length
  ·have hx := List.getElem?_eq_getElem hlt
   obtain ⟨ad, e, x0, x1⟩ := YL H3.out (i : Int) (by omega) (by omega)
   cases e
   have e : zS l3 (i : Int) = l3[i] := by simp [zS, List.getD_eq_getElem?_getD, hlt]
   rw [Int.toNat_natCast, e] at x0 x1
   clear e
   generalize l3[i] = x at hx x0 x1
   have k0 := fun (W : World) (h : Below w.heap.size w W) => (h.cell (World.block_lt_of_cell? w _ x0)).trans x0; have k1 := fun (W : World) (h : Below w.heap.size w W) => (h.cell (World.block_lt_of_cell? w _ x1)).trans x1
   have q1 : (i : Int) < (l3.length : Int) := by omega
   have q0 : (0 : Int) ≤ (i : Int) := by omega
   have q3 : ((i : Int)).toNat = i := Int.toNat_natCast i
   have q2 : decide ((i : Int) < (l3.length : Int)) = true := decide_eq_true q1
   try go_wp2
   have X1 := X.mv (wR (Below.refl _ wr))
   refine jU (n := 19) (S := fun W' => W'.cell? ⟨w.heap.size + 2, 3, none⟩ = some u ∧ W'.cell? ⟨w.heap.size, 3, none⟩ = some (.slice (some ad) l3.length c3) ∧ W'.cell? (ad.add (i * 2)) = some (.string x.f0) ∧ W'.cell? ⟨(ad.add (i * 2)).block, (ad.add (i * 2)).off + 1, none⟩ = some (.int .i64 x.f1)) (ds := [18]) #[false, false, false, false, false, false, false, false, false, false, false, false, false, false, false, false, false, false, false] (by kernel_rfl) rfl rfl ⟨(zk X1.bx 3).trans rfl, (zk X1.bf 3).trans rfl, k0 _ X1.hb, k1 _ X1.hb⟩ (fun hHeld => ?_); refine jN Yx.lN Yx.zxV (fun zi vR => ?_)
   clear X HX hcf
   generalize wr.drew = W at X1 hHeld ⊢
   refine qz 0 (some 21) zi ?_
   refine qz 2 (some 23) zi ?_
   refine qz 4 (some 25) zi ?_
   refine qz 8 (some 29) zi ?_
   refine qz 10 (some 31) zi ?_
   refine uG 1 (some 22) zi vR hHeld ?_
   refine uG 3 (some 24) zi vR hHeld ?_
   refine qz 5 (some 26) zi ?_
   refine qz 6 (some 27) zi ?_
   refine uG 7 (some 28) zi vR hHeld ?_
   refine uG 9 (some 30) zi vR hHeld ?_
   refine qz 11 (some 32) zi ?_
   refine qz 12 (some 33) zi ?_
   refine uG 13 (some 34) zi vR hHeld ?_
   refine qz 14 (some 35) zi ?_
   refine pO 15 (some 36) zi (fun K hK => ?_)
   refine QY ?_
   have X2 := X1.mv (yt (Below.refl _ W) (.cells #[.string x.f0, .int .i64 x.f1] 31))
   refine hK.out _ _ ⟨(zk X2.bx 3).trans rfl, (zk X2.bf 3).trans rfl, k0 _ X2.hb, k1 _ X2.hb⟩ (fun hHeld => ?_)
   clear hK K
   refine jO (some 36) ?_
   refine pO 16 (some 37) zi (fun K hK => ?_)
   refine Kd.vD uy (w0 := w) w.heap.size (by rfl) (.tmp 22) (.tmp 36) 22 31 (.agg #[(.string ⟨#[]⟩), (.int .i64 0)]) 24 rfl Tryz.underlying22 gP rfl (by decide) (by omega) u ((l3.take i).map wH) (wH x) [.string x.f0, .int .i64 x.f1] (fun _ => True) (fun _ => False) rfl rfl ?aP (fun _ hk => hk.elim) ?aF ?aO ?aB ?aS ?aL ?_
   (case aP => exact X8 _ _ _ (wH x))
   (case aB => exact X1.hb)
   (case aF => exact (fun _ _ => trivial))
   (case aO => exact X1.r3)
   (case aS => exact X1.hb.size)
   (case aL => rw [List.length_map, List.length_take]; omega)
   intro v kW ho hb hg hat
   rw [← Qz wH l3 i x hx] at ho
   obtain ⟨Ao, co, eo⟩ := Kd.yx ho
   subst eo
   generalize ((l3.take (i + 1)).map wH).length = nn at ho ⊢
   have bx1 := qx X1.bx hg (Kd.uX X1.r3 X1.bx (by decide))
   have Vo := qx X1.bf hg (Kd.uX X1.r3 X1.bf (by decide))
   have X3 := zy.mk (X1.zXy hg ho hb (by decide) (by decide) (by decide) (by decide) (by decide) (by decide))
   refine hK.out _ _ ⟨(zk bx1 3).trans rfl, (zk Vo 3).trans rfl, k0 _ hb, k1 _ hb⟩ (fun hHeld => ?_)
   clear hK K
   refine jO (some 37) ?_
   refine qz 17 (some 38) zi ?_
   refine kD (i := 18) (N := none) #[true, true, true, true, true, true, true, true, true, true, true, true, true, true, true, true, true, true, true] rfl rfl (vG zi.out (by kernel_rfl)) (by decide) (fun K hK => ?_)
   have XM : kW.cell? ⟨w.heap.size + 2, 3, none⟩ = some u := (zk bx1 3).trans rfl
   have YV := zw bx1 3
   refine Zy (w1 := ?_) (by rfl) rfl ?_ ?_
   rotate_left
   ·go_simp
    rfl
   refine hK.out _ _ ?_
   clear hK K
   refine vO (xH zi.out (by kernel_rfl)) ?_
   clear X1 X2 hb hg ho hat XM YV bx1 Vo hHeld
   generalize kW.setCell ⟨w.heap.size + 2, 3, none⟩ (.slice Ao nn co : Value) = Yj at X3 ⊢
   try go_wp2
   go_roundw
   case rel => exact ⟨i + 1, (.slice Ao nn co : Value), by first | rfl | (simp; done) | go_num, by omega, X3⟩
   case measure => simp [intOf]; omega
  ·obtain rfl : i = l3.length := by omega
   have q2 : decide ((l3.length : Int) < (l3.length : Int)) = false := decide_eq_false (by omega)
   rw [List.take_length] at X
   clear HX
   obtain ⟨QW, Qa, eo3⟩ := Kd.yx X.r3
   subst eo3
   generalize HM3 : l3.map wH = m3 at X
   try go_wp2
   go_loopw [5] (fun y W => ∃ (i : Nat) (u : Value), y = .int .i64 (i : Int) ∧ i ≤ l4.length ∧ zy (XS uy 31 uU 86 jy 76 44 26 w w.heap.size (w.heap.size + 1) (w.heap.size + 2) #[.string a, .bool b, .int .i64 c, .slice A3 l3.length c3, .slice A4 l4.length c4, .slice A5 l5.length c5] a b c (.slice QW m3.length Qa) u (.slice none 0 0) m3 ((l4.take i).map YQ) [] W)) (fun y _ => l4.length - (intOf y).toNat)
   case atStart => exact ⟨0, .slice none 0 0, rfl, Nat.zero_le _, ⟨X⟩⟩
   case round =>
    obtain ⟨i, u, rfl, hi, HX⟩ := hrel
    have X := HX.out
    skip
    have hcf : wr.cell? ⟨w.heap.size, 4, none⟩ = some (.slice A4 l4.length c4) := (zk X.bf 4).trans rfl
    by_cases hlt : i < l4.length
    ·have hx := List.getElem?_eq_getElem hlt
     obtain ⟨ad, e, x0, x1, x2⟩ := Ji H4.out (i : Int) (by omega) (by omega)
     cases e
     have e : vP l4 (i : Int) = l4[i] := by simp [vP, List.getD_eq_getElem?_getD, hlt]
     rw [Int.toNat_natCast, e] at x0 x1 x2
     clear e
     generalize l4[i] = x at hx x0 x1 x2
     have k0 := fun (W : World) (h : Below w.heap.size w W) => (h.cell (World.block_lt_of_cell? w _ x0)).trans x0; have k1 := fun (W : World) (h : Below w.heap.size w W) => (h.cell (World.block_lt_of_cell? w _ x1)).trans x1; have k2 := fun (W : World) (h : Below w.heap.size w W) => (h.cell (World.block_lt_of_cell? w _ x2)).trans x2
     have q1 : (i : Int) < (l4.length : Int) := by omega
     have q0 : (0 : Int) ≤ (i : Int) := by omega
     have q3 : ((i : Int)).toNat = i := Int.toNat_natCast i
     have q2 : decide ((i : Int) < (l4.length : Int)) = true := decide_eq_true q1
     try go_wp2
     have X1 := X.mv (wR (Below.refl _ wr))
     refine jU (n := 25) (S := fun W' => W'.cell? ⟨w.heap.size + 2, 4, none⟩ = some u ∧ W'.cell? ⟨w.heap.size, 4, none⟩ = some (.slice (some ad) l4.length c4) ∧ W'.cell? (ad.add (i * 3)) = some (.string x.f0) ∧ W'.cell? ⟨(ad.add (i * 3)).block, (ad.add (i * 3)).off + 1, none⟩ = some (.string x.f1) ∧ W'.cell? ⟨(ad.add (i * 3)).block, (ad.add (i * 3)).off + 2, none⟩ = some (.string x.f2)) (ds := [24]) #[false, false, false, false, false, false, false, false, false, false, false, false, false, false, false, false, false, false, false, false, false, false, false, false, false] (by kernel_rfl) rfl rfl ⟨(zk X1.bx 4).trans rfl, (zk X1.bf 4).trans rfl, k0 _ X1.hb, k1 _ X1.hb, k2 _ X1.hb⟩ (fun hHeld => ?_); refine jN Yx.zkx Yx.zxK (fun zi vR => ?_)
     clear X HX hcf
     generalize wr.drew = W at X1 hHeld ⊢
     refine qz 0 (some 46) zi ?_
     refine qz 2 (some 48) zi ?_
     refine qz 4 (some 50) zi ?_
     refine qz 8 (some 54) zi ?_
     refine qz 10 (some 56) zi ?_
     refine qz 14 (some 60) zi ?_
     refine qz 16 (some 62) zi ?_
     refine uG 1 (some 47) zi vR hHeld ?_
     refine uG 3 (some 49) zi vR hHeld ?_
     refine qz 5 (some 51) zi ?_
     refine qz 6 (some 52) zi ?_
     refine uG 7 (some 53) zi vR hHeld ?_
     refine uG 9 (some 55) zi vR hHeld ?_
     refine qz 11 (some 57) zi ?_
     refine qz 12 (some 58) zi ?_
     refine uG 13 (some 59) zi vR hHeld ?_
     refine uG 15 (some 61) zi vR hHeld ?_
     refine qz 17 (some 63) zi ?_
     refine qz 18 (some 64) zi ?_
     refine uG 19 (some 65) zi vR hHeld ?_
     refine qz 20 (some 66) zi ?_
     refine pO 21 (some 67) zi (fun K hK => ?_)
     refine QY ?_
     have X2 := X1.mv (yt (Below.refl _ W) (.cells #[.string x.f0, .string x.f1, .string x.f2] 86))
     refine hK.out _ _ ⟨(zk X2.bx 4).trans rfl, (zk X2.bf 4).trans rfl, k0 _ X2.hb, k1 _ X2.hb, k2 _ X2.hb⟩ (fun hHeld => ?_)
     clear hK K
     refine jO (some 67) ?_
     refine pO 22 (some 68) zi (fun K hK => ?_)
     refine Kd.vD uU (w0 := w) w.heap.size (by rfl) (.tmp 47) (.tmp 67) 23 86 (.agg #[(.string ⟨#[]⟩), (.string ⟨#[]⟩), (.string ⟨#[]⟩)]) 48 rfl Tryz.underlying23 zvx rfl (by decide) (by omega) u ((l4.take i).map YQ) (YQ x) [.string x.f0, .string x.f1, .string x.f2] (fun _ => True) (fun _ => False) rfl rfl ?aP (fun _ hk => hk.elim) ?aF ?aO ?aB ?aS ?aL ?_
     (case aP => exact Jm _ _ _ (YQ x))
     (case aB => exact X1.hb)
     (case aF => exact (fun _ _ => trivial))
     (case aO => exact X1.r4)
     (case aS => exact X1.hb.size)
     (case aL => rw [List.length_map, List.length_take]; omega)
     intro v kW ho hb hg hat
     rw [← Qz YQ l4 i x hx] at ho
     obtain ⟨Ao, co, eo⟩ := Kd.yx ho
     subst eo
     generalize ((l4.take (i + 1)).map YQ).length = nn at ho ⊢
     have bx1 := qx X1.bx hg (Kd.uX X1.r4 X1.bx (by decide))
     have Vo := qx X1.bf hg (Kd.uX X1.r4 X1.bf (by decide))
     have X3 := zy.mk (X1.zXw hg ho hb (by decide) (by decide) (by decide) (by decide) (by decide) (by decide))
     refine hK.out _ _ ⟨(zk bx1 4).trans rfl, (zk Vo 4).trans rfl, k0 _ hb, k1 _ hb, k2 _ hb⟩ (fun hHeld => ?_)
     clear hK K
     refine jO (some 68) ?_
     refine qz 23 (some 69) zi ?_
     refine kD (i := 24) (N := none) #[true, true, true, true, true, true, true, true, true, true, true, true, true, true, true, true, true, true, true, true, true, true, true, true, true] rfl rfl (vG zi.out (by kernel_rfl)) (by decide) (fun K hK => ?_)
     have XM : kW.cell? ⟨w.heap.size + 2, 4, none⟩ = some u := (zk bx1 4).trans rfl
     have YV := zw bx1 4
     refine Zy (w1 := ?_) (by rfl) rfl ?_ ?_
     rotate_left
     ·go_simp
      rfl
     refine hK.out _ _ ?_
     clear hK K
     refine vO (xH zi.out (by kernel_rfl)) ?_
     clear X1 X2 hb hg ho hat XM YV bx1 Vo hHeld
     generalize kW.setCell ⟨w.heap.size + 2, 4, none⟩ (.slice Ao nn co : Value) = Yj at X3 ⊢
     try go_wp2
     go_roundw
     case rel => exact ⟨i + 1, (.slice Ao nn co : Value), by first | rfl | (simp; done) | go_num, by omega, X3⟩
     case measure => simp [intOf]; omega
    ·obtain rfl : i = l4.length := by omega
     have q2 : decide ((l4.length : Int) < (l4.length : Int)) = false := decide_eq_false (by omega)
     rw [List.take_length] at X
     clear HX
     obtain ⟨Vp, Vr, eo4⟩ := Kd.yx X.r4
     subst eo4
     generalize HM4 : l4.map YQ = m4 at X
     try go_wp2
     go_loopw [6] (fun y W => ∃ (i : Nat) (u : Value), y = .int .i64 (i : Int) ∧ i ≤ l5.length ∧ zy (XS uy 31 uU 86 jy 76 44 26 w w.heap.size (w.heap.size + 1) (w.heap.size + 2) #[.string a, .bool b, .int .i64 c, .slice A3 l3.length c3, .slice A4 l4.length c4, .slice A5 l5.length c5] a b c (.slice QW m3.length Qa) (.slice Vp m4.length Vr) u m3 m4 ((l5.take i).map YX) W)) (fun y _ => l5.length - (intOf y).toNat)
     case atStart => exact ⟨0, .slice none 0 0, rfl, Nat.zero_le _, ⟨X⟩⟩
     case round =>
      obtain ⟨i, u, rfl, hi, HX⟩ := hrel
      have X := HX.out
      skip
      have hcf : wr.cell? ⟨w.heap.size, 5, none⟩ = some (.slice A5 l5.length c5) := (zk X.bf 5).trans rfl
      by_cases hlt : i < l5.length
      ·have hx := List.getElem?_eq_getElem hlt
       obtain ⟨ad, e, x0, x1, x2⟩ := Jl H5.out (i : Int) (by omega) (by omega)
       cases e
       have e : vJ l5 (i : Int) = l5[i] := by simp [vJ, List.getD_eq_getElem?_getD, hlt]
       rw [Int.toNat_natCast, e] at x0 x1 x2
       clear e
       generalize l5[i] = x at hx x0 x1 x2
       have k0 := fun (W : World) (h : Below w.heap.size w W) => (h.cell (World.block_lt_of_cell? w _ x0)).trans x0; have k1 := fun (W : World) (h : Below w.heap.size w W) => (h.cell (World.block_lt_of_cell? w _ x1)).trans x1; have k2 := fun (W : World) (h : Below w.heap.size w W) => (h.cell (World.block_lt_of_cell? w _ x2)).trans x2
       have q1 : (i : Int) < (l5.length : Int) := by omega
       have q0 : (0 : Int) ≤ (i : Int) := by omega
       have q3 : ((i : Int)).toNat = i := Int.toNat_natCast i
       have q2 : decide ((i : Int) < (l5.length : Int)) = true := decide_eq_true q1
       try go_wp2
       have X1 := X.mv (wR (Below.refl _ wr))
       refine jU (n := 25) (S := fun W' => W'.cell? ⟨w.heap.size + 2, 5, none⟩ = some u ∧ W'.cell? ⟨w.heap.size, 5, none⟩ = some (.slice (some ad) l5.length c5) ∧ W'.cell? (ad.add (i * 3)) = some (.string x.f0) ∧ W'.cell? ⟨(ad.add (i * 3)).block, (ad.add (i * 3)).off + 1, none⟩ = some (.string x.f1) ∧ W'.cell? ⟨(ad.add (i * 3)).block, (ad.add (i * 3)).off + 2, none⟩ = some (.int .i64 x.f2)) (ds := [24]) #[false, false, false, false, false, false, false, false, false, false, false, false, false, false, false, false, false, false, false, false, false, false, false, false, false] (by kernel_rfl) rfl rfl ⟨(zk X1.bx 5).trans rfl, (zk X1.bf 5).trans rfl, k0 _ X1.hb, k1 _ X1.hb, k2 _ X1.hb⟩ (fun hHeld => ?_); refine jN Yx.YJ Yx.pR (fun zi vR => ?_)
       clear X HX hcf
       generalize wr.drew = W at X1 hHeld ⊢
       refine qz 0 (some 77) zi ?_
       refine qz 2 (some 79) zi ?_
       refine qz 4 (some 81) zi ?_
       refine qz 8 (some 85) zi ?_
       refine qz 10 (some 87) zi ?_
       refine qz 14 (some 91) zi ?_
       refine qz 16 (some 93) zi ?_
       refine uG 1 (some 78) zi vR hHeld ?_
       refine uG 3 (some 80) zi vR hHeld ?_
       refine qz 5 (some 82) zi ?_
       refine qz 6 (some 83) zi ?_
       refine uG 7 (some 84) zi vR hHeld ?_
       refine uG 9 (some 86) zi vR hHeld ?_
       refine qz 11 (some 88) zi ?_
       refine qz 12 (some 89) zi ?_
       refine uG 13 (some 90) zi vR hHeld ?_
       refine uG 15 (some 92) zi vR hHeld ?_
       refine qz 17 (some 94) zi ?_
       refine qz 18 (some 95) zi ?_
       refine uG 19 (some 96) zi vR hHeld ?_
       refine qz 20 (some 97) zi ?_
       refine pO 21 (some 98) zi (fun K hK => ?_)
       refine QY ?_
       have X2 := X1.mv (yt (Below.refl _ W) (.cells #[.string x.f0, .string x.f1, .int .i64 x.f2] 76))
       refine hK.out _ _ ⟨(zk X2.bx 5).trans rfl, (zk X2.bf 5).trans rfl, k0 _ X2.hb, k1 _ X2.hb, k2 _ X2.hb⟩ (fun hHeld => ?_)
       clear hK K
       refine jO (some 98) ?_
       refine pO 22 (some 99) zi (fun K hK => ?_)
       refine Kd.vD jy (w0 := w) w.heap.size (by rfl) (.tmp 78) (.tmp 98) 24 76 (.agg #[(.string ⟨#[]⟩), (.string ⟨#[]⟩), (.int .i64 0)]) 40 rfl Tryz.underlying24 zvq rfl (by decide) (by omega) u ((l5.take i).map YX) (YX x) [.string x.f0, .string x.f1, .int .i64 x.f2] (fun _ => True) (fun _ => False) rfl rfl ?aP (fun _ hk => hk.elim) ?aF ?aO ?aB ?aS ?aL ?_
       (case aP => exact QM _ _ _ (YX x))
       (case aB => exact X1.hb)
       (case aF => exact (fun _ _ => trivial))
       (case aO => exact X1.r5)
       (case aS => exact X1.hb.size)
       (case aL => rw [List.length_map, List.length_take]; omega)
       intro v kW ho hb hg hat
       rw [← Qz YX l5 i x hx] at ho
       obtain ⟨Ao, co, eo⟩ := Kd.yx ho
       subst eo
       generalize ((l5.take (i + 1)).map YX).length = nn at ho ⊢
       have bx1 := qx X1.bx hg (Kd.uX X1.r5 X1.bx (by decide))
       have Vo := qx X1.bf hg (Kd.uX X1.r5 X1.bf (by decide))
       have X3 := zy.mk (X1.zXZ hg ho hb (by decide) (by decide) (by decide) (by decide) (by decide) (by decide))
       refine hK.out _ _ ⟨(zk bx1 5).trans rfl, (zk Vo 5).trans rfl, k0 _ hb, k1 _ hb, k2 _ hb⟩ (fun hHeld => ?_)
       clear hK K
       refine jO (some 99) ?_
       refine qz 23 (some 100) zi ?_
       refine kD (i := 24) (N := none) #[true, true, true, true, true, true, true, true, true, true, true, true, true, true, true, true, true, true, true, true, true, true, true, true, true] rfl rfl (vG zi.out (by kernel_rfl)) (by decide) (fun K hK => ?_)
       have XM : kW.cell? ⟨w.heap.size + 2, 5, none⟩ = some u := (zk bx1 5).trans rfl
       have YV := zw bx1 5
       refine Zy (w1 := ?_) (by rfl) rfl ?_ ?_
       rotate_left
       ·go_simp
        rfl
       refine hK.out _ _ ?_
       clear hK K
       refine vO (xH zi.out (by kernel_rfl)) ?_
       clear X1 X2 hb hg ho hat XM YV bx1 Vo hHeld
       generalize kW.setCell ⟨w.heap.size + 2, 5, none⟩ (.slice Ao nn co : Value) = Yj at X3 ⊢
       try go_wp2
       go_roundw
       case rel => exact ⟨i + 1, (.slice Ao nn co : Value), by first | rfl | (simp; done) | go_num, by omega, X3⟩
       case measure => simp [intOf]; omega
      ·obtain rfl : i = l5.length := by omega
       have q2 : decide ((l5.length : Int) < (l5.length : Int)) = false := decide_eq_false (by omega)
       rw [List.take_length] at X
       clear HX
       obtain ⟨UQ, UJ, eo5⟩ := Kd.yx X.r5
       subst eo5
       generalize HM5 : l5.map YX = m5 at X
       have y0 : wr.cell? ⟨w.heap.size + 2, 0, none⟩ = some (.string a) := (zk X.bx 0).trans rfl; have y1 : wr.cell? ⟨w.heap.size + 2, 1, none⟩ = some (.bool b) := (zk X.bx 1).trans rfl; have y2 : wr.cell? ⟨w.heap.size + 2, 2, none⟩ = some (.int .i64 c) := (zk X.bx 2).trans rfl; have y3 : wr.cell? ⟨w.heap.size + 2, 3, none⟩ = some (.slice QW m3.length Qa) := (zk X.bx 3).trans rfl; have y4 : wr.cell? ⟨w.heap.size + 2, 4, none⟩ = some (.slice Vp m4.length Vr) := (zk X.bx 4).trans rfl; have y5 : wr.cell? ⟨w.heap.size + 2, 5, none⟩ = some (.slice UQ m5.length UJ) := (zk X.bx 5).trans rfl
       have z0 : wr.cell? ⟨w.heap.size + 1, 0, none⟩ = some (.string (⟨#[]⟩ : ByteArray)) := (zk X.br 0).trans rfl; have zf0 := zw X.br 0; have z1 : wr.cell? ⟨w.heap.size + 1, 1, none⟩ = some (.bool false) := (zk X.br 1).trans rfl; have zf1 := zw X.br 1; have z2 : wr.cell? ⟨w.heap.size + 1, 2, none⟩ = some (.int .i64 0) := (zk X.br 2).trans rfl; have zf2 := zw X.br 2; have z3 : wr.cell? ⟨w.heap.size + 1, 3, none⟩ = some (.slice none 0 0) := (zk X.br 3).trans rfl; have zf3 := zw X.br 3; have z4 : wr.cell? ⟨w.heap.size + 1, 4, none⟩ = some (.slice none 0 0) := (zk X.br 4).trans rfl; have zf4 := zw X.br 4; have z5 : wr.cell? ⟨w.heap.size + 1, 5, none⟩ = some (.slice none 0 0) := (zk X.br 5).trans rfl; have zf5 := zw X.br 5
       have HX := zy.mk X
       clear X
       go_wp2
       refine bodyPost_ret (results_cell_row rfl _ _ (w.heap.size + 1) 26 #[.string a, .bool b, .int .i64 c, .slice QW m3.length Qa, .slice Vp m4.length Vr, .slice UQ m5.length UJ] (0, 0) _ rfl (zzT HX.out.br (.string a) (.bool b) (.int .i64 c) (.slice QW m3.length Qa) (.slice Vp m4.length Vr) (.slice UQ m5.length UJ)) Tryz.underlying26 rfl (by kernel_rfl)) rfl ?_
       rw [HM3, HM4, HM5]
       exact ⟨_, _, _, rfl, Ph HX.out.r3 HX.out.br (by decide) (.string a) (.bool b) (.int .i64 c) (.slice QW m3.length Qa) (.slice Vp m4.length Vr) (.slice UQ m5.length UJ), Ph HX.out.r4 HX.out.br (by decide) (.string a) (.bool b) (.int .i64 c) (.slice QW m3.length Qa) (.slice Vp m4.length Vr) (.slice UQ m5.length UJ), Ph HX.out.r5 HX.out.br (by decide) (.string a) (.bool b) (.int .i64 c) (.slice QW m3.length Qa) (.slice Vp m4.length Vr) (.slice UQ m5.length UJ), fD HX.out.hb (by omega) (.string a) (.bool b) (.int .i64 c) (.slice QW m3.length Qa) (.slice Vp m4.length Vr) (.slice UQ m5.length UJ)⟩
end Go.Proofs.YtaifemkokfoadaaGreatDoor
namespace Go.Proofs.YtaifemkokfoadaaGreatDoor.PX
open Go.RowKit Go.Proofs.zx.zK Go.Proofs.zx.zU Go.Proofs.zx.zN
set_option linter.unusedVariables false
def jM.f (k : Nat) (a : ByteArray) (b : Bool) (c : Int) (l3 : List qJ) (l4 : List xK) (l5 : List xY) : Option (ByteArray × Bool × Int × (List qw) × (List qh) × (List xq)) :=
 if l3.length ≤ 1000000 ∧ l4.length ≤ 1000000 ∧ l5.length ≤ 1000000 then some (a, b, c, l3.map wH, l4.map YQ, l5.map YX) else none
theorem jM.calls (k : Nat) (a : ByteArray) (b : Bool) (c : Int) (A3 : Option Addr) (c3 : Nat) (l3 : List qJ) (A4 : Option Addr) (c4 : Nat) (l4 : List xK) (A5 : Option Addr) (c5 : Nat) (l5 : List xY) (r1 : ByteArray) (r2 : Bool) (r3 : Int) (r4 : List qw) (r5 : List qh) (r6 : List xq) (w : World) (h3 : Kd.C jC w A3 l3.length l3) (g3 : l3.length ≤ c3) (h4 : Kd.C kR w A4 l4.length l4) (g4 : l4.length ≤ c4) (h5 : Kd.C kE w A5 l5.length l5) (g5 : l5.length ≤ c5) (h : jM.f k a b c l3 l4 l5 = some (r1, r2, r3, r4, r5, r6)) :
  Calls Tryz.prog 19 #[.agg #[.string a, .bool b, .int .i64 c, .slice A3 l3.length c3, .slice A4 l4.length c4, .slice A5 l5.length c5]] w fun e w' => ∃ Vl Vm Vn : Value, e = .returned (.agg #[.string r1, .bool r2, .int .i64 r3, Vl, Vm, Vn]) ∧ Kd.R uy 31 w' w.heap.size (fun _ => True) Vl r4 ∧ Kd.R uU 86 w' w.heap.size (fun _ => True) Vm r5 ∧ Kd.R jy 76 w' w.heap.size (fun _ => True) Vn r6 ∧ Below w.heap.size w w' := by
 unfold jM.f at h
 split at h
 ·rename_i hl
  injection h with h
  simp only [Prod.mk.injEq] at h
  obtain ⟨rfl, rfl, rfl, rfl, rfl, rfl⟩ := h
  exact zw5 a b c A3 c3 l3 A4 c4 l4 A5 c5 l5 w h3 h4 h5 hl.1 hl.2.1 hl.2.2
 ·cases h
end Go.Proofs.YtaifemkokfoadaaGreatDoor.PX
namespace Go.Proofs.YtaifemkokfoadaaGreatDoor.PX
open Go.RowKit Go.Proofs.zx.zK Go.Proofs.zx.zU Go.Proofs.zx.zN
attribute [local go_sem] qF qG xC xD qY qW qH qI   -- for this text's walks alone
set_option linter.unusedVariables false
set_option linter.unusedSimpArgs false
def yj.f (l0 : List Int) (a1 : Int) : Option (Int) := if a1 < (l0.length : Int) then (if 0 ≤ a1 then (some (wrap64 (Int.tmod (IntKind.u64.wrap (rd l0 a1)) 100000))) else (none)) else (some 0)
set_option maxHeartbeats 8000000 in
set_option maxRecDepth 100000 in
theorem yj.calls (A0 : Option Addr) (c0 : Nat) (l0 : List Int) (a1 : Int) (r : Int) (w : World) (hr0 : Kd.C (Kd.int .i64) w A0 l0.length l0) (hc0 : l0.length ≤ c0) (h : yj.f l0 a1 = some r) :
  Calls Tryz.prog 82 #[.slice A0 l0.length c0, .int .i64 a1] w fun e w' => e = .returned (.int .i64 r) ∧ z8 w w' := by
 have kF := zy.mk hr0
 have YO := zy.mk hc0
 clear hr0 hc0
 have H : (if a1 < (l0.length : Int) then (if 0 ≤ a1 then (some (wrap64 (Int.tmod (IntKind.u64.wrap (rd l0 a1)) 100000))) else (none)) else (some 0)) = some r := h
 clear h
 by_cases c3 : a1 < (l0.length : Int)
 ·rw [if_pos c3] at H
  have kC : decide (a1 < (l0.length : Int)) = true := decide_eq_true c3
  clear c3
  by_cases c4 : 0 ≤ a1
  ·rw [if_pos c4] at H
   have ZC : decide (0 ≤ a1) = true := decide_eq_true c4
   clear c4
   obtain rfl := Option.some.inj H
   have zkj : 0 ≤ (a1 : Int) := of_decide_eq_true (by first | (with_reducible assumption) | assumption)
   have zkv : a1 < (l0.length : Int) := of_decide_eq_true (by first | (with_reducible assumption) | assumption)
   obtain ⟨zhe, zWo, zda⟩ := Kd.lK kF.out a1 zkj zkv
   cases zWo
   replace zkj := eq_true zkj
   replace zkv := eq_true zkv
   go_enter Tryz.func82, Tryz.ntmps82
   go_wp2
   go_ret
   exact ⟨by first | rfl | (simp; done) | (simp [*]; done), by repeat (first | exact z8.refl _ | apply z8.step)⟩
  ·rw [if_neg c4] at H
   exact absurd H (by simp)
 ·rw [if_neg c3] at H
  have kC : decide (a1 < (l0.length : Int)) = false := decide_eq_false c3
  clear c3
  obtain rfl := Option.some.inj H
  go_enter Tryz.func82, Tryz.ntmps82
  go_wp2
  go_ret
  exact ⟨by first | rfl | (simp; done) | (simp [*]; done), by repeat (first | exact z8.refl _ | apply z8.step)⟩
end Go.Proofs.YtaifemkokfoadaaGreatDoor.PX
