/-
  Texts that lean on one another, laid in one file. No condition.
-/
import Derived.Below
import Derived.Deep.Draws
import Derived.Deep.AppendLies
import Derived.Maps.AppendAt
import Derived.OwnWalk
import Derived.Laws.BytesArg
import Derived.Laws.MakeOwn
import Derived.Laws.OwnMore
import Derived.Deep.OwnRows
import Derived.Tactics
import Derived.Lib.ConvBytes
import Derived.Laws.Slices
import Derived.WalkKit
import Derived.KernelRfl
import Derived.RowKit3
import Derived.Deep.LoopGhost
import Derived.Deep.QuietTactic
import Derived.BigQuiet
import Derived.WideLaws
import Derived.Deep.DeepCutAuto
import Derived.Deep.CutBlock
import Derived.Deep.RegionHeld3
import Derived.Laws.Rows
import Derived.Lib.AppendStr
import Derived.ArgAppend
import Derived.Laws.IdiomCopy
import Derived.RowKit
import Derived.OrdersHeld
import Derived.Laws.BitsLemmas
import Derived.Laws.StructEq
import Derived.Test.YtggifbbiiickmaaGreatDoorProg
import Derived.Laws.Cover1
import Derived.ProofKit
import Derived.Handed
import Derived.HandedShaped
import Derived.OpenShut
import Derived.ShutString
import Derived.ChangeOld
import Derived.Carry
import Derived.LaidMore
import Derived.Lay
import Derived.Shelf.Vars
import Derived.Lib.LaidU8
import Derived.Lib.LaidTab
import Derived.ChangeSlices
import Derived.Shelf.Strings.Builder1
import Derived.Shelf.Strings.Trim
import Derived.Shelf.Small.Utf8
import Derived.Shelf.Small.Bits
import Derived.Shelf.Small.Strs
import Derived.Shelf.Strings.BuilderF
import Derived.Shelf.Strings.BuilderK
import Derived.Shelf.Strconv.Atoi
import Derived.Shelf.Strconv.Itoa0
import Derived.Shelf.Strconv.Itoa1
import Derived.Shelf.LaysM
import Derived.Shelf.Strconv.Itoa2
import Derived.Shelf.Strconv.Itoa3
import Derived.Shelf.Strconv.AtoiErrFast
import Derived.Shelf.Strconv.ParseIntEmpty
import Derived.Shelf.Strconv.AtoiFail
import Derived.Shelf.Strconv.Clone
import Derived.Shelf.Strconv.SyntaxError
import Derived.Shelf.LaysC
import Derived.Shelf.Strconv.ToError
import Derived.Shelf.Strconv.AtoiErr
import Derived.Shelf.Strconv.ErrVar
import Derived.Shelf.Strconv.Lower
import Derived.Shelf.Strconv.ParseUint10
import Derived.Shelf.Strconv.ParseUint10Empty
import Derived.Shelf.Strconv.ParseUint10Any
import Derived.Shelf.Strconv.ParseInt10
import Derived.Shelf.Strconv.AtoiLong
import Derived.Shelf.Strconv.AtoiInnerAll
import Derived.Shelf.Strconv.RangeError
import Derived.Shelf.Strconv.ToErrorRange
import Derived.Shelf.Strconv.AtoiAll
import Derived.Shelf.Strconv.ErrVarAll
import Derived.Shelf.Strconv.ParseUintEmpty
import Derived.Shelf.Strconv.ParseUint10b64
import Derived.Shelf.Strconv.ParseUint10b32
import Derived.Shelf.Strconv.ParseUint10b16
import Derived.Shelf.Strconv.ParseUint10b8
import Derived.Shelf.Strconv.ParseUint10At
import Derived.Shelf.Strconv.ParseInt10At64
import Derived.Shelf.Strconv.ParseInt10At32
import Derived.Shelf.Strconv.ParseInt10At16
import Derived.Shelf.Strconv.ParseInt10At8
import Derived.Shelf.Strconv.ParseInt10All
import Derived.Shelf.Strings.Search1
import Derived.Shelf.Strings.Search2
import Derived.Shelf.Strings.Search3
import Derived.Shelf.Strings.Shaped
import Derived.Shelf.GgClosure.StringsIndexFunc
import Derived.Ground.GgwProg
import Derived.Shelf.GgClosure.StringsIndexFuncTop
import Derived.Shelf.GgClosure.StringsRunes
import Derived.Shelf.Strings.Fields
import Derived.Shelf.Strings.SplitShaped
import Derived.Shelf.Unicode.Latin
import Derived.Shelf.Unicode.Decode
import Derived.Shelf.Strings.Runes
import Derived.Shelf.Strings.AsciiSet
import Derived.Shelf.Unicode.DecodeSlow
import Derived.Shelf.Unicode.DecodeAny
import Derived.Shelf.Unicode.Is16White
import Derived.Shelf.Unicode.IsSpaceAny
import Derived.Shelf.Unicode.DecodeLast
import Derived.Shelf.Unicode.Is16WhiteD
import Derived.Shelf.Unicode.IsSpaceAnyD
import Derived.Shelf.Strings.FieldsAny
import Derived.Shelf.Strings.FieldsFuncAny
import Derived.Shelf.Unicode.Is16Any
import Derived.Shelf.Unicode.Is32Any
import Derived.Shelf.Unicode.ExclAny
import Derived.Shelf.Strings.FuncGrows
import Derived.Shelf.Strings.FieldsFuncGrows
import Derived.Shelf.Strings.BuilderCap
import Derived.Ground.Names2Prog
import Derived.Shelf.Slices.Clone
import Derived.Ground.SlgfProg
import Derived.Shelf.SlicesQ.IndexFunc
import Derived.Shelf.SlSortCmp.WholeK
import Derived.Ground.SlsfProg
import Derived.Lib.ItoaNum
import Derived.Lib.Strings
import Derived.IntWalk
import Derived.WalkSmall
import Derived.Shelf.Strings.SlTrimAscii
import Derived.Laws.RangeAny
import Derived.Laws.RangeString
import Derived.WalkSpells
import Derived.Outline
import Derived.Lib.Hide
import Derived.StillTailTactics
import Derived.StillTactics
set_option linter.unusedVariables false
set_option linter.unusedSimpArgs false
namespace Go.Proofs.zk.ze
open Go.RowKit
structure zx (p : Prop) : Prop where mk :: (out : p)
structure qY (w w' : World) : Prop where mk :: (out : ∃ n, w' = w.drewN n)
theorem qY.refl (w : World) : qY w w := ⟨⟨0, rfl⟩⟩
theorem qY.step {w w' : World} (h : qY w w') (n : Nat) : qY w (w'.drewN n) := by
  obtain ⟨m, rfl⟩ := h
  exact ⟨⟨m + n, World.drewN_drewN ..⟩⟩
theorem qY.grown {w w' : World} (h : qY w w') : Grown w w' := by
  obtain ⟨n, rfl⟩ := h
  induction n with
  | zero => exact Grown.refl _
  | succ n ih => rw [← World.drew_drewN]; exact Grown.drew ih
theorem qY.below {w w' : World} (h : qY w w') : Below w.heap.size w w' := by
  obtain ⟨n, rfl⟩ := h
  induction n with
  | zero => exact Below.refl _ _
  | succ n ih => rw [← World.drew_drewN]; exact ih.drew
def rd (xs : List Int) (i : Int) : Int := xs.getD i.toNat 0
theorem yA {w W : World} (h : Below w.heap.size w W) (o : Obj) : Below w.heap.size w (W.alloc o) := h.alloc h.size o
theorem VG {B : Nat} {w W : World} (h : Below B w W) : Below B w W.drew := ⟨h.os, h.tape, h.output, h.size, h.block⟩
theorem yZ {B : Nat} {w W : World} (h : Below B w W) (n : Nat) : Below B w (W.drewN n) := ⟨h.os, h.tape, h.output, h.size, h.block⟩
theorem fG {B : Nat} {w w1 w2 : World} (h : Below B w w1) (hB : B ≤ w1.heap.size) (k : Below w1.heap.size w1 w2) : Below B w w2 :=
  h.trans ⟨k.os, k.tape, k.output, k.size, fun i hi => k.block i (Nat.lt_of_lt_of_le hi hB)⟩
theorem Wy {w w1 : World} (h : Below w.heap.size w w1) (row : Option Nat) : w.grownBy w1 row := ⟨h.os, h.tape, h.output, h.size, fun i hi _ => h.block i hi⟩
theorem X9 {w w1 : World} (h : Below w.heap.size w w1) {a : Addr} {v : Value} (hc : w.cell? a = some v) : w1.cell? a = some v := (h.cell (World.block_lt_of_cell? w a hc)).trans hc
theorem add_plain (g j : Nat) : (⟨g, 0, none⟩ : Addr).add j = ⟨g, j, none⟩ := by unfold Addr.add; split <;> simp_all
def uJ (w : World) (k : IntKind) (A : Option Addr) (n : Nat) (xs : List Int) : Prop :=
  xs.length = n ∧ n ≤ 9223372036854775807 ∧ (0 < n → ∃ ad, A = some ad ∧ ∀ j, j < n → w.cell? (ad.add j) = some (.int k (xs.getD j 0)))
theorem uJ.at_ {w : World} {k : IntKind} {A : Option Addr} {n : Nat} {xs : List Int} (h : uJ w k A n xs) (i : Int) (h0 : 0 ≤ i) (h1 : i < n) : ∃ ad, A = some ad ∧ w.cell? (ad.add i.toNat) = some (.int k (rd xs i)) := by
  obtain ⟨ad, e, hc⟩ := h.2.2 (by omega)
  exact ⟨ad, e, hc _ (by omega)⟩
theorem uJ.below {w w1 : World} {k : IntKind} {A : Option Addr} {n : Nat} {xs : List Int} (h : uJ w k A n xs) (hb : Below w.heap.size w w1) : uJ w1 k A n xs :=
  ⟨h.1, h.2.1, fun hn => by
    obtain ⟨ad, e, hc⟩ := h.2.2 hn
    exact ⟨ad, e, fun j hj => X9 hb (hc j hj)⟩⟩
theorem zxe (W : World) (base : Nat) (e : TypeId) (size : Nat) : W.ownsRow base e size (.slice none 0 0) 0 [] := ⟨by simp, .inl ⟨rfl, rfl⟩⟩
theorem Xe {w : World} {base : Nat} {e : TypeId} {size n : Nat} {v : Value} {xs : List Value} (h : w.ownsRow base e size v n xs) (k : Nat) (hk : v.ownBlock = some k) : base ≤ k := by
  rcases h.2 with ⟨rfl, _⟩ | ⟨g, cap, cur, rfl, hb, _⟩
  · simp [Value.ownBlock] at hk
  · have : g = k := by simpa [Value.ownBlock] using hk
    omega
theorem lX {w : World} {base : Nat} {e : TypeId} {size n : Nat} {v : Value} {xs : List Value} (h : w.ownsRow base e size v n xs) (k : Nat) (hk : v.ownBlock = some k) : k < w.heap.size := by
  rcases h.2 with ⟨rfl, _⟩ | ⟨g, cap, cur, rfl, hb, hh, _⟩
  · simp [Value.ownBlock] at hk
  · have : g = k := by simpa [Value.ownBlock] using hk
    subst this
    exact (Array.getElem?_eq_some_iff.1 hh).1
theorem dh {w w1 : World} {base : Nat} {e : TypeId} {size n : Nat} {v : Value} {xs : List Value} (h : w.ownsRow base e size v n xs) (hb : Below w.heap.size w w1) : w1.ownsRow base e size v n xs :=
  h.kept (Wy hb none) (by cases v.ownBlock <;> simp)
theorem lJ {w w1 : World} {base : Nat} {e : TypeId} {size n : Nat} {v : Value} {xs : List Value} (h : w.ownsRow base e size v n xs) {row : Option Nat} (hg : w.grownBy w1 row) (hne : v.ownBlock = none ∨ v.ownBlock ≠ row) : w1.ownsRow base e size v n xs := h.kept hg hne
section
variable {P : Program} {ops : Array Oper} {rest : List Oper} {o : Oper} {a : Act} {Q : Exit → Act → World → Prop}
end
section
variable {P : Program}
end
section
variable {P : Program} {ops : Array Oper} {rest : List Oper} {o : Oper} {a : Act} {Q : Exit → Act → World → Prop}
end
theorem uJ.VH {w : World} {k : IntKind} {A : Option Addr} {n : Nat} {xs : List Int} (h : uJ w k A n xs) (i : Nat) (hi : i ≤ n) : uJ w k A i (xs.take i) := by
  refine ⟨by rw [List.length_take, h.1]; omega, by have := h.2.1; omega, fun hp => ?_⟩
  obtain ⟨ad, e, hc⟩ := h.2.2 (by omega)
  refine ⟨ad, e, fun j hj => ?_⟩
  rw [hc j (by omega)]
  simp [List.getD_eq_getElem?_getD, hj]
def jy {α : Type} (a b : Option α) : Prop := ∀ r, a = some r → b = some r
theorem jy.refl {α : Type} (a : Option α) : jy a a := fun _ h => h
theorem jy.none {α : Type} (b : Option α) : jy Option.none b := fun _ h => by cases h
theorem jy.trans {α : Type} {a b c : Option α} (h : jy a b) (k : jy b c) : jy a c := fun r hr => k r (h r hr)
theorem jy.ite {α : Type} {c : Prop} [Decidable c] {a a' b b' : Option α} (h : jy a a') (k : jy b b') : jy (if c then a else b) (if c then a' else b') := by
  split
  · exact h
  · exact k
theorem jy.bind {α β : Type} {a a' : Option α} {f f' : α → Option β} (h : jy a a') (k : ∀ x, jy (f x) (f' x)) : jy (a.bind f) (a'.bind f') := by
  intro r hr
  obtain ⟨x, hx, hf⟩ := Option.bind_eq_some_iff.1 hr
  exact Option.bind_eq_some_iff.2 ⟨x, h x hx, k x r hf⟩
theorem jy.map {α β : Type} {a a' : Option α} (f : α → β) (h : jy a a') : jy (a.map f) (a'.map f) := by
  intro r hr
  obtain ⟨x, hx, hf⟩ := Option.map_eq_some_iff.1 hr
  exact Option.map_eq_some_iff.2 ⟨x, h x hx, hf⟩
theorem Jh {α : Type} {g : Nat → Option α} (h : ∀ k, jy (g k) (g (k + 1))) (k : Nat) : ∀ j, jy (g k) (g (k + j))
  | 0 => jy.refl _
  | j + 1 => (Jh h k j).trans (h (k + j))
theorem lV {α : Type} {g : Nat → Option α} (h : ∀ k, jy (g k) (g (k + 1))) {k k' : Nat} (hk : k ≤ k') {r : α} (hr : g k = some r) : g k' = some r := by
  have := Jh h k (k' - k) r hr
  rwa [Nat.add_sub_cancel' hk] at this
def yR {α : Type} (R : α → List Value → Prop) (size : Nat) (ps : List α) (cs : List Value) : Prop :=
  cs.length = ps.length * size ∧ ∀ j p, ps[j]? = some p → R p ((cs.drop (j * size)).take size)
theorem yR.none {α : Type} (R : α → List Value → Prop) (size : Nat) : yR R size [] [] := ⟨by simp, fun j p h => by simp at h⟩
theorem yR.snoc {α : Type} {R : α → List Value → Prop} {size : Nat} {ps : List α} {cs c : List Value} {p : α} (h : yR R size ps cs) (hp : R p c) (hc : c.length = size) : yR R size (ps ++ [p]) (cs ++ c) := by
  refine ⟨by rw [List.length_append, h.1, hc, List.length_append, List.length_singleton, Nat.add_mul, Nat.one_mul], fun j q hq => ?_⟩
  rcases Nat.lt_or_ge j ps.length with hj | hj
  · rw [List.getElem?_append_left hj] at hq
    have h1 : j * size + size ≤ cs.length := by rw [h.1, ← Nat.succ_mul]; exact Nat.mul_le_mul_right _ hj
    have h2 := h.2 j q hq
    rw [List.drop_append_of_le_length (by omega), List.take_append_of_le_length (by rw [List.length_drop]; omega)]
    exact h2
  · have hj' : j = ps.length := by
      have := (List.getElem?_eq_some_iff.1 hq).1
      rw [List.length_append, List.length_singleton] at this
      omega
    subst hj'
    have hq' : p = q := by simpa using hq
    subst hq'
    rw [← h.1, List.drop_left, ← hc, List.take_length]
    exact hp
theorem yR.QW {α : Type} {R R' : α → List Value → Prop} {size : Nat} {ps : List α} {cs : List Value} (h : yR R size ps cs) (hR : ∀ p c, R p c → R' p c) : yR R' size ps cs := ⟨h.1, fun j p hj => hR _ _ (h.2 j p hj)⟩
def Zz {α : Type} (R : α → List Value → Prop) (size : Nat) (w : World) (A : Option Addr) (n : Nat) (ps : List α) : Prop :=
  ps.length = n ∧ n ≤ 9223372036854775807 ∧ (0 < n → ∃ ad, A = some ad ∧ ∀ j p, ps[j]? = some p → ∃ c, c.length = size ∧ R p c ∧ ∀ i u, c[i]? = some u → w.cell? (ad.add (j * size + i)) = some u)
theorem Zz.zy9 {α : Type} {R : α → List Value → Prop} {size : Nat} {w : World} {A : Option Addr} {n : Nat} {ps : List α} (h : Zz R size w A n ps) (d : α) (i : Int) (h0 : 0 ≤ i) (h1 : i < n) :
    ∃ ad c, A = some ad ∧ c.length = size ∧ R (ps.getD i.toNat d) c ∧ ∀ j u, c[j]? = some u → w.cell? (ad.add (i.toNat * size + j)) = some u := by
  obtain ⟨ad, e, hc⟩ := h.2.2 (by omega)
  have hl : i.toNat < ps.length := by have := h.1; omega
  obtain ⟨c, hs, hr, hcell⟩ := hc i.toNat _ (List.getElem?_eq_getElem hl)
  refine ⟨ad, c, e, hs, ?_, hcell⟩
  rw [List.getD_eq_getElem?_getD, List.getElem?_eq_getElem hl]
  exact hr
theorem Zz.QW {α : Type} {R R' : α → List Value → Prop} {size : Nat} {w w1 : World} {A : Option Addr} {n : Nat} {ps : List α} (h : Zz R size w A n ps) (hb : Below w.heap.size w w1) (hR : ∀ p c, R p c → R' p c) : Zz R' size w1 A n ps :=
  ⟨h.1, h.2.1, fun hn => by
    obtain ⟨ad, e, hc⟩ := h.2.2 hn
    refine ⟨ad, e, fun j p hj => ?_⟩
    obtain ⟨c, hs, hr, hcell⟩ := hc j p hj
    exact ⟨c, hs, hR _ _ hr, fun i u hu => X9 hb (hcell i u hu)⟩⟩
theorem bU {α : Type} {R : α → List Value → Prop} {w : World} {base n size : Nat} {e : TypeId} {v : Value} {ps : List α} {cs : List Value} (h : w.ownsRow base e size v n cs) (hR : yR R size ps cs) (hn : ps.length = n) :
    ∃ A c, v = .slice A n c ∧ Zz R size w A n ps := by
  rcases Nat.eq_zero_or_pos n with h0 | h0
  · rcases h.2 with ⟨rfl, rfl⟩ | ⟨g, cap, cur, rfl, _⟩
    · exact ⟨none, 0, rfl, hn, by omega, fun hp => absurd hp (by omega)⟩
    · exact ⟨_, cap, rfl, hn, by omega, fun hp => absurd hp (by omega)⟩
  · obtain ⟨g, cap, rfl, _, _⟩ := h.form h0
    have hm : n ≤ 9223372036854775807 := by
      rcases h.2 with ⟨_, h1⟩ | ⟨g', cap', cur, he, _, _, h1, h2, _⟩
      · omega
      · simp only [maxLen] at h2
        omega
    refine ⟨_, cap, rfl, hn, hm, fun _ => ⟨_, rfl, fun j p hj => ⟨(cs.drop (j * size)).take size, ?_, hR.2 j p hj, fun i u hu => ?_⟩⟩⟩
    · have hjl := (List.getElem?_eq_some_iff.1 hj).1
      have h1 : j * size + size ≤ cs.length := by rw [hR.1, ← Nat.succ_mul]; exact Nat.mul_le_mul_right _ hjl
      rw [List.length_take, List.length_drop]
      omega
    · refine h.cells (g := g) rfl _ u ?_
      rw [List.getElem?_take] at hu
      split at hu
      · rw [List.getElem?_drop] at hu
        exact hu
      · cases hu
theorem zB (ad : Addr) (m j : Nat) (hj : 0 < j) : ad.add (m + j) = ⟨(ad.add m).block, (ad.add m).off + j, none⟩ := by
  unfold Addr.add
  by_cases hm : m = 0
  · subst hm
    simp [Nat.ne_of_gt hj]
  · simp [hm, Nat.add_assoc]
section
variable {P : Program} {ops : Array Oper} {rest : List Oper} {o : Oper} {a : Act} {Q : Exit → Act → World → Prop}
theorem X3 {w0 W : World} (base : Nat) (hgd : o.guard = none) (s x : Operand) (t e : TypeId) (z : Value) (size bytes : Nat)
    (ho : o.op = .call { callee := .builtin .append, args := #[s, x], argTypes := #[t, t] })
    (ht : P.underlying t = some (.slice e)) (hinfo : (P.info? e).map (fun i => (i.zero, i.size, i.bytes)) = some (some z, size, bytes)) (hz : z.cells.size = size) (hs0 : 0 < size) (hb0 : 0 < bytes)
    (v : Value) (n : Nat) (xs ys : List Value) (hs : a.eval s = v) (hx : a.eval x = .slice (some ⟨W.heap.size, 0, none⟩) 1 1) (hys : ys.length = size) (h1 : ∀ u ∈ ys, u.oneCell' = true)
    (HO : W.ownsRow base e size v n xs) (HB : Below base w0 W) (hbase : base ≤ W.heap.size) (hl : (n + 1) * bytes ≤ 140737488355328)
    (h : ∀ v1 w1, w1.ownsRow base e size v1 (n + 1) (xs ++ ys) → Below base w0 w1 → W.grownBy w1 v.ownBlock → (v1.ownBlock = v.ownBlock ∨ ∃ b, v1.ownBlock = some b ∧ W.heap.size ≤ b) → wpList P ops Q rest (a.put o.dst v1) w1) :
    wpList P ops Q (o :: rest) a (W.alloc (.cells ys.toArray e)) := by
  obtain ⟨i0, hi, hzz⟩ := Option.map_eq_some_iff.1 hinfo
  simp only [Prod.mk.injEq] at hzz
  obtain ⟨hz0, hz1, hz2⟩ := hzz
  have hlen : n + 1 ≤ 140737488355328 := Nat.le_trans (Nat.le_mul_of_pos_right _ hb0) hl
  refine wpList_append_own_at (W.alloc (.cells ys.toArray e)) hgd s x t ho base e i0 z size bytes ht hi hz0 hz1 hz2 hz hs0 v n xs hs (HO.alloc _) ⟨W.heap.size, 0, none⟩ 1 1 ys hx (by rw [hys]; simp)
    (by simpa using World.news_of_block (cs := ys.toArray) (t := e) (fr := (0, 0)) (heap_alloc_new W (.cells ys.toArray e))) h1 (by simp only [maxLen]; omega) hl (by simp; omega) ?_
  intro v1 w1 hown hg _ hat
  refine h v1 w1 hown ((HB.alloc hbase _).grown hg (by simp; omega) (Xe HO)) (World.grownBy.trans (World.grownBy_alloc W _ _) hg) ?_
  rcases hat with hat | hat
  · exact .inl hat
  · exact .inr ⟨_, hat, by simp⟩
end
theorem own_ne {w : World} {base : Nat} {e t : TypeId} {size n g : Nat} {v : Value} {xs : List Value} {cs : Array Value} (h : w.ownsRow base e size v n xs) (hg : w.heap[g]? = some (.cells cs t (0, 0))) (hne : e ≠ t) : some g ≠ v.ownBlock := by
  rcases h.2 with ⟨rfl, _⟩ | ⟨g', cap, cur, rfl, _, hh, _⟩
  · simp [Value.ownBlock]
  · intro he
    have : g = g' := by simpa [Value.ownBlock] using he
    subst this
    rw [hg] at hh
    injection hh with hh
    injection hh with _ ht
    exact hne ht.symm
theorem zxf {w : World} {g : Nat} {t : TypeId} {cs : Array Value} (h : w.heap[g]? = some (.cells cs t (0, 0))) (i : Nat) (u : Value) : (w.setCell ⟨g, i, none⟩ u).heap[g]? = some (.cells (cs.setIfInBounds i u) t (0, 0)) := by
  simp [World.setCell, Array.getElem?_modify, h]
theorem Yr {w : World} {g : Nat} {t : TypeId} {cs : Array Value} (h : w.heap[g]? = some (.cells cs t (0, 0))) {p : Addr} (hp : g ≠ p.block) (u : Value) : (w.setCell p u).heap[g]? = some (.cells cs t (0, 0)) := (Below.heap_setCell w p u g hp).trans h
theorem Qa {w : World} {g : Nat} {o : Obj} (h : w.heap[g]? = some o) : g < w.heap.size := (Array.getElem?_eq_some_iff.1 h).1
theorem zZ {w : World} {g : Nat} {t : TypeId} {cs : Array Value} (h : w.heap[g]? = some (.cells cs t (0, 0))) (i : Nat) : w.cell? ⟨g, i, none⟩ = cs[i]? := cell_of_row w g i cs t (0, 0) h
theorem zV {w : World} {g : Nat} {t : TypeId} {cs : Array Value} (h : w.heap[g]? = some (.cells cs t (0, 0))) (i : Nat) : w.frozen? ⟨g, i, none⟩ = false := by simp [World.frozen?, h]
theorem wZ {w w1 : World} {g : Nat} {o : Obj} {row : Option Nat} (h : w.heap[g]? = some o) (hg : w.grownBy w1 row) (hne : some g ≠ row) : w1.heap[g]? = some o := (hg.block g (Qa h) hne).trans h
theorem zjd {w : World} {g g' : Nat} {t t' : TypeId} {cs cs' : Array Value} (h : w.heap[g]? = some (.cells cs t (0, 0))) (h' : w.heap[g']? = some (.cells cs' t' (0, 0))) (hne : t ≠ t') : g ≠ g' := by
  rintro rfl
  rw [h] at h'
  injection h' with h'
  injection h' with _ ht
  exact hne ht
def uW (w w' : World) (g : Nat) (row : Option Nat) : Prop := w.heap.size ≤ w'.heap.size ∧ ∀ i, i < w.heap.size → i ≠ g → some i ≠ row → w'.heap[i]? = w.heap[i]?
theorem uW.refl (w : World) (g : Nat) (row : Option Nat) : uW w w g row := ⟨Nat.le_refl _, fun _ _ _ _ => rfl⟩
theorem uW.of_below {w w1 : World} (h : Below w.heap.size w w1) (g : Nat) (row : Option Nat) : uW w w1 g row := ⟨h.size, fun i hi _ _ => h.block i hi⟩
theorem uW.trans {w w1 w2 : World} {g : Nat} {row zzl : Option Nat} (h : uW w w1 g row) (k : uW w1 w2 g zzl) (hr : zzl = row ∨ ∃ b, zzl = some b ∧ w.heap.size ≤ b) : uW w w2 g row :=
  ⟨Nat.le_trans h.1 k.1, fun i hi hg hn => by
    refine (k.2 i (Nat.lt_of_lt_of_le hi h.1) hg ?_).trans (h.2 i hi hg hn)
    rcases hr with rfl | ⟨b, rfl, hb⟩
    · exact hn
    · intro e
      injection e with e
      omega⟩
theorem uW.blk {w w1 : World} {g g' : Nat} {row : Option Nat} {o : Obj} (h : uW w w1 g row) (hb : w.heap[g']? = some o) (hg : g' ≠ g) (hr : some g' ≠ row) : w1.heap[g']? = some o := (h.2 g' (Qa hb) hg hr).trans hb
theorem uW.own {w w1 : World} {g : Nat} {row : Option Nat} {base : Nat} {e : TypeId} {size n : Nat} {v : Value} {xs : List Value} (h : uW w w1 g row) (ho : w.ownsRow base e size v n xs) (hg : v.ownBlock ≠ some g) (hr : v.ownBlock = none ∨ v.ownBlock ≠ row) : w1.ownsRow base e size v n xs := by
  obtain ⟨h1, h2⟩ := ho
  refine ⟨h1, ?_⟩
  rcases h2 with h2 | ⟨b, cap, cur, rfl, hb, hh, r⟩
  · exact .inl h2
  · refine .inr ⟨b, cap, cur, rfl, hb, h.blk hh ?_ ?_, r⟩
    · intro e
      exact hg (by rw [← e]; rfl)
    · rcases hr with hr | hr
      · simp [Value.ownBlock] at hr
      · exact hr
def Ev {α : Type} (g : Nat → Option α) (r : α) : Prop := ∃ K, ∀ k, K ≤ k → g k = some r
theorem Ev.of {α : Type} {g : Nat → Option α} {r : α} (hg : ∀ k, jy (g k) (g (k + 1))) {k : Nat} (h : g k = some r) : Ev g r := ⟨k, fun _ hk => lV hg hk h⟩
theorem Ev.now {α : Type} (r : α) : Ev (fun _ => some r) r := ⟨0, fun _ _ => rfl⟩
theorem Ev.rounds {α : Type} {g : Nat → Option α} {r : α} (h : Ev g r) : ∃ k, g k = some r := by
  obtain ⟨K, h⟩ := h
  exact ⟨K, h K (Nat.le_refl _)⟩
theorem Ev.bind {α β : Type} {g : Nat → Option α} {f : Nat → α → Option β} {a : α} {r : β} (h : Ev g a) (k : Ev (fun n => f n a) r) : Ev (fun n => (g n).bind (f n)) r := by
  obtain ⟨K, h⟩ := h
  obtain ⟨K', k⟩ := k
  refine ⟨max K K', fun n hn => ?_⟩
  have h1 := h n (by omega)
  have h2 := k n (by omega)
  simp only [h1, Option.bind_some]
  exact h2
theorem Ev.step {α : Type} {g f : Nat → Option α} {r : α} (h : ∀ k, g (k + 1) = f k) (k : Ev f r) : Ev g r := by
  obtain ⟨K, k⟩ := k
  refine ⟨K + 1, fun n hn => ?_⟩
  obtain ⟨m, rfl⟩ : ∃ m, n = m + 1 := ⟨n - 1, by omega⟩
  rw [h]
  exact k m (by omega)
theorem Ev.congr {α : Type} {g f : Nat → Option α} {r : α} (h : ∀ k, g k = f k) (k : Ev f r) : Ev g r := by
  obtain ⟨K, k⟩ := k
  exact ⟨K, fun n hn => (h n).trans (k n hn)⟩
section
variable {P : Program} {ops : Array Oper} {o : Oper} {a : Act} {Q : Exit → Act → World → Prop} {K : Act → World → Prop}
theorem Jf {w0 W : World} (base : Nat) (hw : Region.wanted o (yielded ops a.tmps) = true) (s x : Operand) (t e : TypeId) (z : Value) (size bytes : Nat)
    (ho : o.op = .call { callee := .builtin .append, args := #[s, x], argTypes := #[t, t] })
    (ht : P.underlying t = some (.slice e)) (hinfo : (P.info? e).map (fun i => (i.zero, i.size, i.bytes)) = some (some z, size, bytes)) (hz : z.cells.size = size) (hs0 : 0 < size) (hb0 : 0 < bytes)
    (v : Value) (n : Nat) (xs ys : List Value) (hs : a.eval s = v) (hx : a.eval x = .slice (some ⟨W.heap.size, 0, none⟩) 1 1) (hys : ys.length = size) (h1 : ∀ u ∈ ys, u.oneCell' = true)
    (HO : W.ownsRow base e size v n xs) (HB : Below base w0 W) (hbase : base ≤ W.heap.size) (hl : (n + 1) * bytes ≤ 140737488355328)
    (h : ∀ v1 w1, w1.ownsRow base e size v1 (n + 1) (xs ++ ys) → Below base w0 w1 → W.grownBy w1 v.ownBlock → (v1.ownBlock = v.ownBlock ∨ ∃ b, v1.ownBlock = some b ∧ W.heap.size ≤ b) → K (a.put o.dst v1) w1) :
    if Region.wanted o (yielded ops a.tmps) = true then Oper.wp P o a (W.alloc (.cells ys.toArray e)) K Q else K (a.put o.dst undef) (W.alloc (.cells ys.toArray e)) := by
  obtain ⟨i0, hi, hzz⟩ := Option.map_eq_some_iff.1 hinfo
  simp only [Prod.mk.injEq] at hzz
  obtain ⟨hz0, hz1, hz2⟩ := hzz
  have hlen : n + 1 ≤ 140737488355328 := Nat.le_trans (Nat.le_mul_of_pos_right _ hb0) hl
  rw [if_pos hw]
  obtain ⟨v1, w1, hr, hown, hg, _, hat⟩ := run_append_own_at (P := P) (W.alloc (.cells ys.toArray e)) base t o.type e i0 z size bytes ht hi hz0 hz1 hz2 hz hs0 v n xs (HO.alloc _) ⟨W.heap.size, 0, none⟩ 1 1 ys (by rw [hys]; simp)
    (by simpa using World.news_of_block (cs := ys.toArray) (t := e) (fr := (0, 0)) (heap_alloc_new W (.cells ys.toArray e))) h1 (by simp only [maxLen]; omega) hl (by simp; omega)
  unfold Oper.wp execOp
  simp only [ho, resolve, invoke, builtin, Sem.run_bind, Sem.run_pure, Result.andThen_ok, List.map_toArray, List.map_cons, List.map_nil, hs, hx, hr]
  refine h v1 w1 hown ((HB.alloc hbase _).grown hg (by simp; omega) (Xe HO)) (World.grownBy.trans (World.grownBy_alloc W _ _) hg) ?_
  rcases hat with hat | hat
  · exact .inl hat
  · exact .inr ⟨_, hat, by simp⟩
end
theorem fH {w : World} {base base' : Nat} {e : TypeId} {size n : Nat} {v : Value} {xs : List Value} (h : w.ownsRow base e size v n xs) (hb : base' ≤ base) : w.ownsRow base' e size v n xs := by
  obtain ⟨h1, h2⟩ := h
  refine ⟨h1, ?_⟩
  rcases h2 with h2 | ⟨g, cap, cur, rfl, hg, r⟩
  · exact .inl h2
  · exact .inr ⟨g, cap, cur, rfl, Nat.le_trans hb hg, r⟩
section
variable {α : Type} {enc : α → Value} {d : α}
def encs (enc : α → Value) (xs : List α) : List Value := xs.map enc
def Yh (d : α) (xs : List α) (i : Int) : α := xs.getD i.toNat d
def vR (enc : α → Value) (d : α) (w : World) (A : Option Addr) (n : Nat) (xs : List α) : Prop :=
  xs.length = n ∧ n ≤ 9223372036854775807 ∧ (0 < n → ∃ ad, A = some ad ∧ ∀ j, j < n → w.cell? (ad.add j) = some (enc (xs.getD j d)))
theorem vR.at_ {w : World} {A : Option Addr} {n : Nat} {xs : List α} (h : vR enc d w A n xs) (i : Int) (h0 : 0 ≤ i) (h1 : i < n) : ∃ ad, A = some ad ∧ w.cell? (ad.add i.toNat) = some (enc (Yh d xs i)) := by
  obtain ⟨ad, e, hc⟩ := h.2.2 (by omega)
  exact ⟨ad, e, hc _ (by omega)⟩
theorem vR.below {w w1 : World} {A : Option Addr} {n : Nat} {xs : List α} (h : vR enc d w A n xs) (hb : Below w.heap.size w w1) : vR enc d w1 A n xs :=
  ⟨h.1, h.2.1, fun hn => by
    obtain ⟨ad, e, hc⟩ := h.2.2 hn
    exact ⟨ad, e, fun j hj => X9 hb (hc j hj)⟩⟩
theorem vR.VH {w : World} {A : Option Addr} {n : Nat} {xs : List α} (h : vR enc d w A n xs) (i : Nat) (hi : i ≤ n) : vR enc d w A i (xs.take i) := by
  refine ⟨by rw [List.length_take, h.1]; omega, by have := h.2.1; omega, fun hp => ?_⟩
  obtain ⟨ad, e, hc⟩ := h.2.2 (by omega)
  refine ⟨ad, e, fun j hj => ?_⟩
  rw [hc j (by omega)]
  simp [List.getD_eq_getElem?_getD, hj]
end
section
variable {α : Type} {P : Program} {ops : Array Oper} {rest : List Oper} {o : Oper} {a : Act} {Q : Exit → Act → World → Prop}
end
theorem vD {w : World} {g : Nat} {o : Obj} (h : w.heap[g]? = some o) (o' : Obj) : (w.alloc o').heap[g]? = some o := (Below.heap_alloc w o' g (Qa h)).trans h
theorem xZ {w : World} {g : Nat} {o : Obj} (h : w.heap[g]? = some o) : w.drew.heap[g]? = some o := h
theorem ZG {w : World} {g : Nat} {o : Obj} (h : w.heap[g]? = some o) (n : Nat) : (w.drewN n).heap[g]? = some o := h
theorem zN {w w1 : World} {g : Nat} {o : Obj} (h : w.heap[g]? = some o) (hb : Below w.heap.size w w1) : w1.heap[g]? = some o := (hb.block g (Qa h)).trans h
theorem wY (w : World) (o : Obj) : (w.alloc o).heap[w.heap.size]? = some o := heap_alloc_new w o
section
variable {P : Program}
end
theorem zje {w : World} {base n m c size : Nat} {e : TypeId} {A : Option Addr} {xs : List Value} (h : w.ownsRow base e size (.slice A m c) n xs) : m ≤ c := by
  rcases h.2 with ⟨he, _⟩ | ⟨g, cap, cur, he, _, _, hnc, _⟩
  · injection he with _ h2 h3
    omega
  · injection he with _ h2 h3
    omega
def vv {α : Type} (R : α → List Value → Prop) (e : TypeId) (size : Nat) (w : World) (base : Nat) (v : Value) (ps : List α) : Prop :=
  ∃ inner, w.ownsRow base e size v ps.length inner ∧ yR R size ps inner
section
variable {α : Type} {R R' : α → List Value → Prop} {e : TypeId} {size : Nat} {w w1 : World} {base : Nat} {v : Value} {ps : List α}
theorem vv.none_ (R : α → List Value → Prop) (e : TypeId) (size : Nat) (w : World) (base : Nat) : vv R e size w base (.slice none 0 0) [] := ⟨[], zxe _ _ _ _, yR.none _ _⟩
theorem vv.QW (h : vv R e size w base v ps) (hR : ∀ p c, R p c → R' p c) : vv R' e size w base v ps := by
  obtain ⟨inner, ho, hr⟩ := h
  exact ⟨inner, ho, hr.QW hR⟩
theorem vv.below (h : vv R e size w base v ps) (hb : Below w.heap.size w w1) : vv R e size w1 base v ps := by
  obtain ⟨inner, ho, hr⟩ := h
  exact ⟨inner, dh ho hb, hr⟩
theorem vv.other (h : vv R e size w base v ps) {row : Option Nat} (hg : w.grownBy w1 row) (hne : v.ownBlock = none ∨ v.ownBlock ≠ row) : vv R e size w1 base v ps := by
  obtain ⟨inner, ho, hr⟩ := h
  exact ⟨inner, lJ ho hg hne, hr⟩
theorem vv.keep (h : vv R e size w base v ps) {g : Nat} {t : TypeId} {cells : Array Value} (hb : w.heap[g]? = some (.cells cells t (0, 0))) (ht : e ≠ t) (hk : uW w w1 g none) : vv R e size w1 base v ps := by
  obtain ⟨inner, ho, hr⟩ := h
  exact ⟨inner, hk.own ho (Ne.symm (own_ne ho hb ht)) (by cases v.ownBlock <;> simp), hr⟩
theorem vv.reads (h : vv R e size w base v ps) : ∃ A c, v = .slice A ps.length c ∧ ps.length ≤ c ∧ Zz R size w A ps.length ps := by
  obtain ⟨inner, ho, hr⟩ := h
  obtain ⟨A, c, rfl, hrow⟩ := bU ho hr rfl
  exact ⟨A, c, rfl, zje ho, hrow⟩
theorem vv.zzm (h : vv R e size w base v ps) {g : Nat} {t : TypeId} {cells : Array Value} (hb : w.heap[g]? = some (.cells cells t (0, 0))) (ht : e ≠ t) : some g ≠ v.ownBlock := by
  obtain ⟨inner, ho, hr⟩ := h
  exact own_ne ho hb ht
theorem vv.lit (W : World) (base : Nat) {inner : List Value} (hr : yR R size ps inner) (hb : base ≤ W.heap.size) (hm : ps.length ≤ 9223372036854775807) :
    vv R e size (W.alloc (.cells inner.toArray e)) base (.slice (some ⟨W.heap.size, 0, none⟩) ps.length ps.length) ps := by
  have h := World.ownsRow_lit (base := base) (e := e) (size := size) W inner.toArray ps.length hb (by simpa [maxLen] using hm) (by simpa using hr.1)
  exact ⟨inner, by simpa using h, hr⟩
end
section
variable {P : Program} {ops : Array Oper} {rest : List Oper} {o : Oper} {a : Act} {Q : Exit → Act → World → Prop} {α : Type} {R : α → List Value → Prop}
theorem vv.append {w0 W : World} (base : Nat) (hgd : o.guard = none) (s x : Operand) (t e : TypeId) (z : Value) (size bytes : Nat)
    (ho : o.op = .call { callee := .builtin .append, args := #[s, x], argTypes := #[t, t] })
    (ht : P.underlying t = some (.slice e)) (hinfo : (P.info? e).map (fun i => (i.zero, i.size, i.bytes)) = some (some z, size, bytes)) (hz : z.cells.size = size) (hs0 : 0 < size) (hb0 : 0 < bytes)
    (v : Value) (ps : List α) (p : α) (cs : List Value) (hs : a.eval s = v) (hx : a.eval x = .slice (some ⟨W.heap.size, 0, none⟩) 1 1) (hp : R p cs) (hcs : cs.length = size) (h1 : ∀ u ∈ cs, u.oneCell' = true)
    (HO : vv R e size W base v ps) (HB : Below base w0 W) (hbase : base ≤ W.heap.size) (hl : (ps.length + 1) * bytes ≤ 140737488355328)
    (h : ∀ v1 w1, vv R e size w1 base v1 (ps ++ [p]) → Below base w0 w1 → W.grownBy w1 v.ownBlock → (v1.ownBlock = v.ownBlock ∨ ∃ b, v1.ownBlock = some b ∧ W.heap.size ≤ b) → wpList P ops Q rest (a.put o.dst v1) w1) :
    wpList P ops Q (o :: rest) a (W.alloc (.cells cs.toArray e)) := by
  obtain ⟨inner, hown, hr⟩ := HO
  refine X3 base hgd s x t e z size bytes ho ht hinfo hz hs0 hb0 v ps.length inner cs hs hx hcs h1 hown HB hbase hl ?_
  intro v1 w1 hown1 hb1 hg1 JC
  exact h v1 w1 ⟨inner ++ cs, by rw [List.length_append, List.length_singleton]; exact hown1, hr.snoc hp hcs⟩ hb1 hg1 JC
end
section
variable {P : Program} {ops : Array Oper} {o : Oper} {a : Act} {Q : Exit → Act → World → Prop} {K : Act → World → Prop} {α : Type} {R : α → List Value → Prop}
end
section
variable {α : Type} {P : Program}
end
section
variable {P : Program} {ops : Array Oper} {rest : List Oper} {o : Oper} {a : Act} {Q : Exit → Act → World → Prop}
end
structure Kd (α : Type) where
  sz : Nat
  E : List Nat
  K : World → α → List Value → Prop
  M : World → Nat → (Nat → Prop) → α → List Value → Prop
  kF : ∀ {w x cs}, K w x cs → cs.length = sz
  wN : ∀ {w x cs}, K w x cs → ∀ u ∈ cs, u.oneCell' = true
  jV : ∀ {w w1 : World} {x cs}, Below w.heap.size w w1 → K w x cs → K w1 x cs
  vN : ∀ {w base ok x cs}, M w base ok x cs → K w x cs
  vk : ∀ {w base ok ok' x cs}, (∀ k, ok k → ok' k) → M w base ok x cs → M w base ok' x cs
  uf : ∀ {w : World} {base ok x cs}, M w base ok x cs → M w base (fun k => ok k ∧ base ≤ k ∧ k < w.heap.size ∧ ∃ q, q ∈ E ∧ ∃ cells, w.heap[k]? = some (.cells cells q (0, 0))) x cs
  jW : ∀ {w w1 : World} {base ok x cs}, (∀ k, ok k → w1.heap[k]? = w.heap[k]?) → M w base ok x cs → M w1 base ok x cs
  jK : ∀ {w base base' ok x cs}, base' ≤ base → M w base ok x cs → M w base' ok x cs
theorem zzn {w w1 : World} {base : Nat} {e : TypeId} {size n : Nat} {v : Value} {xs : List Value} (h : w.ownsRow base e size v n xs) (hm : ∀ k, v.ownBlock = some k → w1.heap[k]? = w.heap[k]?) : w1.ownsRow base e size v n xs := by
  obtain ⟨h1, h2⟩ := h
  refine ⟨h1, ?_⟩
  rcases h2 with h2 | ⟨g, cap, cur, rfl, hg, hh, r⟩
  · exact .inl h2
  · exact .inr ⟨g, cap, cur, rfl, hg, (hm g (by simp [Value.ownBlock])).trans hh, r⟩
theorem QD {w : World} {base : Nat} {e : TypeId} {size n : Nat} {v : Value} {xs : List Value} (h : w.ownsRow base e size v n xs) (k : Nat) (hk : v.ownBlock = some k) : ∃ cells, w.heap[k]? = some (.cells cells e (0, 0)) := by
  rcases h.2 with ⟨rfl, _⟩ | ⟨g, cap, cur, rfl, hg, hh, r⟩
  · simp [Value.ownBlock] at hk
  · have : g = k := by simpa [Value.ownBlock] using hk
    subst this
    exact ⟨cur, hh⟩
namespace Kd
def C {α : Type} (d : Kd α) (w : World) (A : Option Addr) (n : Nat) (xs : List α) : Prop := Zz (d.K w) d.sz w A n xs
def R {α : Type} (d : Kd α) (e : Nat) (w : World) (base : Nat) (ok : Nat → Prop) (v : Value) (xs : List α) : Prop :=
  (∀ k, v.ownBlock = some k → ok k) ∧ vv (d.M w base (fun k => ok k ∧ some k ≠ v.ownBlock)) e d.sz w base v xs
section
variable {α : Type} {d : Kd α} {e : Nat} {w w1 : World} {base : Nat} {ok ok' : Nat → Prop} {v : Value} {xs : List α}
theorem zh {A : Option Addr} {n : Nat} (h : d.C w A n xs) (hb : Below w.heap.size w w1) : d.C w1 A n xs := Zz.QW h hb (fun _ _ hp => d.jV hb hp)
theorem kG (d : Kd α) (e : Nat) (w : World) (base : Nat) (ok : Nat → Prop) : d.R e w base ok (.slice none 0 0) [] := ⟨fun k hk => by simp [Value.ownBlock] at hk, vv.none_ _ _ _ _ _⟩
theorem kC (h : d.R e w base ok v xs) (hok : ∀ k, ok k → ok' k) : d.R e w base ok' v xs := ⟨fun k hk => hok k (h.1 k hk), h.2.QW (fun _ _ hp => d.vk (fun k hk => ⟨hok k hk.1, hk.2⟩) hp)⟩
theorem ZO (h : d.R e w base ok v xs) : d.R e w base (fun k => ok k ∧ base ≤ k ∧ k < w.heap.size ∧ ∃ q, q ∈ e :: d.E ∧ ∃ cells, w.heap[k]? = some (.cells cells q (0, 0))) v xs := by
  obtain ⟨h0, inner, ho, hr⟩ := h
  refine ⟨fun k hk => ?_, inner, ho, hr.QW (fun _ _ hp => d.vk (fun k hk => ?_) (d.uf hp))⟩
  · obtain ⟨cells, hc⟩ := QD ho k hk
    exact ⟨h0 k hk, Xe ho k hk, lX ho k hk, e, List.mem_cons_self, cells, hc⟩
  · obtain ⟨⟨h1, h2⟩, h3, h4, q, hq, hc⟩ := hk
    exact ⟨⟨h1, h3, h4, q, List.mem_cons_of_mem _ hq, hc⟩, h2⟩
theorem J9 (h : d.R e w base ok v xs) (hm : ∀ k, ok k → w1.heap[k]? = w.heap[k]?) : d.R e w1 base ok v xs := by
  obtain ⟨h0, inner, ho, hr⟩ := h
  exact ⟨h0, inner, zzn ho (fun k hk => hm k (h0 k hk)), hr.QW (fun _ _ hp => d.jW (fun k hk => hm k hk.1) hp)⟩
theorem vE {base' : Nat} (h : d.R e w base ok v xs) (hb : base' ≤ base) : d.R e w base' ok v xs := by
  obtain ⟨h0, inner, ho, hr⟩ := h
  exact ⟨h0, inner, fH ho hb, hr.QW (fun _ _ hp => d.jK hb hp)⟩
theorem UJ (h : d.R e w base ok v xs) (hm : ∀ k, ok k → k < w.heap.size → w1.heap[k]? = w.heap[k]?) : d.R e w1 base ok v xs :=
  kC (J9 (ZO h) (fun k hk => hm k hk.1 hk.2.2.1)) (fun _ hk => hk.1)
theorem lK {x : α} {cs : List Value} (h : d.M w base ok x cs) (hm : ∀ k, ok k → k < w.heap.size → w1.heap[k]? = w.heap[k]?) : d.M w1 base ok x cs :=
  d.vk (fun _ hk => hk.1) (d.jW (fun k hk => hm k hk.1 hk.2.2.1) (d.uf h))
theorem yY (h : d.R e w base ok v xs) (hb : Below w.heap.size w w1) : d.R e w1 base ok v xs := UJ h (fun k _ hk => hb.block k hk)
theorem zxg {x : α} {cs : List Value} (h : d.M w base ok x cs) (hb : Below w.heap.size w w1) : d.M w1 base ok x cs := lK h (fun k _ hk => hb.block k hk)
theorem UN (h : d.R e w base ok v xs) {row : Option Nat} (hg : w.grownBy w1 row) (hok : ∀ k, ok k → some k ≠ row) : d.R e w1 base ok v xs := UJ h (fun k ho hk => hg.block k hk (hok k ho))
theorem ZP (h : d.R e w base ok v xs) {p : Addr} (hok : ∀ k, ok k → k ≠ p.block) (u : Value) : d.R e (w.setCell p u) base ok v xs := UJ h (fun k ho _ => Below.heap_setCell w p u k (hok k ho))
theorem Ww (h : d.R e w base ok v xs) {g t : Nat} {cells : Array Value} (hb : w.heap[g]? = some (.cells cells t (0, 0))) (ht : ∀ q, q ∈ e :: d.E → q ≠ t) : d.R e w base (fun k => ok k ∧ k ≠ g) v xs :=
  kC (ZO h) (fun k hk => ⟨hk.1, by
    obtain ⟨_, _, _, q, hq, cells', hc⟩ := hk
    rintro rfl
    rw [hc] at hb
    injection hb with hb
    injection hb with _ hb
    exact ht q hq hb⟩)
theorem ZR (h : d.R e w base ok v xs) {g t : Nat} {cells : Array Value} (hb : w.heap[g]? = some (.cells cells t (0, 0))) (ht : ∀ q, q ∈ e :: d.E → q ≠ t) (j : Nat) (u : Value) : d.R e (w.setCell ⟨g, j, none⟩ u) base ok v xs :=
  kC (ZP (p := ⟨g, j, none⟩) (Ww h hb ht) (fun _ hk => hk.2) u) (fun _ hk => hk.1)
theorem WZ (h : d.R e w base ok v xs) : ∃ A c, v = .slice A xs.length c ∧ xs.length ≤ c ∧ d.C w A xs.length xs := by
  obtain ⟨A, c, he, hl, hr⟩ := vv.reads h.2
  exact ⟨A, c, he, hl, hr.QW (Below.refl _ _) (fun _ _ hp => d.vN hp)⟩
theorem xw (h : d.R e w base ok v xs) : ∃ A c, v = .slice A xs.length c := by
  obtain ⟨A, c, he, _⟩ := WZ h
  exact ⟨A, c, he⟩
theorem UO (h : d.R e w base ok v xs) : ∃ inner, w.ownsRow base e d.sz v xs.length inner := by
  obtain ⟨_, inner, ho, _⟩ := h
  exact ⟨inner, ho⟩
theorem UK (h : d.R e w base ok v xs) {g t : Nat} {cells : Array Value} (hb : w.heap[g]? = some (.cells cells t (0, 0))) (ht : e ≠ t) : some g ≠ v.ownBlock := vv.zzm h.2 hb ht
end
def scalar {α : Type} (enc : α → Value) (h1 : ∀ x, (enc x).oneCell' = true) : Kd α where
  sz := 1
  E := []
  K := fun _ x cs => cs = [enc x]
  M := fun _ _ _ x cs => cs = [enc x]
  kF := fun h => by rw [h]; rfl
  wN := fun h u hu => by
    rw [h] at hu
    rw [List.mem_singleton.1 hu]
    exact h1 _
  jV := fun _ h => h
  vN := fun h => h
  vk := fun _ h => h
  uf := fun h => h
  jW := fun _ h => h
  jK := fun _ h => h
def int (k : IntKind) : Kd Int := scalar (Value.int k) (fun _ => rfl)
def bool : Kd Bool := scalar Value.bool (fun _ => rfl)
def string : Kd ByteArray := scalar Value.string (fun _ => rfl)
def slice {α : Type} (e : Nat) (d : Kd α) : Kd (List α) where
  sz := 1
  E := e :: d.E
  K := fun w xs cs => ∃ A c, cs = [.slice A xs.length c] ∧ xs.length ≤ c ∧ d.C w A xs.length xs
  M := fun w base ok xs cs => ∃ v, cs = [v] ∧ d.R e w base ok v xs
  kF := by
    rintro w x cs ⟨A, c, rfl, _⟩
    rfl
  wN := by
    rintro w x cs ⟨A, c, rfl, _⟩ u hu
    rw [List.mem_singleton.1 hu]
    rfl
  jV := by
    rintro w w1 x cs hb ⟨A, c, rfl, hl, hr⟩
    exact ⟨A, c, rfl, hl, zh hr hb⟩
  vN := by
    rintro w base ok x cs ⟨v, rfl, h⟩
    obtain ⟨A, c, rfl, hl, hr⟩ := WZ h
    exact ⟨A, c, rfl, hl, hr⟩
  vk := by
    rintro w base ok ok' x cs hok ⟨v, rfl, h⟩
    exact ⟨v, rfl, kC h hok⟩
  uf := by
    rintro w base ok x cs ⟨v, rfl, h⟩
    exact ⟨v, rfl, ZO h⟩
  jW := by
    rintro w w1 base ok x cs hm ⟨v, rfl, h⟩
    exact ⟨v, rfl, J9 h hm⟩
  jK := by
    rintro w base base' ok x cs hb ⟨v, rfl, h⟩
    exact ⟨v, rfl, vE h hb⟩
def pair {α β : Type} (a : Kd α) (b : Kd β) : Kd (α × β) where
  sz := a.sz + b.sz
  E := a.E ++ b.E
  K := fun w x cs => ∃ c0 c1, cs = c0 ++ c1 ∧ a.K w x.1 c0 ∧ b.K w x.2 c1
  M := fun w base ok x cs => ∃ c0 c1, cs = c0 ++ c1 ∧ a.M w base ok x.1 c0 ∧ b.M w base ok x.2 c1
  kF := by
    rintro w x cs ⟨c0, c1, rfl, h0, h1⟩
    rw [List.length_append, a.kF h0, b.kF h1]
  wN := by
    rintro w x cs ⟨c0, c1, rfl, h0, h1⟩ u hu
    rcases List.mem_append.1 hu with hu | hu
    · exact a.wN h0 u hu
    · exact b.wN h1 u hu
  jV := by
    rintro w w1 x cs hb ⟨c0, c1, rfl, h0, h1⟩
    exact ⟨c0, c1, rfl, a.jV hb h0, b.jV hb h1⟩
  vN := by
    rintro w base ok x cs ⟨c0, c1, rfl, h0, h1⟩
    exact ⟨c0, c1, rfl, a.vN h0, b.vN h1⟩
  vk := by
    rintro w base ok ok' x cs hok ⟨c0, c1, rfl, h0, h1⟩
    exact ⟨c0, c1, rfl, a.vk hok h0, b.vk hok h1⟩
  uf := by
    rintro w base ok x cs ⟨c0, c1, rfl, h0, h1⟩
    refine ⟨c0, c1, rfl, a.vk ?_ (a.uf h0), b.vk ?_ (b.uf h1)⟩
    · rintro k ⟨h2, h3, h4, q, hq, hc⟩
      exact ⟨h2, h3, h4, q, List.mem_append_left _ hq, hc⟩
    · rintro k ⟨h2, h3, h4, q, hq, hc⟩
      exact ⟨h2, h3, h4, q, List.mem_append_right _ hq, hc⟩
  jW := by
    rintro w w1 base ok x cs hm ⟨c0, c1, rfl, h0, h1⟩
    exact ⟨c0, c1, rfl, a.jW hm h0, b.jW hm h1⟩
  jK := by
    rintro w base base' ok x cs hb ⟨c0, c1, rfl, h0, h1⟩
    exact ⟨c0, c1, rfl, a.jK hb h0, b.jK hb h1⟩
def sO {α β : Type} (d : Kd α) (f : β → α) : Kd β where
  sz := d.sz
  E := d.E
  K := fun w x cs => d.K w (f x) cs
  M := fun w base ok x cs => d.M w base ok (f x) cs
  kF := d.kF
  wN := d.wN
  jV := d.jV
  vN := d.vN
  vk := d.vk
  uf := d.uf
  jW := d.jW
  jK := d.jK
def bot {α : Type} (sz : Nat) (E : List Nat) : Kd α where
  sz := sz
  E := E
  K := fun _ _ _ => False
  M := fun _ _ _ _ _ => False
  kF := fun h => h.elim
  wN := fun h => h.elim
  jV := fun _ h => h
  vN := fun h => h
  vk := fun _ h => h
  uf := fun h => h
  jW := fun _ h => h
  jK := fun _ h => h
def upto {α : Type} (F : Kd α → Kd α) (sz : Nat) (E : List Nat) : Nat → Kd α
  | 0 => bot sz E
  | n + 1 => F (upto F sz E n)
theorem UR {α : Type} {d : Kd α} {w : World} {A : Option Addr} {n : Nat} {xs : List α} (h : d.C w A n xs) (z : α) (i : Int) (h0 : 0 ≤ i) (h1 : i < n) :
    ∃ ad c, A = some ad ∧ c.length = d.sz ∧ d.K w (xs.getD i.toNat z) c ∧ ∀ j u, c[j]? = some u → w.cell? (ad.add (i.toNat * d.sz + j)) = some u := Zz.zy9 h z i h0 h1
theorem Kz {α : Type} {d : Kd α} {e base : Nat} {ok Zb : Nat → Prop} {W w1 : World} {v v1 : Value} {xs : List α} {p : α} {inner cs : List Value} (h0 : ∀ k, v.ownBlock = some k → ok k) (hr : yR (d.M W base (fun k => ok k ∧ some k ≠ v.ownBlock)) d.sz xs inner) (hp : d.M W base Zb p cs) (dn : ∀ k, Zb k → ok k ∧ some k ≠ v.ownBlock) (hfresh : ∀ k, W.heap.size ≤ k → ok k)
    (hown : w1.ownsRow base e d.sz v1 (xs.length + 1) (inner ++ cs)) (hg : W.grownBy w1 v.ownBlock) (hat : v1.ownBlock = v.ownBlock ∨ ∃ b, v1.ownBlock = some b ∧ W.heap.size ≤ b) : d.R e w1 base ok v1 (xs ++ [p]) := by
  have hne : ∀ k, some k ≠ v.ownBlock → k < W.heap.size → some k ≠ v1.ownBlock := by
    intro k hk hlt
    rcases hat with hat | ⟨b, hb, hle⟩
    · rw [hat]; exact hk
    · rw [hb]
      intro he
      injection he with he
      omega
  have step : ∀ {q : α} {c : List Value} {o : Nat → Prop}, d.M W base o q c → (∀ k, o k → ok k ∧ some k ≠ v.ownBlock) → d.M w1 base (fun k => ok k ∧ some k ≠ v1.ownBlock) q c := by
    intro q c o hq ho
    have h1 := d.jW (w1 := w1) (fun k hk => hg.block k hk.2.2.1 (ho k hk.1).2) (d.uf hq)
    exact d.vk (fun k hk => ⟨(ho k hk.1).1, hne k (ho k hk.1).2 hk.2.2.1⟩) h1
  refine ⟨fun k hk => ?_, inner ++ cs, by rw [List.length_append, List.length_singleton]; exact hown, ?_⟩
  · rcases hat with hat | ⟨b, hb, hle⟩
    · exact h0 k (hat ▸ hk)
    · rw [hb] at hk
      injection hk with hk
      exact hfresh k (by omega)
  · exact (hr.QW (fun _ _ hq => step hq (fun _ hk => hk))).snoc (step hp dn) (d.kF (d.vN hp))
section
variable {P : Program} {ops : Array Oper} {rest : List Oper} {o : Oper} {a : Act} {Q : Exit → Act → World → Prop} {α : Type}
theorem JD (d : Kd α) {w0 W : World} (base : Nat) (hgd : o.guard = none) (s x : Operand) (t e : TypeId) (z : Value) (bytes : Nat)
    (ho : o.op = .call { callee := .builtin .append, args := #[s, x], argTypes := #[t, t] })
    (ht : P.underlying t = some (.slice e)) (hinfo : (P.info? e).map (fun i => (i.zero, i.size, i.bytes)) = some (some z, d.sz, bytes)) (hz : z.cells.size = d.sz) (hs0 : 0 < d.sz) (hb0 : 0 < bytes)
    (v : Value) (xs : List α) (p : α) (cs : List Value) (ok Zb : Nat → Prop) (hs : a.eval s = v) (hx : a.eval x = .slice (some ⟨W.heap.size, 0, none⟩) 1 1) (hp : d.M W base Zb p cs) (dn : ∀ k, Zb k → ok k ∧ some k ≠ v.ownBlock) (hfresh : ∀ k, W.heap.size ≤ k → ok k)
    (HO : d.R e W base ok v xs) (HB : Below base w0 W) (hbase : base ≤ W.heap.size) (hl : (xs.length + 1) * bytes ≤ 140737488355328)
    (h : ∀ v1 w1, d.R e w1 base ok v1 (xs ++ [p]) → Below base w0 w1 → W.grownBy w1 v.ownBlock → (v1.ownBlock = v.ownBlock ∨ ∃ b, v1.ownBlock = some b ∧ W.heap.size ≤ b) → wpList P ops Q rest (a.put o.dst v1) w1) :
    wpList P ops Q (o :: rest) a (W.alloc (.cells cs.toArray e)) := by
  obtain ⟨h0, inner, hown, hr⟩ := HO
  refine X3 base hgd s x t e z d.sz bytes ho ht hinfo hz hs0 hb0 v xs.length inner cs hs hx (d.kF (d.vN hp)) (d.wN (d.vN hp)) hown HB hbase hl ?_
  intro v1 w1 hown1 hb1 hg1 JC
  exact h v1 w1 (Kz h0 hr hp dn hfresh hown1 hg1 JC) hb1 hg1 JC
end
section
variable {P : Program} {ops : Array Oper} {o : Oper} {a : Act} {Q : Exit → Act → World → Prop} {Kc : Act → World → Prop} {α : Type}
theorem Qz (d : Kd α) {w0 W : World} (base : Nat) (hw : Region.wanted o (yielded ops a.tmps) = true) (s x : Operand) (t e : TypeId) (z : Value) (bytes : Nat)
    (ho : o.op = .call { callee := .builtin .append, args := #[s, x], argTypes := #[t, t] })
    (ht : P.underlying t = some (.slice e)) (hinfo : (P.info? e).map (fun i => (i.zero, i.size, i.bytes)) = some (some z, d.sz, bytes)) (hz : z.cells.size = d.sz) (hs0 : 0 < d.sz) (hb0 : 0 < bytes)
    (v : Value) (xs : List α) (p : α) (cs : List Value) (ok Zb : Nat → Prop) (hs : a.eval s = v) (hx : a.eval x = .slice (some ⟨W.heap.size, 0, none⟩) 1 1) (hp : d.M W base Zb p cs) (dn : ∀ k, Zb k → ok k ∧ some k ≠ v.ownBlock) (hfresh : ∀ k, W.heap.size ≤ k → ok k)
    (HO : d.R e W base ok v xs) (HB : Below base w0 W) (hbase : base ≤ W.heap.size) (hl : (xs.length + 1) * bytes ≤ 140737488355328)
    (h : ∀ v1 w1, d.R e w1 base ok v1 (xs ++ [p]) → Below base w0 w1 → W.grownBy w1 v.ownBlock → (v1.ownBlock = v.ownBlock ∨ ∃ b, v1.ownBlock = some b ∧ W.heap.size ≤ b) → Kc (a.put o.dst v1) w1) :
    if Region.wanted o (yielded ops a.tmps) = true then Oper.wp P o a (W.alloc (.cells cs.toArray e)) Kc Q else Kc (a.put o.dst undef) (W.alloc (.cells cs.toArray e)) := by
  obtain ⟨h0, inner, hown, hr⟩ := HO
  refine Jf base hw s x t e z d.sz bytes ho ht hinfo hz hs0 hb0 v xs.length inner cs hs hx (d.kF (d.vN hp)) (d.wN (d.vN hp)) hown HB hbase hl ?_
  intro v1 w1 hown1 hb1 hg1 JC
  exact h v1 w1 (Kz h0 hr hp dn hfresh hown1 hg1 JC) hb1 hg1 JC
end
theorem Kq {α : Type} {enc : α → Value} {d : α} {h1 : ∀ x, (enc x).oneCell' = true} {w : World} {A : Option Addr} {n : Nat} {xs : List α} (h : (scalar enc h1).C w A n xs) : vR enc d w A n xs := by
  refine ⟨h.1, h.2.1, fun hn => ?_⟩
  obtain ⟨ad, e, hc⟩ := h.2.2 hn
  refine ⟨ad, e, fun j hj => ?_⟩
  have hl : j < xs.length := by have := h.1; omega
  obtain ⟨c, _, hK, hcell⟩ := hc j _ (List.getElem?_eq_getElem hl)
  have hK' : c = [enc xs[j]] := hK
  subst hK'
  have := hcell 0 _ rfl
  simpa [scalar, List.getD_eq_getElem?_getD, List.getElem?_eq_getElem hl] using this
end Kd
namespace Kd
section
variable {α : Type} {F : Kd α → Kd α} {sz : Nat} {E : List Nat} {hs : ∀ n, (upto F sz E n).sz = sz} {hE : ∀ n q, q ∈ (upto F sz E n).E → q ∈ E}
end
end Kd
namespace Kd
end Kd
namespace Kd
section
variable {α β : Type} {d : Kd α} {d' : Kd β} {e e' : Nat} {w w1 W : World} {base b b' : Nat} {ok ok' okv oku : Nat → Prop} {v u : Value} {xs : List α} {ys : List β}
theorem WQ (h : d.R e w base ok v xs) (o : Obj) : d.R e (w.alloc o) base ok v xs := yY h (yA (Below.refl _ _) o)
theorem qm (h : d.R e w base ok v xs) : d.R e w.drew base ok v xs := yY h (VG (Below.refl _ _))
theorem WX (h : d.R e w base ok v xs) (m : Nat) : d.R e (w.drewN m) base ok v xs := yY h (yZ (Below.refl _ _) m)
theorem zD {A : Option Addr} {n : Nat} (h : d.C w A n xs) (o : Obj) : d.C (w.alloc o) A n xs := zh h (yA (Below.refl _ _) o)
theorem zo {A : Option Addr} {n : Nat} (h : d.C w A n xs) : d.C w.drew A n xs := zh h (VG (Below.refl _ _))
theorem zF {A : Option Addr} {n : Nat} (h : d.C w A n xs) (m : Nat) : d.C (w.drewN m) A n xs := zh h (yZ (Below.refl _ _) m)
theorem VI (d : Kd α) (w : World) : d.C w none ([] : List α).length [] := ⟨rfl, by simp, fun h => absurd h (Nat.lt_irrefl 0)⟩
theorem uV {A : Option Addr} {n c : Nat} (h : d.R e w base ok (.slice A n c) xs) : n = xs.length ∧ n ≤ c ∧ d.C w A xs.length xs := by
  obtain ⟨A', c', he, hl, hr⟩ := WZ h
  injection he with h1 h2 h3
  subst h1
  exact ⟨h2, by omega, hr⟩
theorem WJ (h : d.R e w base ok v xs) : ∀ k, v.ownBlock = some k → k < w.heap.size := by
  obtain ⟨inner, ho⟩ := UO h
  exact lX ho
theorem Vj (h : d.R e w base ok v xs) : ∀ k, v.ownBlock = some k → base ≤ k := by
  obtain ⟨inner, ho⟩ := UO h
  exact Xe ho
end
section
variable {w W : World} {A : Option Addr} {n : Nat}
theorem lY {k : IntKind} {xs : List Int} (h : (Kd.int k).C w A n xs) (i : Int) (h0 : 0 ≤ i) (h1 : i < n) : ∃ ad, A = some ad ∧ w.cell? (ad.add i.toNat) = some (.int k (rd xs i)) :=
  vR.at_ (Kq (enc := Value.int k) (d := (0 : Int)) (h1 := fun _ => rfl) h) i h0 h1
theorem X4 {xs : List ByteArray} (h : Kd.string.C w A n xs) (i : Int) (h0 : 0 ≤ i) (h1 : i < n) : ∃ ad, A = some ad ∧ w.cell? (ad.add i.toNat) = some (.string (Yh ByteArray.empty xs i)) :=
  vR.at_ (Kq (enc := Value.string) (d := ByteArray.empty) (h1 := fun _ => rfl) h) i h0 h1
variable {α : Type} {enc : α → Value} {h1 : ∀ x, (enc x).oneCell' = true} {e base g cap : Nat} {ok : Nat → Prop} {xs : List α}
end
section
variable {P : Program} {ops : Array Oper} {rest : List Oper} {o : Oper} {a : Act} {Q : Exit → Act → World → Prop}
theorem bV {W w1 : World} {v : Value} (hgd : o.guard = none) (hrun : (execOp a.eval o).run P W = .ok (.value v) w1) (h : wpList P ops Q rest (a.put o.dst v) w1) : wpList P ops Q (o :: rest) a W := by
  refine wpList_plain hgd fun K hK => ?_
  unfold Oper.wp
  rw [hrun]
  exact hK _ _ h
variable {α : Type}
theorem QE (d : Kd α) {w0 W : World} (base e : Nat) (hgd : o.guard = none) {N : Tmp} (_hd : o.dst = some N) {xs : List α} {inner : List Value} {ok Zb : Nat → Prop}
    (hrun : (execOp a.eval o).run P W = .ok (.value (.slice (some ⟨W.heap.size, 0, none⟩) xs.length xs.length)) (W.alloc (.cells inner.toArray e)))
    (hrep : yR (d.M W base Zb) d.sz xs inner) (hok : ∀ k, Zb k → ok k) (hfresh : ok W.heap.size) (HB : Below base w0 W) (hbase : base ≤ W.heap.size) (hm : xs.length ≤ 9223372036854775807)
    (h : ∀ v1 w1, d.R e w1 base ok v1 xs → Below base w0 w1 → W.grownBy w1 none → (∃ b, v1.ownBlock = some b ∧ W.heap.size ≤ b) → wpList P ops Q rest (a.put o.dst v1) w1) : wpList P ops Q (o :: rest) a W := by
  refine bV hgd hrun (h _ _ ⟨fun k hk => ?_, inner, ?_, ?_⟩ (HB.alloc hbase _) (World.grownBy_alloc W _ none) ⟨W.heap.size, by simp [Value.ownBlock], Nat.le_refl _⟩)
  · have : W.heap.size = k := by simpa [Value.ownBlock] using hk
    subst this
    exact hfresh
  · have h2 := World.ownsRow_lit (base := base) (e := e) (size := d.sz) W inner.toArray xs.length hbase (by simpa [maxLen] using hm) (by simpa using hrep.1)
    simpa using h2
  · refine hrep.QW (fun p c hp => d.vk (fun k hk => ⟨hok k hk.1, fun he => ?_⟩) (zxg (d.uf hp) (yA (Below.refl _ _) _)))
    have h3 : k = W.heap.size := by simpa [Value.ownBlock] using he
    have := hk.2.2.1
    omega
end
end Kd
section
variable {P : Program}
end
def zjf (w : World) (base : Nat) (e : TypeId) (size : Nat) (v : Value) (n : Nat) (xs : List Value) : Prop :=
  xs.length = n * size ∧
  ((n = 0 ∧ ∃ A, v = .slice A 0 0 ∧ ∀ a, A = some a → base ≤ a.block ∧ ∃ cur, w.heap[a.block]? = some (.cells cur e (0, 0))) ∨
   ∃ g off cap cur, v = .slice (some ⟨g, off * size, none⟩) n cap ∧ base ≤ g ∧ w.heap[g]? = some (.cells cur e (0, 0)) ∧ n ≤ cap ∧ off + cap ≤ maxLen ∧ cur.size = (off + cap) * size ∧ (cur.toList.drop (off * size)).take (n * size) = xs)
section
variable {w w1 : World} {base n size : Nat} {e : TypeId} {v : Value} {xs : List Value}
theorem zzo (h : w.ownsRow base e size v n xs) : zjf w base e size v n xs := by
  obtain ⟨h1, h2⟩ := h
  refine ⟨h1, ?_⟩
  rcases h2 with ⟨rfl, h0⟩ | ⟨g, cap, cur, rfl, hb, hh, hnc, hcm, hcs, ht⟩
  · exact .inl ⟨h0, none, rfl, fun a ha => by cases ha⟩
  · exact .inr ⟨g, 0, cap, cur, by rw [Nat.zero_mul], hb, hh, hnc, by rw [Nat.zero_add]; exact hcm, by rw [Nat.zero_add]; exact hcs, by rw [Nat.zero_mul, List.drop_zero]; exact ht⟩
theorem zjg (g o j : Nat) : (⟨g, o, none⟩ : Addr).add j = ⟨g, o + j, none⟩ := by unfold Addr.add; split <;> simp_all
end
section
variable {P : Program}
end
namespace Kd
def Q {α : Type} (d : Kd α) (e : Nat) (w : World) (base : Nat) (ok : Nat → Prop) (v : Value) (xs : List α) : Prop :=
  (∀ k, v.ownBlock = some k → ok k) ∧ ∃ inner, zjf w base e d.sz v xs.length inner ∧ yR (d.M w base (fun k => ok k ∧ some k ≠ v.ownBlock)) d.sz xs inner
section
variable {α : Type} {d : Kd α} {e : Nat} {w w1 W : World} {base : Nat} {ok ok' : Nat → Prop} {v : Value} {xs : List α}
theorem zjh (h : d.R e w base ok v xs) : d.Q e w base ok v xs := by
  obtain ⟨h0, inner, ho, hr⟩ := h
  exact ⟨h0, inner, zzo ho, hr⟩
theorem zv7 (d : Kd α) (e : Nat) (w : World) (base : Nat) (ok : Nat → Prop) : d.Q e w base ok (.slice none 0 0) [] := zjh (kG d e w base ok)
end
section
variable {P : Program} {ops : Array Oper} {rest : List Oper} {o : Oper} {a : Act} {Q' : Exit → Act → World → Prop} {Kc : Act → World → Prop} {α : Type}
end
end Kd
namespace Kd
section
variable {α : Type} {d : Kd α} {e e' : Nat} {w w1 W : World} {base : Nat} {ok : Nat → Prop} {u v : Value} {xs : List α}
theorem Xf (hu : d.R e W base ok u xs) (hbase : ∀ k, v.ownBlock = some k → W.heap.size ≤ k) (hb : Below W.heap.size W w1) : d.R e w1 base (fun k => ok k ∧ some k ≠ v.ownBlock) u xs :=
  kC (J9 (ZO hu) (fun k hk => hb.block k hk.2.2.1)) (fun k hk => ⟨hk.1, fun he => by have := hbase k he.symm; have := hk.2.2.1; omega⟩)
theorem Vv (h : d.R e w1 W.heap.size ok v xs) (hlt : ∀ k, u.ownBlock = some k → k < W.heap.size) : d.R e w1 W.heap.size (fun k => ok k ∧ some k ≠ u.ownBlock) v xs :=
  kC (ZO h) (fun k hk => ⟨hk.1, fun he => by have := hlt k he.symm; have := hk.2.1; omega⟩)
end
end Kd
namespace Kd
section
variable {α : Type} {d : Kd α} {e base g n cap : Nat} {ok Zb : Nat → Prop} {W : World} {xs : List α}
theorem zji (h : d.R e W base ok (.slice (some ⟨g, 0, none⟩) n cap) xs) (z : α) (i : Int) (h0 : 0 ≤ i) (h1 : i < n) :
    ∃ c, c.length = d.sz ∧ d.M W base (fun k => ok k ∧ k ≠ g) (xs.getD i.toNat z) c ∧ (∀ j u, c[j]? = some u → W.cell? ⟨g, i.toNat * d.sz + j, none⟩ = some u) ∧ ∀ j, W.frozen? ⟨g, i.toNat * d.sz + j, none⟩ = false := by
  obtain ⟨hn, hnc, hC⟩ := uV h
  obtain ⟨_, inner, ho, hr⟩ := h
  have hil : i.toNat < xs.length := by omega
  have hseg : i.toNat * d.sz + d.sz ≤ inner.length := by rw [hr.1, ← Nat.succ_mul]; exact Nat.mul_le_mul_right _ hil
  have hM := hr.2 i.toNat _ (List.getElem?_eq_getElem hil)
  refine ⟨(inner.drop (i.toNat * d.sz)).take d.sz, by rw [List.length_take, List.length_drop]; omega, ?_, fun j u hu => ?_, fun j => ?_⟩
  · rw [List.getD_eq_getElem?_getD, List.getElem?_eq_getElem hil]
    exact d.vk (fun k hk => ⟨hk.1, fun he => hk.2 (by rw [he]; simp [Value.ownBlock])⟩) hM
  · rw [List.getElem?_take] at hu
    split at hu
    · rw [List.getElem?_drop] at hu
      have := ho.cells (g := g) (by simp [Value.ownBlock]) _ u hu
      rwa [add_plain] at this
    · cases hu
  · obtain ⟨cells, hc⟩ := QD ho g (by simp [Value.ownBlock])
    exact zV hc _
end
end Kd
namespace Kd
section
variable {α : Type} {F : Kd α → Kd α} {sz : Nat} {E : List Nat} {hs : ∀ n, (upto F sz E n).sz = sz} {hE : ∀ n q, q ∈ (upto F sz E n).E → q ∈ E}
end
end Kd
namespace Kd
section
variable {P : Program} {ops : Array Oper} {rest : List Oper} {o : Oper} {a : Act} {Q : Exit → Act → World → Prop} {α : Type}
end
end Kd
namespace Kd
section
variable {P : Program} {ops : Array Oper} {rest : List Oper} {o : Oper} {a : Act} {Q : Exit → Act → World → Prop} {α : Type}
end
end Kd
namespace Kd
section
variable {α : Type} {k : Kd α} {w : World} {A : Option Addr} {xs : List α} {m c : Nat}
end
end Kd
section
variable {P : Program}
end
theorem zC {w W : World} (h : Below w.heap.size w W) : w.heap.size ≤ W.heap.size := h.size
theorem zL {w W w2 : World} (h : Below w.heap.size w W) (k : Below W.heap.size W w2) : Below w.heap.size w w2 := fG h h.size k
theorem uJ.nil (W : World) (k : IntKind) : uJ W k none ([] : List Int).length [] := ⟨rfl, by simp, fun h => absurd h (Nat.lt_irrefl 0)⟩
theorem uJ.drewN {W : World} {k : IntKind} {A : Option Addr} {n : Nat} {xs : List Int} (h : uJ W k A n xs) (m : Nat) : uJ (W.drewN m) k A n xs := h
theorem xL {w W : World} {g j : Nat} {v : Value} (h : Below w.heap.size w W) (hg : w.heap.size ≤ g) : Below w.heap.size w (W.setCell ⟨g, j, none⟩ v) := h.setCell hg _
theorem bK {w W : World} {g : Nat} (h : uW w W g none) {a : Addr} {v : Value} (hc : w.cell? a = some v) (hne : a.block ≠ g) : W.cell? a = some v := by
  have := h.2 a.block (World.block_lt_of_cell? w a hc) hne (by simp)
  simpa [World.cell?, this] using hc
theorem add_block (a : Addr) (i : Nat) : (a.add i).block = a.block := by unfold Addr.add; split <;> rfl
theorem vR.nil {α : Type} (enc : α → Value) (d : α) (W : World) : vR enc d W none ([] : List α).length [] := ⟨rfl, by simp, fun h => absurd h (Nat.lt_irrefl 0)⟩
theorem vR.drewN {α : Type} {enc : α → Value} {d : α} {W : World} {A : Option Addr} {n : Nat} {xs : List α} (h : vR enc d W A n xs) (m : Nat) : vR enc d (W.drewN m) A n xs := h
theorem uJ.keep {w W : World} {k : IntKind} {A : Option Addr} {n g : Nat} {xs : List Int} (h : uJ w k A n xs) (hk : uW w W g none) (hf : ∀ ad, A = some ad → 0 < n → ad.block ≠ g) : uJ W k A n xs :=
  ⟨h.1, h.2.1, fun hn => by
    obtain ⟨ad, e, hc⟩ := h.2.2 hn
    exact ⟨ad, e, fun j hj => bK hk (hc j hj) (by rw [add_block]; exact hf ad e hn)⟩⟩
theorem vR.keep {α : Type} {enc : α → Value} {d : α} {w W : World} {A : Option Addr} {n g : Nat} {xs : List α} (h : vR enc d w A n xs) (hk : uW w W g none) (hf : ∀ ad, A = some ad → 0 < n → ad.block ≠ g) : vR enc d W A n xs :=
  ⟨h.1, h.2.1, fun hn => by
    obtain ⟨ad, e, hc⟩ := h.2.2 hn
    exact ⟨ad, e, fun j hj => bK hk (hc j hj) (by rw [add_block]; exact hf ad e hn)⟩⟩
theorem qO {w : World} {g : Nat} {t : TypeId} {cs cs' : Array Value} (h : w.heap[g]? = some (.cells cs t (0, 0))) (i : Nat) (u : Value) (e : cs.setIfInBounds i u = cs') : (w.setCell ⟨g, i, none⟩ u).heap[g]? = some (.cells cs' t (0, 0)) := e ▸ zxf h i u
theorem yx {base : Nat} {w W : World} (h : Below base w W) : Below base w W.drew := h.drew
namespace Kd
section
variable {α β : Type} {d : Kd α} {d' : Kd β} {e e' base base' n : Nat} {ok ok' : Nat → Prop} {w W w1 W1 : World} {v u : Value} {xs : List α} {ys : List β} {A : Option Addr} {c : Nat}
end
section
variable {α : Type} {enc : α → Value} {h1 : ∀ x, (enc x).oneCell' = true} {w W : World} {A : Option Addr} {n g : Nat} {xs : List α}
end
end Kd
namespace Kd
section
variable {α : Type} {d : Kd α} {e base g : Nat} {ok : Nat → Prop} {w w1 : World} {v : Value} {xs : List α} {o : Obj}
end
end Kd
section
variable {P : Program} {ops : Array Oper} {rest : List Oper} {o : Oper} {a : Act} {Q : Exit → Act → World → Prop}
theorem qM {W : World} (hgd : o.guard = none) {N : Tmp} (_hd : o.dst = some N) {cs : Array Value} {t : TypeId}
    (hrun : (execOp a.eval o).run P W = .ok (.value (.pointer (some ⟨W.heap.size, 0, none⟩))) (W.alloc (.cells cs t (0, 0))))
    (h : ∀ g, g = W.heap.size → ∀ w1, w1.heap[g]? = some (.cells cs t (0, 0)) → Below W.heap.size W w1 → wpList P ops Q rest (a.put o.dst (.pointer (some ⟨g, 0, none⟩))) w1) : wpList P ops Q (o :: rest) a W :=
  Kd.bV hgd hrun (h _ rfl _ (wY W _) (yA (Below.refl _ _) _))
end
namespace Kd
section
variable {α : Type} {enc : α → Value} {h1 : ∀ x, (enc x).oneCell' = true} {e base g n cap : Nat} {ok : Nat → Prop} {W : World} {xs : List α}
end
end Kd
section
variable {P : Program} {ops : Array Oper} {rest : List Oper} {o : Oper} {a : Act} {Q : Exit → Act → World → Prop}
end
namespace Kd
section
variable {α : Type} {enc : α → Value} {h1 : ∀ x, (enc x).oneCell' = true} {e base g n cap : Nat} {ok : Nat → Prop} {W : World} {xs : List α}
end
end Kd
section
variable {P : Program} {ops : Array Oper} {rest : List Oper} {o : Oper} {a : Act} {Q : Exit → Act → World → Prop} {W : World}
theorem qb {N : Tmp} (_hN : o.dst = some N) (h : wpList P ops Q (o :: rest) a W) : wpList P ops Q (o :: rest) a W := h
end
section
variable {P : Program} {ops : Array Oper} {o : Oper} {a : Act} {Q : Exit → Act → World → Prop} {Kc : Act → World → Prop}
namespace Kd
variable {α : Type}
end Kd
end
inductive dA (P : Program) (tmps : Array Value) (w : World) : List ResultVar → List Value → Prop where
  | nil : dA P tmps w [] []
  | tmp {u : Tmp} {rs : List ResultVar} {vs : List Value} (h : dA P tmps w rs vs) : dA P tmps w (.tmp u :: rs) (tmps.getD u undef :: vs)
  | cell {p : Tmp} {ty : TypeId} {rs : List ResultVar} {vs : List Value} (g : Nat) (t : TypeId) (cs : Array Value) (fr : Nat × Nat) (d : TypeDesc)
      (hp : tmps.getD p undef = .pointer (some ⟨g, 0, none⟩)) (hg : w.heap[g]? = some (.cells cs t fr))
      (hu : P.underlying ty = some d) (hd : (match d with | .struct _ | .array _ _ => true | _ => false) = true) (hi : (P.info? ty).map (·.size) = some cs.size)
      (h : dA P tmps w rs vs) : dA P tmps w (.cell p ty :: rs) (.agg cs :: vs)
section
variable {P : Program} {tmps : Array Value} {w : World}
end
namespace Kd
section
variable {P : Program} {α : Type}
end
section
variable {P : Program} {ops : Array Oper} {rest : List Oper} {o : Oper} {a : Act} {Q : Exit → Act → World → Prop} {Kc : Act → World → Prop} {α : Type}
end
end Kd
end Go.Proofs.zk.ze
namespace Go.Proofs.zk.yc
section
variable {P : Program} {ops : Array Oper} {Q : Exit → Act → World → Prop} {md : Region.Mode} {S : World → Prop} {ds : List Nat}
def Region.Zf (md : Region.Mode) (ops : Array Oper) (i : Nat) : Nat → Nat → Bool
 | 0, _ => false
 | fuel + 1, d => match ops[d]? with
  | some o => o.after.any fun e => Region.binds md e && (e.on == i || Region.Zf md ops i fuel e.on)
  | none => false
def Region.Vk (md : Region.Mode) (ops : Array Oper) (listed : Array Bool) : Bool :=
 (List.range ops.size).all fun j => !listed.getD j false || match ops[j]? with
  | some o => o.after.all fun e => !Region.binds md e || listed.getD e.on false
  | none => true
def Region.lastB (md : Region.Mode) (ops : Array Oper) (listed : Array Bool) (ds : List Nat) (i : Nat) : Bool :=
 ds.all fun d => listed.getD d true || Region.Zf md ops i ops.size d
def wm (md : Region.Mode) (ops : Array Oper) (listed : Array Bool) : Prop :=
 ∀ j oj, ops[j]? = some oj → listed.getD j false = true → ∀ e ∈ oj.after, Region.binds md e = true → listed.getD e.on false = true
theorem Region.dB {listed : Array Bool} (h : Region.Vk md ops listed = true) : wm md ops listed := by
 intro j oj hj hl e he hb
 have hlt : j < ops.size := (Array.getElem?_eq_some_iff.1 hj).1
 have h1 := List.all_eq_true.1 h j (List.mem_range.2 hlt)
 simp only [hl, hj, Bool.not_true, Bool.false_or] at h1
 have h2 := Array.all_eq_true_iff_forall_mem.1 h1 e he
 simpa [hb] using h2
theorem wm.set {listed : Array Bool} {i : Nat} (h : wm md ops listed) (hi : i ∈ Region.ready md ops listed) : wm md ops (listed.setIfInBounds i true) := by
 obtain ⟨_, oi, hoi, hall⟩ := mem_ready.1 hi
 intro j oj hj hl e he hb
 by_cases hij : i = j
 ·subst hij
  have : oj = oi := Option.some.inj (hj.symm.trans hoi)
  subst this
  exact getD_set_true (hall e he hb)
 ·rw [getD_set_ne false hij] at hl
  exact getD_set_true (h j oj hj hl e he hb)
theorem Region.UY {listed : Array Bool} {i : Nat} (hc : wm md ops listed) : ∀ (fuel d : Nat), Region.Zf md ops i fuel d = true → listed.getD d false = true → listed.getD i false = true
 | 0, _, h, _ => by simp [Region.Zf] at h
 | fuel + 1, d, h, hl => by
  unfold Region.Zf at h
  cases ho : ops[d]? with
  | none => rw [ho] at h; simp at h
  | some o =>
   rw [ho] at h
   obtain ⟨e, he, h1⟩ := Array.any_eq_true'.1 h
   simp only [Bool.and_eq_true, Bool.or_eq_true, beq_iff_eq] at h1
   have hle := hc d o ho hl e he h1.1
   rcases h1.2 with h2 | h2
   ·rw [← h2]; exact hle
   ·exact Region.UY hc fuel e.on h2 hle
theorem Region.Kj {listed : Array Bool} {i d fuel : Nat} (hc : wm md ops listed) (hr : Region.Zf md ops i fuel d = true) (hun : listed.getD i true = false) : d ∉ Region.ready md ops listed := by
 intro hd
 obtain ⟨_, o, ho, hall⟩ := mem_ready.1 hd
 have hi : listed.getD i false = true := by
  cases fuel with
  | zero => simp [Region.Zf] at hr
  | succ n =>
   unfold Region.Zf at hr
   rw [ho] at hr
   obtain ⟨e, he, h1⟩ := Array.any_eq_true'.1 hr
   simp only [Bool.and_eq_true, Bool.or_eq_true, beq_iff_eq] at h1
   have hle := hall e he h1.1
   rcases h1.2 with h2 | h2
   ·rw [← h2]; exact hle
   ·exact Region.UY hc n e.on h2 hle
 rcases Nat.lt_or_ge i listed.size with h' | h'
 ·simp [h'] at hun hi
  rw [hun] at hi
  cases hi
 ·simp [Array.getElem?_eq_none h'] at hun
def z8 (P : Program) (md : Region.Mode) (ops : Array Oper) (Q : Exit → Act → World → Prop) (S : World → Prop) (ds : List Nat) : Nat → Array Bool → Act → World → Prop
 | 0, listed, a, w => Region.ready md ops listed = [] ∧ Q .normal a w
 | fuel + 1, listed, a, w =>
  (Region.ready md ops listed = [] → Q .normal a w) ∧
  ∀ i ∈ Region.ready md ops listed, wpOp P ops Q i (fun a' w' => (i ∉ ds → S w → S w') ∧ z8 P md ops Q S ds fuel (listed.setIfInBounds i true) a' w') a w
theorem Uk : ∀ (fuel : Nat) (listed : Array Bool) (a : Act) (w : World), z8 P md ops Q S ds fuel listed a w → wpAny P md ops Q fuel listed a w
 | 0, _, _, _, h => h
 | fuel + 1, _, _, _, h => ⟨h.1, fun i hi => wpOp_mono (fun a' w' h' => Uk fuel _ a' w' h'.2) (h.2 i hi)⟩
theorem Kv {i : Nat} {oi : Oper} {v : Value} (hi : ops[i]? = some oi) (hsel : ∀ (j : Nat) (o : Oper) cs b, ops[j]? = some o → o.op ≠ .select cs b)
  (hQ : ∀ c a w, Q (.panic c) (a.put oi.dst v) w → Q (.panic c) a w) (n : Nat) :
  ∀ (fuel : Nat) (listed : Array Bool) (a : Act) (w : World),
   (∀ j oj, ops[j]? = some oj → j ≠ i → listed.getD j true = false → (∀ e ∈ oj.after, Region.binds md e = true → e.on ≠ i) → oi.apart ops oj = true) →
   wm md ops listed → (∀ d ∈ ds, listed.getD d true = false → Region.Zf md ops i n d = true) →
   i ∈ Region.ready md ops listed → YieldsIf P ops S oi v a → S w →
   z8 P md ops Q S ds fuel (listed.setIfInBounds i true) (a.put oi.dst v) w → z8 P md ops Q S ds (fuel + 1) listed a w := by
 intro fuel
 induction fuel with
 | zero =>
  intro listed a w _ _ _ hr hy hS H
  refine ⟨fun h => (by rw [h] at hr; cases hr), fun j hj => ?_⟩
  by_cases hji : j = i
  ·subst hji; exact hy.wpOp hi hS ⟨fun _ h => h, H⟩
  ·have := ready_mono hj hji
   rw [H.1] at this
   cases this
 | succ fuel ih =>
  intro listed a w hfree hc hd hr hy hS H
  refine ⟨fun h => (by rw [h] at hr; cases hr), fun j hj => ?_⟩
  by_cases hji : j = i
  ·subst hji; exact hy.wpOp hi hS ⟨fun _ h => h, H⟩
  ·have h1 := H.2 j (ready_mono hj hji)
   obtain ⟨hjun, oj, hoj, hall⟩ := mem_ready.1 hj
   have WV := (mem_ready.1 hr).1
   have hnot : ∀ e ∈ oj.after, Region.binds md e = true → e.on ≠ i := fun e he hb heq => by
    have h1 := hall e he hb
    rw [heq] at h1
    rcases Nat.lt_or_ge i listed.size with h' | h'
    ·simp [h'] at WV h1; rw [WV] at h1; cases h1
    ·simp [Array.getElem?_eq_none h'] at h1
   have hjd : j ∉ ds := fun hm => Region.Kj hc (hd j hm hjun) WV hj
   have h2 := wpOp_putIf hoj (hfree j oj hoj hji hjun hnot) (fun cs b => hsel i oi cs b hi) (fun cs b => hsel j oj cs b hoj) hQ hy h1
   have hfree' : ∀ k ok, ops[k]? = some ok → k ≠ i → (listed.setIfInBounds j true).getD k true = false →
     (∀ e ∈ ok.after, Region.binds md e = true → e.on ≠ i) → oi.apart ops ok = true := fun k ok hk hki hun hno => by
    refine hfree k ok hk hki ?_ hno
    by_cases hjk : j = k
    ·subst hjk; exact hjun
    ·rw [getD_set_ne true hjk] at hun; exact hun
   have hd' : ∀ d ∈ ds, (listed.setIfInBounds j true).getD d true = false → Region.Zf md ops i n d = true := fun d hm hun => by
    refine hd d hm ?_
    by_cases hjk : j = d
    ·subst hjk; exact hjun
    ·rw [getD_set_ne true hjk] at hun; exact hun
   refine wpOp_mono (fun a' w' h3 => ⟨h3.2.1, ih (listed.setIfInBounds j true) a' w' hfree' (hc.set hj) hd' (ready_mono hr (Ne.symm hji)) h3.1 (h3.2.1 hjd hS) ?_⟩) h2
   rw [Array.setIfInBounds_comm _ _ hji]
   exact h3.2.2
theorem cZ {i : Nat} {oi : Oper} {v : Value} (hi : ops[i]? = some oi) (hsel : ∀ (j : Nat) (o : Oper) cs b, ops[j]? = some o → o.op ≠ .select cs b)
  (hQ : ∀ c a w, Q (.panic c) (a.put oi.dst v) w → Q (.panic c) a w) :
  ∀ (fuel : Nat) (listed : Array Bool) (a : Act) (w : World),
   (∀ j oj, ops[j]? = some oj → j ≠ i → listed.getD j true = false → (∀ e ∈ oj.after, Region.binds md e = true → e.on ≠ i) → oi.apart ops oj = true) →
   i ∈ Region.ready md ops listed → Yields P ops oi v a →
   z8 P md ops Q S ds fuel (listed.setIfInBounds i true) (a.put oi.dst v) w → z8 P md ops Q S ds (fuel + 1) listed a w := by
 intro fuel
 induction fuel with
 | zero =>
  intro listed a w _ hr hy H
  refine ⟨fun h => (by rw [h] at hr; cases hr), fun j hj => ?_⟩
  by_cases hji : j = i
  ·subst hji; exact (hy.yieldsIf (S := fun _ => True)).wpOp hi trivial ⟨fun _ h => h, H⟩
  ·have := ready_mono hj hji
   rw [H.1] at this
   cases this
 | succ fuel ih =>
  intro listed a w hfree hr hy H
  refine ⟨fun h => (by rw [h] at hr; cases hr), fun j hj => ?_⟩
  by_cases hji : j = i
  ·subst hji; exact (hy.yieldsIf (S := fun _ => True)).wpOp hi trivial ⟨fun _ h => h, H⟩
  ·have h1 := H.2 j (ready_mono hj hji)
   obtain ⟨hjun, oj, hoj, hall⟩ := mem_ready.1 hj
   have WV := (mem_ready.1 hr).1
   have hnot : ∀ e ∈ oj.after, Region.binds md e = true → e.on ≠ i := fun e he hb heq => by
    have h1 := hall e he hb
    rw [heq] at h1
    rcases Nat.lt_or_ge i listed.size with h' | h'
    ·simp [h'] at WV h1; rw [WV] at h1; cases h1
    ·simp [Array.getElem?_eq_none h'] at h1
   have h2 := wpOp_put hoj (hfree j oj hoj hji hjun hnot) (fun cs b => hsel i oi cs b hi) (fun cs b => hsel j oj cs b hoj) hQ hy h1
   have hfree' : ∀ k ok, ops[k]? = some ok → k ≠ i → (listed.setIfInBounds j true).getD k true = false →
     (∀ e ∈ ok.after, Region.binds md e = true → e.on ≠ i) → oi.apart ops ok = true := fun k ok hk hki hun hno => by
    refine hfree k ok hk hki ?_ hno
    by_cases hjk : j = k
    ·subst hjk; exact hjun
    ·rw [getD_set_ne true hjk] at hun; exact hun
   refine wpOp_mono (fun a' w' h3 => ⟨h3.2.1, ih (listed.setIfInBounds j true) a' w' hfree' (ready_mono hr (Ne.symm hji)) h3.1 ?_⟩) h2
   rw [Array.setIfInBounds_comm _ _ hji]
   exact h3.2.2
theorem WK {i : Nat} {oi : Oper} {v : Value} {fuel : Nat} {listed : Array Bool} {a : Act} {w : World} (hi : ops[i]? = some oi)
  (hs : Region.noSelect ops = true) (hf : Region.free md ops listed i = true) (hr : (Region.ready md ops listed).contains i = true)
  (hc : Region.Vk md ops listed = true) (hl : Region.lastB md ops listed ds i = true)
  (hQ : ∀ c a w, Q (.panic c) (a.put oi.dst v) w → Q (.panic c) a w) (hy : YieldsIf P ops S oi v a) (hS : S w)
  (h : z8 P md ops Q S ds fuel (listed.setIfInBounds i true) (a.put oi.dst v) w) : z8 P md ops Q S ds (fuel + 1) listed a w :=
 Kv hi (Region.noSelect_spec hs) hQ ops.size fuel listed a w (Region.free_spec hi hf) (Region.dB hc)
  (fun d hm hun => by have := List.all_eq_true.1 hl d hm; rw [hun] at this; simpa using this) (by simpa using hr) hy hS h
theorem cK {rs : List Nat} {fuel : Nat} {listed : Array Bool} {a : Act} {w : World} (hr : Region.ready md ops listed = rs) (hne : rs ≠ [])
  (h : ∀ i ∈ rs, wpOp P ops Q i (fun a' w' => (i ∉ ds → S w → S w') ∧ z8 P md ops Q S ds fuel (listed.setIfInBounds i true) a' w') a w) : z8 P md ops Q S ds (fuel + 1) listed a w :=
 ⟨fun h0 => absurd (hr ▸ h0) hne, hr ▸ h⟩
theorem WY {listed : Array Bool} {a : Act} {w : World} (hr : Region.ready md ops listed = []) (h : Q .normal a w) :
  ∀ fuel, z8 P md ops Q S ds fuel listed a w
 | 0 => ⟨hr, h⟩
 | _ + 1 => ⟨fun _ => h, by rw [hr]; simp⟩
theorem WW {id : Nat} {a : Act} {w : World} (hm : P.follows .mixedOrders = true)
  (h : z8 P .any ops Q S ds ops.size (Array.replicate ops.size false) a { w with drawn := w.drawn + 1 }) : (Code.region id ops true).wp P Q a w :=
 wp_region_any hm (Uk _ _ _ _ h)
end
section
variable {P : Program} {ops : Array Oper} {Q : Exit → Act → World → Prop} {md : Region.Mode} {S : World → Prop} {ds : List Nat}
def uO (P : Program) (md : Region.Mode) (ops : Array Oper) (Q : Exit → Act → World → Prop) (S : World → Prop) (ds : List Nat) (fuel : Nat) (listed : Array Bool) (a : Act) (w : World) (rs : List Nat) : Prop :=
 ∀ i ∈ rs, wpOp P ops Q i (fun a' w' => (i ∉ ds → S w → S w') ∧ z8 P md ops Q S ds fuel (listed.setIfInBounds i true) a' w') a w
theorem uO.nil {fuel : Nat} {listed : Array Bool} {a : Act} {w : World} : uO P md ops Q S ds fuel listed a w [] := fun _ h => by cases h
theorem uO.cons {fuel : Nat} {listed : Array Bool} {a : Act} {w : World} {i : Nat} {o : Oper} {rs : List Nat} (ho : ops[i]? = some o) (hd : i ∉ ds)
  (h : ∀ K' : Act → World → Prop, Shut (∀ a w, S w → (S w → z8 P md ops Q S ds fuel (listed.setIfInBounds i true) a w) → K' a w) → if Region.wanted o (yielded ops a.tmps) = true then Oper.wp P o a w K' Q else K' (a.put o.dst undef) w)
  (hs : uO P md ops Q S ds fuel listed a w rs) : uO P md ops Q S ds fuel listed a w (i :: rs) := fun j hj => by
 rcases List.mem_cons.1 hj with rfl | hj
 ·exact wpOp_step ho (fun K' hK => h K' (fun a w hS hW => hK a w ⟨fun _ _ => hS, hW hS⟩))
 ·exact hs j hj
theorem uO.lW {fuel : Nat} {listed : Array Bool} {a : Act} {w : World} {i : Nat} {o : Oper} {rs : List Nat} (ho : ops[i]? = some o) (hd : i ∈ ds)
  (h : ∀ K' : Act → World → Prop, Shut (∀ a w, z8 P md ops Q S ds fuel (listed.setIfInBounds i true) a w → K' a w) → if Region.wanted o (yielded ops a.tmps) = true then Oper.wp P o a w K' Q else K' (a.put o.dst undef) w)
  (hs : uO P md ops Q S ds fuel listed a w rs) : uO P md ops Q S ds fuel listed a w (i :: rs) := fun j hj => by
 rcases List.mem_cons.1 hj with rfl | hj
 ·exact wpOp_step ho (fun K' hK => h K' (fun a w hW => hK a w ⟨fun hn => absurd hd hn, hW⟩))
 ·exact hs j hj
theorem QF {rs : List Nat} {fuel : Nat} {listed : Array Bool} {a : Act} {w : World} (hr : Region.ready md ops listed = rs) (hne : rs ≠ [])
  (h : uO P md ops Q S ds fuel listed a w rs) : z8 P md ops Q S ds (fuel + 1) listed a w := cK hr hne h
theorem jw {id n : Nat} {a : Act} {w : World} (l : Array Bool) (hm : P.follows .mixedOrders = true) (hn : ops.size = n) (hl : Array.replicate n false = l) (hS : S w.drew)
  (h : S w.drew → z8 P .any ops Q S ds n l a w.drew) : (Code.region id ops true).wp P Q a w := by
 subst hn
 subst hl
 exact WW hm (h hS)
def takeB (md : Region.Mode) (ops : Array Oper) (ds : List Nat) (l l' : Array Bool) (i : Nat) : Bool :=
 Region.noSelect ops && Region.free md ops l i && (Region.ready md ops l).contains i && Region.Vk md ops l && Region.lastB md ops l ds i && (l.setIfInBounds i true == l')
theorem VH {i : Nat} {N : Option Tmp} {oi : Oper} {v : Value} {fuel : Nat} {l : Array Bool} {a : Act} {w : World} (l' : Array Bool) (hi : ops[i]? = some oi) (hN : oi.dst = N) (hc : takeB md ops ds l l' i = true)
  (hQ : ∀ c a w, Q (.panic c) (a.put oi.dst v) w → Q (.panic c) a w) (hy : YieldsIf P ops S oi v a) (hS : S w) {a' : Act} (ha : a.put N v = a')
  (h : z8 P md ops Q S ds fuel l' a' w) : z8 P md ops Q S ds (fuel + 1) l a w := by
 subst ha
 subst hN
 simp only [takeB, Bool.and_eq_true, beq_iff_eq] at hc
 obtain ⟨⟨⟨⟨⟨h1, h2⟩, h3⟩, h4⟩, h5⟩, h6⟩ := hc
 subst h6
 exact WK hi h1 h2 h3 h4 h5 hQ hy hS h
def fI (md : Region.Mode) (ops : Array Oper) (l l' : Array Bool) (i : Nat) : Bool :=
 Region.noSelect ops && Region.free md ops l i && (Region.ready md ops l).contains i && (l.setIfInBounds i true == l')
theorem yL {i : Nat} {N : Option Tmp} {oi : Oper} {v : Value} {fuel : Nat} {l : Array Bool} {a : Act} {w : World} (l' : Array Bool) (hi : ops[i]? = some oi) (hN : oi.dst = N) (hc : fI md ops l l' i = true)
  (hQ : ∀ c a w, Q (.panic c) (a.put oi.dst v) w → Q (.panic c) a w) (hy : Yields P ops oi v a) {a' : Act} (ha : a.put N v = a')
  (h : z8 P md ops Q S ds fuel l' a' w) : z8 P md ops Q S ds (fuel + 1) l a w := by
 subst ha
 subst hN
 simp only [fI, Bool.and_eq_true, beq_iff_eq] at hc
 obtain ⟨⟨⟨h1, h2⟩, h3⟩, h6⟩ := hc
 subst h6
 exact cZ hi (Region.noSelect_spec h1) hQ fuel l a w (Region.free_spec hi h2) (by simpa using h3) hy h
def Vy (md : Region.Mode) (ops : Array Oper) (l l' : Array Bool) (i : Nat) : Bool := (Region.ready md ops l == [i]) && (l.setIfInBounds i true == l')
theorem Q7 {i : Nat} {N : Option Tmp} {oi : Oper} {fuel : Nat} {l : Array Bool} {a : Act} {w : World} (l' : Array Bool) (hi : ops[i]? = some oi) (hN : oi.dst = N) (hc : Vy md ops l l' i = true) (hd : i ∉ ds)
  (h : ∀ K : Act → World → Prop, Shut (∀ a' w', S w' → (S w' → z8 P md ops Q S ds fuel l' a' w') → K a' w') → if Region.wanted oi (yielded ops a.tmps) = true then Oper.wp P oi a w K Q else K (a.put N undef) w) :
  z8 P md ops Q S ds (fuel + 1) l a w := by
 subst hN
 simp only [Vy, Bool.and_eq_true, beq_iff_eq] at hc
 obtain ⟨h1, h2⟩ := hc
 subst h2
 exact QF h1 (by simp) (uO.cons hi hd (fun K hK => h K hK) uO.nil)
theorem fM {i : Nat} {N : Option Tmp} {oi : Oper} {fuel : Nat} {l : Array Bool} {a : Act} {w : World} (l' : Array Bool) (hi : ops[i]? = some oi) (hN : oi.dst = N) (hc : Vy md ops l l' i = true) (hd : i ∈ ds)
  (h : ∀ K : Act → World → Prop, Shut (∀ a' w', z8 P md ops Q S ds fuel l' a' w' → K a' w') → if Region.wanted oi (yielded ops a.tmps) = true then Oper.wp P oi a w K Q else K (a.put N undef) w) :
  z8 P md ops Q S ds (fuel + 1) l a w := by
 subst hN
 simp only [Vy, Bool.and_eq_true, beq_iff_eq] at hc
 obtain ⟨h1, h2⟩ := hc
 subst h2
 exact QF h1 (by simp) (uO.lW hi hd (fun K hK => h K hK) uO.nil)
theorem jk {l : Array Bool} {a : Act} {w : World} {n : Nat} (hr : (Region.ready md ops l == []) = true) (h : Q .normal a w) : z8 P md ops Q S ds n l a w := WY (by simpa using hr) h n
theorem Qy {fuel : Nat} {l : Array Bool} {a a' : Act} {w : World} (ha : a = a') (h : z8 P md ops Q S ds fuel l a' w) : z8 P md ops Q S ds fuel l a w := by
 subst ha
 exact h
theorem call_ {oi : Oper} {N : Option Tmp} {a : Act} {w : World} {K : Act → World → Prop} (f : FuncId) (args : Array Value) (hw : Region.wanted oi (yielded ops a.tmps) = true) (hN : oi.dst = N) (hrun : (execOp a.eval oi).run P w = .ok (.enter f args) w)
  (h : Calls P f args w fun e w' => ∃ v, e = .returned v ∧ K (a.put N v) w') : if Region.wanted oi (yielded ops a.tmps) = true then Oper.wp P oi a w K Q else K (a.put N undef) w := by
 rw [if_pos hw]
 subst hN
 unfold Oper.wp
 rw [hrun, Oper.upon_enter]
 refine h.mono fun e w'' hh => ?_
 obtain ⟨v, rfl, hk⟩ := hh
 exact hk
theorem Zl {f : FuncId} {fn : Func} (hf : P.funcs[f]? = some fn) (hname : (fn.name == "runtime.NumGoroutine") = false) (hb : fn.body.isSome = true) (args : Array Value) (w : World) : (callFunc f args).run P w = .ok (.enter f args) w := by
 have h1 : fn.name ≠ "runtime.NumGoroutine" := by simpa using hname
 obtain ⟨c, hc⟩ := Option.isSome_iff_exists.1 hb
 simp [callFunc, hf, h1, hc]
theorem YP {oi : Oper} {N : Option Tmp} {a : Act} {w : World} {K : Act → World → Prop} {f : FuncId} {fn : Func} {zq : Array Operand} {ts : Array TypeId} (hf : P.funcs[f]? = some fn) (hname : (fn.name == "runtime.NumGoroutine") = false) (hb : fn.body.isSome = true) (args : Array Value)
  (hw : Region.wanted oi (yielded ops a.tmps) = true) (hN : oi.dst = N) (hop : oi.op = .call { callee := .value (.func f), args := zq, argTypes := ts }) (hargs : zq.map a.eval = args)
  (h : Calls P f args w fun e w' => ∃ v, e = .returned v ∧ K (a.put N v) w') : if Region.wanted oi (yielded ops a.tmps) = true then Oper.wp P oi a w K Q else K (a.put N undef) w := by
 refine call_ f args hw hN ?_ h
 have he := Zl hf hname hb args w
 unfold execOp
 simp [hop, resolve, Deferred.ofValue, invoke, Act.eval, hargs, he]
theorem zjl {rest : List Oper} {oi : Oper} {a : Act} {w : World} (N : Option Tmp) (hd : oi.dst = N) (hg : oi.guard = none) {f : FuncId} {fn : Func} {zq : Array Operand} {ts : Array TypeId} (hf : P.funcs[f]? = some fn) (hname : (fn.name == "runtime.NumGoroutine") = false) (hb : fn.body.isSome = true) (args : Array Value)
  (hop : oi.op = .call { callee := .value (.func f), args := zq, argTypes := ts }) (hargs : zq.map a.eval = args)
  (h : Calls P f args w fun e w' => ∃ v, e = .returned v ∧ wpList P ops Q rest (a.put N v) w') : wpList P ops Q (oi :: rest) a w := by
 refine wpList_plain hg fun K hK => ?_
 have he := Zl hf hname hb args w
 have hrun : (execOp a.eval oi).run P w = .ok (.enter f args) w := by
  unfold execOp
  simp [hop, resolve, Deferred.ofValue, invoke, Act.eval, hargs, he]
 unfold Oper.wp
 rw [hrun, Oper.upon_enter]
 refine h.mono fun e w'' hh => ?_
 obtain ⟨v, rfl, hk⟩ := hh
 subst hd
 exact hK _ _ hk
theorem dD {oi : Oper} {N : Option Tmp} {a : Act} {w w1 : World} {v : Value} {K : Act → World → Prop} (hw : Region.wanted oi (yielded ops a.tmps) = true) (hN : oi.dst = N) (hrun : (execOp a.eval oi).run P w = .ok (.value v) w1)
  (h : K (a.put N v) w1) : if Region.wanted oi (yielded ops a.tmps) = true then Oper.wp P oi a w K Q else K (a.put N undef) w := by
 rw [if_pos hw]
 subst hN
 unfold Oper.wp
 rw [hrun]
 exact h
theorem fO {oi : Oper} {a : Act} {w w1 : World} {K : Act → World → Prop} (hw : Region.wanted oi (yielded ops a.tmps) = true) (hN : oi.dst = none) (hrun : (execOp a.eval oi).run P w = .ok .skip w1)
  (h : K a w1) : if Region.wanted oi (yielded ops a.tmps) = true then Oper.wp P oi a w K Q else K (a.put none undef) w := by
 rw [if_pos hw]
 unfold Oper.wp
 rw [hrun]
 show K (a.put oi.dst undef) w1
 rw [hN]
 exact h
theorem qW (n : Int) : IntKind.i64.wrap n = Go.RowKit.wrap64 n := by unfold Go.RowKit.wrap64; exact IntKind.wrap_i64 n
theorem qd (n : Int) : IntKind.i32.wrap n = Go.RowKit.wrap32 n := by unfold Go.RowKit.wrap32; exact IntKind.wrap_i32 n
end
end Go.Proofs.zk.yc
namespace Go.Proofs.zk.yc
open Go.Proofs.zk.ze (zx)
def QK (md : Region.Mode) (o : Oper) : List Nat := (o.after.toList.filter (fun e => Region.binds md e)).map (fun e => e.on)
def Wd (md : Region.Mode) (ops : Array Oper) (i : Nat) (oi : Oper) : List Nat := (List.range ops.size).filter fun j => !(j == i) && match ops[j]? with
 | some oj => !(oj.after.any (fun e => Region.binds md e && e.on == i) || oi.apart ops oj)
 | none => false
def xE (md : Region.Mode) (ops : Array Oper) : Bool × List (List Nat × List Nat) := (Region.noSelect ops, (List.range ops.size).map fun i => match ops[i]? with
 | some o => (QK md o, Wd md ops i o)
 | none => ([], []))
def Yt (T : List (List Nat × List Nat)) (l : List Bool) (i : Nat) : Bool := !l.getD i true && match T[i]? with
 | some r => r.1.all (fun j => l.getD j false)
 | none => false
def Qb (T : List (List Nat × List Nat)) (l : List Bool) : List Nat := (List.range T.length).filter (Yt T l)
def Kk (T : List (List Nat × List Nat)) (l : List Bool) (i : Nat) : Bool := match T[i]? with
 | some r => r.2.all (fun j => l.getD j true)
 | none => false
def UU (T : List (List Nat × List Nat)) (l : List Bool) : Bool := (List.range T.length).all fun j => !l.getD j false || match T[j]? with
 | some r => r.1.all (fun k => l.getD k false)
 | none => true
def Vw (T : List (List Nat × List Nat)) (i : Nat) : Nat → Nat → Bool
 | 0, _ => false
 | fuel + 1, d => match T[d]? with
  | some r => r.1.any fun j => j == i || Vw T i fuel j
  | none => false
def lastT (T : List (List Nat × List Nat)) (l : List Bool) (ds : List Nat) (i : Nat) : Bool := ds.all fun d => l.getD d true || Vw T i T.length d
section
variable {md : Region.Mode} {ops : Array Oper} {T : Bool × List (List Nat × List Nat)} {l l' li lj lk : Array Bool} {ds : List Nat} {i j k : Nat}
theorem gd (l : Array Bool) (j : Nat) (b : Bool) : l.getD j b = l.toList.getD j b := by simp [Array.getD_eq_getD_getElem?, List.getD_eq_getElem?_getD]
theorem bY (o : Oper) (p : Nat → Bool) : o.after.all (fun e => !Region.binds md e || p e.on) = (QK md o).all p := by
 unfold QK
 rw [← Array.all_toList]
 induction o.after.toList with
 | nil => rfl
 | cons e r ih =>
  rw [List.all_cons, ih, List.filter_cons]
  cases h : Region.binds md e <;> simp
theorem lu (o : Oper) (p : Nat → Bool) : o.after.any (fun e => Region.binds md e && p e.on) = (QK md o).any p := by
 unfold QK
 rw [← Array.any_toList]
 induction o.after.toList with
 | nil => rfl
 | cons e r ih =>
  rw [List.any_cons, ih, List.filter_cons]
  cases h : Region.binds md e <;> simp
theorem XH : (xE md ops).2.length = ops.size := by simp [xE]
theorem QG {o : Oper} (h : ops[i]? = some o) : (xE md ops).2[i]? = some (QK md o, Wd md ops i o) := by
 have hi := (Array.getElem?_eq_some_iff.1 h).1
 unfold xE
 rw [List.getElem?_map, List.getElem?_range hi, Option.map_some, h]
theorem QH (h : ops[i]? = none) : (xE md ops).2[i]? = none := by
 have hi : ops.size ≤ i := Array.getElem?_eq_none_iff.1 h
 exact List.getElem?_eq_none (by rw [XH]; exact hi)
theorem fP : Yt (xE md ops).2 l.toList i = (!l.getD i true && ((ops[i]?).map (·.after.all fun e => !Region.binds md e || l.getD e.on false)).getD false) := by
 unfold Yt
 rw [gd]
 cases h : ops[i]? with
 | none => rw [QH h]; rfl
 | some o =>
  rw [QG h]
  simp only [Option.map_some, Option.getD_some]
  rw [← bY]
  simp only [gd]
theorem ready_eq : Region.ready md ops l = Qb (xE md ops).2 l.toList := by
 unfold Region.ready Qb
 rw [XH]
 refine List.filter_congr (fun i _ => ?_)
 rw [fP]
theorem free_eq : Region.free md ops l i = Kk (xE md ops).2 l.toList i := by
 unfold Region.free Kk
 cases h : ops[i]? with
 | none => rw [QH h]
 | some oi =>
  rw [QG h]
  simp only [Wd]
  rw [List.all_filter]
  congr 1
  funext j
  rw [gd]
  cases hj : ops[j]? with
  | none => cases (j == i) <;> cases (l.toList.getD j true) <;> simp
  | some oj =>
   cases (j == i) <;> cases (l.toList.getD j true) <;> cases (oj.after.any (fun e => Region.binds md e && e.on == i) || oi.apart ops oj) <;> simp_all
theorem lC : Region.Vk md ops l = UU (xE md ops).2 l.toList := by
 unfold Region.Vk UU
 rw [XH]
 congr 1
 funext j
 rw [gd]
 cases h : ops[j]? with
 | none => rw [QH h]
 | some o =>
  rw [QG h]
  simp only
  rw [← bY]
  simp only [gd]
theorem dF : ∀ (fuel d : Nat), Region.Zf md ops i fuel d = Vw (xE md ops).2 i fuel d
 | 0, _ => rfl
 | fuel + 1, d => by
  unfold Region.Zf Vw
  cases h : ops[d]? with
  | none => rw [QH h]
  | some o =>
   rw [QG h]
   simp only
   rw [← lu]
   congr 1
   funext e
   rw [dF fuel]
theorem zxh : Region.lastB md ops l ds i = lastT (xE md ops).2 l.toList ds i := by
 unfold Region.lastB lastT
 rw [XH]
 congr 1
 funext d
 rw [gd, dF]
theorem Ji (h : Yt T.2 l.toList i = true) (hT : xE md ops = T) : (Region.ready md ops l).contains i = true := by
 subst hT
 rw [ready_eq]
 unfold Qb
 rw [List.contains_iff_mem, List.mem_filter, List.mem_range]
 refine ⟨?_, h⟩
 unfold Yt at h
 rw [Bool.and_eq_true] at h
 cases hq : (xE md ops).2[i]? with
 | none => rw [hq] at h; simp at h
 | some r => exact (List.getElem?_eq_some_iff.1 hq).1
theorem dG (h : (l.toList.set i true == l'.toList) = true) : (l.setIfInBounds i true == l') = true := by
 rw [beq_iff_eq] at h ⊢
 apply Array.ext'
 rw [Array.toList_setIfInBounds]
 exact h
def fT (T : Bool × List (List Nat × List Nat)) (l l' : List Bool) (i : Nat) : Bool := T.1 && Kk T.2 l i && Yt T.2 l i && (l.set i true == l')
theorem yJ (hT : xE md ops = T) (h : fT T l.toList l'.toList i = true) : fI md ops l l' i = true := by
 simp only [fT, Bool.and_eq_true] at h
 obtain ⟨⟨⟨h1, h2⟩, h3⟩, h4⟩ := h
 have h5 := Ji h3 hT
 have h6 := dG h4
 subst hT
 simp only [fI, Bool.and_eq_true]
 exact ⟨⟨⟨h1, by rw [free_eq]; exact h2⟩, h5⟩, h6⟩
def fU (T : Bool × List (List Nat × List Nat)) (ds : List Nat) (l l' : List Bool) (i : Nat) : Bool := T.1 && Kk T.2 l i && Yt T.2 l i && UU T.2 l && lastT T.2 l ds i && (l.set i true == l')
theorem U0 (hT : xE md ops = T) (h : fU T ds l.toList l'.toList i = true) : takeB md ops ds l l' i = true := by
 simp only [fU, Bool.and_eq_true] at h
 obtain ⟨⟨⟨⟨⟨h1, h2⟩, h3⟩, h4⟩, h5⟩, h6⟩ := h
 have h7 := Ji h3 hT
 have h8 := dG h6
 subst hT
 simp only [takeB, Bool.and_eq_true]
 exact ⟨⟨⟨⟨⟨h1, by rw [free_eq]; exact h2⟩, h7⟩, by rw [lC]; exact h4⟩, by rw [zxh]; exact h5⟩, h8⟩
theorem Zv (hT : xE md ops = T) (h : (Qb T.2 l.toList == [i] && l.toList.set i true == l'.toList) = true) : Vy md ops l l' i = true := by
 simp only [Bool.and_eq_true] at h
 obtain ⟨h1, h2⟩ := h
 subst hT
 simp only [Vy, Bool.and_eq_true]
 exact ⟨by rw [ready_eq]; exact h1, dG h2⟩
theorem xM (hT : xE md ops = T) (h : (Qb T.2 l.toList == []) = true) : (Region.ready md ops l == []) = true := by
 subst hT
 rw [ready_eq]
 exact h
def dH (B : List Nat) (d : Nat) : List Nat → Nat
 | [] => 0
 | n :: r => (2 ^ n ||| (if n < d then B.getD n 0 else 0)) ||| dH B d r
def vP (T : List (List Nat × List Nat)) (B : List Nat) : Bool := (List.range T.length).all fun d => match T[d]? with
 | some r => (B.getD d 0 ||| dH B d r.1) == dH B d r.1
 | none => false
theorem sP {B : List Nat} {d i : Nat} : ∀ {ns : List Nat}, (dH B d ns).testBit i = true → ∃ n ∈ ns, n = i ∨ (n < d ∧ (B.getD n 0).testBit i = true)
 | [], h => by simp [dH] at h
 | n :: r, h => by
  unfold dH at h
  rw [Nat.testBit_or, Nat.testBit_or, Bool.or_eq_true, Bool.or_eq_true] at h
  rcases h with (h | h) | h
  ·rw [Nat.testBit_two_pow] at h
   exact ⟨n, List.mem_cons_self, .inl (by simpa using h)⟩
  ·by_cases hn : n < d
   ·rw [if_pos hn] at h
    exact ⟨n, List.mem_cons_self, .inr ⟨hn, h⟩⟩
   ·rw [if_neg hn] at h
    simp at h
  ·obtain ⟨m, hm, h2⟩ := sP h
   exact ⟨m, List.mem_cons_of_mem _ hm, h2⟩
theorem bW {T : List (List Nat × List Nat)} {B : List Nat} (hB : vP T B = true) : ∀ (fuel d : Nat), d < fuel → d < T.length → (B.getD d 0).testBit i = true → Vw T i fuel d = true
 | 0, d, h, _, _ => by omega
 | fuel + 1, d, h, hd, hb => by
  have h1 := List.all_eq_true.1 hB d (List.mem_range.2 hd)
  cases hr : T[d]? with
  | none => rw [hr] at h1; simp at h1
  | some r =>
   rw [hr] at h1
   simp only [beq_iff_eq] at h1
   have h2 : (dH B d r.1).testBit i = true := by rw [← h1, Nat.testBit_or, hb, Bool.true_or]
   obtain ⟨n, hn, h3⟩ := sP h2
   unfold Vw
   rw [hr]
   simp only
   rw [List.any_eq_true]
   refine ⟨n, hn, ?_⟩
   rcases h3 with rfl | ⟨h4, h5⟩
   ·simp
   ·rw [bW hB fuel n (by omega) (by omega) h5, Bool.or_true]
def zqO (T : List (List Nat × List Nat)) (B : List Nat) (l : List Bool) (ds : List Nat) (i : Nat) : Bool := ds.all fun d => l.getD d true || (decide (d < T.length) && (B.getD d 0).testBit i)
def dw (T : Bool × List (List Nat × List Nat)) (B : List Nat) (ds : List Nat) (l l' : List Bool) (i : Nat) : Bool := T.1 && Kk T.2 l i && Yt T.2 l i && UU T.2 l && zqO T.2 B l ds i && (l.set i true == l')
theorem dI {B : List Nat} (hT : xE md ops = T) (hB : vP T.2 B = true) (h : dw T B ds l.toList l'.toList i = true) : takeB md ops ds l l' i = true := by
 refine U0 hT ?_
 simp only [dw, fU, Bool.and_eq_true] at h ⊢
 obtain ⟨⟨⟨⟨⟨h1, h2⟩, h3⟩, h4⟩, h5⟩, h6⟩ := h
 refine ⟨⟨⟨⟨⟨h1, h2⟩, h3⟩, h4⟩, ?_⟩, h6⟩
 unfold zqO at h5
 unfold lastT
 rw [List.all_eq_true] at h5 ⊢
 intro d hd
 have h7 := h5 d hd
 rw [Bool.or_eq_true, Bool.and_eq_true, decide_eq_true_eq] at h7
 rcases h7 with h7 | ⟨h8, h9⟩
 ·rw [h7, Bool.true_or]
 ·rw [bW hB _ d h8 h8 h9, Bool.or_true]
theorem uP {P : Program} {Q : Exit → Act → World → Prop} {S : World → Prop} {n : Nat} {a : Act} {w : World} {B : List Nat} (hT : xE md ops = T) (hB : vP T.2 B = true) (h : zx (xE md ops = T) → zx (vP T.2 B = true) → z8 P md ops Q S ds n l a w) : z8 P md ops Q S ds n l a w := h ⟨hT⟩ ⟨hB⟩
theorem VL {P : Program} {Q : Exit → Act → World → Prop} {S : World → Prop} {n : Nat} {a : Act} {w : World} (hT : xE md ops = T) (h : zx (xE md ops = T) → z8 P md ops Q S ds n l a w) : z8 P md ops Q S ds n l a w := h ⟨hT⟩
end
def XI : Code → Nat → Option (Array Oper)
 | .region id ops _, k => if id == k then some ops else none
 | .seq a b, k => match XI a k with
  | some o => some o
  | none => XI b k
 | .cond _ a b, k => match XI a k with
  | some o => some o
  | none => XI b k
 | .block _ c, k => XI c k
 | .loop c, k => XI c k
 | .scope c, k => XI c k
 | .rangeFunc _ _ a b, k => match XI a k with
  | some o => some o
  | none => XI b k
 | _, _ => none
def opsOf (f : Func) (k : Nat) : Array Oper := ((f.body.bind fun c => XI c k)).getD #[]
end Go.Proofs.zk.yc
namespace Go.Proofs.zk.yc
section
variable {P : Program} {ops : Array Oper} {Q : Exit → Act → World → Prop} {md : Region.Mode} {S : World → Prop} {ds : List Nat} {T : Bool × List (List Nat × List Nat)}
end
end Go.Proofs.zk.yc
namespace Go.Proofs.zk.ze
open Go.RowKit
namespace Kd
section
variable {α : Type} {d : Kd α} {e base g o n cap : Nat} {ok Zb : Nat → Prop} {w W : World} {v : Value} {xs : List α}
end
section
variable {α : Type} {enc : α → Value} {h1 : ∀ x, (enc x).oneCell' = true} {e base g o n cap : Nat} {ok : Nat → Prop} {W : World} {xs : List α}
end
end Kd
end Go.Proofs.zk.ze
namespace Go.Proofs.zk.ze
open Go.RowKit
namespace Kd
def tag {α : Type} (f : Nat → Nat) (d : Kd α) : Kd (α × Nat) where
  sz := d.sz
  E := d.E
  K := fun w x cs => d.K w x.1 cs
  M := fun w base ok x cs => d.M w base (fun k => ok k ∧ f k = x.2) x.1 cs
  kF := fun h => d.kF h
  wN := fun h => d.wN h
  jV := fun hb h => d.jV hb h
  vN := fun h => d.vN h
  vk := fun hok h => d.vk (fun k hk => ⟨hok k hk.1, hk.2⟩) h
  uf := fun h => d.vk (fun _ hk => ⟨⟨hk.1.1, hk.2⟩, hk.1.2⟩) (d.uf h)
  jW := fun hm h => d.jW (fun k hk => hm k hk.1) h
  jK := fun hb h => d.jK hb h
def bare {α : Type} (d : Kd α) : Kd α where
  sz := d.sz
  E := d.E
  K := d.K
  M := fun w base _ x cs => d.M w base (fun _ => False) x cs
  kF := fun h => d.kF h
  wN := fun h => d.wN h
  jV := fun hb h => d.jV hb h
  vN := fun h => d.vN h
  vk := fun _ h => h
  uf := fun h => h
  jW := fun _ h => d.jW (fun _ hk => hk.elim) h
  jK := fun hb h => d.jK hb h
def raw (sz : Nat) : Kd (List Value) where
  sz := sz
  E := []
  K := fun _ x cs => cs = x ∧ cs.length = sz ∧ ∀ u ∈ cs, u.oneCell' = true
  M := fun _ _ _ x cs => cs = x ∧ cs.length = sz ∧ ∀ u ∈ cs, u.oneCell' = true
  kF := fun h => h.2.1
  wN := fun h => h.2.2
  jV := fun _ h => h
  vN := fun h => h
  vk := fun _ h => h
  uf := fun h => h
  jW := fun _ h => h
  jK := fun _ h => h
def S {α : Type} (d : Kd α) (e : Nat) (w : World) (base : Nat) (ok : Nat → Prop) (v : Value) (xs : List α) : Prop := ∃ f, (tag f d).R e w base ok v xs.zipIdx
section
variable {α β : Type} {d : Kd α} {d' : Kd β} {e e' : Nat} {w w1 W : World} {base b : Nat} {ok ok' okv oku : Nat → Prop} {u v : Value} {xs : List α} {ys : List β}
theorem zjm {xs : List α} {j : Nat} {p : α} (h : xs[j]? = some p) : xs.zipIdx[j]? = some (p, j) := by rw [List.getElem?_zipIdx, h, Nat.zero_add]; rfl
theorem S_R (h : S d e w base ok v xs) : d.R e w base ok v xs := by
  obtain ⟨f, h0, inner, ho, hr⟩ := h
  rw [List.length_zipIdx] at ho
  exact ⟨h0, inner, ho, by have := hr.1; rw [List.length_zipIdx] at this; exact this, fun j p hj => d.vk (fun _ hk => hk.1) (hr.2 j (p, j) (zjm hj))⟩
theorem zjn {ad : Addr} {n cap : Nat} (h : d.R e w base ok (.slice (some ad) n cap) xs) : ∃ g, ad = ⟨g, 0, none⟩ := by
  obtain ⟨_, inner, ho, hr⟩ := h
  rcases ho.2 with ⟨hv, _⟩ | ⟨g, cap', cur, hv, _⟩
  · cases hv
  · injection hv with ha _ _
    injection ha with ha
    exact ⟨g, ha⟩
theorem zjo {ad : Addr} {n cap : Nat} (h : d.R e W base ok (.slice (some ad) n cap) xs) (z : α) (i : Int) (h0 : 0 ≤ i) (h1 : i < n) :
    ∃ c, c.length = d.sz ∧ d.M W base (fun k => ok k ∧ some k ≠ (Value.slice (some ad) n cap).ownBlock) (xs.getD i.toNat z) c ∧ ∀ j u, c[j]? = some u → W.cell? (ad.add (i.toNat * d.sz + j)) = some u := by
  obtain ⟨g, rfl⟩ := zjn h
  obtain ⟨c, hcl, hM, hcc, _⟩ := zji h z i h0 h1
  refine ⟨c, hcl, d.vk (fun k hk => ⟨hk.1, fun he => hk.2 (by simpa [Value.ownBlock] using he)⟩) hM, fun j u hu => ?_⟩
  rw [zjg, Nat.zero_add]
  exact hcc j u hu
theorem zqP (d : Kd α) (e : Nat) (w : World) (base : Nat) (ok : Nat → Prop) : S d e w base ok (.slice none 0 0) [] := ⟨fun _ => 0, kG _ _ _ _ _⟩
theorem zjr (h : S d e w base ok v xs) (hok : ∀ k, ok k → ok' k) : S d e w base ok' v xs := by
  obtain ⟨f, h⟩ := h
  exact ⟨f, kC h hok⟩
theorem zxi (h : S d e w base ok v xs) : S d e w base (fun k => ok k ∧ base ≤ k ∧ k < w.heap.size ∧ ∃ q, q ∈ e :: d.E ∧ ∃ cells, w.heap[k]? = some (.cells cells q (0, 0))) v xs := by
  obtain ⟨f, h⟩ := h
  exact ⟨f, ZO h⟩
theorem zjs (h : S d e w base ok v xs) (hm : ∀ k, ok k → w1.heap[k]? = w.heap[k]?) : S d e w1 base ok v xs := by
  obtain ⟨f, h⟩ := h
  exact ⟨f, J9 h hm⟩
theorem wS {base' : Nat} (h : S d e w base ok v xs) (hb : base' ≤ base) : S d e w base' ok v xs := by
  obtain ⟨f, h⟩ := h
  exact ⟨f, vE h hb⟩
theorem zjt (h : S d e w base ok v xs) (hm : ∀ k, ok k → k < w.heap.size → w1.heap[k]? = w.heap[k]?) : S d e w1 base ok v xs :=
  zjr (zjs (zxi h) (fun k hk => hm k hk.1 hk.2.2.1)) (fun _ hk => hk.1)
theorem qg (h : S d e w base ok v xs) (hb : Below w.heap.size w w1) : S d e w1 base ok v xs := zjt h (fun k _ hk => hb.block k hk)
theorem xu (h : S d e w base ok v xs) (o : Obj) : S d e (w.alloc o) base ok v xs := qg h (yA (Below.refl _ _) o)
theorem qj (h : S d e w base ok v xs) : S d e w.drew base ok v xs := qg h (VG (Below.refl _ _))
theorem xA (h : S d e w base ok v xs) (m : Nat) : S d e (w.drewN m) base ok v xs := qg h (yZ (Below.refl _ _) m)
theorem zju (h : (bare d).R e w base ok v xs) : S d e w base ok v xs := by
  obtain ⟨h0, inner, ho, hr⟩ := h
  refine ⟨fun _ => 0, h0, inner, by rw [List.length_zipIdx]; exact ho, by rw [List.length_zipIdx]; exact hr.1, fun j p hj => ?_⟩
  rw [List.getElem?_zipIdx, Nat.zero_add] at hj
  obtain ⟨x, hx, rfl⟩ := Option.map_eq_some_iff.1 hj
  exact d.vk (fun _ hk => hk.elim) (hr.2 j x hx)
end
section
variable {α β : Type} {d : Kd α} {d' : Kd β} {e e' g : Nat} {w w1 W : World} {base b : Nat} {ok ok' okv oku : Nat → Prop} {u v : Value} {xs : List α} {ys : List β}
theorem jY (h : S d e w base ok v xs) : ∃ A c, v = .slice A xs.length c := xw (S_R h)
theorem zn {A : Option Addr} {n c : Nat} (h : S d e w base ok (.slice A n c) xs) : n = xs.length ∧ n ≤ c ∧ d.C w A xs.length xs := uV (S_R h)
theorem xB {ad : Addr} {n cap : Nat} (h : S d e W base ok (.slice (some ad) n cap) xs) (z : α) (i : Int) (h0 : 0 ≤ i) (h1 : i < n) :
    ∃ c, c.length = d.sz ∧ d.M W base (fun k => ok k ∧ some k ≠ (Value.slice (some ad) n cap).ownBlock) (xs.getD i.toNat z) c ∧ ∀ j u, c[j]? = some u → W.cell? (ad.add (i.toNat * d.sz + j)) = some u := zjo (S_R h) z i h0 h1
end
section
variable {P : Program} {ops : Array Oper} {rest : List Oper} {o : Oper} {a : Act} {Q : Exit → Act → World → Prop} {Kc : Act → World → Prop} {α : Type}
end
def gap {α : Type} (f : Nat → Nat) (d : Kd α) (i : Nat) (c : List Value) : Kd (α × Nat) where
  sz := d.sz
  E := d.E
  K := fun w x cs => (x.2 = i → cs = c ∧ cs.length = d.sz ∧ ∀ u ∈ cs, u.oneCell' = true) ∧ (x.2 ≠ i → d.K w x.1 cs)
  M := fun w base ok x cs => (x.2 = i → cs = c ∧ cs.length = d.sz ∧ ∀ u ∈ cs, u.oneCell' = true) ∧ (x.2 ≠ i → d.M w base (fun k => ok k ∧ f k = x.2) x.1 cs)
  kF := fun {w x cs} h => by
    by_cases hx : x.2 = i
    · exact (h.1 hx).2.1
    · exact d.kF (h.2 hx)
  wN := fun {w x cs} h => by
    by_cases hx : x.2 = i
    · exact (h.1 hx).2.2
    · exact d.wN (h.2 hx)
  jV := fun hb h => ⟨h.1, fun hx => d.jV hb (h.2 hx)⟩
  vN := fun h => ⟨h.1, fun hx => d.vN (h.2 hx)⟩
  vk := fun hok h => ⟨h.1, fun hx => d.vk (fun k hk => ⟨hok k hk.1, hk.2⟩) (h.2 hx)⟩
  uf := fun h => ⟨h.1, fun hx => d.vk (fun _ hk => ⟨⟨hk.1.1, hk.2⟩, hk.1.2⟩) (d.uf (h.2 hx))⟩
  jW := fun hm h => ⟨h.1, fun hx => d.jW (fun k hk => hm k hk.1) (h.2 hx)⟩
  jK := fun hb h => ⟨h.1, fun hx => d.jK hb (h.2 hx)⟩
def H {α : Type} (d : Kd α) (e : Nat) (w : World) (base : Nat) (ok : Nat → Prop) (v : Value) (xs : List α) (i : Int) (lD : Nat → Prop) (c : List Value) : Prop :=
  (∀ k, lD k → ok k) ∧ ∃ f, (gap f d i.toNat c).R e w base (fun k => ok k ∧ ¬ lD k) v xs.zipIdx
section
variable {α β : Type} {d : Kd α} {e e' g n cap : Nat} {w w1 W : World} {base : Nat} {ok ok' lD Zb : Nat → Prop} {u v : Value} {xs : List α} {i : Int} {c : List Value}
end
section
variable {P : Program} {ops : Array Oper} {rest : List Oper} {o : Oper} {a : Act} {Q : Exit → Act → World → Prop} {α : Type}
end
end Kd
end Go.Proofs.zk.ze
namespace Go.Proofs.zk.ze
open Go.RowKit
namespace Kd
section
variable {α : Type} {n : Nat} {d : Kd α} {hs : 0 < d.sz} {w : World} {base : Nat} {ok : Nat → Prop} {xs : List α} {cs : List Value}
end
section
variable {α : Type} {n : Nat} {enc : α → Value} {h1 : ∀ x, (enc x).oneCell' = true} {hs : 0 < (scalar enc h1).sz} {w : World} {base : Nat} {ok : Nat → Prop} {xs : List α} {cs : List Value}
end
end Kd
end Go.Proofs.zk.ze
namespace Go.Proofs.zk.ze
open Go.RowKit
section
variable {P : Program}
end
namespace Kd
section
variable {P : Program} {ops : Array Oper} {rest : List Oper} {o : Oper} {a : Act} {Q : Exit → Act → World → Prop} {Kc : Act → World → Prop} {α : Type}
end
section
variable {α : Type} {d : Kd α} {e : Nat} {w : World} {base : Nat} {ok : Nat → Prop} {v : Value} {xs : List α}
end
section
variable {P : Program} {ops : Array Oper} {rest : List Oper} {o : Oper} {a : Act} {Q : Exit → Act → World → Prop} {Kc : Act → World → Prop} {α : Type}
end
end Kd
end Go.Proofs.zk.ze
namespace Go.Proofs.zk.ze
open Go.RowKit
namespace Kd
structure Heap {α : Type} (d : Kd α) : Prop where
 K : ∀ {w w1 : World} {x : α} {cs : List Value}, (∀ k, k < w.heap.size → w1.heap[k]? = w.heap[k]?) → d.K w x cs → d.K w1 x cs
theorem lF {w w1 : World} (hb : ∀ k, k < w.heap.size → w1.heap[k]? = w.heap[k]?) {a : Addr} {v : Value} (h : w.cell? a = some v) : w1.cell? a = some v := by
 have := hb a.block (World.block_lt_of_cell? w a h)
 simpa [World.cell?, this] using h
theorem Heap.C {α : Type} {d : Kd α} (hd : Heap d) {w w1 : World} {A : Option Addr} {n : Nat} {xs : List α} (hb : ∀ k, k < w.heap.size → w1.heap[k]? = w.heap[k]?) (h : d.C w A n xs) : d.C w1 A n xs :=
 ⟨h.1, h.2.1, fun hn => by
  obtain ⟨ad, e, hc⟩ := h.2.2 hn
  refine ⟨ad, e, fun j p hj => ?_⟩
  obtain ⟨c, hs, hr, hcell⟩ := hc j p hj
  exact ⟨c, hs, hd.K hb hr, fun i u hu => lF hb (hcell i u hu)⟩⟩
section
variable {α : Type} {d : Kd α} {e base g n c : Nat} {ok : Nat → Prop} {w w0 W : World} {A : Option Addr} {xs : List α}
end
end Kd
end Go.Proofs.zk.ze
namespace Go.Proofs.zk.ze
open Go.RowKit
def Kept (w W : World) (S : Nat → Prop) : Prop := w.heap.size ≤ W.heap.size ∧ ∀ i, i < w.heap.size → ¬ S i → W.heap[i]? = w.heap[i]?
section
variable {w W W2 : World} {S S2 S' : Nat → Prop}
theorem Kept.refl (w : World) (S : Nat → Prop) : Kept w w S := ⟨Nat.le_refl _, fun _ _ _ => rfl⟩
theorem Kept.of_below (h : Below w.heap.size w W) (S : Nat → Prop) : Kept w W S := ⟨h.size, fun i hi _ => h.block i hi⟩
theorem Kept.mono (h : Kept w W S) (hs : ∀ k, S k → S' k) : Kept w W S' := ⟨h.1, fun i hi hn => h.2 i hi (fun hk => hn (hs i hk))⟩
theorem Kept.then_ (h : Kept w W S) (k : Kept W W2 S2) (hs : ∀ k, S2 k → S k ∨ w.heap.size ≤ k) : Kept w W2 S :=
 ⟨Nat.le_trans h.1 k.1, fun i hi hn => (k.2 i (Nat.lt_of_lt_of_le hi h.1) (fun h2 => (hs i h2).elim hn (fun h3 => by omega))).trans (h.2 i hi hn)⟩
theorem Kept.below (h : Kept w W S) (hb : Below W.heap.size W W2) : Kept w W2 S := h.then_ (Kept.of_below hb (fun _ => False)) (fun _ hk => hk.elim)
theorem Kept.alloc (h : Kept w W S) (o : Obj) : Kept w (W.alloc o) S := h.below (yA (Below.refl _ _) o)
theorem Kept.drew (h : Kept w W S) : Kept w W.drew S := h
theorem Kept.drewN (h : Kept w W S) (m : Nat) : Kept w (W.drewN m) S := h
theorem Kept.setCell (h : Kept w W S) {p : Addr} (hp : S p.block ∨ w.heap.size ≤ p.block) (u : Value) : Kept w (W.setCell p u) S :=
 h.then_ (S2 := fun k => k = p.block) ⟨by simp [World.setCell], fun i _ hn => Below.heap_setCell W p u i hn⟩ (fun k hk => by rw [hk]; exact hp)
theorem Kept.keep {g : Nat} (h : uW w W g none) (k : Kept W W2 S2) (hs : ∀ k, S2 k → w.heap.size ≤ k) : uW w W2 g none :=
 ⟨Nat.le_trans h.1 k.1, fun i hi hg hr => (k.2 i (Nat.lt_of_lt_of_le hi h.1) (fun h2 => by have := hs i h2; omega)).trans (h.2 i hi hg hr)⟩
end
namespace Kd
section
variable {α : Type} {d : Kd α} {e base n c : Nat} {ok lD S S2 : Nat → Prop} {w w0 W W1 W2 : World} {v : Value} {A : Option Addr} {xs : List α} {i : Int} {cs : List Value}
theorem Ky (h : d.R e W base ok v xs) (hk : Kept W W2 S) (hne : ∀ k, ok k → ¬ S k) : d.R e W2 base ok v xs := UJ h (fun k ho hlt => hk.2 k hlt (hne k ho))
end
end Kd
end Go.Proofs.zk.ze
namespace Go.Proofs.zk.ze
open Go.RowKit
def Qc (P : World → Prop) (W : World) (ok : Nat → Prop) : Prop := ∀ W' : World, (∀ k, ok k → k < W.heap.size → W'.heap[k]? = W.heap[k]?) → P W'
theorem zxl {W W1 : World} {k : Nat} (h : W1.heap[k]? = W.heap[k]?) (hlt : k < W.heap.size) : k < W1.heap.size := by
 rw [Array.getElem?_eq_getElem hlt] at h
 exact (Array.getElem?_eq_some_iff.1 h).1
namespace Qc
variable {P Q : World → Prop} {W W1 : World} {ok ok' : Nat → Prop}
theorem now (h : Qc P W ok) : P W := h W (fun _ _ _ => rfl)
theorem mono (h : Qc P W ok) (hok : ∀ k, ok k → ok' k) : Qc P W ok' := fun W' hW => h W' (fun k hk hlt => hW k (hok k hk) hlt)
theorem step (h : Qc P W ok) (hm : ∀ k, ok k → k < W.heap.size → W1.heap[k]? = W.heap[k]?) : Qc P W1 ok := fun W' hW => h W' (fun k hk hlt => (hW k hk (zxl (hm k hk hlt) hlt)).trans (hm k hk hlt))
theorem imp (h : Qc P W ok) (hi : ∀ W', P W' → Q W') : Qc Q W ok := fun W' hW => hi W' (h W' hW)
end Qc
namespace Kd
def F {α : Type} (d : Kd α) (W : World) (ok : Nat → Prop) (A : Option Addr) (n : Nat) (xs : List α) : Prop := Qc (fun W => d.C W A n xs) W ok
def FK {α : Type} (d : Kd α) (W : World) (ok : Nat → Prop) (x : α) (c : List Value) : Prop := Qc (fun W => d.K W x c) W ok
section
variable {α β : Type} {d : Kd α} {e base n n' cc g N : Nat} {ok ok' Zb S : Nat → Prop} {w w0 w1 W W1 : World} {A A' : Option Addr} {u v v1 : Value} {xs : List α} {xs' : List β} {d' : Kd β} {x : α} {c : List Value}
theorem zv8 (d : Kd α) (W : World) (ok : Nat → Prop) : F d W ok none ([] : List α).length [] := fun W' _ => VI d W'
theorem zxm (h : d.M W base ok x c) : FK d W ok x c := fun _ hW => d.vN (lK h hW)
end
end Kd
end Go.Proofs.zk.ze
namespace Go.Proofs.zk.ze
open Go.RowKit
namespace Kd
def chunks (sz : Nat) (n : Nat) (inner : List Value) : List (List Value) := (List.range n).map fun j => (inner.drop (j * sz)).take sz
theorem Zg (sz n : Nat) (inner : List Value) : (chunks sz n inner).length = n := by simp [chunks]
theorem lG {sz n : Nat} {inner : List Value} {j : Nat} (hj : j < n) : (chunks sz n inner)[j]? = some ((inner.drop (j * sz)).take sz) := by simp [chunks, hj]
theorem Kw {sz n : Nat} {inner : List Value} {j : Nat} {c : List Value} (h : (chunks sz n inner)[j]? = some c) : c = (inner.drop (j * sz)).take sz := by
 have hj : j < n := by have := (List.getElem?_eq_some_iff.1 h).1; rwa [Zg] at this
 rw [lG hj] at h
 injection h with h
 exact h.symm
theorem zzp {α : Type} {Rr : α → List Value → Prop} {sz : Nat} {xs : List α} {inner : List Value} (h : yR Rr sz xs inner) (hR : ∀ x c, Rr x c → c.length = sz ∧ ∀ u ∈ c, u.oneCell' = true) : yR (fun x cs => cs = x ∧ cs.length = sz ∧ ∀ u ∈ cs, u.oneCell' = true) sz (chunks sz xs.length inner) inner := by
 refine ⟨by rw [Zg]; exact h.1, fun j p hj => ?_⟩
 have hjl : j < xs.length := by have := (List.getElem?_eq_some_iff.1 hj).1; rwa [Zg] at this
 have hp := Kw hj
 exact ⟨hp.symm, hR _ _ (h.2 j _ (List.getElem?_eq_getElem hjl))⟩
section
variable {α : Type} {d : Kd α} {e base n cc g : Nat} {ok ok' Zb S : Nat → Prop} {w w1 W W1 : World} {A : Option Addr} {u v v1 : Value} {xs : List α} {x : α} {c : List Value}
def N {α : Type} (d : Kd α) (e : Nat) (w : World) (base : Nat) (ok : Nat → Prop) (v : Value) (xs : List α) : Prop :=
 (∀ k, v.ownBlock = some k → ok k) ∧ ∃ rows : List (List Value), rows.length = xs.length ∧ (raw d.sz).R e w base (fun k => some k = v.ownBlock) v rows ∧ ∀ (j : Nat) (x : α) (c : List Value), xs[j]? = some x → rows[j]? = some c → FK d w (fun k => ok k ∧ some k ≠ v.ownBlock) x c
theorem R_N (h : d.R e w base ok v xs) : N d e w base ok v xs := by
 obtain ⟨h0, inner, ho, hr⟩ := h
 refine ⟨h0, chunks d.sz xs.length inner, Zg _ _ _, ⟨fun k hk => hk.symm, inner, by rw [Zg]; exact ho, zzp hr (fun x c hp => ⟨d.kF (d.vN hp), d.wN (d.vN hp)⟩)⟩, fun j x c hx hc => ?_⟩
 rw [Kw hc]
 exact zxm (hr.2 j x hx)
theorem zv9 (d : Kd α) (e : Nat) (w : World) (base : Nat) (ok : Nat → Prop) : N d e w base ok (.slice none 0 0) [] := R_N (kG _ _ _ _ _)
end
end Kd
end Go.Proofs.zk.ze
namespace Go.Proofs.zk.ze
open Go.RowKit
namespace Kd
section
variable {α : Type} {d : Kd α} {W : World} {g n : Nat} {S ok : Nat → Prop} {A : Option Addr} {ad : Addr} {xs : List α}
end
end Kd
end Go.Proofs.zk.ze
namespace Go.Proofs.zk.ze
open Go.RowKit
section
variable {w w' u : World} {m B g : Nat} {o : Obj} {row : Option Nat} {S : Nat → Prop} {a : Addr} {v : Value}
end
namespace Kd
section
variable {α : Type} {d : Kd α} {e base n m : Nat} {ok : Nat → Prop} {w w' : World} {v : Value} {A : Option Addr} {xs : List α}
end
end Kd
end Go.Proofs.zk.ze
namespace Go.Proofs.zk.ze
open Go.RowKit
section
variable {P : Program} {d : Nat} {xs ys : Array Value} {f : Field} {fs : List Field} {a b : Value} {r s : Bool} {w : World}
end
end Go.Proofs.zk.ze
namespace Go.Proofs.zk.ze
theorem yR.one {α : Type} {R : α → List Value → Prop} {ps : List α} {cs : List Value} {p : α} {v : Value} (hp : R p [v]) (h : yR R 1 ps cs) : yR R 1 (p :: ps) (v :: cs) := by
 refine ⟨by simp [h.1], fun j q hq => ?_⟩
 cases j with
 | zero =>
  simp only [List.getElem?_cons_zero, Option.some.injEq] at hq
  subst hq
  simpa using hp
 | succ j =>
  simp only [List.getElem?_cons_succ] at hq
  have h1 := h.2 j q hq
  simpa [Nat.mul_one] using h1
theorem yR.front {α : Type} {R : α → List Value → Prop} {size : Nat} {ps : List α} {cs c all : List Value} {p : α} (hp : R p c) (hc : c.length = size) (h : yR R size ps cs) (ha : c ++ cs = all) : yR R size (p :: ps) all := by
 subst ha
 refine ⟨by rw [List.length_append, hc, h.1, List.length_cons, Nat.succ_mul, Nat.add_comm], fun j q hq => ?_⟩
 cases j with
 | zero =>
  simp only [List.getElem?_cons_zero, Option.some.injEq] at hq
  subst hq
  rw [Nat.zero_mul, List.drop_zero, List.take_append_of_le_length (by omega), List.take_of_length_le (by omega)]
  exact hp
 | succ j =>
  simp only [List.getElem?_cons_succ] at hq
  have h1 := h.2 j q hq
  rw [Nat.succ_mul, List.drop_append, List.drop_of_length_le (by rw [hc]; exact Nat.le_add_left _ _), List.nil_append, hc, Nat.add_sub_cancel]
  exact h1
theorem yR.c2 {α : Type} {R : α → List Value → Prop} {ps : List α} {cs : List Value} {p : α} {va vb : Value} (hp : R p [va, vb]) (h : yR R 2 ps cs) : yR R 2 (p :: ps) (va :: vb :: cs) := yR.front hp rfl h rfl
theorem yR.c3 {α : Type} {R : α → List Value → Prop} {ps : List α} {cs : List Value} {p : α} {va vb vc : Value} (hp : R p [va, vb, vc]) (h : yR R 3 ps cs) : yR R 3 (p :: ps) (va :: vb :: vc :: cs) := yR.front hp rfl h rfl
theorem yR.c4 {α : Type} {R : α → List Value → Prop} {ps : List α} {cs : List Value} {p : α} {va vb vc vd : Value} (hp : R p [va, vb, vc, vd]) (h : yR R 4 ps cs) : yR R 4 (p :: ps) (va :: vb :: vc :: vd :: cs) := yR.front hp rfl h rfl
theorem yR.c5 {α : Type} {R : α → List Value → Prop} {ps : List α} {cs : List Value} {p : α} {va vb vc vd ve : Value} (hp : R p [va, vb, vc, vd, ve]) (h : yR R 5 ps cs) : yR R 5 (p :: ps) (va :: vb :: vc :: vd :: ve :: cs) := yR.front hp rfl h rfl
theorem yR.c6 {α : Type} {R : α → List Value → Prop} {ps : List α} {cs : List Value} {p : α} {va vb vc vd ve vf : Value} (hp : R p [va, vb, vc, vd, ve, vf]) (h : yR R 6 ps cs) : yR R 6 (p :: ps) (va :: vb :: vc :: vd :: ve :: vf :: cs) := yR.front hp rfl h rfl
theorem yR.c7 {α : Type} {R : α → List Value → Prop} {ps : List α} {cs : List Value} {p : α} {va vb vc vd ve vf vg : Value} (hp : R p [va, vb, vc, vd, ve, vf, vg]) (h : yR R 7 ps cs) : yR R 7 (p :: ps) (va :: vb :: vc :: vd :: ve :: vf :: vg :: cs) := yR.front hp rfl h rfl
theorem yR.c8 {α : Type} {R : α → List Value → Prop} {ps : List α} {cs : List Value} {p : α} {va vb vc vd ve vf vg vh : Value} (hp : R p [va, vb, vc, vd, ve, vf, vg, vh]) (h : yR R 8 ps cs) : yR R 8 (p :: ps) (va :: vb :: vc :: vd :: ve :: vf :: vg :: vh :: cs) := yR.front hp rfl h rfl
theorem yR.c9 {α : Type} {R : α → List Value → Prop} {ps : List α} {cs : List Value} {p : α} {va vb vc vd ve vf vg vh vi : Value} (hp : R p [va, vb, vc, vd, ve, vf, vg, vh, vi]) (h : yR R 9 ps cs) : yR R 9 (p :: ps) (va :: vb :: vc :: vd :: ve :: vf :: vg :: vh :: vi :: cs) := yR.front hp rfl h rfl
theorem yR.c10 {α : Type} {R : α → List Value → Prop} {ps : List α} {cs : List Value} {p : α} {va vb vc vd ve vf vg vh vi vj : Value} (hp : R p [va, vb, vc, vd, ve, vf, vg, vh, vi, vj]) (h : yR R 10 ps cs) : yR R 10 (p :: ps) (va :: vb :: vc :: vd :: ve :: vf :: vg :: vh :: vi :: vj :: cs) := yR.front hp rfl h rfl
end Go.Proofs.zk.ze
namespace Go.Proofs.zk.yc
section
variable {P : Program} {ops : Array Oper} {Q : Exit → Act → World → Prop} {md : Region.Mode} {T : Bool × List (List Nat × List Nat)} {B : List Nat} {O : List Nat} {b : Nat → Bool} {i j n : Nat}
end
end Go.Proofs.zk.yc
namespace Go.Proofs.zk.ze
open Go.RowKit
end Go.Proofs.zk.ze
namespace Go.Proofs.zk.yc
section
variable {ops : Array Oper} {a : Act} {o og : Oper} {g : Nat} {t : Tmp} {u : Bool}
end
end Go.Proofs.zk.yc
namespace Go.Proofs.zk.ze
open Go.RowKit
section
variable {P : Program} {ops : Array Oper} {rest : List Oper} {o : Oper} {a : Act} {Q : Exit → Act → World → Prop} {W : World}
theorem Zc (hw : Region.wanted o (yielded ops a.tmps) = true) (h : wpList P ops Q ({ o with guard := none } :: rest) a W) : wpList P ops Q (o :: rest) a W := by
 have h1 : Region.wanted { o with guard := none } (yielded ops a.tmps) = true := rfl
 unfold wpList at h ⊢
 rw [if_pos h1] at h
 rw [if_pos hw]
 exact h
end
end Go.Proofs.zk.ze
namespace Go.Proofs.zk.ze
open Go.RowKit
namespace Kd
section
variable {α : Type} {d : Kd α} {e base n cap g : Nat} {ok ok' Zb : Nat → Prop} {w w1 W : World} {v v1 : Value} {xs ys : List α}
end
section
variable {P : Program} {ops : Array Oper} {rest : List Oper} {o : Oper} {a : Act} {Q : Exit → Act → World → Prop} {Kc : Act → World → Prop} {α : Type}
end
end Kd
end Go.Proofs.zk.ze
namespace Go.Proofs.zk.yt
open Go.RowKit Go.Proofs.zk.ze
namespace Kd
open Go.Proofs.zk.ze.Kd
end Kd
namespace Kd
open Go.Proofs.zk.ze.Kd
section
variable {α : Type} {d : Kd α} {e base g N : Nat} {ok : Nat → Prop} {W w1 : World} {u v : Value} {xs : List α}
end
end Kd
theorem wo (k k' : IntKind) (x y : Int) : Builtin.max2 (.int k x) (.int k' y) = pure (.int k (if x < y then y else x)) := by simp only [Builtin.max2, gt_iff_lt]
theorem wu (k k' : IntKind) (x y : Int) : Builtin.min2 (.int k x) (.int k' y) = pure (.int k (if y < x then y else x)) := by simp only [Builtin.min2]
theorem Zk (ats : Array TypeId) (ty : TypeId) (a b : Value) : Builtin.max_ ats ty #[a, b] = (Builtin.max2 a b >>= fun s => pure s) := by simp only [Builtin.max_, List.foldlM_cons, List.foldlM_nil]
theorem Zy (ats : Array TypeId) (ty : TypeId) (a b : Value) : Builtin.min_ ats ty #[a, b] = (Builtin.min2 a b >>= fun s => pure s) := by simp only [Builtin.min_, List.foldlM_cons, List.foldlM_nil]
theorem jd (ats : Array TypeId) (ty : TypeId) (a b c : Value) : Builtin.max_ ats ty #[a, b, c] = (Builtin.max2 a b >>= fun s => Builtin.max2 s c >>= fun s => pure s) := by simp only [Builtin.max_, List.foldlM_cons, List.foldlM_nil]
theorem je (ats : Array TypeId) (ty : TypeId) (a b c : Value) : Builtin.min_ ats ty #[a, b, c] = (Builtin.min2 a b >>= fun s => Builtin.min2 s c >>= fun s => pure s) := by simp only [Builtin.min_, List.foldlM_cons, List.foldlM_nil]
theorem wB (ats : Array TypeId) (ty : TypeId) (a b c d : Value) : Builtin.max_ ats ty #[a, b, c, d] = (Builtin.max2 a b >>= fun s => Builtin.max2 s c >>= fun s => Builtin.max2 s d >>= fun s => pure s) := by simp only [Builtin.max_, List.foldlM_cons, List.foldlM_nil]
theorem wC (ats : Array TypeId) (ty : TypeId) (a b c d : Value) : Builtin.min_ ats ty #[a, b, c, d] = (Builtin.min2 a b >>= fun s => Builtin.min2 s c >>= fun s => Builtin.min2 s d >>= fun s => pure s) := by simp only [Builtin.min_, List.foldlM_cons, List.foldlM_nil]
end Go.Proofs.zk.yt
namespace Go.Proofs.zk.ze
open Go.RowKit
section
variable {P : Program} {ops : Array Oper} {rest : List Oper} {o : Oper} {a : Act} {Q : Exit → Act → World → Prop} {W : World}
theorem yg {f : FuncId} {zq : Array Operand} {ts : Array TypeId} (_ho : o.op = .call { callee := .value (.func f), args := zq, argTypes := ts }) (h : wpList P ops Q (o :: rest) a W) : wpList P ops Q (o :: rest) a W := h
theorem Qd {b : Builtin} {xs : Array Operand} {ts : Array TypeId} (_ho : o.op = .call { callee := .builtin b, args := xs, argTypes := ts }) (h : wpList P ops Q (o :: rest) a W) : wpList P ops Q (o :: rest) a W := h
end
def mx (a b : Int) : Int := if a < b then b else a
namespace Kd
section
variable {α : Type} {d : Kd α} {e base : Nat} {ok : Nat → Prop} {W w1 : World} {v : Value} {xs : List α}
end
section
variable {α : Type} {d : Kd α} {e base g n cap : Nat} {ok lD Zb : Nat → Prop} {W : World} {xs : List α} {i : Int} {c : List Value}
end
section
variable {α : Type} {d : Kd α} {e base b b' g N : Nat} {ok ok1 : Nat → Prop} {W W2 w1 : World} {u v : Value} {xs ys : List α} {S : Nat → Prop}
end
end Kd
end Go.Proofs.zk.ze
namespace Go.Proofs.zk.ze
open Go.RowKit
namespace Kd
def V {α : Type} (d : Kd α) (_e : Nat) (W : World) (_base : Nat) (ok : Nat → Prop) (v : Value) (xs : List α) : Prop := ∃ A c, v = .slice A xs.length c ∧ xs.length ≤ c ∧ F d W ok A xs.length xs
section
variable {α β : Type} {d : Kd α} {e base base' n m c g N' lo hi : Nat} {ok ok' S : Nat → Prop} {w W w1 : World} {A : Option Addr} {ad : Addr} {u v v1 : Value} {xs : List α}
theorem zkz (d : Kd α) (e : Nat) (W : World) (base : Nat) (ok : Nat → Prop) : V d e W base ok (.slice none 0 0) [] := ⟨none, 0, rfl, Nat.le_refl _, zv8 d W ok⟩
end
end Kd
end Go.Proofs.zk.ze
namespace Go.Proofs.YtggifbbiiickmaaGreatDoor.PX
open Go.RowKit Go.Proofs.zk.ze Go.Proofs.zk.yc Go.Proofs.zk.yt
attribute [local go_sem] wo wu Zk Zy jd je wB wC   -- for this text's walks alone
set_option linter.unusedVariables false
set_option linter.unusedSimpArgs false
def zjA : Option Int → Value
 | none => .nilIface
 | some c => .iface 0 (.int .i64 c)
theorem zR : zjA none = .nilIface := rfl
theorem zS (c : Int) : zjA (some c) = .iface 0 (.int .i64 c) := rfl
theorem zqR : (Tryz.prog.info? 9).map (fun i => (i.zero, i.size, i.bytes)) = some (some (.string ⟨#[]⟩), 1, 16) := by kernel_rfl
theorem lH : (Tryz.prog.info? 53).map (fun i => (i.zero, i.size, i.bytes)) = some (some (.agg #[(.int .i64 0), (.int .i64 0), (.int .i64 0), (.int .i64 0), (.string ⟨#[]⟩), (.string ⟨#[]⟩), (.slice none 0 0)]), 7, 88) := by kernel_rfl
structure yh where
 f0 : ByteArray
 f1 : Int
def z105 : yh := ⟨(⟨#[]⟩ : ByteArray), (0 : Int)⟩
def qH : Kd yh := Kd.sO (Kd.pair Kd.string (Kd.int .i64)) (fun x : yh => (x.f0, x.f1))
theorem bf {w : World} {x : yh} {cs : List Value} (h : qH.K w x cs) : cs = [.string x.f0, .int .i64 x.f1] := by
 obtain ⟨_, _, rfl, rfl, rfl⟩ := h
 exact rfl
theorem eZ {w : World} {base : Nat} {ok : Nat → Prop} {x : yh} {cs : List Value} (h : qH.M w base ok x cs) : cs = [.string x.f0, .int .i64 x.f1] := by
 obtain ⟨_, _, rfl, rfl, rfl⟩ := h
 exact rfl
theorem Xg (w : World) (base : Nat) (ok : Nat → Prop) (x : yh)  : qH.M w base ok x [.string x.f0, .int .i64 x.f1] := ⟨[.string x.f0], [.int .i64 x.f1], rfl, rfl, rfl⟩
def qZ (xs : List yh) (i : Int) : yh := xs.getD i.toNat z105
theorem VZ {w : World} {A : Option Addr} {n : Nat} {xs : List yh} (h : Kd.C qH w A n xs) (i : Int) (h0 : 0 ≤ i) (h1 : i < n) : ∃ ad , A = some ad ∧ w.cell? (ad.add (i.toNat * 2)) = some (.string (qZ xs i).f0) ∧ w.cell? ⟨(ad.add (i.toNat * 2)).block, (ad.add (i.toNat * 2)).off + 1, none⟩ = some (.int .i64 (qZ xs i).f1) := by
 obtain ⟨ad, c, e, _, hK, hc0⟩ := Kd.UR h z105 i h0 h1
 have hc : ∀ j u, c[j]? = some u → w.cell? (ad.add (i.toNat * 2 + j)) = some u := hc0
 obtain rfl := bf hK
 exact ⟨ad, e, hc 0 _ rfl, by rw [← zB _ _ 1 (by omega)]; exact hc 1 _ rfl⟩
structure qy where
 f0 : ByteArray
 f1 : ByteArray
 f2 : ByteArray
def zzr : qy := ⟨(⟨#[]⟩ : ByteArray), (⟨#[]⟩ : ByteArray), (⟨#[]⟩ : ByteArray)⟩
def vw : Kd qy := Kd.sO (Kd.pair Kd.string (Kd.pair Kd.string Kd.string)) (fun x : qy => (x.f0, x.f1, x.f2))
theorem bg {w : World} {x : qy} {cs : List Value} (h : vw.K w x cs) : cs = [.string x.f0, .string x.f1, .string x.f2] := by
 obtain ⟨_, _, rfl, rfl, ⟨_, _, rfl, rfl, rfl⟩⟩ := h
 exact rfl
theorem JE (w : World) (base : Nat) (ok : Nat → Prop) (x : qy)  : vw.M w base ok x [.string x.f0, .string x.f1, .string x.f2] := ⟨[.string x.f0], [.string x.f1, .string x.f2], rfl, rfl, ⟨[.string x.f1], [.string x.f2], rfl, rfl, rfl⟩⟩
def xG (xs : List qy) (i : Int) : qy := xs.getD i.toNat zzr
theorem Wh {w : World} {A : Option Addr} {n : Nat} {xs : List qy} (h : Kd.C vw w A n xs) (i : Int) (h0 : 0 ≤ i) (h1 : i < n) : ∃ ad , A = some ad ∧ w.cell? (ad.add (i.toNat * 3)) = some (.string (xG xs i).f0) ∧ w.cell? ⟨(ad.add (i.toNat * 3)).block, (ad.add (i.toNat * 3)).off + 1, none⟩ = some (.string (xG xs i).f1) ∧ w.cell? ⟨(ad.add (i.toNat * 3)).block, (ad.add (i.toNat * 3)).off + 2, none⟩ = some (.string (xG xs i).f2) := by
 obtain ⟨ad, c, e, _, hK, hc0⟩ := Kd.UR h zzr i h0 h1
 have hc : ∀ j u, c[j]? = some u → w.cell? (ad.add (i.toNat * 3 + j)) = some u := hc0
 obtain rfl := bg hK
 exact ⟨ad, e, hc 0 _ rfl, by rw [← zB _ _ 1 (by omega)]; exact hc 1 _ rfl, by rw [← zB _ _ 2 (by omega)]; exact hc 2 _ rfl⟩
structure qc where
 f0 : ByteArray
 f1 : ByteArray
 f2 : Int
def zzs : qc := ⟨(⟨#[]⟩ : ByteArray), (⟨#[]⟩ : ByteArray), (0 : Int)⟩
def vC : Kd qc := Kd.sO (Kd.pair Kd.string (Kd.pair Kd.string (Kd.int .i64))) (fun x : qc => (x.f0, x.f1, x.f2))
theorem bn {w : World} {x : qc} {cs : List Value} (h : vC.K w x cs) : cs = [.string x.f0, .string x.f1, .int .i64 x.f2] := by
 obtain ⟨_, _, rfl, rfl, ⟨_, _, rfl, rfl, rfl⟩⟩ := h
 exact rfl
theorem Qe (w : World) (base : Nat) (ok : Nat → Prop) (x : qc)  : vC.M w base ok x [.string x.f0, .string x.f1, .int .i64 x.f2] := ⟨[.string x.f0], [.string x.f1, .int .i64 x.f2], rfl, rfl, ⟨[.string x.f1], [.int .i64 x.f2], rfl, rfl, rfl⟩⟩
def xH (xs : List qc) (i : Int) : qc := xs.getD i.toNat zzs
theorem Wi {w : World} {A : Option Addr} {n : Nat} {xs : List qc} (h : Kd.C vC w A n xs) (i : Int) (h0 : 0 ≤ i) (h1 : i < n) : ∃ ad , A = some ad ∧ w.cell? (ad.add (i.toNat * 3)) = some (.string (xH xs i).f0) ∧ w.cell? ⟨(ad.add (i.toNat * 3)).block, (ad.add (i.toNat * 3)).off + 1, none⟩ = some (.string (xH xs i).f1) ∧ w.cell? ⟨(ad.add (i.toNat * 3)).block, (ad.add (i.toNat * 3)).off + 2, none⟩ = some (.int .i64 (xH xs i).f2) := by
 obtain ⟨ad, c, e, _, hK, hc0⟩ := Kd.UR h zzs i h0 h1
 have hc : ∀ j u, c[j]? = some u → w.cell? (ad.add (i.toNat * 3 + j)) = some u := hc0
 obtain rfl := bn hK
 exact ⟨ad, e, hc 0 _ rfl, by rw [← zB _ _ 1 (by omega)]; exact hc 1 _ rfl, by rw [← zB _ _ 2 (by omega)]; exact hc 2 _ rfl⟩
structure kD where
 f0 : ByteArray
 f1 : Bool
 f2 : Int
 f3 : (List yh)
 f4 : (List qy)
 f5 : (List qc)
def z60 : kD := ⟨(⟨#[]⟩ : ByteArray), false, (0 : Int), ([] : List yh), ([] : List qy), ([] : List qc)⟩
def Zq : Kd kD := Kd.sO (Kd.pair Kd.string (Kd.pair Kd.bool (Kd.pair (Kd.int .i64) (Kd.pair (Kd.slice 105 qH) (Kd.pair (Kd.slice 108 vw) (Kd.slice 111 vC)))))) (fun x : kD => (x.f0, x.f1, x.f2, x.f3, x.f4, x.f5))
theorem zzt {w : World} {x : kD} {cs : List Value} (h : Zq.K w x cs) : ∃ A3 c3 A4 c4 A5 c5, cs = [.string x.f0, .bool x.f1, .int .i64 x.f2, .slice A3 x.f3.length c3, .slice A4 x.f4.length c4, .slice A5 x.f5.length c5] ∧ x.f3.length ≤ c3 ∧ qH.C w A3 x.f3.length x.f3 ∧ x.f4.length ≤ c4 ∧ vw.C w A4 x.f4.length x.f4 ∧ x.f5.length ≤ c5 ∧ vC.C w A5 x.f5.length x.f5 := by
 obtain ⟨_, _, rfl, rfl, ⟨_, _, rfl, rfl, ⟨_, _, rfl, rfl, ⟨_, _, rfl, ⟨A3, c3, rfl, l3, g3⟩, ⟨_, _, rfl, ⟨A4, c4, rfl, l4, g4⟩, ⟨A5, c5, rfl, l5, g5⟩⟩⟩⟩⟩⟩ := h
 exact ⟨A3, c3, A4, c4, A5, c5, rfl, l3, g3, l4, g4, l5, g5⟩
theorem Yu {w : World} {base : Nat} {ok : Nat → Prop} {x : kD} {cs : List Value} (h : Zq.M w base ok x cs) : ∃ v3 v4 v5, cs = [.string x.f0, .bool x.f1, .int .i64 x.f2, v3, v4, v5] ∧ qH.R 105 w base ok v3 x.f3 ∧ vw.R 108 w base ok v4 x.f4 ∧ vC.R 111 w base ok v5 x.f5 := by
 obtain ⟨_, _, rfl, rfl, ⟨_, _, rfl, rfl, ⟨_, _, rfl, rfl, ⟨_, _, rfl, ⟨v3, rfl, g3⟩, ⟨_, _, rfl, ⟨v4, rfl, g4⟩, ⟨v5, rfl, g5⟩⟩⟩⟩⟩⟩ := h
 exact ⟨v3, v4, v5, rfl, g3, g4, g5⟩
theorem zxn (w : World) (base : Nat) (ok : Nat → Prop) (x : kD) {v3 : Value} (g3 : qH.R 105 w base ok v3 x.f3) {v4 : Value} (g4 : vw.R 108 w base ok v4 x.f4) {v5 : Value} (g5 : vC.R 111 w base ok v5 x.f5) : Zq.M w base ok x [.string x.f0, .bool x.f1, .int .i64 x.f2, v3, v4, v5] := ⟨[.string x.f0], [.bool x.f1, .int .i64 x.f2, v3, v4, v5], rfl, rfl, ⟨[.bool x.f1], [.int .i64 x.f2, v3, v4, v5], rfl, rfl, ⟨[.int .i64 x.f2], [v3, v4, v5], rfl, rfl, ⟨[v3], [v4, v5], rfl, ⟨v3, rfl, g3⟩, ⟨[v4], [v5], rfl, ⟨v4, rfl, g4⟩, ⟨v5, rfl, g5⟩⟩⟩⟩⟩⟩
def zK (xs : List kD) (i : Int) : kD := xs.getD i.toNat z60
theorem Yv {w : World} {A : Option Addr} {n : Nat} {xs : List kD} (h : Kd.C Zq w A n xs) (i : Int) (h0 : 0 ≤ i) (h1 : i < n) : ∃ ad A3 c3 A4 c4 A5 c5, A = some ad ∧ w.cell? (ad.add (i.toNat * 6)) = some (.string (zK xs i).f0) ∧ w.cell? ⟨(ad.add (i.toNat * 6)).block, (ad.add (i.toNat * 6)).off + 1, none⟩ = some (.bool (zK xs i).f1) ∧ w.cell? ⟨(ad.add (i.toNat * 6)).block, (ad.add (i.toNat * 6)).off + 2, none⟩ = some (.int .i64 (zK xs i).f2) ∧ w.cell? ⟨(ad.add (i.toNat * 6)).block, (ad.add (i.toNat * 6)).off + 3, none⟩ = some (.slice A3 (zK xs i).f3.length c3) ∧ w.cell? ⟨(ad.add (i.toNat * 6)).block, (ad.add (i.toNat * 6)).off + 4, none⟩ = some (.slice A4 (zK xs i).f4.length c4) ∧ w.cell? ⟨(ad.add (i.toNat * 6)).block, (ad.add (i.toNat * 6)).off + 5, none⟩ = some (.slice A5 (zK xs i).f5.length c5) ∧ (zK xs i).f3.length ≤ c3 ∧ qH.C w A3 (zK xs i).f3.length (zK xs i).f3 ∧ (zK xs i).f4.length ≤ c4 ∧ vw.C w A4 (zK xs i).f4.length (zK xs i).f4 ∧ (zK xs i).f5.length ≤ c5 ∧ vC.C w A5 (zK xs i).f5.length (zK xs i).f5 := by
 obtain ⟨ad, c, e, _, hK, hc0⟩ := Kd.UR h z60 i h0 h1
 have hc : ∀ j u, c[j]? = some u → w.cell? (ad.add (i.toNat * 6 + j)) = some u := hc0
 obtain ⟨A3, c3, A4, c4, A5, c5, rfl, l3, g3, l4, g4, l5, g5⟩ := zzt hK
 exact ⟨ad, A3, c3, A4, c4, A5, c5, e, hc 0 _ rfl, by rw [← zB _ _ 1 (by omega)]; exact hc 1 _ rfl, by rw [← zB _ _ 2 (by omega)]; exact hc 2 _ rfl, by rw [← zB _ _ 3 (by omega)]; exact hc 3 _ rfl, by rw [← zB _ _ 4 (by omega)]; exact hc 4 _ rfl, by rw [← zB _ _ 5 (by omega)]; exact hc 5 _ rfl, l3, g3, l4, g4, l5, g5⟩
structure Xa where
 f0 : Int
 f1 : Int
 f2 : Int
 f3 : Int
 f4 : ByteArray
 f5 : ByteArray
 f6 : (List Int)
def z53 : Xa := ⟨(0 : Int), (0 : Int), (0 : Int), (0 : Int), (⟨#[]⟩ : ByteArray), (⟨#[]⟩ : ByteArray), ([] : List Int)⟩
def Xb : Kd Xa := Kd.sO (Kd.pair (Kd.int .i64) (Kd.pair (Kd.int .i64) (Kd.pair (Kd.int .i64) (Kd.pair (Kd.int .i64) (Kd.pair Kd.string (Kd.pair Kd.string (Kd.slice 3 (Kd.int .i64)))))))) (fun x : Xa => (x.f0, x.f1, x.f2, x.f3, x.f4, x.f5, x.f6))
theorem zzu {w : World} {x : Xa} {cs : List Value} (h : Xb.K w x cs) : ∃ A6 c6, cs = [.int .i64 x.f0, .int .i64 x.f1, .int .i64 x.f2, .int .i64 x.f3, .string x.f4, .string x.f5, .slice A6 x.f6.length c6] ∧ x.f6.length ≤ c6 ∧ (Kd.int .i64).C w A6 x.f6.length x.f6 := by
 obtain ⟨_, _, rfl, rfl, ⟨_, _, rfl, rfl, ⟨_, _, rfl, rfl, ⟨_, _, rfl, rfl, ⟨_, _, rfl, rfl, ⟨_, _, rfl, rfl, ⟨A6, c6, rfl, l6, g6⟩⟩⟩⟩⟩⟩⟩ := h
 exact ⟨A6, c6, rfl, l6, g6⟩
theorem qJ {w : World} {base : Nat} {ok : Nat → Prop} {x : Xa} {cs : List Value} (h : Xb.M w base ok x cs) : ∃ v6, cs = [.int .i64 x.f0, .int .i64 x.f1, .int .i64 x.f2, .int .i64 x.f3, .string x.f4, .string x.f5, v6] ∧ (Kd.int .i64).R 3 w base ok v6 x.f6 := by
 obtain ⟨_, _, rfl, rfl, ⟨_, _, rfl, rfl, ⟨_, _, rfl, rfl, ⟨_, _, rfl, rfl, ⟨_, _, rfl, rfl, ⟨_, _, rfl, rfl, ⟨v6, rfl, g6⟩⟩⟩⟩⟩⟩⟩ := h
 exact ⟨v6, rfl, g6⟩
theorem sS (w : World) (base : Nat) (ok : Nat → Prop) (x : Xa) {v6 : Value} (g6 : (Kd.int .i64).R 3 w base ok v6 x.f6) : Xb.M w base ok x [.int .i64 x.f0, .int .i64 x.f1, .int .i64 x.f2, .int .i64 x.f3, .string x.f4, .string x.f5, v6] := ⟨[.int .i64 x.f0], [.int .i64 x.f1, .int .i64 x.f2, .int .i64 x.f3, .string x.f4, .string x.f5, v6], rfl, rfl, ⟨[.int .i64 x.f1], [.int .i64 x.f2, .int .i64 x.f3, .string x.f4, .string x.f5, v6], rfl, rfl, ⟨[.int .i64 x.f2], [.int .i64 x.f3, .string x.f4, .string x.f5, v6], rfl, rfl, ⟨[.int .i64 x.f3], [.string x.f4, .string x.f5, v6], rfl, rfl, ⟨[.string x.f4], [.string x.f5, v6], rfl, rfl, ⟨[.string x.f5], [v6], rfl, rfl, ⟨v6, rfl, g6⟩⟩⟩⟩⟩⟩⟩
def zw (xs : List Xa) (i : Int) : Xa := xs.getD i.toNat z53
theorem qo {w : World} {A : Option Addr} {n : Nat} {xs : List Xa} (h : Kd.C Xb w A n xs) (i : Int) (h0 : 0 ≤ i) (h1 : i < n) : ∃ ad A6 c6, A = some ad ∧ w.cell? (ad.add (i.toNat * 7)) = some (.int .i64 (zw xs i).f0) ∧ w.cell? ⟨(ad.add (i.toNat * 7)).block, (ad.add (i.toNat * 7)).off + 1, none⟩ = some (.int .i64 (zw xs i).f1) ∧ w.cell? ⟨(ad.add (i.toNat * 7)).block, (ad.add (i.toNat * 7)).off + 2, none⟩ = some (.int .i64 (zw xs i).f2) ∧ w.cell? ⟨(ad.add (i.toNat * 7)).block, (ad.add (i.toNat * 7)).off + 3, none⟩ = some (.int .i64 (zw xs i).f3) ∧ w.cell? ⟨(ad.add (i.toNat * 7)).block, (ad.add (i.toNat * 7)).off + 4, none⟩ = some (.string (zw xs i).f4) ∧ w.cell? ⟨(ad.add (i.toNat * 7)).block, (ad.add (i.toNat * 7)).off + 5, none⟩ = some (.string (zw xs i).f5) ∧ w.cell? ⟨(ad.add (i.toNat * 7)).block, (ad.add (i.toNat * 7)).off + 6, none⟩ = some (.slice A6 (zw xs i).f6.length c6) ∧ (zw xs i).f6.length ≤ c6 ∧ (Kd.int .i64).C w A6 (zw xs i).f6.length (zw xs i).f6 := by
 obtain ⟨ad, c, e, _, hK, hc0⟩ := Kd.UR h z53 i h0 h1
 have hc : ∀ j u, c[j]? = some u → w.cell? (ad.add (i.toNat * 7 + j)) = some u := hc0
 obtain ⟨A6, c6, rfl, l6, g6⟩ := zzu hK
 exact ⟨ad, A6, c6, e, hc 0 _ rfl, by rw [← zB _ _ 1 (by omega)]; exact hc 1 _ rfl, by rw [← zB _ _ 2 (by omega)]; exact hc 2 _ rfl, by rw [← zB _ _ 3 (by omega)]; exact hc 3 _ rfl, by rw [← zB _ _ 4 (by omega)]; exact hc 4 _ rfl, by rw [← zB _ _ 5 (by omega)]; exact hc 5 _ rfl, by rw [← zB _ _ 6 (by omega)]; exact hc 6 _ rfl, l6, g6⟩
structure wD where
 f0 : ByteArray
 f1 : ByteArray
def z80 : wD := ⟨(⟨#[]⟩ : ByteArray), (⟨#[]⟩ : ByteArray)⟩
def Xc : Kd wD := Kd.sO (Kd.pair Kd.string Kd.string) (fun x : wD => (x.f0, x.f1))
theorem zzA {w : World} {x : wD} {cs : List Value} (h : Xc.K w x cs) : cs = [.string x.f0, .string x.f1] := by
 obtain ⟨_, _, rfl, rfl, rfl⟩ := h
 exact rfl
def VQ (xs : List wD) (i : Int) : wD := xs.getD i.toNat z80
theorem lI {w : World} {A : Option Addr} {n : Nat} {xs : List wD} (h : Kd.C Xc w A n xs) (i : Int) (h0 : 0 ≤ i) (h1 : i < n) : ∃ ad , A = some ad ∧ w.cell? (ad.add (i.toNat * 2)) = some (.string (VQ xs i).f0) ∧ w.cell? ⟨(ad.add (i.toNat * 2)).block, (ad.add (i.toNat * 2)).off + 1, none⟩ = some (.string (VQ xs i).f1) := by
 obtain ⟨ad, c, e, _, hK, hc0⟩ := Kd.UR h z80 i h0 h1
 have hc : ∀ j u, c[j]? = some u → w.cell? (ad.add (i.toNat * 2 + j)) = some u := hc0
 obtain rfl := zzA hK
 exact ⟨ad, e, hc 0 _ rfl, by rw [← zB _ _ 1 (by omega)]; exact hc 1 _ rfl⟩
theorem KZ : ∀ (x y : List UInt8), (!(Op.bytesLess x y || x == y)) = Op.bytesLess y x
 | [], [] => rfl
 | [], _ :: _ => rfl
 | _ :: _, [] => rfl
 | a :: x, b :: y => by
  have ih := KZ x y
  unfold Op.bytesLess
  by_cases h1 : a < b
  ·have h2 : ¬ b < a := UInt8.not_lt.2 (UInt8.le_of_lt h1)
   have h3 : ¬ a = b := fun e => by subst e; exact h2 h1
   have h4 : ¬ b = a := fun e => h3 e.symm
   simp [h1, h2, h3, h4]
  ·by_cases h2 : b < a
   ·have h3 : a ≠ b := fun e => by subst e; exact absurd h2 h1
    simp [h1, h2, h3]
   ·have h3 : a = b := UInt8.le_antisymm (UInt8.not_lt.1 h2) (UInt8.not_lt.1 h1)
    subst h3
    simp [h1, ← ih]
theorem U1 (x y : List UInt8) : (!(Op.bytesLess x y || x == y)) = Op.bytesLess y x := KZ x y
theorem dL : ∀ x : List UInt8, Op.bytesLess x x = false
 | [] => rfl
 | a :: x => by
  have h : ¬ a < a := fun h => absurd h (UInt8.not_lt.2 (UInt8.le_refl a))
  simp [Op.bytesLess, h, dL x]
theorem zqS {x y : List UInt8} (h : Op.bytesLess x y = true) : (x == y) = false := by
 rw [beq_eq_false_iff_ne]; intro e; subst e; rw [dL] at h; cases h
theorem lM {x y : List UInt8} (h : Op.bytesLess x y = true) : (y == x) = false := by
 rw [beq_eq_false_iff_ne]; intro e; subst e; rw [dL] at h; cases h
theorem sU {x y : List UInt8} (h : Op.bytesLess x y = true) : Op.bytesLess y x = false := by
 rw [← KZ x y, h]; rfl
theorem dZ {x y : List UInt8} (h : Op.bytesLess x y = false) (k : Op.bytesLess y x = false) : (x == y) = true := by
 have := KZ x y
 rw [h, k] at this
 simpa using this
end Go.Proofs.YtggifbbiiickmaaGreatDoor.PX
namespace Go.Proofs.YtggifbbiiickmaaGreatDoor
open Go.RowKit Go.Proofs.zk.ze Go.Proofs.zk.yc Go.Proofs.zk.yt
section
variable {P : Program} {ops : Array Oper} {Q : Exit → Act → World → Prop} {md : Region.Mode} {S : World → Prop} {ds : List Nat} {T : Bool × List (List Nat × List Nat)}
theorem zA (i : Nat) (N : Option Tmp) {oi : Oper} {v : Value} {fuel : Nat} {l : Array Bool} {a a' : Act} {w : World} (HT : zx (xE md ops = T)) (h : z8 P md ops Q S ds fuel (l.setIfInBounds i true) a' w)
  (hi : ops[i]? = some oi := by exact rfl) (hN : oi.dst = N := by exact rfl) (hc : fT T l.toList (l.setIfInBounds i true).toList i = true := by kernel_rfl) (hQ : ∀ c a w, Q (.panic c) (a.put oi.dst v) w → Q (.panic c) a w := by exact fun _ _ _ h => h)
  (hg : Region.wanted oi (yielded ops a.tmps) = true := by rfl) (hy : ∀ w, (execOp a.eval oi).run P w = .ok (.value v) w := by intro w'; go_simp; with_reducible rfl) (ha : a.put N v = a' := by simp only [Act.put, List.setIfInBounds_toArray, List.set_cons_zero, List.set_cons_succ, qW, qd]; rfl) :
  z8 P md ops Q S ds (fuel + 1) l a w := yL _ hi hN (yJ HT.out hc) hQ (Or.inl ⟨hg, hy⟩) ha h
theorem jZ {B : List Nat} (i : Nat) (N : Option Tmp) {oi : Oper} {v : Value} {fuel : Nat} {l : Array Bool} {a a' : Act} {w : World} (HT : zx (xE md ops = T)) (HW : zx (vP T.2 B = true)) (hS : S w) (h : z8 P md ops Q S ds fuel (l.setIfInBounds i true) a' w)
  (hi : ops[i]? = some oi := by exact rfl) (hN : oi.dst = N := by exact rfl) (hc : dw T B ds l.toList (l.setIfInBounds i true).toList i = true := by kernel_rfl) (hQ : ∀ c a w, Q (.panic c) (a.put oi.dst v) w → Q (.panic c) a w := by exact fun _ _ _ h => h)
  (hg : Region.wanted oi (yielded ops a.tmps) = true := by rfl) (hy : ∀ w, S w → (execOp a.eval oi).run P w = .ok (.value v) w := by intro w' hs_; go_simp; with_reducible rfl) (ha : a.put N v = a' := by simp only [Act.put, List.setIfInBounds_toArray, List.set_cons_zero, List.set_cons_succ, qW, qd]; rfl) :
  z8 P md ops Q S ds (fuel + 1) l a w := VH _ hi hN (dI HT.out HW.out hc) hQ (Or.inl ⟨hg, hy⟩) hS ha h
theorem Jl (N : Option Tmp) {v : Value} {fuel : Nat} {l : Array Bool} {a a' : Act} {w : World} (h : z8 P md ops Q S ds fuel l a' w) (ha : a.put N v = a' := by simp only [Act.put, List.setIfInBounds_toArray, List.set_cons_zero, List.set_cons_succ, qW, qd]; rfl) : z8 P md ops Q S ds fuel l (a.put N v) w := Qy ha h
theorem Jm (i : Nat) (N : Option Tmp) {oi : Oper} {fuel : Nat} {l : Array Bool} {a : Act} {w : World} (HT : zx (xE md ops = T))
  (h : ∀ K : Act → World → Prop, Shut (∀ a' w', S w' → (S w' → z8 P md ops Q S ds fuel (l.setIfInBounds i true) a' w') → K a' w') → if Region.wanted oi (yielded ops a.tmps) = true then Oper.wp P oi a w K Q else K (a.put N undef) w)
  (hi : ops[i]? = some oi := by exact rfl) (hN : oi.dst = N := by exact rfl) (hc : (Qb T.2 l.toList == [i] && l.toList.set i true == (l.setIfInBounds i true).toList) = true := by kernel_rfl) (hd : i ∉ ds := by decide) :
  z8 P md ops Q S ds (fuel + 1) l a w := Q7 _ hi hN (Zv HT.out hc) hd h
end
theorem ji {W W' : World} {g : Nat} {o : Obj} (h : W.heap[g]? = some o) (e : W.heap[g]? = some o → W'.heap[g]? = some o := by intro h_; (with_reducible repeat (first | refine ZG ?_ _ | refine xZ ?_ | refine vD ?_ _)); exact h_) : W'.heap[g]? = some o := e h
theorem vI {α : Type} {d : Kd α} {e base : Nat} {W W' : World} {ok : Nat → Prop} {v : Value} {xs : List α} (h : d.R e W base ok v xs) (k : d.R e W base ok v xs → d.R e W' base ok v xs := by intro h_; (with_reducible repeat (first | apply Kd.WQ | apply Kd.WX | apply Kd.qm)); exact h_) : d.R e W' base ok v xs := k h
theorem vZ {α : Type} {d : Kd α} {W W' : World} {A : Option Addr} {n : Nat} {xs : List α} (h : d.C W A n xs) (k : d.C W A n xs → d.C W' A n xs := by intro h_; repeat (first | (with_reducible exact h_) | (with_reducible refine Kd.zD ?_ _) | (with_reducible refine Kd.zF ?_ _) | (with_reducible refine Kd.zo ?_) | exact h_)) : d.C W' A n xs := k h
theorem Zr {α : Type} {d : Kd α} {e base : Nat} {W W' : World} {ok : Nat → Prop} {v : Value} {xs : List α} (h : Kd.S d e W base ok v xs) (k : Kd.S d e W base ok v xs → Kd.S d e W' base ok v xs := by intro h_; (with_reducible repeat (first | apply Kd.xu | apply Kd.xA | apply Kd.qj)); exact h_) : Kd.S d e W' base ok v xs := k h
end Go.Proofs.YtggifbbiiickmaaGreatDoor
namespace Go.Proofs.YtggifbbiiickmaaGreatDoor
open Go.RowKit Go.Proofs.zk.ze Go.Proofs.zk.yc Go.Proofs.zk.yt
theorem zP {b : Nat} {w0 W W' : World} (h : Below b w0 W) (k : Below b w0 W → Below b w0 W' := by intro h_; repeat (first | (with_reducible first | exact h_ | apply yA | apply yZ | apply yx | refine xL ?_ (zx.out (by assumption))) | exact h_)) : Below b w0 W' := k h
theorem jf {P : Program} {ops : Array Oper} {Q : Exit → Act → World → Prop} {rest : List Oper} {oi : Oper} {a : Act} {w : World} (N : Option Tmp) {f : FuncId} {fn : Func} {lN : Array Operand} {ts : Array TypeId} (hf : P.funcs[f]? = some fn) (args : Array Value) (h : Calls P f args w fun e w' => ∃ v, e = .returned v ∧ wpList P ops Q rest (a.put N v) w')
  (hd : oi.dst = N := by exact rfl) (hg : oi.guard = none := by exact rfl) (hname : (fn.name == "runtime.NumGoroutine") = false := by kernel_rfl) (hb : fn.body.isSome = true := by exact rfl) (hop : oi.op = .call { callee := .value (.func f), args := lN, argTypes := ts } := by exact rfl)
  (hargs : lN.map a.eval = args := by (try simp only [List.map_toArray, List.map_cons, List.map_nil]); first | done | rfl | (simp only [List.length_drop, List.length_take]; rfl)) : wpList P ops Q (oi :: rest) a w := zjl N hd hg hf hname hb args hop hargs h
end Go.Proofs.YtggifbbiiickmaaGreatDoor
namespace Go.Proofs.YtggifbbiiickmaaGreatDoor
open Go.ChangeShapes Go.WideShapes Go.ChangeAt Go.RowKit
def zkq (s : ChangeSpec) (n : Nat) : Prop := s.vars = [] ∧ ∀ (H : Type) (ds : List (DataW H)), ds.length = n → (s.fn H ds).results = [.lit (.bool true)] ∧ (s.fn H ds).args = ds ∧ (s.fn H ds).vars = []
theorem KQ {H : Type} {enc : TypeId × Value → H} {P : Program} (hl : laidOutB P = true) {W W' : World} (hb : Below W.heap.size W W') :
  ∀ {ts : List TypeId} {vs : List Value} {ds : List (DataW H)} {ps : List MemPlace}, (∀ t ∈ ts, P.readableRec t = true ∧ t < P.types.size) →
   DataW.TrodAll enc P W 0 (fun _ => true) true ts vs ds ps → DataW.TrodAll enc P W' 0 (fun b => decide (b < W.heap.size)) true ts vs ds ps
 | [], [], [], _, _, h => h
 | t :: ts, v :: vs, d :: ds, ps, ht, ⟨a, b, h1, h2, e⟩ => by
  have hlt : ∀ x ∈ a, x.block < W.heap.size := by obtain ⟨m, hm⟩ := h1; exact DataW.trod_lt m _ _ _ hm
  exact ⟨a, b, Below.trod hl (ht t (by simp)).1 (ht t (by simp)).2 h1 hb hlt, KQ hl hb (fun t' h' => ht t' (by simp [h'])) h2, e⟩
theorem trodAll_length {H : Type} {enc : TypeId × Value → H} {P : Program} {W : World} {sp : Nat → Bool} {held : Bool} :
  ∀ {ts : List TypeId} {vs : List Value} {ds : List (DataW H)} {ps : List MemPlace}, DataW.TrodAll enc P W 0 sp held ts vs ds ps → ds.length = ts.length
 | [], [], [], _, _ => rfl
 | _ :: _, _ :: _, _ :: _, _, ⟨_, _, _, h2, _⟩ => by simp [trodAll_length h2]
theorem eX {H : Type} {enc : TypeId × Value → H} {C : Checked} {os : Os} {f : FuncId} {fn : Func} {s : ChangeSpec} {X : World → Array Value → Prop} {tb : TypeId}
  (hX : ∀ (w w' : World) (args : Array Value), w.heap = w'.heap → X w args → X w' args)
  (own : ownKnob C.prog.godebug = none) (started : os.Started) (noInit : C.prog.inits.idxOf? f = none) (hfn : C.prog.funcs[f]? = some fn)
  (witness : ∃ (w : World) (tape : Tape) (i : Input), w.os = os ∧ (w.forCall tape i).Shaped C.prog ∧ i.vars = [] ∧ Input.okWide C.prog (w.forCall tape i) .any w.heap.size f i ∧
   ((s.pre enc C.prog fn [] false (w.forCall tape i).memory i.args ∧ X (w.forCall tape i).memory i.args) ∧ sizedMet enc C.prog fn (OpenSpec.ofChange s) false (w.forCall tape i).memory i.args) ∧ ({} : Assume).holds C.prog (lone (Frame.enter C.prog f i.args .normal) [] (w.forCall tape i)))
  (hl : laidOutB C.prog = true) (hs : zkq s fn.params.toList.length) (hres : fn.resultTypes = #[tb]) (htb : C.prog.underlying tb = some .bool)
  (hread : ∀ t ∈ fn.params.toList, C.prog.readableRec t = true ∧ t < C.prog.types.size)
  (walk : ∀ (W : World) (base : Nat) (args : Array Value) (ds : List (DataW H)) (ps : List MemPlace),
   (∀ (j : Nat) t v, fn.params[j]? = some t → args[j]? = some v → Value.okWide C.prog W .any base t v) →
   DataW.TrodAll enc C.prog W 0 (fun _ => true) true fn.params.toList args.toList ds ps →
   (DataW.weightsEach C.prog fn.params.toList ds).all (· ≤ reachBytes) = true → X W args → W.ShapedOpen C.prog →
   Calls C.prog f args W fun e W' => e = .returned (.bool true) ∧ Below W.heap.size W W') :
  ReturnsInHanded {} C os f .any (fun w args => (s.pre enc C.prog fn [] false w args ∧ X w args) ∧ sizedMet enc C.prog fn (OpenSpec.ofChange s) false w args) (s.post enc C.prog fn false true false false) := by
 refine returnsInHanded_of_calls own started noInit witness ?_
 intro w tape i _ hsh _ hok hpre _
 obtain ⟨_, _, _, fn', hfn', _, _, _, _, hval⟩ := hok
 have e : fn' = fn := Option.some.inj (hfn'.symm.trans hfn)
 subst e
 obtain ⟨⟨⟨ds, gs, before, hw, _⟩, hx⟩, hz⟩ := hpre
 have hw' := DataW.Whole.of_heap (w' := w.forCall tape i) (by rfl) hw
 have hwt : (DataW.weightsEach C.prog (fn'.params.toList ++ s.plain.varTypes C.prog) (ds ++ gs)).all (· ≤ reachBytes) = true := hz.weights hw
 obtain ⟨p, q, hA, hV, rfl, hfz, hnd⟩ := hw'
 have hV' := hV
 rw [hs.1] at hV'
 obtain ⟨rfl, rfl⟩ := trodVars_none hV'
 have zwz : (DataW.weightsEach C.prog fn'.params.toList ds).all (· ≤ reachBytes) = true := by
  have hvt : s.plain.varTypes C.prog = [] := by
   simp [DataSpec.varTypes, ChangeSpec.plain, hs.1]
  rw [hvt, List.append_nil, List.append_nil] at hwt
  exact hwt
 obtain ⟨e1, e2, e3⟩ := hs.2 H ds (trodAll_length hA)
 refine (walk (w.forCall tape i) w.heap.size i.args ds p hval hA zwz (hX _ _ _ (by rfl) hx) hsh).mono fun e W' ⟨he, hb⟩ => ?_
 subst he
 have hp : s.post enc C.prog fn' false true false false (w.forCall tape i) i.args (.bool true) W' := by
  refine ⟨ds, [], p ++ [], [], p, [], ⟨p, [], hA, hV, rfl, hfz, hnd⟩, ?_, ?_, ?_, hb.frame _, fun h => by cases h⟩
  ·rw [List.append_nil, e1, hres]
   exact trodAll_mk1 (shut_bool htb _)
  ·rw [List.append_nil, e2]
   exact KQ hl hb hread hA
  ·rw [List.append_nil, e3, hs.1]
   rfl
 exact ChangeSpec.post_blind hp
section
variable {H : Type} {enc : TypeId × Value → H} {P : Program} {w : World} {base : Nat} {spare : Nat → Bool} {held : Bool}
end
theorem Uy {P : Program} {W : World} {name : String} {k : IntKind} {zs : List Int} {laid : List (String × DataW Unit)} {g : Nat} {t e : TypeId} {n : Nat}
  (hg : P.globalNamed name = some g) (hty : (P.globals[g]?).map (·.type) = some t) (ht : P.underlying t = some (.array n e)) (he : P.underlying e = some (.int k)) (hce : P.cellsOf e = 1) (hct : P.cellsOf t = n)
  (h : laidMet P laid W) (hm : (name, Lib.tabData k zs) ∈ laid) : Lib.TabIs P W name k zs := by
 obtain ⟨g', t', cs, fuel, p, hg', ht', hvar, hd⟩ := Lib.laidMet.reads h hm
 obtain rfl := Option.some.inj (hg.symm.trans hg')
 obtain rfl := Option.some.inj (hty.symm.trans ht')
 unfold Lib.TabIs
 rw [hvar, ← Lib.cells_of_tab ht he hce hct hd]
theorem zzB {H : Type} {enc : TypeId × Value → H} {P : Program} {W : World} {t0 t1 : TypeId} {args : Array Value} {ds : List (DataW H)} {ps : List MemPlace} (h : DataW.TrodAll enc P W 0 (fun _ => true) true [t0, t1] args.toList ds ps) :
  ∃ v0 v1 d0 d1 p0 p1, args = #[v0, v1] ∧ ds = [d0, d1] ∧ DataW.Trod enc P W 0 (fun _ => true) true t0 v0 d0 p0 ∧ DataW.Trod enc P W 0 (fun _ => true) true t1 v1 d1 p1 := by
 obtain ⟨v, vs, d, ds', p, q, e, rfl, rfl, h0, h1⟩ := trodAll_cons h
 obtain ⟨v1, vs1, d1, ds1, p1, q1, rfl, rfl, rfl, h2, h3⟩ := trodAll_cons h1
 obtain ⟨rfl, rfl, rfl⟩ := trodAll_nil h3
 exact ⟨v, v1, d, d1, p, p1, by cases args; simp_all, rfl, h0, h2⟩
end Go.Proofs.YtggifbbiiickmaaGreatDoor
namespace Go.Proofs
open Go.Shelf
def Tryz.lays160_ren : Go.Shelf.Ren := ⟨fun | 160 => 129 | 232 => 154 | 231 => 153 | 227 => 155 | 234 => 157 | 233 => 156 | 236 => 159 | 235 => 158 | 228 => 182 | 271 => 185 | 151 => 184 | 197 => 183 | 120 => 198 | 152 => 197 | 260 => 196 | 137 => 113 | 119 => 203 | 224 => 180 | 225 => 179 | 217 => 145 | 266 => 171 | n => n, fun | 9 => 9 | 4 => 4 | 3 => 3 | 5 => 5 | 117 => 201 | 116 => 200 | 0 => 0 | 124 => 204 | 21 => 21 | 105 => 234 | 46 => 47 | 119 => 169 | 139 => 263 | 138 => 262 | n => n, fun | 3 => 5 | 4 => 6 | n => n⟩
theorem Tryz.lays160 : Go.Proofs.Lays.n160 Tryz.prog Tryz.lays160_ren := {
 mixed := by kernel_rfl
 f119 := Tryz.func203.trans (congrArg some (by kernel_rfl))
 f120 := Tryz.func198.trans (congrArg some (by kernel_rfl))
 f137 := Tryz.func113.trans (congrArg some (by kernel_rfl))
 f151 := Tryz.func184.trans (congrArg some (by kernel_rfl))
 f152 := Tryz.func197.trans (congrArg some (by kernel_rfl))
 f160 := Tryz.func129.trans (congrArg some (by kernel_rfl))
 f197 := Tryz.func183.trans (congrArg some (by kernel_rfl))
 f217 := Tryz.func145.trans (congrArg some (by kernel_rfl))
 f224 := Tryz.func180.trans (congrArg some (by kernel_rfl))
 f225 := Tryz.func179.trans (congrArg some (by kernel_rfl))
 f227 := Tryz.func155.trans (congrArg some (by kernel_rfl))
 f228 := Tryz.func182.trans (congrArg some (by kernel_rfl))
 f231 := Tryz.func153.trans (congrArg some (by kernel_rfl))
 f232 := Tryz.func154.trans (congrArg some (by kernel_rfl))
 f233 := Tryz.func156.trans (congrArg some (by kernel_rfl))
 f234 := Tryz.func157.trans (congrArg some (by kernel_rfl))
 f235 := Tryz.func158.trans (congrArg some (by kernel_rfl))
 f236 := Tryz.func159.trans (congrArg some (by kernel_rfl))
 f260 := Tryz.func196.trans (congrArg some (by kernel_rfl))
 f266 := Tryz.func171.trans (congrArg some (by kernel_rfl))
 f271 := Tryz.func185.trans (congrArg some (by kernel_rfl))
 t0 := Tryz.underlying0
 a0 := Tryz.isAgg0
 z0 := Tryz.sizeOf0
 v0 := Tryz.zeroValue0
 t3 := Tryz.underlying3
 a3 := Tryz.isAgg3
 z3 := Tryz.sizeOf3
 v3 := Tryz.zeroValue3
 t4 := Tryz.underlying4
 a4 := Tryz.isAgg4
 z4 := Tryz.sizeOf4
 v4 := Tryz.zeroValue4
 t5 := Tryz.underlying5
 a5 := Tryz.isAgg5
 z5 := Tryz.sizeOf5
 v5 := Tryz.zeroValue5
 t9 := Tryz.underlying9
 a9 := Tryz.isAgg9
 z9 := Tryz.sizeOf9
 v9 := Tryz.zeroValue9
 t21 := Tryz.underlying21
 a21 := Tryz.isAgg21
 z21 := Tryz.sizeOf21
 v21 := Tryz.zeroValue21
 t46 := Tryz.underlying47
 a46 := Tryz.isAgg47
 z46 := Tryz.sizeOf47
 v46 := Tryz.zeroValue47
 t105 := Tryz.underlying234
 a105 := Tryz.isAgg234
 z105 := Tryz.sizeOf234
 v105 := Tryz.zeroValue234
 t116 := Tryz.underlying200
 a116 := Tryz.isAgg200
 z116 := Tryz.sizeOf200
 t117 := Tryz.underlying201
 a117 := Tryz.isAgg201
 z117 := Tryz.sizeOf201
 v117 := Tryz.zeroValue201
 t119 := Tryz.underlying169
 a119 := Tryz.isAgg169
 z119 := Tryz.sizeOf169
 t124 := Tryz.underlying204
 a124 := Tryz.isAgg204
 z124 := Tryz.sizeOf204
 v124 := Tryz.zeroValue204
 t138 := Tryz.underlying262
 a138 := Tryz.isAgg262
 z138 := Tryz.sizeOf262
 v138 := Tryz.zeroValue262
 t139 := Tryz.underlying263
 a139 := Tryz.isAgg263
 z139 := Tryz.sizeOf263
 v139 := Tryz.zeroValue263
 g3 := by kernel_rfl
 g4 := by kernel_rfl }
def Tryz.lays137_ren : Go.Shelf.Ren := ⟨fun | 137 => 113 | 217 => 145 | 266 => 171 | n => n, fun | 9 => 9 | 5 => 5 | 3 => 3 | n => n, fun | n => n⟩
theorem Tryz.lays137 : Go.Proofs.Lays.n137 Tryz.prog Tryz.lays137_ren := {
 mixed := by kernel_rfl
 f137 := Tryz.func113.trans (congrArg some (by kernel_rfl))
 f217 := Tryz.func145.trans (congrArg some (by kernel_rfl))
 f266 := Tryz.func171.trans (congrArg some (by kernel_rfl))
 t3 := Tryz.underlying3
 a3 := Tryz.isAgg3
 z3 := Tryz.sizeOf3
 v3 := Tryz.zeroValue3
 t5 := Tryz.underlying5
 a5 := Tryz.isAgg5
 z5 := Tryz.sizeOf5
 v5 := Tryz.zeroValue5
 t9 := Tryz.underlying9
 a9 := Tryz.isAgg9
 z9 := Tryz.sizeOf9
 v9 := Tryz.zeroValue9 }
open Go.RowKit in
theorem Tryz.strings_IndexByte (s : ByteArray) (c : Int) (w : World) :
  Calls Tryz.prog 113 #[.string s, .int .u8 c] w fun e w' => e = .returned (.int .i64 (Lib.indexByte s.data.toList c.toNat.toUInt8)) ∧ w' = w := Any.strings_IndexByte Tryz.lays137 s c w
def Tryz.laysC172_ren : Go.Shelf.Ren := ⟨fun | 172 => 116 | 244 => 147 | 245 => 148 | 247 => 174 | 279 => 175 | 280 => 176 | 281 => 177 | 282 => 178 | 287 => 191 | 316 => 192 | 171 => 194 | 205 => 193 | 321 => 200 | 322 => 201 | 243 => 202 | 246 => 204 | 283 => 205 | 284 => 206 | 285 => 207 | 286 => 208 | 129 => 170 | 317 => 209 | 318 => 210 | 319 => 211 | 320 => 212 | 337 => 213 | 338 => 214 | n => n, fun | 9 => 9 | 3 => 3 | 75 => 133 | 76 => 135 | 4 => 4 | 5 => 5 | 167 => 226 | 37 => 129 | 0 => 0 | 85 => 227 | 2 => 2 | 168 => 229 | 53 => 214 | 175 => 245 | 46 => 47 | 210 => 248 | 127 => 175 | 145 => 260 | 143 => 258 | 21 => 21 | 171 => 265 | 173 => 267 | 212 => 270 | 51 => 191 | 20 => 20 | 213 => 271 | 232 => 272 | 233 => 273 | 80 => 137 | n => n, fun | 15 => 3 | 16 => 4 | 17 => 7 | 18 => 8 | 19 => 9 | n => n⟩
theorem Tryz.laysC172 : Go.Proofs.LaysC.n172 Tryz.prog Tryz.laysC172_ren := {
 mixed := by kernel_rfl
 f129 := Tryz.func170.trans (congrArg some (by kernel_rfl))
 f171 := Tryz.func194.trans (congrArg some (by kernel_rfl))
 f172 := Tryz.func116.trans (congrArg some (by kernel_rfl))
 f205 := Tryz.func193.trans (congrArg some (by kernel_rfl))
 f243 := Tryz.func202.trans (congrArg some (by kernel_rfl))
 f244 := Tryz.func147.trans (congrArg some (by kernel_rfl))
 f245 := Tryz.func148.trans (congrArg some (by kernel_rfl))
 f246 := Tryz.func204.trans (congrArg some (by kernel_rfl))
 f247 := Tryz.func174.trans (congrArg some (by kernel_rfl))
 f279 := Tryz.func175.trans (congrArg some (by kernel_rfl))
 f280 := Tryz.func176.trans (congrArg some (by kernel_rfl))
 f281 := Tryz.func177.trans (congrArg some (by kernel_rfl))
 f282 := Tryz.func178.trans (congrArg some (by kernel_rfl))
 f283 := Tryz.func205.trans (congrArg some (by kernel_rfl))
 f284 := Tryz.func206.trans (congrArg some (by kernel_rfl))
 f285 := Tryz.func207.trans (congrArg some (by kernel_rfl))
 f286 := Tryz.func208.trans (congrArg some (by kernel_rfl))
 f287 := Tryz.func191.trans (congrArg some (by kernel_rfl))
 f316 := Tryz.func192.trans (congrArg some (by kernel_rfl))
 f317 := Tryz.func209.trans (congrArg some (by kernel_rfl))
 f318 := Tryz.func210.trans (congrArg some (by kernel_rfl))
 f319 := Tryz.func211.trans (congrArg some (by kernel_rfl))
 f320 := Tryz.func212.trans (congrArg some (by kernel_rfl))
 f321 := Tryz.func200.trans (congrArg some (by kernel_rfl))
 f322 := Tryz.func201.trans (congrArg some (by kernel_rfl))
 f337 := Tryz.func213.trans (congrArg some (by kernel_rfl))
 f338 := Tryz.func214.trans (congrArg some (by kernel_rfl))
 t0 := Tryz.underlying0
 a0 := Tryz.isAgg0
 z0 := Tryz.sizeOf0
 v0 := Tryz.zeroValue0
 t2 := Tryz.underlying2
 a2 := Tryz.isAgg2
 z2 := Tryz.sizeOf2
 v2 := Tryz.zeroValue2
 t3 := Tryz.underlying3
 a3 := Tryz.isAgg3
 z3 := Tryz.sizeOf3
 v3 := Tryz.zeroValue3
 t4 := Tryz.underlying4
 a4 := Tryz.isAgg4
 z4 := Tryz.sizeOf4
 v4 := Tryz.zeroValue4
 t5 := Tryz.underlying5
 a5 := Tryz.isAgg5
 z5 := Tryz.sizeOf5
 v5 := Tryz.zeroValue5
 t9 := Tryz.underlying9
 a9 := Tryz.isAgg9
 z9 := Tryz.sizeOf9
 v9 := Tryz.zeroValue9
 t20 := Tryz.underlying20
 a20 := Tryz.isAgg20
 z20 := Tryz.sizeOf20
 v20 := Tryz.zeroValue20
 t21 := Tryz.underlying21
 a21 := Tryz.isAgg21
 z21 := Tryz.sizeOf21
 v21 := Tryz.zeroValue21
 t37 := Tryz.underlying129
 a37 := Tryz.isAgg129
 z37 := Tryz.sizeOf129
 v37 := Tryz.zeroValue129
 t46 := Tryz.underlying47
 a46 := Tryz.isAgg47
 z46 := Tryz.sizeOf47
 v46 := Tryz.zeroValue47
 t51 := Tryz.underlying191
 a51 := Tryz.isAgg191
 z51 := Tryz.sizeOf191
 v51 := Tryz.zeroValue191
 t53 := Tryz.underlying214
 a53 := Tryz.isAgg214
 z53 := Tryz.sizeOf214
 v53 := Tryz.zeroValue214
 t75 := Tryz.underlying133
 a75 := Tryz.isAgg133
 z75 := Tryz.sizeOf133
 v75 := Tryz.zeroValue133
 t76 := Tryz.underlying135
 a76 := Tryz.isAgg135
 z76 := Tryz.sizeOf135
 v76 := Tryz.zeroValue135
 t85 := Tryz.underlying227
 a85 := Tryz.isAgg227
 z85 := Tryz.sizeOf227
 v85 := Tryz.zeroValue227
 t127 := Tryz.underlying175
 a127 := Tryz.isAgg175
 z127 := Tryz.sizeOf175
 v127 := Tryz.zeroValue175
 t143 := Tryz.underlying258
 a143 := Tryz.isAgg258
 z143 := Tryz.sizeOf258
 v143 := Tryz.zeroValue258
 t145 := Tryz.underlying260
 a145 := Tryz.isAgg260
 z145 := Tryz.sizeOf260
 v145 := Tryz.zeroValue260
 t167 := Tryz.underlying226
 a167 := Tryz.isAgg226
 z167 := Tryz.sizeOf226
 v167 := Tryz.zeroValue226
 t168 := Tryz.underlying229
 a168 := Tryz.isAgg229
 z168 := Tryz.sizeOf229
 v168 := Tryz.zeroValue229
 t171 := Tryz.underlying265
 a171 := Tryz.isAgg265
 z171 := Tryz.sizeOf265
 v171 := Tryz.zeroValue265
 t173 := Tryz.underlying267
 a173 := Tryz.isAgg267
 z173 := Tryz.sizeOf267
 v173 := Tryz.zeroValue267
 t175 := Tryz.underlying245
 a175 := Tryz.isAgg245
 z175 := Tryz.sizeOf245
 v175 := Tryz.zeroValue245
 t210 := Tryz.underlying248
 a210 := Tryz.isAgg248
 z210 := Tryz.sizeOf248
 v210 := Tryz.zeroValue248
 t212 := Tryz.underlying270
 a212 := Tryz.isAgg270
 z212 := Tryz.sizeOf270
 v212 := Tryz.zeroValue270
 t213 := Tryz.underlying271
 a213 := Tryz.isAgg271
 z213 := Tryz.sizeOf271
 t232 := Tryz.underlying272
 a232 := Tryz.isAgg272
 z232 := Tryz.sizeOf272
 v232 := Tryz.zeroValue272
 t233 := Tryz.underlying273
 a233 := Tryz.isAgg273
 z233 := Tryz.sizeOf273
 v233 := Tryz.zeroValue273
 g15 := by kernel_rfl
 g16 := by kernel_rfl
 g17 := by kernel_rfl
 g18 := by kernel_rfl
 g19 := by kernel_rfl
 t80 := Tryz.underlying137
 a80 := Tryz.isAgg137
 z80 := Tryz.sizeOf137
 v80 := Tryz.zeroValue137
 i0 := by kernel_rfl
 i2 := by kernel_rfl
 i3 := by kernel_rfl
 i4 := by kernel_rfl
 i5 := by kernel_rfl
 i9 := by kernel_rfl
 i20 := by kernel_rfl
 i21 := by kernel_rfl
 i37 := by kernel_rfl
 i46 := by kernel_rfl
 i51 := by kernel_rfl
 i53 := by kernel_rfl
 i75 := by kernel_rfl
 i76 := by kernel_rfl
 i80 := by kernel_rfl
 i85 := by kernel_rfl
 i127 := by kernel_rfl
 i143 := by kernel_rfl
 i145 := by kernel_rfl
 i167 := by kernel_rfl
 i168 := by kernel_rfl
 i171 := by kernel_rfl
 i173 := by kernel_rfl
 i175 := by kernel_rfl
 i210 := by kernel_rfl
 i212 := by kernel_rfl
 i232 := by kernel_rfl
 i233 := by kernel_rfl
 m15 := by kernel_rfl
 m16 := by kernel_rfl
 m17 := by kernel_rfl
 m18 := by kernel_rfl
 m19 := by kernel_rfl
 c0 := by kernel_rfl
 c2 := by kernel_rfl
 c3 := by kernel_rfl
 c4 := by kernel_rfl
 c5 := by kernel_rfl
 c9 := by kernel_rfl
 c20 := by kernel_rfl
 c21 := by kernel_rfl
 c37 := by kernel_rfl
 c46 := by kernel_rfl
 c51 := by kernel_rfl
 c53 := by kernel_rfl
 c75 := by kernel_rfl
 c76 := by kernel_rfl
 c80 := by kernel_rfl
 c85 := by kernel_rfl
 c127 := by kernel_rfl
 c143 := by kernel_rfl
 c145 := by kernel_rfl
 c167 := by kernel_rfl
 c168 := by kernel_rfl
 c171 := by kernel_rfl
 c173 := by kernel_rfl
 c175 := by kernel_rfl
 c210 := by kernel_rfl
 c212 := by kernel_rfl
 c213 := by kernel_rfl
 c232 := by kernel_rfl
 c233 := by kernel_rfl }
open Go.RowKit in
theorem Tryz.strconv_Atoi_ok (s : ByteArray) (hmax : s.size ≤ 9223372036854775806) (v : Int) (h : Lib.atoiAll s.data.toList = .ok v) (w : World) :
  Calls Tryz.prog 116 #[.string s] w fun e w' => e = .returned (.tuple #[.int .i64 v, .nilIface]) ∧ (w' = w ∨ ∃ t, w' = Lib.bytesWorld w 5 t) := Any.strconv_Atoi_ok Tryz.laysC172 s hmax v h w
open Go.RowKit in
theorem Tryz.strconv_Atoi_syntax_var (s : ByteArray) (hlim : s.size ≤ 281474976710656) (h : Lib.atoiAll s.data.toList = Lib.atoiAll []) (tp : TypeId) (p : Value) (w : World) (hvar : w.var? Tryz.prog "strconv.ErrSyntax" = some #[.iface tp p]) :
  Calls Tryz.prog 116 #[.string s] w fun e w' => ∃ N, e = .returned (.tuple #[.int .i64 0, .iface 229 (.pointer (some ⟨N, 0, none⟩))]) ∧ w.heap.size ≤ N ∧ w'.heap[N]? = some (.cells #[.string ⟨#[65, 116, 111, 105]⟩, .string s, .iface tp p] 248 (0, 0)) ∧ Below w.heap.size w w' := Any.strconv_Atoi_syntax_var Tryz.laysC172 s hlim h tp p w hvar
open Go.RowKit in
theorem Tryz.strconv_Atoi_range_var (s : ByteArray) (hlim : s.size ≤ 281474976710656) (h : Lib.atoiAll s.data.toList = .range) (tp : TypeId) (p : Value) (w : World) (hvar : w.var? Tryz.prog "strconv.ErrRange" = some #[.iface tp p]) :
  Calls Tryz.prog 116 #[.string s] w fun e w' => ∃ N, e = .returned (.tuple #[.int .i64 (Lib.atoiSat s.data.toList), .iface 229 (.pointer (some ⟨N, 0, none⟩))]) ∧ w.heap.size ≤ N ∧ w'.heap[N]? = some (.cells #[.string ⟨#[65, 116, 111, 105]⟩, .string s, .iface tp p] 248 (0, 0)) ∧ Below w.heap.size w w' := Any.strconv_Atoi_range_var Tryz.laysC172 s hlim h tp p w hvar
def Tryz.laysGw17_ren : Go.Shelf.Ren := ⟨fun | 17 => 81 | 15 => 128 | 20 => 152 | n => n, fun | 9 => 9 | 23 => 142 | 4 => 4 | 3 => 3 | 0 => 0 | 21 => 21 | n => n, fun | n => n⟩
theorem Tryz.laysGw17 : Go.Proofs.LaysGw.n17 Tryz.prog Tryz.laysGw17_ren := {
 mixed := by kernel_rfl
 f15 := Tryz.func128.trans (congrArg some (by kernel_rfl))
 f17 := Tryz.func81.trans (congrArg some (by kernel_rfl))
 f20 := Tryz.func152.trans (congrArg some (by kernel_rfl))
 t0 := Tryz.underlying0
 a0 := Tryz.isAgg0
 z0 := Tryz.sizeOf0
 v0 := Tryz.zeroValue0
 i0 := by kernel_rfl
 t3 := Tryz.underlying3
 a3 := Tryz.isAgg3
 z3 := Tryz.sizeOf3
 v3 := Tryz.zeroValue3
 i3 := by kernel_rfl
 t4 := Tryz.underlying4
 a4 := Tryz.isAgg4
 z4 := Tryz.sizeOf4
 v4 := Tryz.zeroValue4
 i4 := by kernel_rfl
 t9 := Tryz.underlying9
 a9 := Tryz.isAgg9
 z9 := Tryz.sizeOf9
 v9 := Tryz.zeroValue9
 i9 := by kernel_rfl
 t21 := Tryz.underlying21
 a21 := Tryz.isAgg21
 z21 := Tryz.sizeOf21
 v21 := Tryz.zeroValue21
 i21 := by kernel_rfl
 t23 := Tryz.underlying142
 a23 := Tryz.isAgg142
 z23 := Tryz.sizeOf142
 v23 := Tryz.zeroValue142
 i23 := by kernel_rfl }
open Go.RowKit Go.Lib in
theorem Tryz.strings_ContainsFunc (g : Nat) (lb : Array Value) (eg : ∀ args w, (callFunc g args).run Tryz.prog w = .ok (.enter g args) w) (p : Nat → Bool) (s : ByteArray) (w : World) (hp : PredAt Tryz.prog g lb encR p w) :
  Calls Tryz.prog 81 #[.string s, .func (.func g) #[] lb] w fun e w' => e = .returned (.bool (decide (0 ≤ Lib.idxFunc p true s))) ∧ Below w.heap.size w w' := Any.strings_ContainsFunc Tryz.laysGw17 g lb eg p s w hp
def Tryz.lays157_ren : Go.Shelf.Ren := ⟨fun | 157 => 60 | 229 => 114 | 199 => 115 | 261 => 146 | 311 => 172 | 312 => 173 | n => n, fun | 9 => 9 | 31 => 27 | 3 => 3 | 5 => 5 | 4 => 4 | 119 => 169 | 0 => 0 | 40 => 142 | 152 => 188 | 21 => 21 | 154 => 190 | 51 => 191 | 141 => 193 | 196 => 218 | 193 => 215 | 198 => 221 | 49 => 219 | 194 => 216 | 201 => 224 | 226 => 243 | 46 => 47 | 227 => 244 | n => n, fun | 0 => 0 | 6 => 1 | n => n⟩
theorem Tryz.lays157 : Go.Proofs.Lays.n157 Tryz.prog Tryz.lays157_ren := {
 mixed := by kernel_rfl
 f157 := Tryz.func60.trans (congrArg some (by kernel_rfl))
 f199 := Tryz.func115.trans (congrArg some (by kernel_rfl))
 f229 := Tryz.func114.trans (congrArg some (by kernel_rfl))
 f261 := Tryz.func146.trans (congrArg some (by kernel_rfl))
 f311 := Tryz.func172.trans (congrArg some (by kernel_rfl))
 f312 := Tryz.func173.trans (congrArg some (by kernel_rfl))
 t0 := Tryz.underlying0
 a0 := Tryz.isAgg0
 z0 := Tryz.sizeOf0
 v0 := Tryz.zeroValue0
 t3 := Tryz.underlying3
 a3 := Tryz.isAgg3
 z3 := Tryz.sizeOf3
 v3 := Tryz.zeroValue3
 t4 := Tryz.underlying4
 a4 := Tryz.isAgg4
 z4 := Tryz.sizeOf4
 v4 := Tryz.zeroValue4
 t5 := Tryz.underlying5
 a5 := Tryz.isAgg5
 z5 := Tryz.sizeOf5
 v5 := Tryz.zeroValue5
 t9 := Tryz.underlying9
 a9 := Tryz.isAgg9
 z9 := Tryz.sizeOf9
 v9 := Tryz.zeroValue9
 t21 := Tryz.underlying21
 a21 := Tryz.isAgg21
 z21 := Tryz.sizeOf21
 v21 := Tryz.zeroValue21
 t31 := Tryz.underlying27
 a31 := Tryz.isAgg27
 z31 := Tryz.sizeOf27
 v31 := Tryz.zeroValue27
 t40 := Tryz.underlying142
 a40 := Tryz.isAgg142
 z40 := Tryz.sizeOf142
 v40 := Tryz.zeroValue142
 t46 := Tryz.underlying47
 a46 := Tryz.isAgg47
 z46 := Tryz.sizeOf47
 v46 := Tryz.zeroValue47
 t49 := Tryz.underlying219
 a49 := Tryz.isAgg219
 z49 := Tryz.sizeOf219
 v49 := Tryz.zeroValue219
 t51 := Tryz.underlying191
 a51 := Tryz.isAgg191
 z51 := Tryz.sizeOf191
 v51 := Tryz.zeroValue191
 t119 := Tryz.underlying169
 a119 := Tryz.isAgg169
 z119 := Tryz.sizeOf169
 t141 := Tryz.underlying193
 a141 := Tryz.isAgg193
 z141 := Tryz.sizeOf193
 v141 := Tryz.zeroValue193
 t152 := Tryz.underlying188
 a152 := Tryz.isAgg188
 z152 := Tryz.sizeOf188
 v152 := Tryz.zeroValue188
 t154 := Tryz.underlying190
 a154 := Tryz.isAgg190
 z154 := Tryz.sizeOf190
 v154 := Tryz.zeroValue190
 t193 := Tryz.underlying215
 a193 := Tryz.isAgg215
 z193 := Tryz.sizeOf215
 v193 := Tryz.zeroValue215
 t194 := Tryz.underlying216
 a194 := Tryz.isAgg216
 z194 := Tryz.sizeOf216
 v194 := Tryz.zeroValue216
 t196 := Tryz.underlying218
 a196 := Tryz.isAgg218
 z196 := Tryz.sizeOf218
 v196 := Tryz.zeroValue218
 t198 := Tryz.underlying221
 a198 := Tryz.isAgg221
 z198 := Tryz.sizeOf221
 v198 := Tryz.zeroValue221
 t201 := Tryz.underlying224
 a201 := Tryz.isAgg224
 z201 := Tryz.sizeOf224
 v201 := Tryz.zeroValue224
 t226 := Tryz.underlying243
 a226 := Tryz.isAgg243
 z226 := Tryz.sizeOf243
 v226 := Tryz.zeroValue243
 t227 := Tryz.underlying244
 a227 := Tryz.isAgg244
 z227 := Tryz.sizeOf244
 v227 := Tryz.zeroValue244
 g0 := by kernel_rfl
 g6 := by kernel_rfl }
open Go.RowKit Go.Lib in
theorem Tryz.strings_Fields (s : ByteArray) (w : World) (hs : s.size < 4294967281) (hascii : ∀ (j : Nat) b, s.data.toList[j]? = some b → b.toNat < 128) (htab : Lib.TabIs Tryz.prog w "strings.asciiSpace" .u8 Lib.asciiSpaceTab) :
  Calls Tryz.prog 60 #[.string s] w fun e w' =>
   e = .returned (.slice (some ⟨w.heap.size, 0, none⟩) (Lib.fields s.data.toList).length (Lib.fields s.data.toList).length) ∧ w' = w.alloc (.cells ((Lib.fields s.data.toList).map fun l => Value.string ⟨l.toArray⟩).toArray 9) := Any.strings_Fields Tryz.lays157 (by kernel_rfl) (by kernel_rfl) s w hs hascii htab
def Tryz.hasG_ren : Go.Shelf.Ren := ⟨fun | 8 => 86 | 6 => 130 | n => n, fun | 22 => 56 | 23 => 105 | 25 => 145 | 4 => 4 | 3 => 3 | 0 => 0 | n => n, fun | n => n⟩
theorem Tryz.hasG : Go.Proofs.SlLaysH0.n8 Tryz.prog Tryz.hasG_ren := {
 mixed := by kernel_rfl
 f6 := ⟨Tryz.f130.name, by decide, Tryz.func130.trans (congrArg some (by kernel_rfl))⟩
 f8 := ⟨Tryz.f86.name, by decide, Tryz.func86.trans (congrArg some (by kernel_rfl))⟩
 t0 := Tryz.underlying0
 a0 := Tryz.isAgg0
 z0 := Tryz.sizeOf0
 v0 := Tryz.zeroValue0
 t3 := Tryz.underlying3
 a3 := Tryz.isAgg3
 z3 := Tryz.sizeOf3
 v3 := Tryz.zeroValue3
 t4 := Tryz.underlying4
 a4 := Tryz.isAgg4
 z4 := Tryz.sizeOf4
 v4 := Tryz.zeroValue4
 t22 := Tryz.underlying56
 a22 := Tryz.isAgg56
 z22 := Tryz.sizeOf56
 v22 := Tryz.zeroValue56
 t25 := Tryz.underlying145
 a25 := Tryz.isAgg145
 z25 := Tryz.sizeOf145
 v25 := Tryz.zeroValue145 }
def Tryz.hasL_ren : Go.Shelf.Ren := ⟨fun | 8 => 92 | 6 => 133 | n => n, fun | 22 => 57 | 23 => 108 | 25 => 151 | 4 => 4 | 3 => 3 | 0 => 0 | n => n, fun | n => n⟩
theorem Tryz.hasL : Go.Proofs.SlLaysH0.n8 Tryz.prog Tryz.hasL_ren := {
 mixed := by kernel_rfl
 f6 := ⟨Tryz.f133.name, by decide, Tryz.func133.trans (congrArg some (by kernel_rfl))⟩
 f8 := ⟨Tryz.f92.name, by decide, Tryz.func92.trans (congrArg some (by kernel_rfl))⟩
 t0 := Tryz.underlying0
 a0 := Tryz.isAgg0
 z0 := Tryz.sizeOf0
 v0 := Tryz.zeroValue0
 t3 := Tryz.underlying3
 a3 := Tryz.isAgg3
 z3 := Tryz.sizeOf3
 v3 := Tryz.zeroValue3
 t4 := Tryz.underlying4
 a4 := Tryz.isAgg4
 z4 := Tryz.sizeOf4
 v4 := Tryz.zeroValue4
 t22 := Tryz.underlying57
 a22 := Tryz.isAgg57
 z22 := Tryz.sizeOf57
 v22 := Tryz.zeroValue57
 t25 := Tryz.underlying151
 a25 := Tryz.isAgg151
 z25 := Tryz.sizeOf151
 v25 := Tryz.zeroValue151 }
def Tryz.hasK_ren : Go.Shelf.Ren := ⟨fun | 8 => 99 | 6 => 134 | n => n, fun | 22 => 58 | 23 => 111 | 25 => 155 | 4 => 4 | 3 => 3 | 0 => 0 | n => n, fun | n => n⟩
theorem Tryz.hasK : Go.Proofs.SlLaysH0.n8 Tryz.prog Tryz.hasK_ren := {
 mixed := by kernel_rfl
 f6 := ⟨Tryz.f134.name, by decide, Tryz.func134.trans (congrArg some (by kernel_rfl))⟩
 f8 := ⟨Tryz.f99.name, by decide, Tryz.func99.trans (congrArg some (by kernel_rfl))⟩
 t0 := Tryz.underlying0
 a0 := Tryz.isAgg0
 z0 := Tryz.sizeOf0
 v0 := Tryz.zeroValue0
 t3 := Tryz.underlying3
 a3 := Tryz.isAgg3
 z3 := Tryz.sizeOf3
 v3 := Tryz.zeroValue3
 t4 := Tryz.underlying4
 a4 := Tryz.isAgg4
 z4 := Tryz.sizeOf4
 v4 := Tryz.zeroValue4
 t22 := Tryz.underlying58
 a22 := Tryz.isAgg58
 z22 := Tryz.sizeOf58
 v22 := Tryz.zeroValue58
 t25 := Tryz.underlying155
 a25 := Tryz.isAgg155
 z25 := Tryz.sizeOf155
 v25 := Tryz.zeroValue155 }
def Tryz.sortG_ren : Go.Shelf.Ren := ⟨fun | 6 => 110 | 15 => 144 | 14 => 143 | 28 => 169 | 29 => 170 | 20 => 161 | 21 => 162 | 22 => 163 | 23 => 164 | 24 => 165 | 25 => 166 | 26 => 167 | 27 => 168 | 46 => 186 | 47 => 187 | 48 => 188 | 49 => 189 | 50 => 190 | 57 => 199 | n => n, fun | 22 => 56 | 24 => 105 | 25 => 148 | 3 => 3 | 39 => 47 | 0 => 0 | 53 => 191 | 55 => 214 | 4 => 4 | 46 => 207 | 45 => 206 | 50 => 117 | 5 => 5 | 9 => 9 | 66 => 237 | 70 => 241 | 76 => 254 | 77 => 255 | n => n, fun | n => n⟩
theorem Tryz.sortG : Go.Proofs.SlLaysF0.n6 Tryz.prog Tryz.sortG_ren := {
 mixed := by kernel_rfl
 f6 := ⟨Tryz.f110.name, by decide, Tryz.func110.trans (congrArg some (by kernel_rfl))⟩
 f14 := ⟨Tryz.f143.name, by decide, Tryz.func143.trans (congrArg some (by kernel_rfl))⟩
 f15 := Tryz.func144.trans (congrArg some (by kernel_rfl))
 f20 := ⟨Tryz.f161.name, by decide, Tryz.func161.trans (congrArg some (by kernel_rfl))⟩
 f21 := ⟨Tryz.f162.name, by decide, Tryz.func162.trans (congrArg some (by kernel_rfl))⟩
 f22 := ⟨Tryz.f163.name, by decide, Tryz.func163.trans (congrArg some (by kernel_rfl))⟩
 f23 := ⟨Tryz.f164.name, by decide, Tryz.func164.trans (congrArg some (by kernel_rfl))⟩
 f24 := ⟨Tryz.f165.name, by decide, Tryz.func165.trans (congrArg some (by kernel_rfl))⟩
 f25 := ⟨Tryz.f166.name, by decide, Tryz.func166.trans (congrArg some (by kernel_rfl))⟩
 f26 := ⟨Tryz.f167.name, by decide, Tryz.func167.trans (congrArg some (by kernel_rfl))⟩
 f27 := ⟨Tryz.f168.name, by decide, Tryz.func168.trans (congrArg some (by kernel_rfl))⟩
 f28 := Tryz.func169.trans (congrArg some (by kernel_rfl))
 f29 := Tryz.func170.trans (congrArg some (by kernel_rfl))
 f46 := ⟨Tryz.f186.name, by decide, Tryz.func186.trans (congrArg some (by kernel_rfl))⟩
 f47 := Tryz.func187.trans (congrArg some (by kernel_rfl))
 f48 := Tryz.func188.trans (congrArg some (by kernel_rfl))
 f49 := ⟨Tryz.f189.name, by decide, Tryz.func189.trans (congrArg some (by kernel_rfl))⟩
 f50 := ⟨Tryz.f190.name, by decide, Tryz.func190.trans (congrArg some (by kernel_rfl))⟩
 f57 := ⟨Tryz.f199.name, by decide, Tryz.func199.trans (congrArg some (by kernel_rfl))⟩
 t0 := Tryz.underlying0
 a0 := Tryz.isAgg0
 z0 := Tryz.sizeOf0
 v0 := Tryz.zeroValue0
 t3 := Tryz.underlying3
 a3 := Tryz.isAgg3
 z3 := Tryz.sizeOf3
 v3 := Tryz.zeroValue3
 t4 := Tryz.underlying4
 a4 := Tryz.isAgg4
 z4 := Tryz.sizeOf4
 v4 := Tryz.zeroValue4
 t5 := Tryz.underlying5
 a5 := Tryz.isAgg5
 z5 := Tryz.sizeOf5
 v5 := Tryz.zeroValue5
 t9 := Tryz.underlying9
 a9 := Tryz.isAgg9
 z9 := Tryz.sizeOf9
 v9 := Tryz.zeroValue9
 t22 := Tryz.underlying56
 a22 := Tryz.isAgg56
 z22 := Tryz.sizeOf56
 v22 := Tryz.zeroValue56
 t25 := Tryz.underlying148
 a25 := Tryz.isAgg148
 z25 := Tryz.sizeOf148
 v25 := Tryz.zeroValue148
 t39 := Tryz.underlying47
 a39 := Tryz.isAgg47
 z39 := Tryz.sizeOf47
 v39 := Tryz.zeroValue47
 t45 := Tryz.underlying206
 a45 := Tryz.isAgg206
 z45 := Tryz.sizeOf206
 v45 := Tryz.zeroValue206
 t46 := Tryz.underlying207
 a46 := Tryz.isAgg207
 z46 := Tryz.sizeOf207
 v46 := Tryz.zeroValue207
 t50 := Tryz.underlying117
 a50 := Tryz.isAgg117
 z50 := Tryz.sizeOf117
 v50 := Tryz.zeroValue117
 t53 := Tryz.underlying191
 a53 := Tryz.isAgg191
 z53 := Tryz.sizeOf191
 v53 := Tryz.zeroValue191
 t55 := Tryz.underlying214
 a55 := Tryz.isAgg214
 z55 := Tryz.sizeOf214
 v55 := Tryz.zeroValue214
 t66 := Tryz.underlying237
 a66 := Tryz.isAgg237
 z66 := Tryz.sizeOf237
 v66 := Tryz.zeroValue237
 t70 := Tryz.underlying241
 a70 := Tryz.isAgg241
 z70 := Tryz.sizeOf241
 v70 := Tryz.zeroValue241
 t76 := Tryz.underlying254
 a76 := Tryz.isAgg254
 z76 := Tryz.sizeOf254
 v76 := Tryz.zeroValue254
 t77 := Tryz.underlying255
 a77 := Tryz.isAgg255
 z77 := Tryz.sizeOf255
 v77 := Tryz.zeroValue255 }
end Go.Proofs
namespace Go.Proofs.YtggifbbiiickmaaGreatDoor
open Go.RowKit Go.Proofs.zk.ze
theorem YA {x : Int} (a : -9223372036854775808 ≤ x) (b : x ≤ 9223372036854775807) : wrap64 x = x := IntWalk.wrap64_in x ⟨a, b⟩
theorem qB {α : Type} {c : Prop} [Decidable c] {a b : Nat → Option α} {r : α} (h : c) (k : Ev a r) : Ev (fun n => if c then a n else b n) r := by
 simp only [if_pos h]; exact k
theorem pq {α : Type} {c : Prop} [Decidable c] {a b : Nat → Option α} {r : α} (h : ¬ c) (k : Ev b r) : Ev (fun n => if c then a n else b n) r := by
 simp only [if_neg h]; exact k
theorem QI {α β : Type} {x : Option α} {y : α} {f : Nat → α → Option β} {r : β} (h : x = some y) (k : Ev (fun n => f n y) r) : Ev (fun n => x.bind (f n)) r := by
 subst h; exact k
theorem zzC {α : Type} {g : Nat → Option α} {r r' : α} (h : r = r') (k : Ev g r) : Ev g r' := h ▸ k
theorem zzD {α : Type} (d : α) (l : List α) (i : Nat) : Yh d l (i : Int) = l.getD i d := rfl
end Go.Proofs.YtggifbbiiickmaaGreatDoor
namespace Go.Proofs.YtggifbbiiickmaaGreatDoor
open Go.RowKit
structure GW (w : World) : Prop where
 tab : Lib.TabIs Tryz.prog w "internal/strconv.uint64pow10" .u64 Lib.pow10Tab
 zjB : ∃ tp p, w.var? Tryz.prog "strconv.ErrSyntax" = some #[.iface tp p]
 rng : ∃ tp p, w.var? Tryz.prog "strconv.ErrRange" = some #[.iface tp p]
 spc : Lib.TabIs Tryz.prog w "strings.asciiSpace" .u8 Lib.asciiSpaceTab
 mx : ∃ m, w.cell? ⟨2, 0, none⟩ = some (.int .i64 m)
 inside : 10 < w.heap.size
theorem GW.under {w w' : World} (h : GW w) (hb : Below w.heap.size w w') : GW w' := by
 obtain ⟨t1, p1, e1⟩ := h.zjB
 obtain ⟨t2, p2, e2⟩ := h.rng
 obtain ⟨m, e3⟩ := h.mx
 have hi := h.inside
 exact ⟨var?_below hb (by kernel_rfl) (by omega : 7 < w.heap.size) h.tab, ⟨t1, p1, var?_below hb (by kernel_rfl) (by omega : 3 < w.heap.size) e1⟩, ⟨t2, p2, var?_below hb (by kernel_rfl) (by omega : 4 < w.heap.size) e2⟩,
  var?_below hb (by kernel_rfl) (by omega : 0 < w.heap.size) h.spc,
  ⟨m, (hb.cell (p := ⟨2, 0, none⟩) (by show 2 < w.heap.size; omega)).trans e3⟩, Nat.lt_of_lt_of_le hi hb.size⟩
end Go.Proofs.YtggifbbiiickmaaGreatDoor
namespace Go.Proofs.YtggifbbiiickmaaGreatDoor
open Go.RowKit
def dQ (l : List UInt8) : Int := match Lib.atoiAll l with | .ok v => v | .range => Lib.atoiSat l | _ => 0
def KX (l : List UInt8) : Bool := match Lib.atoiAll l with | .ok _ => true | _ => false
theorem zzE (s : ByteArray) (w : World) (hs : s.size ≤ 140737488355328) (hG : GW w) :
  Calls Tryz.prog 116 #[.string s] w fun e w' => ∃ ev, e = .returned (.tuple #[.int .i64 (dQ s.data.toList), ev]) ∧ (KX s.data.toList = true → ev = .nilIface) ∧ (KX s.data.toList = false → ∃ te pe, ev = .iface te pe) ∧ Below w.heap.size w w' := by
 unfold dQ KX
 cases h : Lib.atoiAll s.data.toList with
 | ok v =>
  refine (Tryz.strconv_Atoi_ok s (by omega) v h w).mono fun e w' ⟨h1, h2⟩ => ⟨.nilIface, h1, fun _ => rfl, (fun h => nomatch h), ?_⟩
  rcases h2 with rfl | ⟨t, rfl⟩
  ·exact Below.refl _ _
  ·exact Lib.bytesWorld_below _ _ _
 | range =>
  obtain ⟨tp, p, hv⟩ := hG.rng
  exact (Tryz.strconv_Atoi_range_var s (by omega) h tp p w hv).mono fun e w' ⟨N, h1, _, _, h2⟩ => ⟨_, h1, (fun h => nomatch h), fun _ => ⟨_, _, rfl⟩, h2⟩
 | _ =>
  obtain ⟨tp, p, hv⟩ := hG.zjB
  exact (Tryz.strconv_Atoi_syntax_var s (by omega) h tp p w hv).mono fun e w' ⟨N, h1, _, _, h2⟩ => ⟨_, h1, (fun h => nomatch h), fun _ => ⟨_, _, rfl⟩, h2⟩
end Go.Proofs.YtggifbbiiickmaaGreatDoor
namespace Go.Proofs.YtggifbbiiickmaaGreatDoor
open Go.RowKit Go.Shelf
def okB (b : UInt8) : Bool := decide (33 ≤ b.toNat) && decide (b.toNat ≤ 126)
def XL (l : List UInt8) : Bool := decide (1 ≤ l.length) && (decide (l.length ≤ 10) && l.all okB)
def Qf (b : UInt8) : Bool := (decide (97 ≤ b.toNat) && decide (b.toNat ≤ 122)) || (decide (65 ≤ b.toNat) && decide (b.toNat ≤ 90))
def dM (b : UInt8) : Bool := decide (48 ≤ b.toNat) && decide (b.toNat ≤ 57)
def KJ (l : List UInt8) : Bool := decide (1 ≤ l.length) && (decide (l.length ≤ 10) && (l.all (fun b => Qf b || dM b) && (l.head?.map Qf).getD false))
def ko (r : Nat) : Bool := decide (r < 33) || decide (126 < r)
theorem lS (s : ByteArray) : ∀ (f pos : Nat), s.size ≤ pos + f → pos ≤ s.size → (0 ≤ Lib.idxFuncFrom ko true s f pos ↔ ¬ ((s.data.toList.drop pos).all okB = true)) := by
 intro f
 induction f with
 | zero =>
  intro pos h1 h2
  rw [Lib.idxFuncFrom_end _ _ _ _ _ (by omega), List.drop_eq_nil_of_le (by simp; omega)]
  simp
 | succ f ih =>
  intro pos h1 h2
  by_cases hp : pos < s.size
  ·have hd : s.data.toList.drop pos = s[pos] :: s.data.toList.drop (pos + 1) := by
    rw [List.drop_eq_getElem_cons (by simpa using hp)]; rfl
   rw [hd, List.all_cons]
   unfold Lib.idxFuncFrom
   rw [if_pos hp]
   by_cases ha : s[pos].toNat < 128
   ·rw [decode_ascii s pos hp ha]
    simp only
    by_cases hb : okB s[pos] = true
    ·have hn : ko s[pos].toNat = false := by
      unfold okB at hb; unfold ko; simp at hb ⊢; omega
     rw [hn, if_neg (by simp), ih (pos + 1) (by omega) (by omega), hb]
     simp
    ·have hn : ko s[pos].toNat = true := by
      unfold okB at hb; unfold ko; simp at hb ⊢; omega
     rw [hn, if_pos rfl]
     simp [hb]
   ·have hh := decode_high s pos hp (by omega)
    have hn : ko (Utf8.decode s pos).1 = true := by unfold ko; simp; omega
    have hb : okB s[pos] = false := by unfold okB; simp; omega
    rw [hn, if_pos rfl, hb]
    simp
  ·rw [Lib.idxFuncFrom_end _ _ _ _ _ hp, List.drop_eq_nil_of_le (by simp; omega)]
   simp
theorem eB (w : World) : PredAt Tryz.prog 131 #[] encR ko w := fun W r _ => by
 unfold FnGives
 show Calls Tryz.prog 131 #[.int .i32 r] W _
 by_cases h1 : r < 33
 ·have e1 : ko r = true := by unfold ko; simp [h1]
  have d1 : decide ((r : Int) < 33) = true := by simp; omega
  rw [e1]; clear e1 h1
  go_enter Tryz.func131, Tryz.ntmps131
  go_wp2
  go_ret
  exact ⟨rfl, 0, rfl⟩
 ·have d1 : decide ((r : Int) < 33) = false := by simp; omega
  by_cases h2 : 126 < r
  ·have e1 : ko r = true := by unfold ko; simp [h2]
   have d2 : decide ((126 : Int) < (r : Int)) = true := by simp; omega
   rw [e1]; clear e1 h1 h2
   go_enter Tryz.func131, Tryz.ntmps131
   go_wp2
   go_ret
   exact ⟨rfl, 0, rfl⟩
  ·have e1 : ko r = false := by unfold ko; simp; omega
   have d2 : decide ((126 : Int) < (r : Int)) = false := by simp; omega
   rw [e1]; clear e1 h1 h2
   go_enter Tryz.func131, Tryz.ntmps131
   go_wp2
   go_ret
   exact ⟨rfl, 0, rfl⟩
set_option maxRecDepth 100000 in
theorem lT (s : ByteArray) (w : World) :
  Calls Tryz.prog 88 #[.string s] w fun e w' => e = .returned (.bool (XL s.data.toList)) ∧ Below w.heap.size w w' := by
 have hl : s.data.toList.length = s.size := Array.length_toList
 have hc := Tryz.strings_ContainsFunc 131 #[] (enters_of Tryz.func131 (by kernel_rfl) rfl) ko s w (eB w)
 have hv : decide (0 ≤ Lib.idxFunc ko true s) = !(s.data.toList.all okB) := by
  have := lS s s.size 0 (by omega) (by omega)
  rw [List.drop_zero] at this
  unfold Lib.idxFunc
  cases h : s.data.toList.all okB with
  | true => rw [h] at this; simp at this; simp; omega
  | false => rw [h] at this; simp at this; simp [this]
 rw [hv] at hc
 unfold XL
 rw [hl]
 generalize s.data.toList.all okB = b at hc ⊢
 clear hl hv
 by_cases h1 : 1 ≤ s.size
 ·have d1 : decide (1 ≤ s.size) = true := decide_eq_true h1
  have g1 : decide ((1 : Int) ≤ (s.size : Int)) = true := by simp; omega
  by_cases h2 : s.size ≤ 10
  ·have d2 : decide (s.size ≤ 10) = true := decide_eq_true h2
   have g2 : decide ((s.size : Int) ≤ 10) = true := by simp; omega
   rw [d1, d2]
   clear d1 d2
   cases b with
   | true =>
    go_enter Tryz.func88, Tryz.ntmps88
    go_wp2_with (go_at_call 81; refine hc.mono ?_; rintro e w1 ⟨rfl, hb1⟩)
    go_ret
    exact ⟨rfl, hb1⟩
   | false =>
    go_enter Tryz.func88, Tryz.ntmps88
    go_wp2_with (go_at_call 81; refine hc.mono ?_; rintro e w1 ⟨rfl, hb1⟩)
    go_ret
    exact ⟨rfl, hb1⟩
  ·have d2 : decide (s.size ≤ 10) = false := decide_eq_false h2
   have g2 : decide ((s.size : Int) ≤ 10) = false := by simp; omega
   rw [d1, d2]
   clear d1 d2 hc
   go_enter Tryz.func88, Tryz.ntmps88
   go_wp2
   go_ret
   exact ⟨rfl, Below.refl _ _⟩
 ·have d1 : decide (1 ≤ s.size) = false := decide_eq_false h1
  have g1 : decide ((1 : Int) ≤ (s.size : Int)) = false := by simp; omega
  rw [d1]
  clear d1 hc
  go_enter Tryz.func88, Tryz.ntmps88
  go_wp2
  go_ret
  exact ⟨rfl, Below.refl _ _⟩
theorem bA {P : UInt8 → Prop} (h : ∀ n : Fin 256, P (UInt8.ofNat n.val)) (c : UInt8) : P c := by
 have := h ⟨c.toNat, c.toNat_lt⟩
 rwa [UInt8.ofNat_toNat] at this
theorem lU (c : UInt8) : decide (0 ≤ Lib.indexByte (⟨#[97, 98, 99, 100, 101, 102, 103, 104, 105, 106, 107, 108, 109, 110, 111, 112, 113, 114, 115, 116, 117, 118, 119, 120, 121, 122, 65, 66, 67, 68, 69, 70, 71, 72, 73, 74, 75, 76, 77, 78, 79, 80, 81, 82, 83, 84, 85, 86, 87, 88, 89, 90]⟩ : ByteArray).data.toList c) = Qf c :=
 bA (P := fun c => decide (0 ≤ Lib.indexByte (⟨#[97, 98, 99, 100, 101, 102, 103, 104, 105, 106, 107, 108, 109, 110, 111, 112, 113, 114, 115, 116, 117, 118, 119, 120, 121, 122, 65, 66, 67, 68, 69, 70, 71, 72, 73, 74, 75, 76, 77, 78, 79, 80, 81, 82, 83, 84, 85, 86, 87, 88, 89, 90]⟩ : ByteArray).data.toList c) = Qf c) (by decide +kernel) c
theorem eD (c : UInt8) : ((⟨#[97, 98, 99, 100, 101, 102, 103, 104, 105, 106, 107, 108, 109, 110, 111, 112, 113, 114, 115, 116, 117, 118, 119, 120, 121, 122, 65, 66, 67, 68, 69, 70, 71, 72, 73, 74, 75, 76, 77, 78, 79, 80, 81, 82, 83, 84, 85, 86, 87, 88, 89, 90, 48, 49, 50, 51, 52, 53, 54, 55, 56, 57]⟩ : ByteArray).data.toList.contains c) = (Qf c || dM c) :=
 bA (P := fun c => ((⟨#[97, 98, 99, 100, 101, 102, 103, 104, 105, 106, 107, 108, 109, 110, 111, 112, 113, 114, 115, 116, 117, 118, 119, 120, 121, 122, 65, 66, 67, 68, 69, 70, 71, 72, 73, 74, 75, 76, 77, 78, 79, 80, 81, 82, 83, 84, 85, 86, 87, 88, 89, 90, 48, 49, 50, 51, 52, 53, 54, 55, 56, 57]⟩ : ByteArray).data.toList.contains c) = (Qf c || dM c)) (by decide +kernel) c
theorem dropWhile_nil {α : Type} (p : α → Bool) (l : List α) : (l.dropWhile p).isEmpty = l.all p := by
 induction l with
 | nil => rfl
 | cons a l ih =>
  rw [List.dropWhile_cons, List.all_cons]
  cases h : p a with
  | true => simpa using ih
  | false => rfl
theorem Jg {α : Type} (p : α → Bool) (l : List α) (h : (l.dropWhile p).all p = true) : l.all p = true := by
 induction l with
 | nil => rfl
 | cons a l ih =>
  rw [List.dropWhile_cons] at h
  cases hp : p a with
  | true => rw [hp] at h; rw [List.all_cons, hp, ih (by simpa using h)]; rfl
  | false => rw [hp] at h; simp [hp] at h
theorem l7 (l cs : List UInt8) : (Lib.trimS l cs).isEmpty = l.all (cs.contains ·) := by
 unfold Lib.trimS Lib.trimLeftS
 rw [dropWhile_nil]
 unfold Lib.trimRightS
 rw [List.all_reverse]
 cases h : (List.dropWhile (fun x => cs.contains x) l.reverse).all (fun x => cs.contains x) with
 | true =>
  have := Jg _ _ h
  rw [List.all_reverse] at this
  exact this.symm
 | false =>
  cases h2 : l.all (fun x => cs.contains x) with
  | false => rfl
  | true =>
   have h3 : (List.dropWhile (fun x => cs.contains x) l.reverse).isEmpty = true := by rw [dropWhile_nil, List.all_reverse]; exact h2
   rw [List.isEmpty_iff.1 h3] at h
   exact absurd h (by simp)
set_option maxRecDepth 100000 in
theorem l8 (s : ByteArray) (w : World) (hs : s.size ≤ 9223372036854775807) :
  Calls Tryz.prog 129 #[.string s, .string ⟨#[97, 98, 99, 100, 101, 102, 103, 104, 105, 106, 107, 108, 109, 110, 111, 112, 113, 114, 115, 116, 117, 118, 119, 120, 121, 122, 65, 66, 67, 68, 69, 70, 71, 72, 73, 74, 75, 76, 77, 78, 79, 80, 81, 82, 83, 84, 85, 86, 87, 88, 89, 90, 48, 49, 50, 51, 52, 53, 54, 55, 56, 57]⟩] w fun e w' => ∃ r : ByteArray, e = .returned (.string r) ∧ r.toList.isEmpty = s.data.toList.all (fun b => Qf b || dM b) ∧ Below w.heap.size w w' := by
 refine (Any.strings_Trim_laid Tryz.lays160 (by kernel_rfl) s ⟨#[97, 98, 99, 100, 101, 102, 103, 104, 105, 106, 107, 108, 109, 110, 111, 112, 113, 114, 115, 116, 117, 118, 119, 120, 121, 122, 65, 66, 67, 68, 69, 70, 71, 72, 73, 74, 75, 76, 77, 78, 79, 80, 81, 82, 83, 84, 85, 86, 87, 88, 89, 90, 48, 49, 50, 51, 52, 53, 54, 55, 56, 57]⟩ w hs (by decide) (ascii_of_all (by decide +kernel))).mono fun e w' ⟨h1, h2⟩ => ⟨_, h1, ?_, h2⟩
 rw [ByteArray.toList_eq]
 show (Lib.trimS s.data.toList _).isEmpty = _
 rw [l7]
 congr 1
 funext b
 exact eD b
set_option maxRecDepth 100000 in
set_option maxHeartbeats 1000000 in
theorem cB (s : ByteArray) (w : World) :
  Calls Tryz.prog 85 #[.string s] w fun e w' => e = .returned (.bool (KJ s.data.toList)) ∧ Below w.heap.size w w' := by
 have hl : s.data.toList.length = s.size := Array.length_toList
 have ht0 := fun h : s.size ≤ 10 => l8 s w (by omega)
 unfold KJ
 rw [hl]
 clear hl
 by_cases h1 : 1 ≤ s.size
 ·have d1 : decide (1 ≤ s.size) = true := decide_eq_true h1
  have g1 : decide ((1 : Int) ≤ (s.size : Int)) = true := by simp; omega
  by_cases h2 : s.size ≤ 10
  ·have ht := ht0 h2
   clear ht0
   have d2 : decide (s.size ≤ 10) = true := decide_eq_true h2
   have g2 : decide ((s.size : Int) ≤ 10) = true := by simp; omega
   rw [d1, d2]
   have hh : (s.data.toList.head?.map Qf).getD false = Qf s[0] := by
    have : s.data.toList.head? = some s[0] := by
     rw [List.head?_eq_getElem?, List.getElem?_eq_getElem (by simp; omega)]; rfl
    rw [this]; rfl
   rw [hh]
   clear d1 d2 hh
   generalize s.data.toList.all (fun b => Qf b || dM b) = al at ht ⊢
   have hi := fun W => Tryz.strings_IndexByte ⟨#[97, 98, 99, 100, 101, 102, 103, 104, 105, 106, 107, 108, 109, 110, 111, 112, 113, 114, 115, 116, 117, 118, 119, 120, 121, 122, 65, 66, 67, 68, 69, 70, 71, 72, 73, 74, 75, 76, 77, 78, 79, 80, 81, 82, 83, 84, 85, 86, 87, 88, 89, 90]⟩ (s[0].toNat : Int) W
   have hc8 : ((s[0].toNat : Int).toNat.toUInt8) = s[0] := by rw [Int.toNat_natCast]; exact UInt8.ofNat_toNat
   rw [hc8] at hi
   have hx := lU s[0]
   generalize Lib.indexByte (⟨#[97, 98, 99, 100, 101, 102, 103, 104, 105, 106, 107, 108, 109, 110, 111, 112, 113, 114, 115, 116, 117, 118, 119, 120, 121, 122, 65, 66, 67, 68, 69, 70, 71, 72, 73, 74, 75, 76, 77, 78, 79, 80, 81, 82, 83, 84, 85, 86, 87, 88, 89, 90]⟩ : ByteArray).data.toList s[0] = ix at hi hx
   have HX := Lib.hid hx
   clear hx hc8
   cases al with
   | false =>
    go_enter Tryz.func85, Tryz.ntmps85
    go_wp2_with (go_at_call 129; refine ht.mono ?_; rintro e w1 ⟨r, rfl, hr, hb1⟩)
    all_goals first | (exfalso; simp_all; done) | skip
    go_ret
    exact ⟨rfl, hb1⟩
   | true =>
    cases hb : Qf s[0] with
    | true =>
     rw [hb] at HX
     have g3 : decide (0 ≤ ix) = true := HX.out
     go_enter Tryz.func85, Tryz.ntmps85
     go_wp2_with (first | (go_at_call 129; refine ht.mono ?_; rintro e w1 ⟨r, rfl, hr, hb1⟩) | (go_at_call 113; refine (hi _).mono ?_; rintro e w2 ⟨rfl, rfl⟩))
     all_goals first | (exfalso; simp_all; done) | skip
     go_ret
     exact ⟨rfl, hb1⟩
    | false =>
     rw [hb] at HX
     have g3 : decide (0 ≤ ix) = false := HX.out
     go_enter Tryz.func85, Tryz.ntmps85
     go_wp2_with (first | (go_at_call 129; refine ht.mono ?_; rintro e w1 ⟨r, rfl, hr, hb1⟩) | (go_at_call 113; refine (hi _).mono ?_; rintro e w2 ⟨rfl, rfl⟩))
     all_goals first | (exfalso; simp_all; done) | skip
     go_ret
     exact ⟨rfl, hb1⟩
  ·have d2 : decide (s.size ≤ 10) = false := decide_eq_false h2
   have g2 : decide ((s.size : Int) ≤ 10) = false := by simp; omega
   rw [d1, d2]
   clear d1 d2 ht0
   go_enter Tryz.func85, Tryz.ntmps85
   go_wp2
   go_ret
   exact ⟨rfl, Below.refl _ _⟩
 ·have d1 : decide (1 ≤ s.size) = false := decide_eq_false h1
  have g1 : decide ((1 : Int) ≤ (s.size : Int)) = false := by simp; omega
  rw [d1]
  clear d1 ht0
  go_enter Tryz.func85, Tryz.ntmps85
  go_wp2
  go_ret
  exact ⟨rfl, Below.refl _ _⟩
end Go.Proofs.YtggifbbiiickmaaGreatDoor
namespace Go.Proofs.YtggifbbiiickmaaGreatDoor.PX
open Go.RowKit Go.Proofs.zk.ze Go.Proofs.zk.yc Go.Proofs.zk.yt
attribute [local go_sem] wo wu Zk Zy jd je wB wC   -- for this text's walks alone
set_option linter.unusedVariables false
set_option linter.unusedSimpArgs false
def ZT.f  : Option ((List (qy))) := some (([(⟨(⟨#[102]⟩ : ByteArray), (⟨#[102]⟩ : ByteArray), (⟨#[102, 102]⟩ : ByteArray)⟩ : qy), (⟨(⟨#[102]⟩ : ByteArray), (⟨#[105]⟩ : ByteArray), (⟨#[102, 105]⟩ : ByteArray)⟩ : qy), (⟨(⟨#[102]⟩ : ByteArray), (⟨#[108]⟩ : ByteArray), (⟨#[102, 108]⟩ : ByteArray)⟩ : qy)] : List (qy)))
set_option maxHeartbeats 8000000 in
set_option maxRecDepth 100000 in
theorem ZT.calls  (r : List (qy)) (w : World) (h : ZT.f  = some r) :
  Calls Tryz.prog 56 #[] w fun e w' => ∃ UW : Value, e = .returned (UW) ∧ Kd.R vw 108 w' w.heap.size (fun _ => True) UW r ∧ Below w.heap.size w w' := by
 have zJA := Tryz.underlying108
 have HB := zx.mk (Below.refl w.heap.size w)
 have H : (some (([(⟨(⟨#[102]⟩ : ByteArray), (⟨#[102]⟩ : ByteArray), (⟨#[102, 102]⟩ : ByteArray)⟩ : qy), (⟨(⟨#[102]⟩ : ByteArray), (⟨#[105]⟩ : ByteArray), (⟨#[102, 105]⟩ : ByteArray)⟩ : qy), (⟨(⟨#[102]⟩ : ByteArray), (⟨#[108]⟩ : ByteArray), (⟨#[102, 108]⟩ : ByteArray)⟩ : qy)] : List (qy)))) = some r := h
 clear h
 obtain ⟨zwq, KV⟩ : ∃ y_ : List (qy), y_ = (([(⟨(⟨#[102]⟩ : ByteArray), (⟨#[102]⟩ : ByteArray), (⟨#[102, 102]⟩ : ByteArray)⟩ : qy), (⟨(⟨#[102]⟩ : ByteArray), (⟨#[105]⟩ : ByteArray), (⟨#[102, 105]⟩ : ByteArray)⟩ : qy), (⟨(⟨#[102]⟩ : ByteArray), (⟨#[108]⟩ : ByteArray), (⟨#[102, 108]⟩ : ByteArray)⟩ : qy)] : List (qy))) := ⟨_, rfl⟩
 replace H : (some zwq) = some r := by first | (rw [KV]; with_reducible exact H) | (have Ua := (Option.bind_some _ _).symm.trans H; rw [KV]; with_reducible exact Ua) | (have Ua := (Option.bind_some _ _).symm.trans H; with_reducible exact Ua) | with_reducible exact H | (rw [KV]; exact H) | exact H
 have zqT := zx.mk KV
 clear KV
 obtain rfl := Option.some.inj H
 go_enter Tryz.func56, Tryz.ntmps56
 go_wp2_with (first | ((with_reducible refine qb (N := 4) rfl ?_); refine Kd.QE vw _ 108 ?hg (N := 4) ?hd (xs := ([(⟨(⟨#[102]⟩ : ByteArray), (⟨#[102]⟩ : ByteArray), (⟨#[102, 102]⟩ : ByteArray)⟩ : qy), (⟨(⟨#[102]⟩ : ByteArray), (⟨#[105]⟩ : ByteArray), (⟨#[102, 105]⟩ : ByteArray)⟩ : qy), (⟨(⟨#[102]⟩ : ByteArray), (⟨#[108]⟩ : ByteArray), (⟨#[102, 108]⟩ : ByteArray)⟩ : qy)] : List (qy))) (inner := [.string (⟨#[102]⟩ : ByteArray), .string (⟨#[102]⟩ : ByteArray), .string (⟨#[102, 102]⟩ : ByteArray), .string (⟨#[102]⟩ : ByteArray), .string (⟨#[105]⟩ : ByteArray), .string (⟨#[102, 105]⟩ : ByteArray), .string (⟨#[102]⟩ : ByteArray), .string (⟨#[108]⟩ : ByteArray), .string (⟨#[102, 108]⟩ : ByteArray)]) (ok := fun _ => True) (Zb := fun _ => True) ?hr ?hp (fun _ hk => hk) trivial (Below.refl _ _) (Nat.le_refl _) (by simp) ?_; (case hd => rfl); (case hg => rfl); (case hr => first | (go_simp; done) | (go_simp; rfl)); (case hp => exact (yR.c3 (show Kd.M vw _ _ _ (⟨(⟨#[102]⟩ : ByteArray), (⟨#[102]⟩ : ByteArray), (⟨#[102, 102]⟩ : ByteArray)⟩ : qy) [.string (⟨#[102]⟩ : ByteArray), .string (⟨#[102]⟩ : ByteArray), .string (⟨#[102, 102]⟩ : ByteArray)] from (JE _ _ _ (⟨(⟨#[102]⟩ : ByteArray), (⟨#[102]⟩ : ByteArray), (⟨#[102, 102]⟩ : ByteArray)⟩ : qy) )) (yR.c3 (show Kd.M vw _ _ _ (⟨(⟨#[102]⟩ : ByteArray), (⟨#[105]⟩ : ByteArray), (⟨#[102, 105]⟩ : ByteArray)⟩ : qy) [.string (⟨#[102]⟩ : ByteArray), .string (⟨#[105]⟩ : ByteArray), .string (⟨#[102, 105]⟩ : ByteArray)] from (JE _ _ _ (⟨(⟨#[102]⟩ : ByteArray), (⟨#[105]⟩ : ByteArray), (⟨#[102, 105]⟩ : ByteArray)⟩ : qy) )) (yR.c3 (show Kd.M vw _ _ _ (⟨(⟨#[102]⟩ : ByteArray), (⟨#[108]⟩ : ByteArray), (⟨#[102, 108]⟩ : ByteArray)⟩ : qy) [.string (⟨#[102]⟩ : ByteArray), .string (⟨#[108]⟩ : ByteArray), .string (⟨#[102, 108]⟩ : ByteArray)] from (JE _ _ _ (⟨(⟨#[102]⟩ : ByteArray), (⟨#[108]⟩ : ByteArray), (⟨#[102, 108]⟩ : ByteArray)⟩ : qy) )) (yR.none _ _))))); intro zJO w1 ho2 hb KY Qw; clear KY Qw; (first | rw [← zqT.out] at ho2 | (simp only [Int.reduceToNat] at ho2; rw [← zqT.out] at ho2)); have zf := zx.mk (Kd.vE ho2 (zC (zP HB.out))); have zl := zx.mk (zL (zP HB.out) hb); clear HB; have zkx := zf; have HB := zl; clear zf zl; clear hb ho2))
 go_ret
 exact ⟨_, by first | rfl | (simp [zR, zS] <;> rfl) | (simp [*, zR, zS] <;> rfl), by (with_reducible repeat (first | apply Kd.WQ | apply Kd.WX | apply Kd.qm)); exact zkx.out, by repeat (first | (with_reducible first | exact HB.out | apply yA | apply yZ | apply yx) | exact HB.out)⟩
def cmp_isNaN_string.f (a0 : ByteArray) : Option (Bool) := some (a0.toList != a0.toList)
set_option maxHeartbeats 8000000 in
set_option maxRecDepth 100000 in
theorem cmp_isNaN_string.calls (a0 : ByteArray) (r : Bool) (w : World) (h : cmp_isNaN_string.f a0 = some r) :
  Calls Tryz.prog 132 #[.string a0] w fun e w' => e = .returned (.bool r) ∧ qY w w' := by
 have H : (some (a0.toList != a0.toList)) = some r := h
 clear h
 obtain rfl := Option.some.inj H
 go_enter Tryz.func132, Tryz.ntmps132
 go_wp2
 go_ret
 exact ⟨by first | rfl | (simp; done) | (simp [*]; done), by repeat (first | exact qY.refl _ | apply qY.step)⟩
def xg.f (a0 : ByteArray) (a1 : ByteArray) : Option (Int) := (cmp_isNaN_string.f a0).bind fun JF => ((cmp_isNaN_string.f a1).bind fun Yi => (if JF = true then (if Yi = true then (some 0) else (some (-1))) else (if Yi = true then (some 1) else (if (Op.bytesLess a0.toList a1.toList) = true then (some (-1)) else (if (Op.bytesLess a1.toList a0.toList) = true then (some 1) else (some 0))))))
set_option maxHeartbeats 8000000 in
set_option maxRecDepth 100000 in
theorem xg.calls (a0 : ByteArray) (a1 : ByteArray) (r : Int) (w : World) (h : xg.f a0 a1 = some r) :
  Calls Tryz.prog 91 #[.string a0, .string a1] w fun e w' => e = .returned (.int .i64 r) ∧ qY w w' := by
 have H : ((cmp_isNaN_string.f a0).bind fun JF => ((cmp_isNaN_string.f a1).bind fun Yi => (if JF = true then (if Yi = true then (some 0) else (some (-1))) else (if Yi = true then (some 1) else (if (Op.bytesLess a0.toList a1.toList) = true then (some (-1)) else (if (Op.bytesLess a1.toList a0.toList) = true then (some 1) else (some 0))))))) = some r := h
 clear h
 replace H := Option.bind_eq_some_iff.mp H
 obtain ⟨JF, l9, H⟩ := H
 replace H : ((cmp_isNaN_string.f a1).bind fun Yi => (if JF = true then (if Yi = true then (some 0) else (some (-1))) else (if Yi = true then (some 1) else (if (Op.bytesLess a0.toList a1.toList) = true then (some (-1)) else (if (Op.bytesLess a1.toList a0.toList) = true then (some 1) else (some 0)))))) = some r := H
 have A3 := zx.mk l9
 clear l9
 replace H := Option.bind_eq_some_iff.mp H
 obtain ⟨Yi, bB, H⟩ := H
 replace H : (if JF = true then (if Yi = true then (some 0) else (some (-1))) else (if Yi = true then (some 1) else (if (Op.bytesLess a0.toList a1.toList) = true then (some (-1)) else (if (Op.bytesLess a1.toList a0.toList) = true then (some 1) else (some 0))))) = some r := H
 have A4 := zx.mk bB
 clear bB
 by_cases c5 : JF = true
 ·subst c5
  have H1 : (if Yi = true then (some 0) else (some (-1))) = some r := by rw [if_pos rfl] at H; exact H
  clear H
  have H := H1
  clear H1
  by_cases c6 : Yi = true
  ·subst c6
   have H1 : (some 0) = some r := by rw [if_pos rfl] at H; exact H
   clear H
   have H := H1
   clear H1
   obtain rfl := Option.some.inj H
   go_enter Tryz.func91, Tryz.ntmps91
   go_wp2_with (first | ((with_reducible refine yg (f := 132) rfl ?_); refine jf (some 8) Tryz.func132 #[.string a0] ?_; (with_reducible refine (cmp_isNaN_string.calls a0 true _ A3.out).mono ?_); rintro e w' ⟨rfl, ⟨nd, rfl⟩⟩; refine ⟨_, rfl, ?_⟩) | ((with_reducible refine yg (f := 132) rfl ?_); refine jf (some 10) Tryz.func132 #[.string a1] ?_; (with_reducible refine (cmp_isNaN_string.calls a1 true _ A4.out).mono ?_); rintro e w' ⟨rfl, ⟨nd, rfl⟩⟩; refine ⟨_, rfl, ?_⟩))
   go_ret
   exact ⟨by first | rfl | (simp; done) | (simp [*]; done), by repeat (first | exact qY.refl _ | apply qY.step)⟩
  ·replace c6 := Bool.eq_false_iff.mpr c6
   subst c6
   have H1 : (some (-1)) = some r := by rw [if_neg (show ¬ (false = true) by decide)] at H; exact H
   clear H
   have H := H1
   clear H1
   obtain rfl := Option.some.inj H
   go_enter Tryz.func91, Tryz.ntmps91
   go_wp2_with (first | ((with_reducible refine yg (f := 132) rfl ?_); refine jf (some 8) Tryz.func132 #[.string a0] ?_; (with_reducible refine (cmp_isNaN_string.calls a0 true _ A3.out).mono ?_); rintro e w' ⟨rfl, ⟨nd, rfl⟩⟩; refine ⟨_, rfl, ?_⟩) | ((with_reducible refine yg (f := 132) rfl ?_); refine jf (some 10) Tryz.func132 #[.string a1] ?_; (with_reducible refine (cmp_isNaN_string.calls a1 false _ A4.out).mono ?_); rintro e w' ⟨rfl, ⟨nd, rfl⟩⟩; refine ⟨_, rfl, ?_⟩))
   go_ret
   exact ⟨by first | rfl | (simp; done) | (simp [*]; done), by repeat (first | exact qY.refl _ | apply qY.step)⟩
 ·replace c5 := Bool.eq_false_iff.mpr c5
  subst c5
  have H1 : (if Yi = true then (some 1) else (if (Op.bytesLess a0.toList a1.toList) = true then (some (-1)) else (if (Op.bytesLess a1.toList a0.toList) = true then (some 1) else (some 0)))) = some r := by rw [if_neg (show ¬ (false = true) by decide)] at H; exact H
  clear H
  have H := H1
  clear H1
  by_cases c7 : Yi = true
  ·subst c7
   have H1 : (some 1) = some r := by rw [if_pos rfl] at H; exact H
   clear H
   have H := H1
   clear H1
   obtain rfl := Option.some.inj H
   go_enter Tryz.func91, Tryz.ntmps91
   go_wp2_with (first | ((with_reducible refine yg (f := 132) rfl ?_); refine jf (some 8) Tryz.func132 #[.string a0] ?_; (with_reducible refine (cmp_isNaN_string.calls a0 false _ A3.out).mono ?_); rintro e w' ⟨rfl, ⟨nd, rfl⟩⟩; refine ⟨_, rfl, ?_⟩) | ((with_reducible refine yg (f := 132) rfl ?_); refine jf (some 10) Tryz.func132 #[.string a1] ?_; (with_reducible refine (cmp_isNaN_string.calls a1 true _ A4.out).mono ?_); rintro e w' ⟨rfl, ⟨nd, rfl⟩⟩; refine ⟨_, rfl, ?_⟩))
   go_ret
   exact ⟨by first | rfl | (simp; done) | (simp [*]; done), by repeat (first | exact qY.refl _ | apply qY.step)⟩
  ·replace c7 := Bool.eq_false_iff.mpr c7
   subst c7
   have H1 : (if (Op.bytesLess a0.toList a1.toList) = true then (some (-1)) else (if (Op.bytesLess a1.toList a0.toList) = true then (some 1) else (some 0))) = some r := by rw [if_neg (show ¬ (false = true) by decide)] at H; exact H
   clear H
   have H := H1
   clear H1
   by_cases c8 : (Op.bytesLess a0.toList a1.toList) = true
   ·rw [if_pos c8] at H
    have eF : (Op.bytesLess a0.toList a1.toList) = true := c8
    have zwx : (!(Op.bytesLess a1.toList a0.toList || a1.toList == a0.toList)) = true := (U1 _ _).trans (c8)
    have zwj : (a0.toList == a1.toList) = false := zqS (c8)
    have zwv : (a1.toList == a0.toList) = false := lM (c8)
    have zJP : Op.bytesLess a1.toList a0.toList = false := sU (c8)
    clear c8
    obtain rfl := Option.some.inj H
    go_enter Tryz.func91, Tryz.ntmps91
    go_wp2_with (first | ((with_reducible refine yg (f := 132) rfl ?_); refine jf (some 8) Tryz.func132 #[.string a0] ?_; (with_reducible refine (cmp_isNaN_string.calls a0 false _ A3.out).mono ?_); rintro e w' ⟨rfl, ⟨nd, rfl⟩⟩; refine ⟨_, rfl, ?_⟩) | ((with_reducible refine yg (f := 132) rfl ?_); refine jf (some 10) Tryz.func132 #[.string a1] ?_; (with_reducible refine (cmp_isNaN_string.calls a1 false _ A4.out).mono ?_); rintro e w' ⟨rfl, ⟨nd, rfl⟩⟩; refine ⟨_, rfl, ?_⟩))
    go_ret
    exact ⟨by first | rfl | (simp; done) | (simp [*]; done), by repeat (first | exact qY.refl _ | apply qY.step)⟩
   ·rw [if_neg c8] at H
    have eF : (Op.bytesLess a0.toList a1.toList) = false := by simpa using c8
    have zwx : (!(Op.bytesLess a1.toList a0.toList || a1.toList == a0.toList)) = false := (U1 _ _).trans (by simpa using c8)
    try have zwj : (a0.toList == a1.toList) = true := dZ (x := a0.toList) (y := a1.toList) (by assumption) (by assumption)
    try have zwv : (a1.toList == a0.toList) = true := dZ (x := a1.toList) (y := a0.toList) (by assumption) (by assumption)
    clear c8
    by_cases c9 : (Op.bytesLess a1.toList a0.toList) = true
    ·rw [if_pos c9] at H
     have zjC : (Op.bytesLess a1.toList a0.toList) = true := c9
     have zwk : (!(Op.bytesLess a0.toList a1.toList || a0.toList == a1.toList)) = true := (U1 _ _).trans (c9)
     have zwy : (a1.toList == a0.toList) = false := zqS (c9)
     have zww : (a0.toList == a1.toList) = false := lM (c9)
     have zJR : Op.bytesLess a0.toList a1.toList = false := sU (c9)
     clear c9
     obtain rfl := Option.some.inj H
     go_enter Tryz.func91, Tryz.ntmps91
     go_wp2_with (first | ((with_reducible refine yg (f := 132) rfl ?_); refine jf (some 8) Tryz.func132 #[.string a0] ?_; (with_reducible refine (cmp_isNaN_string.calls a0 false _ A3.out).mono ?_); rintro e w' ⟨rfl, ⟨nd, rfl⟩⟩; refine ⟨_, rfl, ?_⟩) | ((with_reducible refine yg (f := 132) rfl ?_); refine jf (some 10) Tryz.func132 #[.string a1] ?_; (with_reducible refine (cmp_isNaN_string.calls a1 false _ A4.out).mono ?_); rintro e w' ⟨rfl, ⟨nd, rfl⟩⟩; refine ⟨_, rfl, ?_⟩))
     go_ret
     exact ⟨by first | rfl | (simp; done) | (simp [*]; done), by repeat (first | exact qY.refl _ | apply qY.step)⟩
    ·rw [if_neg c9] at H
     have zjC : (Op.bytesLess a1.toList a0.toList) = false := by simpa using c9
     have zwk : (!(Op.bytesLess a0.toList a1.toList || a0.toList == a1.toList)) = false := (U1 _ _).trans (by simpa using c9)
     try have zwy : (a1.toList == a0.toList) = true := dZ (x := a1.toList) (y := a0.toList) (by assumption) (by assumption)
     try have zww : (a0.toList == a1.toList) = true := dZ (x := a0.toList) (y := a1.toList) (by assumption) (by assumption)
     clear c9
     obtain rfl := Option.some.inj H
     go_enter Tryz.func91, Tryz.ntmps91
     go_wp2_with (first | ((with_reducible refine yg (f := 132) rfl ?_); refine jf (some 8) Tryz.func132 #[.string a0] ?_; (with_reducible refine (cmp_isNaN_string.calls a0 false _ A3.out).mono ?_); rintro e w' ⟨rfl, ⟨nd, rfl⟩⟩; refine ⟨_, rfl, ?_⟩) | ((with_reducible refine yg (f := 132) rfl ?_); refine jf (some 10) Tryz.func132 #[.string a1] ?_; (with_reducible refine (cmp_isNaN_string.calls a1 false _ A4.out).mono ?_); rintro e w' ⟨rfl, ⟨nd, rfl⟩⟩; refine ⟨_, rfl, ?_⟩))
     go_ret
     exact ⟨by first | rfl | (simp; done) | (simp [*]; done), by repeat (first | exact qY.refl _ | apply qY.step)⟩
end Go.Proofs.YtggifbbiiickmaaGreatDoor.PX
namespace Go.Proofs.YtggifbbiiickmaaGreatDoor
open Go.RowKit Go.Shelf Go.Proofs.zk.ze Go.Proofs.zk.yt Go.Proofs.YtggifbbiiickmaaGreatDoor.PX
def xQ (a b : ByteArray) : Int := if Op.bytesLess a.toList b.toList = true then -1 else if Op.bytesLess b.toList a.toList = true then 1 else 0
theorem YB (a b : ByteArray) : xg.f a b = some (xQ a b) := by
 have e1 : cmp_isNaN_string.f a = some false := by unfold cmp_isNaN_string.f; simp
 have e2 : cmp_isNaN_string.f b = some false := by unfold cmp_isNaN_string.f; simp
 unfold xg.f xQ
 rw [e1, e2]
 simp only [Option.bind_some, Bool.false_eq_true, if_false]
 by_cases h1 : Op.bytesLess a.toList b.toList = true
 ·rw [if_pos h1, if_pos h1]
 ·rw [if_neg h1, if_neg h1]
  by_cases h2 : Op.bytesLess b.toList a.toList = true
  ·rw [if_pos h2, if_pos h2]
  ·rw [if_neg h2, if_neg h2]
theorem Jo (a b : ByteArray) (w : World) : Calls Tryz.prog 91 #[.string a, .string b] w fun e w' => e = .returned (.int .i64 (xQ a b)) ∧ Below w.heap.size w w' :=
 (xg.calls a b _ w (YB a b)).mono fun e w' ⟨h1, n, h2⟩ => ⟨h1, by rw [h2]; exact ⟨rfl, rfl, rfl, Nat.le_refl _, fun _ _ => rfl⟩⟩
def X5 (l : List yh) (n : ByteArray) (i j : Nat) : Nat :=
 if h : i < j then
  if xQ (qZ l (((i + j) / 2 : Nat) : Int)).f0 n < 0 then X5 l n ((i + j) / 2 + 1) j else X5 l n i ((i + j) / 2)
 else i
termination_by j - i
def ZU (l : List yh) (n : ByteArray) : Int × Bool :=
 let i := X5 l n 0 l.length
 ((i : Int), decide (i < l.length) && decide (xQ (qZ l (i : Int)).f0 n = 0))
set_option maxRecDepth 100000 in
theorem Jp (a : ByteArray) (v : Int) (n : ByteArray) (w : World) :
  Calls Tryz.prog 119 #[.agg #[.string a, .int .i64 v], .string n] w fun e w' => e = .returned (.int .i64 (xQ a n)) ∧ Below w.heap.size w w' := by
 have hb0 : Below w.heap.size w (w.alloc (.cells #[.string a, .int .i64 v] 105)) := (Below.refl _ w).alloc (Nat.le_refl _) _
 have hc := Jo a n (w.alloc (.cells #[.string a, .int .i64 v] 105))
 generalize xQ a n = r at hc ⊢
 go_enter Tryz.func119, Tryz.ntmps119
 go_wp2_with (go_at_call 91; refine hc.mono ?_; rintro e w2 ⟨rfl, hb2⟩)
 go_ret
 exact ⟨rfl, hb0.trans (hb2.mono (by simp))⟩
set_option maxRecDepth 100000 in
set_option maxHeartbeats 1000000 in
theorem eG (A0 : Option Addr) (c0 : Nat) (l : List yh) (n : ByteArray) (w : World) (hr : Kd.C qH w A0 l.length l) (hl : l.length ≤ 1000000000) :
  Calls Tryz.prog 118 #[.slice A0 l.length c0, .string n, .func (.func 119) #[] #[]] w fun e w' => e = .returned (.tuple #[.int .i64 (ZU l n).1, .bool (ZU l n).2]) ∧ Below w.heap.size w w' := by
 have hfv : ZU l n = ((X5 l n 0 l.length : Int), decide (X5 l n 0 l.length < l.length) && decide (xQ (qZ l (X5 l n 0 l.length : Int)).f0 n = 0)) := rfl
 generalize ZU l n = V at hfv ⊢
 have HFV := Lib.hid hfv
 clear hfv
 go_enter Tryz.func118, Tryz.ntmps118
 go_wp2
 go_loopw [9, 10] (fun x y wr => ∃ i j : Nat, x = .int .i64 i ∧ y = .int .i64 j ∧ i ≤ j ∧ j ≤ l.length ∧ Hid (X5 l n i j = X5 l n 0 l.length) ∧ Below w.heap.size w wr) (fun x y _ => ((intOf y) - (intOf x)).toNat)
 case atStart => exact ⟨0, l.length, rfl, rfl, Nat.zero_le _, Nat.le_refl _, Lib.hid rfl, Below.refl _ _⟩
 case round =>
  obtain ⟨i, j, rfl, rfl, hij, hj, HB, hb⟩ := hrel
  by_cases hlt : i < j
  ·have hm : (i + j) / 2 < l.length := by omega
   have hst := HB.out
   rw [X5, dif_pos hlt] at hst
   have hC := Kd.zh hr hb
   obtain ⟨ad, e, h0, h1⟩ := VZ hC (((i + j) / 2 : Nat) : Int) (by omega) (by omega)
   cases e
   rw [Int.toNat_natCast] at h0 h1
   generalize qZ l (((i + j) / 2 : Nat) : Int) = g at h0 h1 hst
   have hcm := Jp g.f0 g.f1 n wr
   generalize xQ g.f0 n = r at hcm hst
   have HS := Lib.hid hst
   have e1 : IntKind.i64.wrap ((i : Int) + (j : Int)) = (i : Int) + (j : Int) := IntWalk.i64_in _ (by omega)
   clear hst HB hC hr
   by_cases hr0 : r < 0
   ·have d1 : decide (r < 0) = true := decide_eq_true hr0
    rw [if_pos hr0] at HS
    clear hr0
    go_wp2_with fail
    refine hcm.mono ?_; rintro e w2 ⟨rfl, hb2⟩
    go_wp2
    go_roundw
    case rel => exact ⟨(i + j) / 2 + 1, j, by go_num, rfl, by omega, hj, HS, hb.trans (hb2.mono hb.size)⟩
    case measure => simp [intOf]; omega
   ·have d1 : decide (r < 0) = false := decide_eq_false hr0
    rw [if_neg hr0] at HS
    clear hr0
    go_wp2_with fail
    refine hcm.mono ?_; rintro e w2 ⟨rfl, hb2⟩
    go_wp2
    go_roundw
    case rel => exact ⟨i, (i + j) / 2, rfl, by go_num, by omega, by omega, HS, hb.trans (hb2.mono hb.size)⟩
    case measure => simp [intOf]; omega
  ·obtain rfl : i = j := by omega
   have hst := HB.out
   rw [X5, dif_neg (by omega)] at hst
   by_cases hi : i < l.length
   ·have hC := Kd.zh hr hb
    obtain ⟨ad, e, h0, h1⟩ := VZ hC (i : Int) (by omega) (by omega)
    cases e
    rw [Int.toNat_natCast] at h0 h1
    have hval : V = ((i : Int), decide (i < l.length) && decide (xQ (qZ l (i : Int)).f0 n = 0)) := by rw [HFV.out, ← hst]
    rw [decide_eq_true hi, Bool.true_and] at hval
    generalize qZ l (i : Int) = g at h0 h1 hval
    have hcm := Jp g.f0 g.f1 n wr
    have hd : (xQ g.f0 n == 0) = decide (xQ g.f0 n = 0) := rfl
    generalize xQ g.f0 n = r at hcm hd hval
    have HV := Lib.hid hval
    have q2 : (i : Int) < (l.length : Int) := by omega
    clear hst HB hC hr hval
    cases hz : decide (r = 0) with
    | true =>
     rw [hz] at hd HV
     clear hz
     go_wp2_with fail
     refine hcm.mono ?_; rintro e w2 ⟨rfl, hb2⟩
     go_wp2
     go_ret2
     exact ⟨by rw [HV.out]; rfl, hb.trans (hb2.mono hb.size)⟩
    | false =>
     rw [hz] at hd HV
     clear hz
     go_wp2_with fail
     refine hcm.mono ?_; rintro e w2 ⟨rfl, hb2⟩
     go_wp2
     go_ret2
     exact ⟨by rw [HV.out]; rfl, hb.trans (hb2.mono hb.size)⟩
   ·have q1 : decide (i < l.length) = false := decide_eq_false hi
    have hval : V = ((i : Int), false) := by rw [HFV.out, ← hst, q1, Bool.false_and]
    have HV := Lib.hid hval
    have q2 : ¬ (i : Int) < (l.length : Int) := by omega
    have q3 : decide ((i : Int) < (l.length : Int)) = false := decide_eq_false q2
    clear hst HB hr hval q1
    go_wp2
    go_ret2
    exact ⟨by rw [HV.out]; rfl, hb⟩
def uK.f (_ : ByteArray) (_ : Bool) (_ : Int) (zM : List yh) (_ : List qy) (_ : List qc) (a1 : ByteArray) : Option (Int × Bool) := if zM.length ≤ 1000000000 then some (ZU zM a1) else none
set_option maxRecDepth 100000 in
theorem uK.calls (yH : ByteArray) (yM : Bool) (yI : Int) (qp : Option Addr) (qA : Nat) (zM : List yh) (qC : Option Addr) (qD : Nat) (yw : List qy) (qE : Option Addr) (qF : Nat) (yj : List qc) (a1 : ByteArray) (r1 : Int) (r2 : Bool) (w : World) (wO : Kd.C qH w qp zM.length zM) (_ : zM.length ≤ qA) (_ : Kd.C vw w qC yw.length yw) (_ : yw.length ≤ qD) (_ : Kd.C vC w qE yj.length yj) (_ : yj.length ≤ qF) (_ : GW w) (h : uK.f yH yM yI zM yw yj a1 = some (r1, r2)) :
  Calls Tryz.prog 64 #[.agg #[.string yH, .bool yM, .int .i64 yI, .slice qp zM.length qA, .slice qC yw.length qD, .slice qE yj.length qF], .string a1] w fun e w' => e = .returned (.tuple #[.int .i64 r1, .bool r2]) ∧ Below w.heap.size w w' := by
 unfold uK.f at h
 split at h
 ·rename_i hl
  have he := Option.some.inj h
  have hb0 : Below w.heap.size w (w.alloc (.cells #[.string yH, .bool yM, .int .i64 yI, .slice qp zM.length qA, .slice qC yw.length qD, .slice qE yj.length qF] 60)) := (Below.refl _ w).alloc (Nat.le_refl _) _
  have hs := eG qp qA zM a1 _ (Kd.zh wO hb0) hl
  rw [he] at hs
  clear he h hl wO
  go_enter Tryz.func64, Tryz.ntmps64
  go_wp2_with fail
  refine hs.mono ?_; rintro e w2 ⟨rfl, hb2⟩
  go_wp2
  go_ret2
  exact ⟨rfl, hb0.trans (hb2.mono (by simp))⟩
 ·cases h
end Go.Proofs.YtggifbbiiickmaaGreatDoor
namespace Go.Proofs.YtggifbbiiickmaaGreatDoor.PX
open Go.RowKit Go.Proofs.zk.ze Go.Proofs.zk.yc Go.Proofs.zk.yt
attribute [local go_sem] wo wu Zk Zy jd je wB wC   -- for this text's walks alone
set_option linter.unusedVariables false
set_option linter.unusedSimpArgs false
def vF.l0 : Nat → Int → List Int → Int → Int → Option (Int)
  | 0, _, _, _, _ => none
  | k + 1, x3, x6, x7, x8 => if x8 < x7 then (if 0 ≤ x8 then (if x8 < (x6.length : Int) then (if (rd x6 x8) = x3 then (vF.l0 k x3 x6 x7 (wrap64 (x8 + 1))) else (some (rd x6 x8))) else (none)) else (none)) else (some x3)
def vF.f (k : Nat) (l0 : List Int) : Option (Int) := vF.l0 k 0 l0 (l0.length : Int) 0
set_option maxHeartbeats 8000000 in
set_option maxRecDepth 100000 in
theorem vF.calls (k : Nat) (A0 : Option Addr) (c0 : Nat) (l0 : List Int) (r : Int) (w : World) (hr0 : Kd.C (Kd.int .i64) w A0 l0.length l0) (hc0 : l0.length ≤ c0) (h : vF.f k l0 = some r) :
    Calls Tryz.prog 97 #[.slice A0 l0.length c0] w fun e w' => e = .returned (.int .i64 r) ∧ qY w w' := by
  have Qv := zx.mk hr0
  have HC0 := zx.mk hc0
  clear hr0 hc0
  have H : (vF.l0 k 0 l0 (l0.length : Int) 0) = some r := h
  clear h
  have H' := zx.mk H
  clear H
  go_enter Tryz.func97, Tryz.ntmps97
  go_wp2
  go_loopg [8] k (fun kq v8 w' => ∃ (yC : Int), v8 = .int .i64 yC ∧ zx (vF.l0 kq 0 l0 (l0.length : Int) yC = some r) ∧ zx (kq ≤ k) ∧ qY w w')
  case atStart => exact ⟨(0), (by first | rfl | (simp; done) | (simp [*]; done)), H', ⟨Nat.le_refl _⟩, by repeat (first | exact qY.refl _ | apply qY.step)⟩
  case round =>
    clear H'
    obtain ⟨yC, rfl, HA, jg, ⟨m1, rfl⟩⟩ := hrel
    cases gk with
    | zero => exact absurd HA.out (by simp [vF.l0])
    | succ k1 =>
      have H := HA.out
      clear HA
      simp only [vF.l0] at H
      by_cases c2 : yC < (l0.length : Int)
      · rw [if_pos c2] at H
        have dN : decide (yC < (l0.length : Int)) = true := decide_eq_true c2
        clear c2
        by_cases c3 : 0 ≤ yC
        · rw [if_pos c3] at H
          have Qq : decide (0 ≤ yC) = true := decide_eq_true c3
          clear c3
          by_cases c4 : yC < (l0.length : Int)
          · rw [if_pos c4] at H
            have VN : decide (yC < (l0.length : Int)) = true := decide_eq_true c4
            clear c4
            by_cases c5 : (rd l0 yC) = 0
            · rw [if_pos c5] at H
              have Ub : ((rd l0 yC) == 0) = true := beq_iff_eq.mpr c5
              have JG : ((rd l0 yC) != 0) = false := bne_eq_false_iff_eq.mpr c5
              clear c5
              have H' := zx.mk H
              clear H
              have JH : 0 ≤ (yC : Int) := of_decide_eq_true (by first | (with_reducible assumption) | assumption)
              have JI : yC < (l0.length : Int) := of_decide_eq_true (by first | (with_reducible assumption) | assumption)
              obtain ⟨zkj, zzF, zxo⟩ := Kd.lY Qv.out yC JH JI
              cases zzF
              replace JH := eq_true JH
              replace JI := eq_true JI
              go_wp2
              go_roundg k1
              case measure => have := jg.out; omega
              case rel => exact ⟨(wrap64 (yC + 1)), (by first | rfl | (simp; done) | (simp [*]; done)), H', ⟨by have := jg.out; omega⟩, by repeat (first | exact qY.refl _ | apply qY.step)⟩
            · rw [if_neg c5] at H
              have Ub : ((rd l0 yC) == 0) = false := beq_eq_false_iff_ne.mpr c5
              have JG : ((rd l0 yC) != 0) = true := bne_iff_ne.mpr c5
              obtain rfl := Option.some.inj H
              have JH : 0 ≤ (yC : Int) := of_decide_eq_true (by first | (with_reducible assumption) | assumption)
              have JI : yC < (l0.length : Int) := of_decide_eq_true (by first | (with_reducible assumption) | assumption)
              obtain ⟨zkj, zzF, zxo⟩ := Kd.lY Qv.out yC JH JI
              cases zzF
              replace JH := eq_true JH
              replace JI := eq_true JI
              go_wp2
              go_ret
              exact ⟨by first | rfl | (simp; done) | (simp [*]; done), by repeat (first | exact qY.refl _ | apply qY.step)⟩
          · rw [if_neg c4] at H
            exact absurd H (by simp)
        · rw [if_neg c3] at H
          exact absurd H (by simp)
      · rw [if_neg c2] at H
        have dN : decide (yC < (l0.length : Int)) = false := decide_eq_false c2
        clear c2
        obtain rfl := Option.some.inj H
        go_wp2
        go_ret
        exact ⟨by first | rfl | (simp; done) | (simp [*]; done), by repeat (first | exact qY.refl _ | apply qY.step)⟩
end Go.Proofs.YtggifbbiiickmaaGreatDoor.PX
namespace Go.Proofs.YtggifbbiiickmaaGreatDoor
open Go.RowKit Go.Shelf Go.Proofs.zk.ze Go.Proofs.zk.yt Go.Proofs.YtggifbbiiickmaaGreatDoor.PX
def ZH (c : Nat → Nat → Int) (n : Nat) : Bool := (List.range (n - 1)).all fun i => decide (c i (i + 1) < 0)
theorem Uc {c : Nat → Nat → Int} {n : Nat} (h : ∀ i, i + 1 < n → c i (i + 1) < 0) : ZH c n = true := by
 unfold ZH
 rw [List.all_eq_true]
 intro i hi
 have := List.mem_range.1 hi
 simpa using h i (by omega)
theorem VO {c : Nat → Nat → Int} {n i : Nat} (hi : i + 1 < n) (h : ¬ c i (i + 1) < 0) : ZH c n = false := by
 unfold ZH
 rw [List.all_eq_false]
 exact ⟨i, List.mem_range.2 (by omega), by simpa using h⟩
def Xh (x y : yh) : Int := xQ x.f0 y.f0
def dO (a b : Int) : Int := if a = 0 then b else a
def cmpL (x y : qy) : Int := dO (xQ x.f0 y.f0) (xQ x.f1 y.f1)
def Qg (x y : qc) : Int := dO (xQ x.f0 y.f0) (xQ x.f1 y.f1)
set_option maxRecDepth 100000 in
theorem zzG (x y : yh) (w : World) :
  Calls Tryz.prog 90 #[.agg #[.string x.f0, .int .i64 x.f1], .agg #[.string y.f0, .int .i64 y.f1]] w fun e w' => e = .returned (.int .i64 (Xh x y)) ∧ Below w.heap.size w w' := by
 unfold Xh
 have hb0 : Below w.heap.size w ((w.alloc (.cells #[.string x.f0, .int .i64 x.f1] 105)).alloc (.cells #[.string y.f0, .int .i64 y.f1] 105)) := ((Below.refl _ w).alloc (Nat.le_refl _) _).alloc (by simp) _
 have hc := Jo x.f0 y.f0 ((w.alloc (.cells #[.string x.f0, .int .i64 x.f1] 105)).alloc (.cells #[.string y.f0, .int .i64 y.f1] 105))
 generalize xQ x.f0 y.f0 = r at hc ⊢
 go_enter Tryz.func90, Tryz.ntmps90
 go_wp2_with (go_at_call 91; refine hc.mono ?_; rintro e w2 ⟨rfl, hb2⟩)
 go_ret
 exact ⟨rfl, hb0.trans (hb2.mono (by simp; omega))⟩
def zkv (l : List yh) (w : World) (x : Value) (wr : World) : Prop :=
 ∃ k : Nat, x = .int .i64 k ∧ 1 ≤ k ∧ k ≤ l.length + 1 ∧ (∀ i, i + 1 < k → i + 1 < l.length → Xh (qZ l (i : Int)) (qZ l ((i + 1 : Nat) : Int)) < 0) ∧ Below w.heap.size w wr
set_option maxRecDepth 100000 in
set_option maxHeartbeats 1000000 in
theorem zzH (A0 : Option Addr) (c0 : Nat) (l : List yh) (w : World) (hr : Kd.C qH w A0 l.length l) (hl : l.length ≤ 1000000000) :
  Calls Tryz.prog 89 #[.slice A0 l.length c0, .func (.func 90) #[] #[]] w fun e w' => e = .returned (.bool (ZH (fun i j => Xh (qZ l (i : Int)) (qZ l (j : Int))) l.length)) ∧ Below w.heap.size w w' := by
 generalize hV : ZH (fun i j => Xh (qZ l (i : Int)) (qZ l (j : Int))) l.length = V
 have HV := Lib.hid hV
 clear hV
 go_enter Tryz.func89, Tryz.ntmps89
 go_wp2
 go_loopw [5] (fun x wr => zkv l w x wr) (fun x _ => l.length + 1 - (intOf x).toNat)
 case atStart => exact ⟨1, rfl, by omega, by omega, (fun i h => by omega), Below.refl _ _⟩
 case round =>
  obtain ⟨k, rfl, hk1, hk, hA, hb⟩ := hrel
  have HA := Lib.hid hA
  clear hA
  by_cases hlt : k < l.length
  ·obtain ⟨m, rfl⟩ : ∃ m, k = m + 1 := ⟨k - 1, by omega⟩
   have hC := Kd.zh hr hb
   obtain ⟨ad, e, HH0⟩ := VZ hC (m : Int) (by omega) (by omega)
   obtain ⟨ad2, e2, oz⟩ := VZ hC ((m + 1 : Nat) : Int) (by omega) (by omega)
   cases e
   cases e2
   obtain ⟨h0, h1⟩ := HH0
   obtain ⟨h2, h3⟩ := oz
   rw [Int.toNat_natCast] at h0 h1 h2 h3
   have hstep : ∀ i, i + 1 = m + 1 → Xh (qZ l (i : Int)) (qZ l ((i + 1 : Nat) : Int)) = Xh (qZ l (m : Int)) (qZ l ((m + 1 : Nat) : Int)) := fun i hi => by obtain rfl : i = m := (by omega); rfl
   have hbad : ¬ Xh (qZ l (m : Int)) (qZ l ((m + 1 : Nat) : Int)) < 0 → V = false := fun h => by rw [← HV.out]; exact VO (i := m) (by omega) h
   have hcm := fun W => zzG (qZ l (m : Int)) (qZ l ((m + 1 : Nat) : Int)) W
   generalize qZ l (m : Int) = x at h0 h1 hstep hcm hbad
   generalize qZ l ((m + 1 : Nat) : Int) = y at h2 h3 hstep hcm hbad
   generalize Xh x y = r at hcm hstep hbad
   have HS := Lib.hid hstep
   have HB := Lib.hid hbad
   have e1 : IntKind.i64.wrap (((m : Int) + 1) - 1) = (m : Int) := by rw [Int.add_sub_cancel]; exact IntWalk.i64_in _ (by omega)
   have q1 : (m : Int) < (l.length : Int) := by omega
   have q2 : (m : Int) + 1 < (l.length : Int) := by omega
   have q3 : ((m : Int) + 1).toNat = m + 1 := by omega
   have q4 : (0 : Int) ≤ (m : Int) + 1 := by omega
   clear hC hr hstep hbad
   have e0 : IntKind.i64.wrap (m : Int) = (m : Int) := IntWalk.i64_in _ (by omega)
   have q5 : (0 : Int) ≤ (m : Int) := by omega
   by_cases hr0 : r < 0
   ·have d1 : decide (0 ≤ r) = false := by simp; omega
    have HR := Lib.hid hr0
    clear hr0
    go_wp2_with fail
    go_region_held3 (fun W => W.cell? (ad.add (m * 2)) = some (.string x.f0) ∧ W.cell? ⟨(ad.add (m * 2)).block, (ad.add (m * 2)).off + 1, none⟩ = some (.int .i64 x.f1) ∧ W.cell? (ad.add ((m + 1) * 2)) = some (.string y.f0) ∧ W.cell? ⟨(ad.add ((m + 1) * 2)).block, (ad.add ((m + 1) * 2)).off + 1, none⟩ = some (.int .i64 y.f1)) (first | go_keep | exact ⟨(hb2.cell (World.block_lt_of_cell? wr _ h0)).trans h0, (hb2.cell (World.block_lt_of_cell? wr _ h1)).trans h1, (hb2.cell (World.block_lt_of_cell? wr _ h2)).trans h2, (hb2.cell (World.block_lt_of_cell? wr _ h3)).trans h3⟩) ((go_at_call 90; refine (hcm _).mono ?_; rintro e w2 ⟨rfl, hb2⟩))
    clear e0 e1
    have hb3 : Below w.heap.size w w2 := (hb.drew).trans (hb2.mono hb.size)
    clear hb2
    go_wp2
    refine ⟨⟨m + 1 + 1, by go_num, by omega, by omega, (fun i h1 h2 => ?_), hb3⟩, by simp [intOf]; omega⟩
    by_cases e : i + 1 = m + 1
    ·rw [HS.out i e]; exact HR.out
    ·exact HA.out i (by omega) h2
   ·have d1 : decide (0 ≤ r) = true := by simp; omega
    have hv : V = false := HB.out hr0
    have Ud := Lib.hid hv
    clear hr0 hv
    go_wp2_with fail
    go_region_held3 (fun W => W.cell? (ad.add (m * 2)) = some (.string x.f0) ∧ W.cell? ⟨(ad.add (m * 2)).block, (ad.add (m * 2)).off + 1, none⟩ = some (.int .i64 x.f1) ∧ W.cell? (ad.add ((m + 1) * 2)) = some (.string y.f0) ∧ W.cell? ⟨(ad.add ((m + 1) * 2)).block, (ad.add ((m + 1) * 2)).off + 1, none⟩ = some (.int .i64 y.f1)) (first | go_keep | exact ⟨(hb2.cell (World.block_lt_of_cell? wr _ h0)).trans h0, (hb2.cell (World.block_lt_of_cell? wr _ h1)).trans h1, (hb2.cell (World.block_lt_of_cell? wr _ h2)).trans h2, (hb2.cell (World.block_lt_of_cell? wr _ h3)).trans h3⟩) ((go_at_call 90; refine (hcm _).mono ?_; rintro e w2 ⟨rfl, hb2⟩))
    clear e0 e1
    have hb3 : Below w.heap.size w w2 := (hb.drew).trans (hb2.mono hb.size)
    clear hb2
    go_wp2
    go_ret
    exact ⟨by rw [Ud.out]; rfl, hb3⟩
  ·have hv : V = true := by rw [← HV.out]; exact Uc (fun i hi => HA.out i (by omega) hi)
   have Ud := Lib.hid hv
   have q1 : decide ((k : Int) < (l.length : Int)) = false := decide_eq_false (by omega)
   clear hv hr
   go_wp2
   go_ret
   exact ⟨by rw [Ud.out]; rfl, hb⟩
theorem eH {w w' : World} (h : qY w w') : Below w.heap.size w w' := by
 obtain ⟨n, rfl⟩ := h
 exact ⟨rfl, rfl, rfl, Nat.le_refl _, fun _ _ => rfl⟩
theorem zjD (a b : Int) : Ev (fun k => vF.f k [a, b]) (dO a b) := by
 unfold vF.f dO
 have e1 : wrap64 (0 + 1) = 1 := by rw [YA (by omega) (by omega)]; rfl
 have e2 : wrap64 (1 + 1) = 2 := by rw [YA (by omega) (by omega)]; rfl
 have hl : (([a, b] : List Int).length : Int) = 2 := rfl
 refine Ev.step (fun k => by rw [vF.l0]) ?_
 rw [hl]
 refine qB (by omega) (qB (by omega) (qB (by omega) ?_))
 rw [show rd [a, b] 0 = a from rfl, e1]
 by_cases h1 : a = 0
 ·refine qB h1 ?_
  rw [if_pos h1]
  refine Ev.step (fun k => by rw [vF.l0]) ?_
  rw [hl]
  refine qB (by omega) (qB (by omega) (qB (by omega) ?_))
  rw [show rd [a, b] 1 = b from rfl, e2]
  by_cases h2 : b = 0
  ·refine qB h2 ?_
   rw [h2]
   refine Ev.step (fun k => by rw [vF.l0]) ?_
   exact pq (by omega) (Ev.now _)
  ·exact pq h2 (Ev.now _)
 ·refine pq h1 ?_
  rw [if_neg h1]; exact Ev.now _
theorem zzI (B : Nat) (a b : Int) (w : World) (h0 : w.cell? ⟨B, 0, none⟩ = some (.int .i64 a)) (h1 : w.cell? ⟨B, 1, none⟩ = some (.int .i64 b)) : Kd.C (Kd.int .i64) w (some ⟨B, 0, none⟩) 2 [a, b] := by
 have hs : (Kd.int .i64).sz = 1 := rfl
 refine ⟨rfl, by decide, fun _ => ⟨_, rfl, fun j p hj => ?_⟩⟩
 rcases j with _ | _ | j
 ·cases hj
  exact ⟨[.int .i64 a], rfl, rfl, fun i u hi => by rcases i with _ | i; cases hi; simpa [Addr.add_lit] using h0; simp at hi⟩
 ·cases hj
  exact ⟨[.int .i64 b], rfl, rfl, fun i u hi => by rcases i with _ | i; cases hi; simpa [Addr.add_lit, hs] using h1; simp at hi⟩
 ·simp at hj
theorem oq (a b : Int) (B : Nat) (w : World) (h0 : w.cell? ⟨B, 0, none⟩ = some (.int .i64 a)) (h1 : w.cell? ⟨B, 1, none⟩ = some (.int .i64 b)) :
  Calls Tryz.prog 97 #[.slice (some ⟨B, 0, none⟩) 2 2] w fun e w' => e = .returned (.int .i64 (dO a b)) ∧ Below w.heap.size w w' := by
 obtain ⟨k, hk⟩ := (zjD a b).rounds
 exact (vF.calls k (some ⟨B, 0, none⟩) 2 [a, b] _ w (zzI B a b w h0 h1) (Nat.le_refl _) hk).mono fun e w' h => ⟨h.1, eH h.2⟩
theorem zwZ (W : World) (a b : Value) (t : TypeId) : (W.alloc (.cells #[a, b] t)).cell? ⟨W.heap.size, 0, none⟩ = some a := by simp
theorem zjE (W : World) (a b : Value) (t : TypeId) : (W.alloc (.cells #[a, b] t)).cell? ⟨W.heap.size, 1, none⟩ = some b := by simp
theorem zjF (W : World) (n : Nat) (a b : Value) (t : TypeId) : ((W.drewN n).alloc (.cells #[a, b] t)).cell? ⟨W.heap.size, 0, none⟩ = some a := zwZ (W.drewN n) a b t
theorem zjG (W : World) (n : Nat) (a b : Value) (t : TypeId) : ((W.drewN n).alloc (.cells #[a, b] t)).cell? ⟨W.heap.size, 1, none⟩ = some b := zjE (W.drewN n) a b t
theorem YC {W w2 : World} {n : Nat} {o : Obj} {B i : Nat} {v : Value} (h : Below ((W.drewN n).alloc o).heap.size ((W.drewN n).alloc o) w2) (hc : W.cell? ⟨B, i, none⟩ = some v) : w2.cell? ⟨B, i, none⟩ = some v := by
 have hb : Below W.heap.size W ((W.drewN n).alloc o) := Below.trans (⟨rfl, rfl, rfl, Nat.le_refl _, fun _ _ => rfl⟩ : Below W.heap.size W (W.drewN n)) ((Below.refl _ (W.drewN n)).alloc (Nat.le_refl _) o)
 have hl := World.block_lt_of_cell? W _ hc
 exact (h.cell (p := ⟨B, i, none⟩) (Nat.lt_of_lt_of_le hl hb.size)).trans ((hb.cell (p := ⟨B, i, none⟩) hl).trans hc)
theorem bC {W w2 : World} {n : Nat} {o : Obj} (h : Below ((W.drewN n).alloc o).heap.size ((W.drewN n).alloc o) w2) : Below W.heap.size W w2 := by
 have hb : Below W.heap.size W ((W.drewN n).alloc o) := Below.trans (⟨rfl, rfl, rfl, Nat.le_refl _, fun _ _ => rfl⟩ : Below W.heap.size W (W.drewN n)) ((Below.refl _ (W.drewN n)).alloc (Nat.le_refl _) o)
 exact hb.trans (h.mono hb.size)
set_option maxRecDepth 100000 in
set_option maxHeartbeats 1000000 in
theorem zzL (x y : qy) (w : World) :
  Calls Tryz.prog 96 #[.agg #[.string x.f0, .string x.f1, .string x.f2], .agg #[.string y.f0, .string y.f1, .string y.f2]] w fun e w' => e = .returned (.int .i64 (cmpL x y)) ∧ Below w.heap.size w w' := by
 unfold cmpL
 have hb0 : Below w.heap.size w ((w.alloc (.cells #[.string x.f0, .string x.f1, .string x.f2] 108)).alloc (.cells #[.string y.f0, .string y.f1, .string y.f2] 108)) := ((Below.refl _ w).alloc (Nat.le_refl _) _).alloc (by simp) _
 have hz : ((w.alloc (.cells #[.string x.f0, .string x.f1, .string x.f2] 108)).alloc (.cells #[.string y.f0, .string y.f1, .string y.f2] 108)).heap.size = w.heap.size + 2 := by simp
 have c0 : ((w.alloc (.cells #[.string x.f0, .string x.f1, .string x.f2] 108)).alloc (.cells #[.string y.f0, .string y.f1, .string y.f2] 108)).cell? ⟨w.heap.size, 0, none⟩ = some (.string x.f0) := by simp
 have c1 : ((w.alloc (.cells #[.string x.f0, .string x.f1, .string x.f2] 108)).alloc (.cells #[.string y.f0, .string y.f1, .string y.f2] 108)).cell? ⟨w.heap.size, 1, none⟩ = some (.string x.f1) := by simp
 have c2 : ((w.alloc (.cells #[.string x.f0, .string x.f1, .string x.f2] 108)).alloc (.cells #[.string y.f0, .string y.f1, .string y.f2] 108)).cell? ⟨w.heap.size + 1, 0, none⟩ = some (.string y.f0) := by simp
 have c3 : ((w.alloc (.cells #[.string x.f0, .string x.f1, .string x.f2] 108)).alloc (.cells #[.string y.f0, .string y.f1, .string y.f2] 108)).cell? ⟨w.heap.size + 1, 1, none⟩ = some (.string y.f1) := by simp
 have hc1 := fun W => xg.calls x.f0 y.f0 _ W (YB x.f0 y.f0)
 have hc2 := fun W => xg.calls x.f1 y.f1 _ W (YB x.f1 y.f1)
 generalize xQ x.f0 y.f0 = r1 at hc1 ⊢
 generalize xQ x.f1 y.f1 = r2 at hc2 ⊢
 have hor := fun B W h0 h1 => oq r1 r2 B W h0 h1
 generalize dO r1 r2 = R at hor ⊢
 go_enter Tryz.func96, Tryz.ntmps96
 go_wp2_with fail
 generalize ((w.alloc (.cells #[.string x.f0, .string x.f1, .string x.f2] 108)).alloc (.cells #[.string y.f0, .string y.f1, .string y.f2] 108)) = W0 at hb0 hz c0 c1 c2 c3 ⊢
 have hz1 := Nat.le_of_eq hz
 have hz2 := Nat.le_of_eq hz.symm
 clear hz
 go_region_held3 (fun W => W.cell? ⟨w.heap.size, 0, none⟩ = some (.string x.f0) ∧ W.cell? ⟨w.heap.size, 1, none⟩ = some (.string x.f1) ∧ W.cell? ⟨w.heap.size + 1, 0, none⟩ = some (.string y.f0) ∧ W.cell? ⟨w.heap.size + 1, 1, none⟩ = some (.string y.f1))
  (first | go_keep | exact ⟨YC hb2 c0, YC hb2 c1, YC hb2 c2, YC hb2 c3⟩)
  (first | (go_at_call 91; ((with_reducible refine (hc1 _).mono ?_); rintro e w2 ⟨rfl, nd, rfl⟩)) | (go_at_call 91; ((with_reducible refine (hc2 _).mono ?_); rintro e w2 ⟨rfl, nd, rfl⟩)) | (go_at_call 97; ((refine (hor _ _ (zjF _ _ _ _ _) (zjG _ _ _ _ _)).mono ?_); rintro e w2 ⟨rfl, hb2⟩)))
 all_goals
  have hb3 := hb0.trans ((bC hb2).mono hb0.size)
  clear hb2 c0 c1 c2 c3
  go_wp2
  go_ret
  exact ⟨rfl, hb3⟩
set_option maxRecDepth 100000 in
set_option maxHeartbeats 1000000 in
theorem zzM (x y : qc) (w : World) :
  Calls Tryz.prog 101 #[.agg #[.string x.f0, .string x.f1, .int .i64 x.f2], .agg #[.string y.f0, .string y.f1, .int .i64 y.f2]] w fun e w' => e = .returned (.int .i64 (Qg x y)) ∧ Below w.heap.size w w' := by
 unfold Qg
 have hb0 : Below w.heap.size w ((w.alloc (.cells #[.string x.f0, .string x.f1, .int .i64 x.f2] 111)).alloc (.cells #[.string y.f0, .string y.f1, .int .i64 y.f2] 111)) := ((Below.refl _ w).alloc (Nat.le_refl _) _).alloc (by simp) _
 have hz : ((w.alloc (.cells #[.string x.f0, .string x.f1, .int .i64 x.f2] 111)).alloc (.cells #[.string y.f0, .string y.f1, .int .i64 y.f2] 111)).heap.size = w.heap.size + 2 := by simp
 have c0 : ((w.alloc (.cells #[.string x.f0, .string x.f1, .int .i64 x.f2] 111)).alloc (.cells #[.string y.f0, .string y.f1, .int .i64 y.f2] 111)).cell? ⟨w.heap.size, 0, none⟩ = some (.string x.f0) := by simp
 have c1 : ((w.alloc (.cells #[.string x.f0, .string x.f1, .int .i64 x.f2] 111)).alloc (.cells #[.string y.f0, .string y.f1, .int .i64 y.f2] 111)).cell? ⟨w.heap.size, 1, none⟩ = some (.string x.f1) := by simp
 have c2 : ((w.alloc (.cells #[.string x.f0, .string x.f1, .int .i64 x.f2] 111)).alloc (.cells #[.string y.f0, .string y.f1, .int .i64 y.f2] 111)).cell? ⟨w.heap.size + 1, 0, none⟩ = some (.string y.f0) := by simp
 have c3 : ((w.alloc (.cells #[.string x.f0, .string x.f1, .int .i64 x.f2] 111)).alloc (.cells #[.string y.f0, .string y.f1, .int .i64 y.f2] 111)).cell? ⟨w.heap.size + 1, 1, none⟩ = some (.string y.f1) := by simp
 have hc1 := fun W => xg.calls x.f0 y.f0 _ W (YB x.f0 y.f0)
 have hc2 := fun W => xg.calls x.f1 y.f1 _ W (YB x.f1 y.f1)
 generalize xQ x.f0 y.f0 = r1 at hc1 ⊢
 generalize xQ x.f1 y.f1 = r2 at hc2 ⊢
 have hor := fun B W h0 h1 => oq r1 r2 B W h0 h1
 generalize dO r1 r2 = R at hor ⊢
 go_enter Tryz.func101, Tryz.ntmps101
 go_wp2_with fail
 generalize ((w.alloc (.cells #[.string x.f0, .string x.f1, .int .i64 x.f2] 111)).alloc (.cells #[.string y.f0, .string y.f1, .int .i64 y.f2] 111)) = W0 at hb0 hz c0 c1 c2 c3 ⊢
 have hz1 := Nat.le_of_eq hz
 have hz2 := Nat.le_of_eq hz.symm
 clear hz
 go_region_held3 (fun W => W.cell? ⟨w.heap.size, 0, none⟩ = some (.string x.f0) ∧ W.cell? ⟨w.heap.size, 1, none⟩ = some (.string x.f1) ∧ W.cell? ⟨w.heap.size + 1, 0, none⟩ = some (.string y.f0) ∧ W.cell? ⟨w.heap.size + 1, 1, none⟩ = some (.string y.f1))
  (first | go_keep | exact ⟨YC hb2 c0, YC hb2 c1, YC hb2 c2, YC hb2 c3⟩)
  (first | (go_at_call 91; ((with_reducible refine (hc1 _).mono ?_); rintro e w2 ⟨rfl, nd, rfl⟩)) | (go_at_call 91; ((with_reducible refine (hc2 _).mono ?_); rintro e w2 ⟨rfl, nd, rfl⟩)) | (go_at_call 97; ((refine (hor _ _ (zjF _ _ _ _ _) (zjG _ _ _ _ _)).mono ?_); rintro e w2 ⟨rfl, hb2⟩)))
 all_goals
  have hb3 := hb0.trans ((bC hb2).mono hb0.size)
  clear hb2 c0 c1 c2 c3
  go_wp2
  go_ret
  exact ⟨rfl, hb3⟩
def zkk (l : List qy) (w : World) (x : Value) (wr : World) : Prop :=
 ∃ k : Nat, x = .int .i64 k ∧ 1 ≤ k ∧ k ≤ l.length + 1 ∧ (∀ i, i + 1 < k → i + 1 < l.length → cmpL (xG l (i : Int)) (xG l ((i + 1 : Nat) : Int)) < 0) ∧ Below w.heap.size w wr
set_option maxRecDepth 100000 in
set_option maxHeartbeats 1000000 in
theorem zzN (A0 : Option Addr) (c0 : Nat) (l : List qy) (w : World) (hr : Kd.C vw w A0 l.length l) (hl : l.length ≤ 1000000000) :
  Calls Tryz.prog 95 #[.slice A0 l.length c0, .func (.func 96) #[] #[]] w fun e w' => e = .returned (.bool (ZH (fun i j => cmpL (xG l (i : Int)) (xG l (j : Int))) l.length)) ∧ Below w.heap.size w w' := by
 generalize hV : ZH (fun i j => cmpL (xG l (i : Int)) (xG l (j : Int))) l.length = V
 have HV := Lib.hid hV
 clear hV
 go_enter Tryz.func95, Tryz.ntmps95
 go_wp2
 go_loopw [5] (fun x wr => zkk l w x wr) (fun x _ => l.length + 1 - (intOf x).toNat)
 case atStart => exact ⟨1, rfl, by omega, by omega, (fun i h => by omega), Below.refl _ _⟩
 case round =>
  obtain ⟨k, rfl, hk1, hk, hA, hb⟩ := hrel
  have HA := Lib.hid hA
  clear hA
  by_cases hlt : k < l.length
  ·obtain ⟨m, rfl⟩ : ∃ m, k = m + 1 := ⟨k - 1, by omega⟩
   have hC := Kd.zh hr hb
   obtain ⟨ad, e, HH0⟩ := Wh hC (m : Int) (by omega) (by omega)
   obtain ⟨ad2, e2, oz⟩ := Wh hC ((m + 1 : Nat) : Int) (by omega) (by omega)
   cases e
   cases e2
   obtain ⟨h0, h1, h2⟩ := HH0
   obtain ⟨h3, h4, h5⟩ := oz
   rw [Int.toNat_natCast] at h0 h1 h2 h3 h4 h5
   have hstep : ∀ i, i + 1 = m + 1 → cmpL (xG l (i : Int)) (xG l ((i + 1 : Nat) : Int)) = cmpL (xG l (m : Int)) (xG l ((m + 1 : Nat) : Int)) := fun i hi => by obtain rfl : i = m := (by omega); rfl
   have hbad : ¬ cmpL (xG l (m : Int)) (xG l ((m + 1 : Nat) : Int)) < 0 → V = false := fun h => by rw [← HV.out]; exact VO (i := m) (by omega) h
   have hcm := fun W => zzL (xG l (m : Int)) (xG l ((m + 1 : Nat) : Int)) W
   generalize xG l (m : Int) = x at h0 h1 h2 hstep hcm hbad
   generalize xG l ((m + 1 : Nat) : Int) = y at h3 h4 h5 hstep hcm hbad
   generalize cmpL x y = r at hcm hstep hbad
   have HS := Lib.hid hstep
   have HB := Lib.hid hbad
   have e1 : IntKind.i64.wrap (((m : Int) + 1) - 1) = (m : Int) := by rw [Int.add_sub_cancel]; exact IntWalk.i64_in _ (by omega)
   have q1 : (m : Int) < (l.length : Int) := by omega
   have q2 : (m : Int) + 1 < (l.length : Int) := by omega
   have q3 : ((m : Int) + 1).toNat = m + 1 := by omega
   have q4 : (0 : Int) ≤ (m : Int) + 1 := by omega
   clear hC hr hstep hbad
   have e0 : IntKind.i64.wrap (m : Int) = (m : Int) := IntWalk.i64_in _ (by omega)
   have q5 : (0 : Int) ≤ (m : Int) := by omega
   by_cases hr0 : r < 0
   ·have d1 : decide (0 ≤ r) = false := by simp; omega
    have HR := Lib.hid hr0
    clear hr0
    go_wp2_with fail
    go_region_held3 (fun W => W.cell? (ad.add (m * 3)) = some (.string x.f0) ∧ W.cell? ⟨(ad.add (m * 3)).block, (ad.add (m * 3)).off + 1, none⟩ = some (.string x.f1) ∧ W.cell? ⟨(ad.add (m * 3)).block, (ad.add (m * 3)).off + 2, none⟩ = some (.string x.f2) ∧ W.cell? (ad.add ((m + 1) * 3)) = some (.string y.f0) ∧ W.cell? ⟨(ad.add ((m + 1) * 3)).block, (ad.add ((m + 1) * 3)).off + 1, none⟩ = some (.string y.f1) ∧ W.cell? ⟨(ad.add ((m + 1) * 3)).block, (ad.add ((m + 1) * 3)).off + 2, none⟩ = some (.string y.f2)) (first | go_keep | exact ⟨(hb2.cell (World.block_lt_of_cell? wr _ h0)).trans h0, (hb2.cell (World.block_lt_of_cell? wr _ h1)).trans h1, (hb2.cell (World.block_lt_of_cell? wr _ h2)).trans h2, (hb2.cell (World.block_lt_of_cell? wr _ h3)).trans h3, (hb2.cell (World.block_lt_of_cell? wr _ h4)).trans h4, (hb2.cell (World.block_lt_of_cell? wr _ h5)).trans h5⟩) ((go_at_call 96; refine (hcm _).mono ?_; rintro e w2 ⟨rfl, hb2⟩))
    clear e0 e1
    have hb3 : Below w.heap.size w w2 := (hb.drew).trans (hb2.mono hb.size)
    clear hb2
    go_wp2
    refine ⟨⟨m + 1 + 1, by go_num, by omega, by omega, (fun i h1 h2 => ?_), hb3⟩, by simp [intOf]; omega⟩
    by_cases e : i + 1 = m + 1
    ·rw [HS.out i e]; exact HR.out
    ·exact HA.out i (by omega) h2
   ·have d1 : decide (0 ≤ r) = true := by simp; omega
    have hv : V = false := HB.out hr0
    have Ud := Lib.hid hv
    clear hr0 hv
    go_wp2_with fail
    go_region_held3 (fun W => W.cell? (ad.add (m * 3)) = some (.string x.f0) ∧ W.cell? ⟨(ad.add (m * 3)).block, (ad.add (m * 3)).off + 1, none⟩ = some (.string x.f1) ∧ W.cell? ⟨(ad.add (m * 3)).block, (ad.add (m * 3)).off + 2, none⟩ = some (.string x.f2) ∧ W.cell? (ad.add ((m + 1) * 3)) = some (.string y.f0) ∧ W.cell? ⟨(ad.add ((m + 1) * 3)).block, (ad.add ((m + 1) * 3)).off + 1, none⟩ = some (.string y.f1) ∧ W.cell? ⟨(ad.add ((m + 1) * 3)).block, (ad.add ((m + 1) * 3)).off + 2, none⟩ = some (.string y.f2)) (first | go_keep | exact ⟨(hb2.cell (World.block_lt_of_cell? wr _ h0)).trans h0, (hb2.cell (World.block_lt_of_cell? wr _ h1)).trans h1, (hb2.cell (World.block_lt_of_cell? wr _ h2)).trans h2, (hb2.cell (World.block_lt_of_cell? wr _ h3)).trans h3, (hb2.cell (World.block_lt_of_cell? wr _ h4)).trans h4, (hb2.cell (World.block_lt_of_cell? wr _ h5)).trans h5⟩) ((go_at_call 96; refine (hcm _).mono ?_; rintro e w2 ⟨rfl, hb2⟩))
    clear e0 e1
    have hb3 : Below w.heap.size w w2 := (hb.drew).trans (hb2.mono hb.size)
    clear hb2
    go_wp2
    go_ret
    exact ⟨by rw [Ud.out]; rfl, hb3⟩
  ·have hv : V = true := by rw [← HV.out]; exact Uc (fun i hi => HA.out i (by omega) hi)
   have Ud := Lib.hid hv
   have q1 : decide ((k : Int) < (l.length : Int)) = false := decide_eq_false (by omega)
   clear hv hr
   go_wp2
   go_ret
   exact ⟨by rw [Ud.out]; rfl, hb⟩
def zky (l : List qc) (w : World) (x : Value) (wr : World) : Prop :=
 ∃ k : Nat, x = .int .i64 k ∧ 1 ≤ k ∧ k ≤ l.length + 1 ∧ (∀ i, i + 1 < k → i + 1 < l.length → Qg (xH l (i : Int)) (xH l ((i + 1 : Nat) : Int)) < 0) ∧ Below w.heap.size w wr
set_option maxRecDepth 100000 in
set_option maxHeartbeats 1000000 in
theorem zzO (A0 : Option Addr) (c0 : Nat) (l : List qc) (w : World) (hr : Kd.C vC w A0 l.length l) (hl : l.length ≤ 1000000000) :
  Calls Tryz.prog 100 #[.slice A0 l.length c0, .func (.func 101) #[] #[]] w fun e w' => e = .returned (.bool (ZH (fun i j => Qg (xH l (i : Int)) (xH l (j : Int))) l.length)) ∧ Below w.heap.size w w' := by
 generalize hV : ZH (fun i j => Qg (xH l (i : Int)) (xH l (j : Int))) l.length = V
 have HV := Lib.hid hV
 clear hV
 go_enter Tryz.func100, Tryz.ntmps100
 go_wp2
 go_loopw [5] (fun x wr => zky l w x wr) (fun x _ => l.length + 1 - (intOf x).toNat)
 case atStart => exact ⟨1, rfl, by omega, by omega, (fun i h => by omega), Below.refl _ _⟩
 case round =>
  obtain ⟨k, rfl, hk1, hk, hA, hb⟩ := hrel
  have HA := Lib.hid hA
  clear hA
  by_cases hlt : k < l.length
  ·obtain ⟨m, rfl⟩ : ∃ m, k = m + 1 := ⟨k - 1, by omega⟩
   have hC := Kd.zh hr hb
   obtain ⟨ad, e, HH0⟩ := Wi hC (m : Int) (by omega) (by omega)
   obtain ⟨ad2, e2, oz⟩ := Wi hC ((m + 1 : Nat) : Int) (by omega) (by omega)
   cases e
   cases e2
   obtain ⟨h0, h1, h2⟩ := HH0
   obtain ⟨h3, h4, h5⟩ := oz
   rw [Int.toNat_natCast] at h0 h1 h2 h3 h4 h5
   have hstep : ∀ i, i + 1 = m + 1 → Qg (xH l (i : Int)) (xH l ((i + 1 : Nat) : Int)) = Qg (xH l (m : Int)) (xH l ((m + 1 : Nat) : Int)) := fun i hi => by obtain rfl : i = m := (by omega); rfl
   have hbad : ¬ Qg (xH l (m : Int)) (xH l ((m + 1 : Nat) : Int)) < 0 → V = false := fun h => by rw [← HV.out]; exact VO (i := m) (by omega) h
   have hcm := fun W => zzM (xH l (m : Int)) (xH l ((m + 1 : Nat) : Int)) W
   generalize xH l (m : Int) = x at h0 h1 h2 hstep hcm hbad
   generalize xH l ((m + 1 : Nat) : Int) = y at h3 h4 h5 hstep hcm hbad
   generalize Qg x y = r at hcm hstep hbad
   have HS := Lib.hid hstep
   have HB := Lib.hid hbad
   have e1 : IntKind.i64.wrap (((m : Int) + 1) - 1) = (m : Int) := by rw [Int.add_sub_cancel]; exact IntWalk.i64_in _ (by omega)
   have q1 : (m : Int) < (l.length : Int) := by omega
   have q2 : (m : Int) + 1 < (l.length : Int) := by omega
   have q3 : ((m : Int) + 1).toNat = m + 1 := by omega
   have q4 : (0 : Int) ≤ (m : Int) + 1 := by omega
   clear hC hr hstep hbad
   have e0 : IntKind.i64.wrap (m : Int) = (m : Int) := IntWalk.i64_in _ (by omega)
   have q5 : (0 : Int) ≤ (m : Int) := by omega
   by_cases hr0 : r < 0
   ·have d1 : decide (0 ≤ r) = false := by simp; omega
    have HR := Lib.hid hr0
    clear hr0
    go_wp2_with fail
    go_region_held3 (fun W => W.cell? (ad.add (m * 3)) = some (.string x.f0) ∧ W.cell? ⟨(ad.add (m * 3)).block, (ad.add (m * 3)).off + 1, none⟩ = some (.string x.f1) ∧ W.cell? ⟨(ad.add (m * 3)).block, (ad.add (m * 3)).off + 2, none⟩ = some (.int .i64 x.f2) ∧ W.cell? (ad.add ((m + 1) * 3)) = some (.string y.f0) ∧ W.cell? ⟨(ad.add ((m + 1) * 3)).block, (ad.add ((m + 1) * 3)).off + 1, none⟩ = some (.string y.f1) ∧ W.cell? ⟨(ad.add ((m + 1) * 3)).block, (ad.add ((m + 1) * 3)).off + 2, none⟩ = some (.int .i64 y.f2)) (first | go_keep | exact ⟨(hb2.cell (World.block_lt_of_cell? wr _ h0)).trans h0, (hb2.cell (World.block_lt_of_cell? wr _ h1)).trans h1, (hb2.cell (World.block_lt_of_cell? wr _ h2)).trans h2, (hb2.cell (World.block_lt_of_cell? wr _ h3)).trans h3, (hb2.cell (World.block_lt_of_cell? wr _ h4)).trans h4, (hb2.cell (World.block_lt_of_cell? wr _ h5)).trans h5⟩) ((go_at_call 101; refine (hcm _).mono ?_; rintro e w2 ⟨rfl, hb2⟩))
    clear e0 e1
    have hb3 : Below w.heap.size w w2 := (hb.drew).trans (hb2.mono hb.size)
    clear hb2
    go_wp2
    refine ⟨⟨m + 1 + 1, by go_num, by omega, by omega, (fun i h1 h2 => ?_), hb3⟩, by simp [intOf]; omega⟩
    by_cases e : i + 1 = m + 1
    ·rw [HS.out i e]; exact HR.out
    ·exact HA.out i (by omega) h2
   ·have d1 : decide (0 ≤ r) = true := by simp; omega
    have hv : V = false := HB.out hr0
    have Ud := Lib.hid hv
    clear hr0 hv
    go_wp2_with fail
    go_region_held3 (fun W => W.cell? (ad.add (m * 3)) = some (.string x.f0) ∧ W.cell? ⟨(ad.add (m * 3)).block, (ad.add (m * 3)).off + 1, none⟩ = some (.string x.f1) ∧ W.cell? ⟨(ad.add (m * 3)).block, (ad.add (m * 3)).off + 2, none⟩ = some (.int .i64 x.f2) ∧ W.cell? (ad.add ((m + 1) * 3)) = some (.string y.f0) ∧ W.cell? ⟨(ad.add ((m + 1) * 3)).block, (ad.add ((m + 1) * 3)).off + 1, none⟩ = some (.string y.f1) ∧ W.cell? ⟨(ad.add ((m + 1) * 3)).block, (ad.add ((m + 1) * 3)).off + 2, none⟩ = some (.int .i64 y.f2)) (first | go_keep | exact ⟨(hb2.cell (World.block_lt_of_cell? wr _ h0)).trans h0, (hb2.cell (World.block_lt_of_cell? wr _ h1)).trans h1, (hb2.cell (World.block_lt_of_cell? wr _ h2)).trans h2, (hb2.cell (World.block_lt_of_cell? wr _ h3)).trans h3, (hb2.cell (World.block_lt_of_cell? wr _ h4)).trans h4, (hb2.cell (World.block_lt_of_cell? wr _ h5)).trans h5⟩) ((go_at_call 101; refine (hcm _).mono ?_; rintro e w2 ⟨rfl, hb2⟩))
    clear e0 e1
    have hb3 : Below w.heap.size w w2 := (hb.drew).trans (hb2.mono hb.size)
    clear hb2
    go_wp2
    go_ret
    exact ⟨by rw [Ud.out]; rfl, hb3⟩
  ·have hv : V = true := by rw [← HV.out]; exact Uc (fun i hi => HA.out i (by omega) hi)
   have Ud := Lib.hid hv
   have q1 : decide ((k : Int) < (l.length : Int)) = false := decide_eq_false (by omega)
   clear hv hr
   go_wp2
   go_ret
   exact ⟨by rw [Ud.out]; rfl, hb⟩
end Go.Proofs.YtggifbbiiickmaaGreatDoor
namespace Go.Proofs.YtggifbbiiickmaaGreatDoor.PX
open Go.RowKit Go.Proofs.zk.ze Go.Proofs.zk.yc Go.Proofs.zk.yt
attribute [local go_sem] wo wu Zk Zy jd je wB wC   -- for this text's walks alone
set_option linter.unusedVariables false
set_option linter.unusedSimpArgs false
def uL.l0 : Nat → List ByteArray → Int → Int → ByteArray → Bool → Int → List (yh) → List (qy) → List (qc) → Option (Bool)
 | 0, _, _, _, _, _, _, _, _, _ => none
 | k + 1, x9, x10, dP, tq, tZ, tQ, tX, tJ, tV => if dP < x10 then (if 0 ≤ dP then (if dP < (x9.length : Int) then ((uK.f tq tZ tQ tX tJ tV (Yh ByteArray.empty x9 dP)).bind fun zkw => (if zkw.2 = true then (uL.l0 k x9 x10 (wrap64 (dP + 1)) tq tZ tQ tX tJ tV) else (some false))) else (none)) else (none)) else (some true)
def uL.f (k : Nat) (yH : ByteArray) (yM : Bool) (yI : Int) (zM : List (yh)) (yw : List (qy)) (yj : List (qc)) (l1 : List ByteArray) : Option (Bool) := uL.l0 k l1 (l1.length : Int) 0 yH yM yI zM yw yj
set_option maxHeartbeats 8000000 in
set_option maxRecDepth 100000 in
theorem uL.calls (k : Nat) (yH : ByteArray) (yM : Bool) (yI : Int) (qp : Option Addr) (qA : Nat) (zM : List (yh)) (qC : Option Addr) (qD : Nat) (yw : List (qy)) (qE : Option Addr) (qF : Nat) (yj : List (qc)) (A1 : Option Addr) (c1 : Nat) (l1 : List ByteArray) (r : Bool) (w : World) (wO : Kd.C qH w qp zM.length zM) (YX : zM.length ≤ qA) (YJ : Kd.C vw w qC yw.length yw) (YV : yw.length ≤ qD) (YK : Kd.C vC w qE yj.length yj) (YW : yj.length ≤ qF) (hr1 : Kd.C Kd.string w A1 l1.length l1) (hc1 : l1.length ≤ c1) (hG : GW w) (h : uL.f k yH yM yI zM yw yj l1 = some r) :
  Calls Tryz.prog 94 #[.agg #[.string yH, .bool yM, .int .i64 yI, .slice qp zM.length qA, .slice qC yw.length qD, .slice qE yj.length qF], .slice A1 l1.length c1] w fun e w' => e = .returned (.bool r) ∧ Below w.heap.size w w' := by
 have zzP := Tryz.underlying60
 have HG := zx.mk hG
 clear hG
 have YR := zx.mk wO
 have XM := zx.mk YX
 clear wO YX
 have XO := zx.mk YJ
 have XP := zx.mk YV
 clear YJ YV
 have XR := zx.mk YK
 have XT := zx.mk YW
 clear YK YW
 have HR1 := zx.mk hr1
 have HC1 := zx.mk hc1
 clear hr1 hc1
 have HB := zx.mk (Below.refl w.heap.size w)
 have H : (uL.l0 k l1 (l1.length : Int) 0 yH yM yI zM yw yj) = some r := h
 clear h
 have H' := zx.mk H
 clear H
 go_enter Tryz.func94, Tryz.ntmps94
 go_wp2_with (first | ((with_reducible refine qb (N := 2) rfl ?_); refine qM ?hg (N := 2) ?hd (cs := #[.string yH, .bool yM, .int .i64 yI, .slice qp zM.length qA, .slice qC yw.length qD, .slice qE yj.length qF]) (t := 60) ?hr ?_; (case hd => rfl); (case hg => rfl); (case hr => first | (go_simp; done) | (go_simp; rfl)); intro pQ hg w3 xC hb; have zf := zx.mk (zL (zP HB.out) hb); have zl := zx.mk (xC); have zu := zx.mk ((by rw [hg]; exact (zC (zP HB.out)) : w.heap.size ≤ pQ)); have zH := zx.mk ((by rw [hg]; exact (zC (zP HB.out)) : w.heap.size ≤ pQ)); clear HB; have HB := zf; have xU := zl; have zJB := zu; have zqU := zH; clear zf zl zu zH; clear hb xC hg))
 go_loopg [11] k (fun kq v11 w' => ∃ (jQ : Int), v11 = .int .i64 jQ ∧ zx (uL.l0 kq l1 (l1.length : Int) jQ yH yM yI zM yw yj = some r) ∧ zx (kq ≤ k) ∧ zx (w'.heap[pQ]? = some (.cells #[.string yH, .bool yM, .int .i64 yI, (.slice qp zM.length qA), (.slice qC yw.length qD), (.slice qE yj.length qF)] 60 (0, 0))) ∧ zx (Below w.heap.size w w'))
 case atStart => exact ⟨(0), (by first | rfl | (simp; done) | (simp [*]; done)), H', ⟨Nat.le_refl _⟩, ⟨ji xU.out⟩, ⟨zP HB.out⟩⟩
 case round =>
  clear H'
  try clear c1
  try clear p2
  obtain ⟨jQ, rfl, HA, jg, xU, HB⟩ := hrel
  cases gk with
  | zero => exact absurd HA.out (by simp [uL.l0])
  | succ k1 =>
   have H := HA.out
   clear HA
   simp only [uL.l0] at H
   by_cases c4 : jQ < (l1.length : Int)
   ·rw [if_pos c4] at H
    have VN : decide (jQ < (l1.length : Int)) = true := decide_eq_true c4
    clear c4
    by_cases c5 : 0 ≤ jQ
    ·rw [if_pos c5] at H
     have Ub : decide (0 ≤ jQ) = true := decide_eq_true c5
     clear c5
     by_cases c6 : jQ < (l1.length : Int)
     ·rw [if_pos c6] at H
      have zwQ : decide (jQ < (l1.length : Int)) = true := decide_eq_true c6
      clear c6
      replace H := Option.bind_eq_some_iff.mp H
      obtain ⟨⟨zjH, zjI⟩, ow, H⟩ := H
      replace H : (if zjI = true then (uL.l0 k1 l1 (l1.length : Int) (wrap64 (jQ + 1)) yH yM yI zM yw yj) else (some false)) = some r := H
      have A7 := zx.mk ow
      clear ow
      by_cases c8 : zjI = true
      ·subst c8
       have H1 : (uL.l0 k1 l1 (l1.length : Int) (wrap64 (jQ + 1)) yH yM yI zM yw yj) = some r := by rw [if_pos rfl] at H; exact H
       clear H
       have H := H1
       clear H1
       have H' := zx.mk H
       clear H
       have JL : 0 ≤ (jQ : Int) := of_decide_eq_true (by first | (with_reducible assumption) | assumption)
       have JM : jQ < (l1.length : Int) := of_decide_eq_true (by first | (with_reducible assumption) | assumption)
       obtain ⟨zkZ, zzR, Xi⟩ := Kd.X4 HR1.out jQ JL JM
       cases zzR
       replace Xi := (HB.out.cell (World.block_lt_of_cell? w _ Xi)).trans Xi
       replace JL := eq_true JL
       replace JM := eq_true JM
       have zJY : wr.cell? ⟨pQ, 0, none⟩ = some (.string yH) := (zZ xU.out 0).trans rfl
       have zJW : wr.cell? ⟨pQ, 1, none⟩ = some (.bool yM) := (zZ xU.out 1).trans rfl
       have zJa : wr.cell? ⟨pQ, 2, none⟩ = some (.int .i64 yI) := (zZ xU.out 2).trans rfl
       have zJb : wr.cell? ⟨pQ, 3, none⟩ = some (.slice qp zM.length qA) := (zZ xU.out 3).trans rfl
       have zJc : wr.cell? ⟨pQ, 4, none⟩ = some (.slice qC yw.length qD) := (zZ xU.out 4).trans rfl
       have zJd : wr.cell? ⟨pQ, 5, none⟩ = some (.slice qE yj.length qF) := (zZ xU.out 5).trans rfl
       have zJe := zV xU.out 0
       have zJf := zV xU.out 1
       have zJg := zV xU.out 2
       have zJh := zV xU.out 3
       have zJi := zV xU.out 4
       have zJl := zV xU.out 5
       go_wp2_with (first | ((with_reducible refine yg (f := 64) rfl ?_); refine jf (some 18) Tryz.func64 #[.agg #[.string yH, .bool yM, .int .i64 yI, .slice qp zM.length qA, .slice qC yw.length qD, .slice qE yj.length qF], .string (Yh ByteArray.empty l1 jQ)] ?_; (with_reducible refine (uK.calls yH yM yI _ _ zM _ _ yw _ _ yj (Yh ByteArray.empty l1 jQ) zjH true _ ?qw ?qI ?xX ?xJ ?xV ?xK ?xY A7.out).mono ?_); (case qw => repeat (first | exact (Kd.zh YR.out HB.out) | (with_reducible refine Kd.zD ?_ _) | (with_reducible refine Kd.zF ?_ _) | (with_reducible refine Kd.zo ?_))); (case qI => exact XM.out); (case xX => repeat (first | exact (Kd.zh XO.out HB.out) | (with_reducible refine Kd.zD ?_ _) | (with_reducible refine Kd.zF ?_ _) | (with_reducible refine Kd.zo ?_))); (case xJ => exact XP.out); (case xV => repeat (first | exact (Kd.zh XR.out HB.out) | (with_reducible refine Kd.zD ?_ _) | (with_reducible refine Kd.zF ?_ _) | (with_reducible refine Kd.zo ?_))); (case xK => exact XT.out); (case xY => exact GW.under HG.out (zP HB.out)); rintro e KW ⟨rfl, hb⟩; refine ⟨_, rfl, ?_⟩; have zf := zx.mk (zN (g := pQ) (o := .cells #[.string yH, .bool yM, .int .i64 yI, .slice qp zM.length qA, .slice qC yw.length qD, .slice qE yj.length qF] 60 (0, 0)) (ji xU.out) hb); have zl := zx.mk (zL (zP HB.out) hb); clear xU; clear HB; have xU := zf; have HB := zl; clear zf zl; (try clear hb); (try clear hb2); (try clear hk); (try clear hi)))
       go_roundg k1
       case measure => have := jg.out; omega
       case rel => exact ⟨(wrap64 (jQ + 1)), (by first | rfl | (simp; done) | (simp [*]; done)), H', ⟨by have := jg.out; omega⟩, ⟨ji xU.out⟩, ⟨zP HB.out⟩⟩
      ·replace c8 := Bool.eq_false_iff.mpr c8
       subst c8
       have H1 : (some false) = some r := by rw [if_neg (show ¬ (false = true) by decide)] at H; exact H
       clear H
       have H := H1
       clear H1
       obtain rfl := Option.some.inj H
       have JL : 0 ≤ (jQ : Int) := of_decide_eq_true (by first | (with_reducible assumption) | assumption)
       have JM : jQ < (l1.length : Int) := of_decide_eq_true (by first | (with_reducible assumption) | assumption)
       obtain ⟨zkZ, zzR, Xi⟩ := Kd.X4 HR1.out jQ JL JM
       cases zzR
       replace Xi := (HB.out.cell (World.block_lt_of_cell? w _ Xi)).trans Xi
       replace JL := eq_true JL
       replace JM := eq_true JM
       have zZ5 : wr.cell? ⟨pQ, 0, none⟩ = some (.string yH) := (zZ xU.out 0).trans rfl
       have zZ6 : wr.cell? ⟨pQ, 1, none⟩ = some (.bool yM) := (zZ xU.out 1).trans rfl
       have zZ7 : wr.cell? ⟨pQ, 2, none⟩ = some (.int .i64 yI) := (zZ xU.out 2).trans rfl
       have zZ8 : wr.cell? ⟨pQ, 3, none⟩ = some (.slice qp zM.length qA) := (zZ xU.out 3).trans rfl
       have zZ9 : wr.cell? ⟨pQ, 4, none⟩ = some (.slice qC yw.length qD) := (zZ xU.out 4).trans rfl
       have zQz : wr.cell? ⟨pQ, 5, none⟩ = some (.slice qE yj.length qF) := (zZ xU.out 5).trans rfl
       have zQq := zV xU.out 0
       have zQx := zV xU.out 1
       have zQj := zV xU.out 2
       have zQv := zV xU.out 3
       have zQk := zV xU.out 4
       have zQy := zV xU.out 5
       go_wp2_with (first | ((with_reducible refine yg (f := 64) rfl ?_); refine jf (some 18) Tryz.func64 #[.agg #[.string yH, .bool yM, .int .i64 yI, .slice qp zM.length qA, .slice qC yw.length qD, .slice qE yj.length qF], .string (Yh ByteArray.empty l1 jQ)] ?_; (with_reducible refine (uK.calls yH yM yI _ _ zM _ _ yw _ _ yj (Yh ByteArray.empty l1 jQ) zjH false _ ?qw ?qI ?xX ?xJ ?xV ?xK ?xY A7.out).mono ?_); (case qw => repeat (first | exact (Kd.zh YR.out HB.out) | (with_reducible refine Kd.zD ?_ _) | (with_reducible refine Kd.zF ?_ _) | (with_reducible refine Kd.zo ?_))); (case qI => exact XM.out); (case xX => repeat (first | exact (Kd.zh XO.out HB.out) | (with_reducible refine Kd.zD ?_ _) | (with_reducible refine Kd.zF ?_ _) | (with_reducible refine Kd.zo ?_))); (case xJ => exact XP.out); (case xV => repeat (first | exact (Kd.zh XR.out HB.out) | (with_reducible refine Kd.zD ?_ _) | (with_reducible refine Kd.zF ?_ _) | (with_reducible refine Kd.zo ?_))); (case xK => exact XT.out); (case xY => exact GW.under HG.out (zP HB.out)); rintro e Uw ⟨rfl, hb⟩; refine ⟨_, rfl, ?_⟩; have zf := zx.mk (zN (g := pQ) (o := .cells #[.string yH, .bool yM, .int .i64 yI, .slice qp zM.length qA, .slice qC yw.length qD, .slice qE yj.length qF] 60 (0, 0)) (ji xU.out) hb); have zl := zx.mk (zL (zP HB.out) hb); clear xU; clear HB; have xU := zf; have HB := zl; clear zf zl; (try clear hb); (try clear hb2); (try clear hk); (try clear hi)))
       go_ret
       exact ⟨by first | rfl | (simp [zR, zS] <;> rfl) | (simp [*, zR, zS] <;> rfl), by repeat (first | (with_reducible first | exact HB.out | apply yA | apply yZ | apply yx | refine xL ?_ zqU.out) | exact HB.out)⟩
     ·rw [if_neg c6] at H
      exact absurd H (by simp)
    ·rw [if_neg c5] at H
     exact absurd H (by simp)
   ·rw [if_neg c4] at H
    have VN : decide (jQ < (l1.length : Int)) = false := decide_eq_false c4
    clear c4
    obtain rfl := Option.some.inj H
    go_wp2
    go_ret
    exact ⟨by first | rfl | (simp [zR, zS] <;> rfl) | (simp [*, zR, zS] <;> rfl), by repeat (first | (with_reducible first | exact HB.out | apply yA | apply yZ | apply yx | refine xL ?_ zqU.out) | exact HB.out)⟩
end Go.Proofs.YtggifbbiiickmaaGreatDoor.PX
namespace Go.Proofs.YtggifbbiiickmaaGreatDoor
open Go.RowKit Go.Shelf Go.Proofs.zk.ze Go.Proofs.zk.yt Go.Proofs.YtggifbbiiickmaaGreatDoor.PX
instance : Inhabited yh := ⟨z105⟩
instance : Inhabited qy := ⟨zzr⟩
instance : Inhabited qc := ⟨zzs⟩
def kr (x : yh) : List Value := [.string x.f0, .int .i64 x.f1]
def dR (x : qy) : List Value := [.string x.f0, .string x.f1, .string x.f2]
def dS (x : qc) : List Value := [.string x.f0, .string x.f1, .int .i64 x.f2]
theorem JN {α : Type} [Inhabited α] (d : Kd α) (enc : α → List Value) (hopen : ∀ (w : World) (x : α) (c : List Value), d.K w x c → c = enc x) (hne : ∀ x, enc x ≠ []) {w : World} {A : Option Addr} {l : List α} (h : Kd.C d w A l.length l) (h0 : l ≠ []) :
  ∃ b off, A = some ⟨b, off, none⟩ ∧ b < w.heap.size ∧ ∀ j, j < l.length → ∀ i v, (enc l[j]!)[i]? = some v → w.cell? ⟨b, off + j * d.sz + i, none⟩ = some v := by
 have hl : 0 < l.length := List.length_pos_iff.2 h0
 obtain ⟨_, _, h3⟩ := h
 obtain ⟨ad, rfl, hc⟩ := h3 hl
 obtain ⟨b, off, spot⟩ := ad
 have hcell : ∀ j, j < l.length → ∀ i v, (enc l[j]!)[i]? = some v → w.cell? ((⟨b, off, spot⟩ : Addr).add (j * d.sz + i)) = some v := by
  intro j hj i v hv
  obtain ⟨c, _, hK, hcc⟩ := hc j l[j] (List.getElem?_eq_getElem hj)
  have e := hopen w _ c hK
  rw [getElem!_pos l j hj, ← e] at hv
  exact hcc i v hv
 obtain ⟨v, hv⟩ : ∃ v, (enc l[0]!)[0]? = some v := by
  cases he : enc l[0]! with
  | nil => exact absurd he (hne _)
  | cons v r => exact ⟨v, rfl⟩
 have hc0 := hcell 0 hl 0 v hv
 have hspot : spot = none := by simpa [Addr.add] using World.cell?_spot hc0
 subst hspot
 refine ⟨b, off, rfl, ?_, fun j hj i v hv => ?_⟩
 ·have := World.block_lt_of_cell? w _ hc0
  simpa [Addr.add] using this
 ·have := hcell j hj i v hv
  rwa [Addr.add_lit, ← Nat.add_assoc] at this
set_option maxRecDepth 100000 in
theorem oZ (A0 : Option Addr) (c0 : Nat) (fv : Value) (w : World) : Calls Tryz.prog 130 #[.slice A0 0 c0, fv] w fun e w' => e = .returned (.int .i64 (-1)) ∧ Below w.heap.size w w' := by
 go_enter Tryz.func130, Tryz.ntmps130
 go_wp2
 go_loop [8] (fun i => i = .int .i64 0) (fun _ => 0)
 case atStart => rfl
 case round =>
  obtain rfl := hrel
  go_wp2
  go_ret
  exact ⟨rfl, Below.refl _ _⟩
set_option maxRecDepth 100000 in
theorem dU (A0 : Option Addr) (c0 : Nat) (l : List yh) (w : World) (hr : Kd.C qH w A0 l.length l) (hl : l.length ≤ 1000000000) (p : yh → Bool) (g : Nat) (lb : Array Value) (eg : ∀ args w, (callFunc g args).run Tryz.prog w = .ok (.enter g args) w)
  (hp : PredBelow Tryz.prog g lb (fun x => .agg (kr x).toArray) p w) :
  Calls Tryz.prog 86 #[.slice A0 l.length c0, .func (.func g) #[] lb] w fun e w' => e = .returned (.bool (l.any p)) ∧ Below w.heap.size w w' := by
 by_cases h0 : l = []
 ·subst h0
  have h := oZ A0 c0 (.func (.func g) #[] lb) w
  go_enter Tryz.func86, Tryz.ntmps86
  go_wp2_with (go_at_call 130; refine h.mono ?_; rintro e w1 ⟨rfl, hb⟩)
  go_ret
  exact ⟨rfl, hb⟩
 ·obtain ⟨b, off, rfl, hb, hc⟩ := JN qH kr (fun w x c h => bf h) (fun x => by simp [kr]) hr h0
  have := AnyQ.slices_ContainsFunc Tryz.hasG 2 Tryz.isAgg105 Tryz.sizeOf105 kr (fun _ => rfl) p g lb eg b off l.length c0 l w hp (Nat.le_refl _) (by omega) hb hc
  rw [List.take_length] at this
  exact this
set_option maxRecDepth 100000 in
theorem oQ (A0 : Option Addr) (c0 : Nat) (fv : Value) (w : World) : Calls Tryz.prog 133 #[.slice A0 0 c0, fv] w fun e w' => e = .returned (.int .i64 (-1)) ∧ Below w.heap.size w w' := by
 go_enter Tryz.func133, Tryz.ntmps133
 go_wp2
 go_loop [8] (fun i => i = .int .i64 0) (fun _ => 0)
 case atStart => rfl
 case round =>
  obtain rfl := hrel
  go_wp2
  go_ret
  exact ⟨rfl, Below.refl _ _⟩
set_option maxRecDepth 100000 in
theorem zzS (A0 : Option Addr) (c0 : Nat) (l : List qy) (w : World) (hr : Kd.C vw w A0 l.length l) (hl : l.length ≤ 1000000000) (p : qy → Bool) (g : Nat) (lb : Array Value) (eg : ∀ args w, (callFunc g args).run Tryz.prog w = .ok (.enter g args) w)
  (hp : PredBelow Tryz.prog g lb (fun x => .agg (dR x).toArray) p w) :
  Calls Tryz.prog 92 #[.slice A0 l.length c0, .func (.func g) #[] lb] w fun e w' => e = .returned (.bool (l.any p)) ∧ Below w.heap.size w w' := by
 by_cases h0 : l = []
 ·subst h0
  have h := oQ A0 c0 (.func (.func g) #[] lb) w
  go_enter Tryz.func92, Tryz.ntmps92
  go_wp2_with (go_at_call 133; refine h.mono ?_; rintro e w1 ⟨rfl, hb⟩)
  go_ret
  exact ⟨rfl, hb⟩
 ·obtain ⟨b, off, rfl, hb, hc⟩ := JN vw dR (fun w x c h => bg h) (fun x => by simp [dR]) hr h0
  have := AnyQ.slices_ContainsFunc Tryz.hasL 3 Tryz.isAgg108 Tryz.sizeOf108 dR (fun _ => rfl) p g lb eg b off l.length c0 l w hp (Nat.le_refl _) (by omega) hb hc
  rw [List.take_length] at this
  exact this
set_option maxRecDepth 100000 in
theorem oJ (A0 : Option Addr) (c0 : Nat) (fv : Value) (w : World) : Calls Tryz.prog 134 #[.slice A0 0 c0, fv] w fun e w' => e = .returned (.int .i64 (-1)) ∧ Below w.heap.size w w' := by
 go_enter Tryz.func134, Tryz.ntmps134
 go_wp2
 go_loop [8] (fun i => i = .int .i64 0) (fun _ => 0)
 case atStart => rfl
 case round =>
  obtain rfl := hrel
  go_wp2
  go_ret
  exact ⟨rfl, Below.refl _ _⟩
set_option maxRecDepth 100000 in
theorem zzT (A0 : Option Addr) (c0 : Nat) (l : List qc) (w : World) (hr : Kd.C vC w A0 l.length l) (hl : l.length ≤ 1000000000) (p : qc → Bool) (g : Nat) (lb : Array Value) (eg : ∀ args w, (callFunc g args).run Tryz.prog w = .ok (.enter g args) w)
  (hp : PredBelow Tryz.prog g lb (fun x => .agg (dS x).toArray) p w) :
  Calls Tryz.prog 99 #[.slice A0 l.length c0, .func (.func g) #[] lb] w fun e w' => e = .returned (.bool (l.any p)) ∧ Below w.heap.size w w' := by
 by_cases h0 : l = []
 ·subst h0
  have h := oJ A0 c0 (.func (.func g) #[] lb) w
  go_enter Tryz.func99, Tryz.ntmps99
  go_wp2_with (go_at_call 134; refine h.mono ?_; rintro e w1 ⟨rfl, hb⟩)
  go_ret
  exact ⟨rfl, hb⟩
 ·obtain ⟨b, off, rfl, hb, hc⟩ := JN vC dS (fun w x c h => bn h) (fun x => by simp [dS]) hr h0
  have := AnyQ.slices_ContainsFunc Tryz.hasK 3 Tryz.isAgg111 Tryz.sizeOf111 dS (fun _ => rfl) p g lb eg b off l.length c0 l w hp (Nat.le_refl _) (by omega) hb hc
  rw [List.take_length] at this
  exact this
def QZ (n : Int) : Bool := decide (n < 0) || decide (3000 < n)
set_option maxRecDepth 100000 in
theorem d9 (n : Int) (w : World) : Calls Tryz.prog 84 #[.int .i64 n] w fun e w' => e = .returned (.bool (QZ n)) ∧ w' = w := by
 unfold QZ
 by_cases h1 : n < 0
 ·have d1 : decide (n < 0) = true := decide_eq_true h1
  rw [d1]; clear h1
  go_enter Tryz.func84, Tryz.ntmps84
  go_wp2
  go_ret
  exact ⟨rfl, rfl⟩
 ·have d1 : decide (n < 0) = false := decide_eq_false h1
  rw [d1]; clear h1
  cases hd : decide (3000 < n) with
  | true =>
   go_enter Tryz.func84, Tryz.ntmps84
   go_wp2
   go_ret
   exact ⟨rfl, rfl⟩
  | false =>
   go_enter Tryz.func84, Tryz.ntmps84
   go_wp2
   go_ret
   exact ⟨rfl, rfl⟩
def Wm (x : yh) : Bool := !XL x.f0.data.toList || QZ x.f1
set_option maxRecDepth 100000 in
theorem zzU (B : Nat) (w : World) (hB : w.cell? ⟨B, 0, none⟩ = some (.func (.func 84) #[] #[])) :
  PredBelow Tryz.prog 87 #[.pointer (some ⟨B, 0, none⟩)] (fun x => .agg (kr x).toArray) Wm w := fun W x hb => by
 have hl := World.block_lt_of_cell? w _ hB
 have hc : W.cell? ⟨B, 0, none⟩ = some (.func (.func 84) #[] #[]) := (hb.cell hl).trans hB
 have oV : B < W.heap.size := Nat.lt_of_lt_of_le hl hb.size
 show Calls Tryz.prog 87 #[.agg #[.string x.f0, .int .i64 x.f1], .pointer (some ⟨B, 0, none⟩)] W _
 have hb0 : Below w.heap.size w (W.alloc (.cells #[.string x.f0, .int .i64 x.f1] 105)) := hb.alloc hb.size _
 have hbW : Below W.heap.size W (W.alloc (.cells #[.string x.f0, .int .i64 x.f1] 105)) := (Below.refl _ W).alloc (Nat.le_refl _) _
 have hn := lT x.f0 (W.alloc (.cells #[.string x.f0, .int .i64 x.f1] 105))
 have hw := fun W => d9 x.f1 W
 have hv : Wm x = (!XL x.f0.data.toList || QZ x.f1) := rfl
 rw [hv]
 clear hv hb
 generalize XL x.f0.data.toList = b1 at hn ⊢
 generalize QZ x.f1 = b2 at hw ⊢
 cases b1 with
 | false =>
  go_enter Tryz.func87, Tryz.ntmps87
  go_wp2_with (go_at_call 88; refine hn.mono ?_; rintro e w1 ⟨rfl, hb1⟩)
  go_ret
  exact ⟨rfl, hb0.trans (hb1.mono hb0.size)⟩
 | true =>
  go_enter Tryz.func87, Tryz.ntmps87
  go_wp2_with (first | (go_at_call 88; refine hn.mono ?_; rintro e w1 ⟨rfl, hb1⟩; have hc1 := (hb1.cell (p := ⟨B, 0, none⟩) (by simp; omega)).trans ((hbW.cell (p := ⟨B, 0, none⟩) oV).trans hc); have k1 := (hb1.cell (p := ⟨W.heap.size, 1, none⟩) (by simp)).trans (zjE W (.string x.f0) (.int .i64 x.f1) _)) | (go_at_call 84; refine (hw _).mono ?_; rintro e w2 ⟨rfl, rfl⟩))
  go_ret
  exact ⟨by first | rfl | (cases b2 <;> rfl), hb0.trans (hb1.mono hb0.size)⟩
def JO (l : List yh) (ns : List ByteArray) : Bool := ns.all fun n => (ZU l n).2
theorem zkQ (a : ByteArray) (b : Bool) (c : Int) (l3 : List yh) (l4 : List qy) (l5 : List qc) (h3 : l3.length ≤ 1000000000) (ns : List ByteArray) (hn : ns.length ≤ 1000) : ∀ (d i : Nat), i + d = ns.length →
  Ev (fun k => uL.l0 k ns (ns.length : Int) (i : Int) a b c l3 l4 l5) (JO l3 (ns.drop i)) := by
 intro d
 induction d with
 | zero =>
  intro i h
  rw [List.drop_eq_nil_of_le (by omega)]
  refine Ev.step (fun k => by rw [uL.l0]) ?_
  exact pq (by omega) (Ev.now _)
 | succ d ih =>
  intro i h
  have hi : i < ns.length := by omega
  have e2 : wrap64 ((i : Int) + 1) = ((i + 1 : Nat) : Int) := by rw [YA (by omega) (by omega)]; rfl
  have hg : Yh ByteArray.empty ns (i : Int) = ns[i] := by rw [zzD, List.getD_eq_getElem?_getD, List.getElem?_eq_getElem hi]; rfl
  have hd : ns.drop i = ns[i] :: ns.drop (i + 1) := List.drop_eq_getElem_cons hi
  refine Ev.step (fun k => by rw [uL.l0]) ?_
  refine qB (by omega) (qB (by omega) (qB (by omega) ?_))
  rw [hg, e2]
  refine QI (y := ZU l3 ns[i]) (by unfold uK.f; rw [if_pos h3]) ?_
  rw [hd]
  show Ev _ ((ZU l3 ns[i]).2 && JO l3 (ns.drop (i + 1)))
  cases hb : (ZU l3 ns[i]).2 with
  | true => exact qB rfl (ih (i + 1) (by omega))
  | false => exact pq (by simp) (Ev.now _)
theorem tK (a : ByteArray) (b : Bool) (c : Int) (A3 : Option Addr) (c3 : Nat) (l3 : List yh) (A4 : Option Addr) (c4 : Nat) (l4 : List qy) (A5 : Option Addr) (c5 : Nat) (l5 : List qc) (A : Option Addr) (cn : Nat) (ns : List ByteArray) (w : World)
  (h3 : Kd.C qH w A3 l3.length l3) (g3 : l3.length ≤ c3) (h4 : Kd.C vw w A4 l4.length l4) (g4 : l4.length ≤ c4) (h5 : Kd.C vC w A5 l5.length l5) (g5 : l5.length ≤ c5) (hn : Kd.C Kd.string w A ns.length ns) (gn : ns.length ≤ cn) (hG : GW w) (hl3 : l3.length ≤ 1000000000) (hln : ns.length ≤ 1000) :
  Calls Tryz.prog 94 #[.agg #[.string a, .bool b, .int .i64 c, .slice A3 l3.length c3, .slice A4 l4.length c4, .slice A5 l5.length c5], .slice A ns.length cn] w fun e w' => e = .returned (.bool (JO l3 ns)) ∧ Below w.heap.size w w' := by
 obtain ⟨k, hk⟩ := (zkQ a b c l3 l4 l5 hl3 ns hln ns.length 0 (by omega)).rounds
 exact uL.calls k a b c A3 c3 l3 A4 c4 l4 A5 c5 l5 A cn ns _ w h3 g3 h4 g4 h5 g5 hn gn hG hk
structure Zh (w : World) (B : Nat) (a : ByteArray) (b : Bool) (c : Int) (A3 : Option Addr) (c3 : Nat) (l3 : List yh) (A4 : Option Addr) (c4 : Nat) (l4 : List qy) (A5 : Option Addr) (c5 : Nat) (l5 : List qc) : Prop where
 blk : w.heap[B]? = some (.cells #[.string a, .bool b, .int .i64 c, .slice A3 l3.length c3, .slice A4 l4.length c4, .slice A5 l5.length c5] 60 (0, 0))
 h3 : Kd.C qH w A3 l3.length l3
 h4 : Kd.C vw w A4 l4.length l4
 h5 : Kd.C vC w A5 l5.length l5
 gw : GW w
theorem Zh.below {w w' : World} {B : Nat} {a : ByteArray} {b : Bool} {c : Int} {A3 : Option Addr} {c3 : Nat} {l3 : List yh} {A4 : Option Addr} {c4 : Nat} {l4 : List qy} {A5 : Option Addr} {c5 : Nat} {l5 : List qc}
  (h : Zh w B a b c A3 c3 l3 A4 c4 l4 A5 c5 l5) (hb : Below w.heap.size w w') : Zh w' B a b c A3 c3 l3 A4 c4 l4 A5 c5 l5 :=
 ⟨(hb.block B (Array.getElem?_eq_some_iff.1 h.blk).1).trans h.blk, Kd.zh h.h3 hb, Kd.zh h.h4 hb, Kd.zh h.h5 hb, h.gw.under hb⟩
theorem yD {w : World} {B : Nat} {cs : Array Value} {t : TypeId} (h : w.heap[B]? = some (.cells cs t (0, 0))) (i : Nat) (v : Value) (hv : cs[i]? = some v) : w.cell? ⟨B, i, none⟩ = some v := by
 simp only [World.cell?, h]
 exact hv
end Go.Proofs.YtggifbbiiickmaaGreatDoor
