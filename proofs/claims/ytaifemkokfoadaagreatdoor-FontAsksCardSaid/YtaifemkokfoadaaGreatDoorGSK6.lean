/-
  Texts that lean on one another, laid in one file. No condition.
-/
import Derived.Test.YtaifemkokfoadaaGreatDoorGSK1
import Derived.Test.YtaifemkokfoadaaGreatDoorGSK5
import Derived.Outline
import Derived.RangeFuncRecord
import Derived.Lib.Hide
import Derived.WalkSpells
import Derived.WalkLawsBesides
import Derived.Test.YtaifemkokfoadaaGreatDoorGSK2
import Derived.Test.YtaifemkokfoadaaGreatDoorGSK3
import Derived.Test.YtaifemkokfoadaaGreatDoorGSK4
import Derived.Deep.RegionHeld3
import Derived.Deep.Slices
import Derived.ChangeArms
import Derived.ChangeSlices
import Derived.SizedLaws
import Derived.WideShapes
import Derived.Lib.LaidU8
import Derived.Shelf.Vars
set_option linter.unusedVariables false
set_option linter.unusedSimpArgs false
abbrev BY := ByteArray
namespace Go.Proofs.YtaifemkokfoadaaGreatDoor.PX
open Go.RowKit Go.Proofs.zy.zu Go.Proofs.zy.yI Go.Proofs.zy.yD
attribute [local go_sem] xw xZ xP xR qD qE xQ xX
def xM.l0 : Nat → Int → BY → Option (BY)
 | 0, _, _ => none
 | k + 1, x0, x3 => if x0 < 0 then ((some (([(wrap64 (48 - (Int.tmod x0 10))) % 256] : List Int) : List Int)).bind fun dN => (if (strOfNums dN).size + x3.size ≤ 9223372036854775807 then (xM.l0 k (wrap64 (Int.tdiv x0 10)) ((strOfNums dN) ++ x3)) else (none))) else (if 1 + x3.size ≤ 9223372036854775807 then (some ((⟨#[45]⟩ : BY) ++ x3)) else (none))
def xM.f (k : Nat) (a0 : Int) : Option (BY) := if a0 ≥ 0 then ((qp.f k a0).bind fun zqy => (some zqy)) else (xM.l0 k a0 (⟨#[]⟩ : BY))
set_option maxHeartbeats 8000000 in
set_option maxRecDepth 100000 in
theorem xM.calls (k : Nat) (a0 : Int) (r : BY) (w : World) (h : xM.f k a0 = some r) :
  Calls Tryz.prog 114 #[.int .i64 a0] w fun e w' => e = .returned (.string r) ∧ Below w.heap.size w w' := by
 have HB := zx.mk (Below.refl w.heap.size w)
 have H : (if a0 ≥ 0 then ((qp.f k a0).bind fun zqy => (some zqy)) else (xM.l0 k a0 (⟨#[]⟩ : BY))) = some r := h
 clear h
 by_cases c2 : a0 ≥ 0
 ·rw [if_pos c2] at H
  have mZ : decide (0 ≤ a0) = true := decide_eq_true c2
  clear c2
  replace H := Option.bind_eq_some_iff.mp H
  obtain ⟨zqy, Wu, H⟩ := H
  replace H : (some zqy) = some r := H
  have A3 := zx.mk Wu
  clear Wu
  obtain rfl := Option.some.inj H
  go_enter Tryz.func114, Tryz.ntmps114
  go_wp2_with (first | ((with_reducible refine yY (f := 113) rfl ?_); refine uN (some 7) Tryz.func113 #[.int .i64 a0] ?_; (with_reducible refine (qp.calls k a0 zqy _ A3.out).mono ?_); rintro e w4 ⟨rfl, hb⟩; refine ⟨_, rfl, ?_⟩; have zf := zx.mk (zI (zD HB.out) hb); clear HB; have HB := zf; clear zf; (try clear hb); (try clear hb2); (try clear hk); (try clear hi)))
  go_ret
  exact ⟨by first | rfl | (simp [zU, z8] <;> rfl) | (simp [*, zU, z8] <;> rfl), by repeat (first | (with_reducible first | exact HB.out | apply yu | apply zP | apply yT) | exact HB.out)⟩
 ·rw [if_neg c2] at H
  have mZ : decide (0 ≤ a0) = false := decide_eq_false c2
  clear c2
  have H' := zx.mk H
  clear H
  go_enter Tryz.func114, Tryz.ntmps114
  go_wp2
  go_loopg [0, 3] k (fun kq v0 v3 w' => ∃ (Zy : Int) (qh : BY), v0 = .int .i64 Zy ∧ v3 = .string qh ∧ zx (xM.l0 kq Zy qh = some r) ∧ zx (kq ≤ k) ∧ zx (Below w.heap.size w w'))
  case atStart => exact ⟨(a0), ((⟨#[]⟩ : BY)), (by first | rfl | (simp; done) | (simp [*]; done)), (by first | rfl | (simp; done) | (simp [*]; done)), H', ⟨Nat.le_refl _⟩, ⟨zD HB.out⟩⟩
  case round =>
   clear H'
   try clear c1
   try clear c2
   try clear mZ
   try clear p2
   obtain ⟨Zy, qh, rfl, rfl, HA, jv, HB⟩ := hrel
   cases gk with
   | zero => exact absurd HA.out (by simp [xM.l0])
   | succ k1 =>
    have H := HA.out
    clear HA
    simp only [xM.l0] at H
    by_cases c5 : Zy < 0
    ·rw [if_pos c5] at H
     have p8 : decide (Zy < 0) = true := decide_eq_true c5
     clear c5
     obtain ⟨dN, lu⟩ : ∃ y_ : List Int, y_ = (([(wrap64 (48 - (Int.tmod Zy 10))) % 256] : List Int)) := ⟨_, rfl⟩
     replace H : (if (strOfNums dN).size + qh.size ≤ 9223372036854775807 then (xM.l0 k1 (wrap64 (Int.tdiv Zy 10)) ((strOfNums dN) ++ qh)) else (none)) = some r := by first | (rw [lu]; with_reducible exact H) | (have xJ := (Option.bind_some _ _).symm.trans H; rw [lu]; with_reducible exact xJ) | (have xJ := (Option.bind_some _ _).symm.trans H; with_reducible exact xJ) | with_reducible exact H | (rw [lu]; exact H) | exact H
     have zJM := zx.mk lu
     clear lu
     by_cases c6 : (strOfNums dN).size + qh.size ≤ 9223372036854775807
     ·rw [if_pos c6] at H
      have ZF := eq_true c6
      have tq : decide ((strOfNums dN).size + qh.size ≤ 9223372036854775807) = true := decide_eq_true c6
      try have zfD : (9223372036854775807 < (strOfNums dN).size + qh.size) = False := eq_false (Nat.not_lt.2 c6)
      have H' := zx.mk H
      clear H
      go_wp2_with (first | ((with_reducible refine qx (N := 14) rfl ?_); refine Kd.ZP (Kd.int .u8) _ 5 ?hg (N := 14) ?hd (xs := ([(wrap64 (48 - (Int.tmod Zy 10))) % 256] : List Int)) (inner := [.int .u8 ((wrap64 (48 - (Int.tmod Zy 10))) % 256)]) (ok := fun _ => True) (jc := fun _ => True) ?hr ?hp (fun _ hk => hk) trivial (Below.refl _ _) (Nat.le_refl _) (by simp) ?_; (case hd => rfl); (case hg => rfl); (case hr => first | (go_simp; done) | (go_simp; rfl)); (case hp => exact (yS.one (show Kd.M (Kd.int .u8) _ _ _ ((wrap64 (48 - (Int.tmod Zy 10))) % 256) [.int .u8 ((wrap64 (48 - (Int.tmod Zy 10))) % 256)] from rfl) (yS.none _ _))); intro zmJ w7 nX hb wo ug; clear wo ug; (first | rw [← zJM.out] at nX | (simp only [Int.reduceToNat] at nX; rw [← zJM.out] at nX)); have zf := zx.mk (Kd.xI nX (zV (zD HB.out))); have zh := zx.mk (zI (zD HB.out) hb); clear HB; have zcF := zf; have HB := zh; clear zf zh; clear hb nX; have zfE := wE (P := Tryz.prog) Tryz.underlying66 Tryz.underlying5 Tryz.underlying9 (Kd.ZC zcF.out)))
      go_roundg k1
      case measure => have := jv.out; omega
      case rel => exact ⟨(wrap64 (Int.tdiv Zy 10)), ((strOfNums dN) ++ qh), (by first | rfl | (simp; done) | (simp [*]; done)), (by first | rfl | (simp; done) | (simp [*]; done)), H', ⟨by have := jv.out; omega⟩, ⟨zD HB.out⟩⟩
     ·rw [if_neg c6] at H
      exact absurd H (by simp)
    ·rw [if_neg c5] at H
     have p8 : decide (Zy < 0) = false := decide_eq_false c5
     clear c5
     by_cases c10 : 1 + qh.size ≤ 9223372036854775807
     ·rw [if_pos c10] at H
      have fM := eq_true c10
      have za1 : decide (1 + qh.size ≤ 9223372036854775807) = true := decide_eq_true c10
      try have zle : (9223372036854775807 < 1 + qh.size) = False := eq_false (Nat.not_lt.2 c10)
      obtain rfl := Option.some.inj H
      go_wp2
      go_ret
      exact ⟨by first | rfl | (simp [zU, z8] <;> rfl) | (simp [*, zU, z8] <;> rfl), by repeat (first | (with_reducible first | exact HB.out | apply yu | apply zP | apply yT) | exact HB.out)⟩
     ·rw [if_neg c10] at H
      exact absurd H (by simp)
end Go.Proofs.YtaifemkokfoadaaGreatDoor.PX
namespace Go.Proofs.YtaifemkokfoadaaGreatDoor.PX
open Go.RowKit Go.Proofs.zy.zu Go.Proofs.zy.yI Go.Proofs.zy.yD
attribute [local go_sem] xw xZ xP xR qD qE xQ xX
end Go.Proofs.YtaifemkokfoadaaGreatDoor.PX
namespace Go.Proofs.YtaifemkokfoadaaGreatDoor
open Go.RowKit Go.Proofs.zy.zu Go.Proofs.YtaifemkokfoadaaGreatDoor.PX
def Uv (n : Nat) : List UInt8 := if n < 10 then [] else Lib.decDigits (n / 10)
theorem Jb (n : Nat) : Lib.decDigits n = Uv n ++ [UInt8.ofNat (48 + n % 10)] := by
 rw [Lib.decDigits]
 unfold Uv
 split
 ·rw [show n % 10 = n by omega]; rfl
 ·rfl
theorem lC (n : Nat) (h : 9 < n) : Uv n = Lib.decDigits (n / 10) := by unfold Uv; rw [if_neg (by omega)]
theorem WJ (n : Nat) (h : n ≤ 9) : Uv n = [] := by unfold Uv; rw [if_pos (by omega)]
theorem zQh (n : Nat) : Int.tdiv (n : Int) 10 = ((n / 10 : Nat) : Int) := by
 rw [Int.tdiv_eq_ediv_of_nonneg (by omega)]; rfl
theorem zQi (n : Nat) : Int.tmod (n : Int) 10 = ((n % 10 : Nat) : Int) := by
 rw [Int.tmod_eq_emod_of_nonneg (by omega)]; rfl
theorem zJN (n : Nat) : (wrap64 (48 + Int.tmod (n : Int) 10)) % 256 = ((48 + n % 10 : Nat) : Int) := by
 rw [zQi, Yi (by omega) (by omega)]; omega
theorem zXP (m : Nat) : ∀ (n : Nat) (s : List UInt8), n < 10 ^ m → n ≤ 9223372036854775807 → s.length + m ≤ 1000 →
  Ev (fun k => qp.l0 k (n : Int) (bar s)) (bar (Uv n ++ s)) := by
 induction m with
 | zero =>
  intro n s h _ hs
  refine Ev.step (fun k => by rw [qp.l0]) ?_
  refine uY (by omega) ?_
  rw [WJ n (by omega)]
  exact Ev.now _
 | succ m ih =>
  intro n s h hn hs
  refine Ev.step (fun k => by rw [qp.l0]) ?_
  by_cases h9 : n ≤ 9
  ·refine uY (by omega) ?_
   rw [WJ n h9]
   exact Ev.now _
  ·have e : wrap64 (Int.tdiv (n : Int) 10) = ((n / 10 : Nat) : Int) := by rw [zQh, Yi (by omega) (by omega)]
   rw [e, zJN]
   refine qM (by omega) (Zu (qM ?_ ?_))
   ·rw [Vz, kV, kV]; simp only [List.length_cons, List.length_nil]; omega
   ·rw [Vz, nE, lC n (by omega), Jb (n / 10), List.append_assoc]
    refine ih (n / 10) _ (by rw [Nat.pow_succ] at h; omega) (by omega) ?_
    simp only [List.length_append, List.length_cons, List.length_nil]; omega
theorem zqL (n : Nat) (h : n ≤ 9223372036854775807) : Ev (fun k => qp.f k (n : Int)) (bar (Lib.decDigits n)) := by
 unfold qp.f
 rw [zJN, Vz, Jb n]
 exact zXP 19 n _ (by omega) h (by simp)
theorem zKR (n : Nat) : Int.tmod (-(n : Int)) 10 = -((n % 10 : Nat) : Int) := by
 rw [Int.neg_tmod, zQi]
theorem zKS (n : Nat) : Int.tdiv (-(n : Int)) 10 = -((n / 10 : Nat) : Int) := by
 rw [Int.neg_tdiv, zQh]
theorem zcG (n : Nat) : (wrap64 (48 - Int.tmod (-(n : Int)) 10)) % 256 = ((48 + n % 10 : Nat) : Int) := by
 rw [zKR, Yi (by omega) (by omega)]; omega
theorem zXR (m : Nat) : ∀ (n : Nat) (s : List UInt8), n < 10 ^ m → n ≤ 9223372036854775808 → s.length + m ≤ 1000 → (n = 0 → s ≠ []) →
  Ev (fun k => xM.l0 k (-(n : Int)) (bar s)) (bar (45 :: (if n = 0 then s else Lib.decDigits n ++ s))) := by
 induction m with
 | zero =>
  intro n s h _ hs _
  obtain rfl : n = 0 := by omega
  refine Ev.step (fun k => by rw [xM.l0]) ?_
  refine uY (by omega) (qM (by rw [kV]; omega) ?_)
  exact zYP (congrArg some (nE [45] s))
 | succ m ih =>
  intro n s h hn hs h0
  refine Ev.step (fun k => by rw [xM.l0]) ?_
  by_cases h9 : n = 0
  ·subst h9
   refine uY (by omega) (qM (by rw [kV]; omega) ?_)
   exact zYP (congrArg some (nE [45] s))
  ·have e : wrap64 (Int.tdiv (-(n : Int)) 10) = -((n / 10 : Nat) : Int) := by rw [zKS, Yi (by omega) (by omega)]
   rw [e, zcG]
   refine qM (by omega) (Zu (qM ?_ ?_))
   ·rw [Vz, kV, kV]; simp only [List.length_cons, List.length_nil]; omega
   ·rw [Vz, nE, if_neg h9]
    refine wT ?_ (ih (n / 10) _ (by rw [Nat.pow_succ] at h; omega) (by omega) ?_ ?_)
    ·congr 2
     rw [Jb n]
     by_cases hz : n / 10 = 0
     ·rw [if_pos hz, WJ n (by omega)]; rfl
     ·rw [if_neg hz, lC n (by omega), List.append_assoc]; rfl
    ·simp only [List.length_append, List.length_cons, List.length_nil]; omega
    ·intro _ h; cases h
theorem zQl (n : Int) (h0 : -9223372036854775808 ≤ n) (h1 : n ≤ 9223372036854775807) : Ev (fun k => xM.f k n) (bar (Lib.itoa n)) := by
 unfold xM.f Lib.itoa
 by_cases hn : n < 0
 ·refine uY (by omega) ?_
  rw [if_pos hn]
  have e : n = -(n.natAbs : Int) := by omega
  refine wT ?_ (Ev.congr (fun k => ?_) (zXR 19 n.natAbs [] (by omega) (by omega) (by simp) (by omega)))
  ·rw [if_neg (by omega), List.append_nil]
  ·rw [← e]; rfl
 ·refine qM (by omega) ?_
  rw [if_neg hn]
  have e : n = (n.toNat : Int) := by omega
  refine Ev.bind (a := bar (Lib.decDigits n.toNat)) (Ev.congr (fun k => ?_) (zqL n.toNat (by omega))) (Ev.now _)
  rw [← e]
end Go.Proofs.YtaifemkokfoadaaGreatDoor
namespace Go.Proofs.YtaifemkokfoadaaGreatDoor
open Go.RowKit Go.Proofs.zy.zu
def zqw : BY ⊕ Int → Value
 | .inl s => .iface 9 (.string s)
 | .inr n => .iface 3 (.int .i64 n)
def Q5 : BY ⊕ Int → List UInt8
 | .inl s => s.data.toList
 | .inr n => Lib.itoa n
def jl (ps : List (BY ⊕ Int)) : List UInt8 := (ps.map Q5).flatten
theorem zQm (ps : List (BY ⊕ Int)) (k : Nat) (x : BY ⊕ Int) (h : ps[k]? = some x) : jl (ps.take (k + 1)) = jl (ps.take k) ++ Q5 x := by
 unfold jl
 rw [List.take_add_one, h]; simp
theorem zKT (ps : List (BY ⊕ Int)) (k : Nat) : (jl (ps.take k)).length ≤ (jl ps).length := by
 have : jl ps = jl (ps.take k) ++ jl (ps.drop k) := by
  unfold jl; rw [← List.flatten_append, ← List.map_append, List.take_append_drop]
 rw [this, List.length_append]; omega
theorem zXS (s : BY) : (Q5 (.inl s)).length = s.size := Array.length_toList
theorem Jr (l : List UInt8) : (Lib.byteCells l).length = l.length := by simp [Lib.byteCells]
theorem Xn {T e : TypeId} {B b : Nat} {bs : List Value} {w w' : World} (h : Lib.IsBuilder T e B b bs w) (hb : Below w.heap.size w w') : Lib.IsBuilder T e B b bs w' := by
 have key : ∀ p, Lib.BuilderAt T e B b p bs w → Lib.BuilderAt T e B b p bs w' := fun p ⟨h1, v, h2, h3, h4⟩ => ⟨h1, v, (hb.block b (Array.getElem?_eq_some_iff.1 h2).1).trans h2, gI h3 hb, h4⟩
 exact h.imp (key _) (key _)
set_option maxRecDepth 100000 in
set_option maxHeartbeats 2000000 in
theorem zjn (ps : List (BY ⊕ Int)) (g off c : Nat) (w : World) (hG : GW w) (hn : ∀ n, .inr n ∈ ps → -9223372036854775808 ≤ n ∧ n ≤ 9223372036854775807)
  (hc : ∀ j x, ps[j]? = some x → w.cell? ⟨g, off + j, none⟩ = some (zqw x)) (hg : g < w.heap.size) (hp : ps.length ≤ 1000000) (hlen : (jl ps).length ≤ 140737488355328) :
  Calls Tryz.prog 84 #[.slice (some ⟨g, off, none⟩) ps.length c] w fun e w' => e = .returned (.string (bar (jl ps))) ∧ Below w.heap.size w w' := by
 have ta1 : ∀ (s : BY) (W : World), (Instr.typeAssert (.iface 9 (.string s)) 20 9 true).run Tryz.prog W = .ok (.tuple #[.string s, .bool true]) W := fun _ _ => by rfl
 have ta2 : ∀ (n : Int) (W : World), (Instr.typeAssert (.iface 3 (.int .i64 n)) 20 9 true).run Tryz.prog W = .ok (.tuple #[.string ⟨#[]⟩, .bool false]) W := fun _ _ => by rfl
 have ta3 : ∀ (n : Int) (W : World), (Instr.typeAssert (.iface 3 (.int .i64 n)) 20 3 true).run Tryz.prog W = .ok (.tuple #[.int .i64 n, .bool true]) W := fun _ _ => by rfl
 go_enter Tryz.func84, Tryz.ntmps84
 go_wp2_with fail
 go_loopw [10] (fun i wr => ∃ k : Nat, k ≤ ps.length ∧ i = .int .i64 k ∧ Lib.IsBuilder 129 5 w.heap.size w.heap.size (Lib.byteCells (jl (ps.take k))) wr ∧ Below w.heap.size w wr) (fun i _ => ps.length - (intOf i).toNat)
 case atStart =>
  refine ⟨0, Nat.zero_le _, rfl, .inl ?_, (Below.refl _ _).alloc (Nat.le_refl _) _⟩
  exact ⟨Nat.le_refl _, .slice none 0 0, World.alloc_heap_new w _, World.ownsRow_nil _ _ _ _, by simp [Value.ownBlock]⟩
 case round =>
  obtain ⟨k, hk, rfl, hB, hb⟩ := hrel
  have HB := Lib.hid hB
  clear hB
  by_cases hlt : k < ps.length
  ·have hx := List.getElem?_eq_getElem hlt
   have hcell : wr.cell? ⟨g, off + k, none⟩ = some (zqw ps[k]) := (hb.cell (p := ⟨g, off + k, none⟩) hg).trans (hc k _ hx)
   have zw3 := zQm ps k _ hx
   have hle := zKT ps (k + 1)
   rw [zw3, List.length_append] at hle
   have HS := Lib.hid zw3
   clear zw3
   have hmem : ps[k] ∈ ps := List.getElem_mem hlt
   have hz := hb.size
   have hG2 := hG.under hb
   generalize ps[k] = x at hx hcell HS hle hmem
   clear hx
   cases x with
   | inl s =>
    have e1 := zXS s
    have hw := Tryz.Builder_WriteString w.heap.size w.heap.size _ s wr HB.out (by rw [Jr]; omega) hz
    clear e1
    simp only [zqw] at hcell
    clear hle hmem HB
    go_wp2_with fail
    refine hw.mono ?_; rintro e w2 ⟨rfl, hB2, hb2⟩
    go_wp2_with fail
    go_roundw
    case rel => exact ⟨k + 1, by omega, by go_num, by rw [HS.out]; exact .inr (by simpa [Lib.byteCells, Lib.strCells, Q5] using hB2), hb.trans hb2⟩
    case measure => simp [intOf]; omega
   | inr n =>
    obtain ⟨n0, n1⟩ := hn n hmem
    have hi := zQM n wr n0 n1 hG2
    simp only [zqw] at hcell
    have hl1 : (jl (ps.take k)).length + (Lib.itoa n).length ≤ 140737488355328 := Nat.le_trans hle hlen
    clear hle hmem
    go_wp2_with fail
    refine hi.mono ?_; rintro e w2 ⟨rfl, hb2⟩
    have hB2 : Lib.IsBuilder 129 5 w.heap.size w.heap.size (Lib.byteCells (jl (ps.take k))) w2 := Xn HB.out hb2
    have hw := Tryz.Builder_WriteString w.heap.size w.heap.size _ (bar (Lib.itoa n)) w2 hB2 (by rw [Jr, kV]; exact hl1) (Nat.le_trans hz hb2.size)
    clear hB2
    go_wp2_with fail
    refine hw.mono ?_; rintro e w3 ⟨rfl, hB3, hb3⟩
    go_wp2_with fail
    go_roundw
    case rel => exact ⟨k + 1, by omega, by go_num, by rw [HS.out]; exact .inr (by simpa [Lib.byteCells, Lib.strCells, Q5, XR] using hB3), (hb.trans (hb2.mono hz)).trans hb3⟩
    case measure => simp [intOf]; omega
  ·obtain rfl : k = ps.length := by omega
   rw [List.take_length] at HB
   have hs := Tryz.Builder_String_any w.heap.size w.heap.size _ wr HB.out hb.size
   clear HB
   go_wp2_with fail
   refine hs.mono ?_; rintro e w2 ⟨rfl, hb2⟩
   go_wp2_with fail
   go_ret
   exact ⟨rfl, hb.trans hb2⟩
end Go.Proofs.YtaifemkokfoadaaGreatDoor
namespace Go.Proofs.YtaifemkokfoadaaGreatDoor
open Go.RowKit Go.Shelf Go.Proofs.zy.zu Go.Proofs.zy.yI Go.Proofs.zy.yD Go.Proofs.YtaifemkokfoadaaGreatDoor.PX
def xq {α : Type} (f : α → List UInt8) (l : List α) (k : Nat) : List UInt8 := ((l.take k).map f).flatten
theorem Xe {α : Type} (f : α → List UInt8) (l : List α) : xq f l 0 = [] := rfl
theorem Qg {α : Type} (f : α → List UInt8) (l : List α) (k : Nat) (x : α) (h : l[k]? = some x) : xq f l (k + 1) = xq f l k ++ f x := by
 unfold xq
 rw [List.take_add_one, h]; simp
theorem UR {α : Type} (f : α → List UInt8) (l : List α) (k : Nat) : (xq f l k).length ≤ (xq f l l.length).length := by
 unfold xq
 rw [List.take_length]
 have h : (l.map f).flatten = ((l.take k).map f).flatten ++ ((l.drop k).map f).flatten := by rw [← List.flatten_append, ← List.map_append, List.take_append_drop]
 rw [h, List.length_append]; omega
def Jc (x : qg) : List (BY ⊕ Int) := [.inl ⟨#[103, 32]⟩, .inl x.f0, .inl ⟨#[32]⟩, .inr x.f1, .inl ⟨#[10]⟩]
def wS (x : qg) : List UInt8 := jl (Jc x)
def Jd (x : xC) : List (BY ⊕ Int) := [.inl ⟨#[108, 32]⟩, .inl x.f0, .inl ⟨#[32]⟩, .inl x.f1, .inl ⟨#[32]⟩, .inl x.f2, .inl ⟨#[10]⟩]
def Z8 (x : xC) : List UInt8 := jl (Jd x)
def Je (x : vk) : List (BY ⊕ Int) := [.inl ⟨#[107, 32]⟩, .inl x.f0, .inl ⟨#[32]⟩, .inl x.f1, .inl ⟨#[32]⟩, .inr x.f2, .inl ⟨#[10]⟩]
def XP (x : vk) : List UInt8 := jl (Je x)
def Xo (c : Int) : List (BY ⊕ Int) := [.inl ⟨#[10, 115, 112, 97, 99, 101, 32]⟩, .inr c, .inl ⟨#[10]⟩]
def Xf (a : BY) : List UInt8 := [102, 111, 110, 116, 32] ++ a.data.toList
def Z9 (a : BY) (b : Bool) : List UInt8 := Xf a ++ (if b = true then [32, 115, 112, 101, 99, 105, 97, 108] else [])
def jK (a : BY) (b : Bool) (c : Int) : List UInt8 := Z9 a b ++ jl (Xo c)
def QI (a : BY) (b : Bool) (c : Int) (l3 : List qg) (l4 : List xC) (l5 : List vk) : List UInt8 := ((jK a b c ++ xq wS l3 l3.length) ++ xq Z8 l4 l4.length) ++ xq XP l5 l5.length
theorem bU (B b : Nat) (l : List UInt8) (s : BY) (w : World) (h : Lib.IsBuilder 129 5 B b (Lib.byteCells l) w) (hlen : l.length + s.size ≤ 140737488355328) (hz : B ≤ w.heap.size) :
  Calls Tryz.prog 83 #[.pointer (some ⟨b, 0, none⟩), .string s] w fun e w' => e = .returned (.tuple #[.int .i64 s.size, .nilIface]) ∧ Lib.IsBuilder 129 5 B b (Lib.byteCells (l ++ s.data.toList)) w' ∧ Below B w w' :=
 (Tryz.Builder_WriteString B b _ s w h (by rw [Jr]; exact hlen) hz).mono fun e w' ⟨h1, h2, h3⟩ => ⟨h1, .inr (by simpa [Lib.byteCells, Lib.strCells] using h2), h3⟩
theorem Pq (ps : List (BY ⊕ Int)) (cs : Array Value) (t : TypeId) (n g : Nat) (W : World) (hg : g = W.heap.size) (hcs : cs = (ps.map zqw).toArray) (hps : n = ps.length) (hG : GW W) (hn : ∀ n, .inr n ∈ ps → -9223372036854775808 ≤ n ∧ n ≤ 9223372036854775807) (hp : ps.length ≤ 1000000) (hlen : (jl ps).length ≤ 140737488355328) :
  Calls Tryz.prog 84 #[.slice (some ⟨g, 0, none⟩) n n] (W.alloc (.cells cs t)) fun e w' => e = .returned (.string (bar (jl ps))) ∧ Below W.heap.size W w' := by
 subst hg hcs hps
 have hb : Below W.heap.size W (W.alloc (.cells (ps.map zqw).toArray t)) := (Below.refl _ W).alloc (Nat.le_refl _) _
 refine (zjn ps W.heap.size 0 ps.length _ (hG.under hb) hn ?_ (by simp) hp hlen).mono ?_
 ·intro j x hx
  rw [Nat.zero_add]
  refine xV (World.alloc_heap_new W _) j _ ?_
  simp [hx]
 ·rintro e w' ⟨rfl, h⟩
  exact ⟨rfl, hb.trans (h.mono (by simp))⟩
theorem zw4 (a : BY) (c : Int) (l3 : List qg) (l4 : List xC) (l5 : List vk) (h : qC a c l3 l4 l5 = true) :
  (0 ≤ c ∧ c ≤ 3000) ∧ (∀ x ∈ l3, 0 ≤ x.f1 ∧ x.f1 ≤ 3000) ∧ (∀ x ∈ l5, -500 ≤ x.f2 ∧ x.f2 ≤ 500) := by
 unfold qC at h
 split at h
 ·cases h
 ·rename_i q1
  split at h
  ·cases h
  ·rename_i q2
   split at h
   ·cases h
   ·rename_i q3
    simp only [Bool.or_eq_true, not_or, decide_eq_true_eq, XF] at q1
    simp only [Bool.or_eq_true, not_or, Bool.not_eq_true, Bool.not_eq_false'] at q2
    rw [Bool.and_eq_true] at h
    refine ⟨by omega, fun x hx => ?_, fun x hx => ?_⟩
    ·have h1 := List.any_eq_false.1 q2.1 x hx
     unfold Jh XF at h1
     simp only [Bool.or_eq_true, not_or, decide_eq_true_eq] at h1
     omega
    ·have h2 : l5.any (VD l3) = false := by simpa using h.1
     have h1 := List.any_eq_false.1 h2 x hx
     unfold VD at h1
     simp only [Bool.or_eq_true, not_or, decide_eq_true_eq] at h1
     omega
theorem Xg (a b : BY) : (a ++ b).data.toList = a.data.toList ++ b.data.toList := by simp
set_option maxRecDepth 100000 in
set_option maxHeartbeats 8000000 in
theorem zXT (a : BY) (b : Bool) (c : Int) (A3 : Option Addr) (c3 : Nat) (l3 : List qg) (A4 : Option Addr) (c4 : Nat) (l4 : List xC) (A5 : Option Addr) (c5 : Nat) (l5 : List vk) (g3 : l3.length ≤ c3) (g4 : l4.length ≤ c4) (g5 : l5.length ≤ c5) (w : World) (hG : GW w) (h3 : Kd.C uf w A3 l3.length l3) (h4 : Kd.C jd w A4 l4.length l4) (h5 : Kd.C jh w A5 l5.length l5) (hl3 : l3.length ≤ 1000000000) (hl4 : l4.length ≤ 1000000000) (hl5 : l5.length ≤ 1000000000) (hv : qC a c l3 l4 l5 = true) (hlen : (QI a b c l3 l4 l5).length ≤ 1000000000) :
  Calls Tryz.prog 25 #[.agg #[.string a, .bool b, .int .i64 c, .slice A3 l3.length c3, .slice A4 l4.length c4, .slice A5 l5.length c5]] w fun e w' => e = .returned (.tuple #[.string (bar (QI a b c l3 l4 l5)), .int .i64 0]) ∧ Below w.heap.size w w' := by
 have hbx : Below w.heap.size w (w.alloc (.cells #[.string a, .bool b, .int .i64 c, .slice A3 l3.length c3, .slice A4 l4.length c4, .slice A5 l5.length c5] 26)) := (Below.refl _ w).alloc (Nat.le_refl _) _
 have hval := jV.calls a b c A3 c3 l3 A4 c4 l4 A5 c5 l5 true (w.alloc (.cells #[.string a, .bool b, .int .i64 c, .slice A3 l3.length c3, .slice A4 l4.length c4, .slice A5 l5.length c5] 26)) (Kd.zY h3 hbx) g3 (Kd.zY h4 hbx) g4 (Kd.zY h5 hbx) g5 (hG.under hbx) (by unfold jV.f; rw [if_pos ⟨hl3, hl4, hl5⟩, hv])
 obtain ⟨nc, n3, n5⟩ := zw4 a c l3 l4 l5 hv
 have hT : (jK a b c).length + (xq wS l3 l3.length).length + (xq Z8 l4 l4.length).length + (xq XP l5 l5.length).length ≤ 1000000000 := by
  have := hlen
  unfold QI at this
  simp only [List.length_append] at this
  omega
 have hT2 : (Z9 a b).length + (jl (Xo c)).length = (jK a b c).length := by unfold jK; rw [List.length_append]
 have hT1 : (Xf a).length ≤ (Z9 a b).length := by unfold Z9; rw [List.length_append]; omega
 have hT3 : (Xf a).length = 5 + a.size := by unfold Xf; rw [List.length_append]; rfl
 have hT4 : b = true → (Xf a).length + 8 = (Z9 a b).length := by intro h; unfold Z9; rw [List.length_append, if_pos h]; rfl
 generalize hwv : QI a b c l3 l4 l5 = V
 have HV := Lib.hid hwv
 clear hwv hlen hv
 go_enter Tryz.func25, Tryz.ntmps25
 go_wp2_with fail
 refine hval.mono ?_; rintro e w1 ⟨rfl, hb1⟩
 have hbw : Below w.heap.size w w1 := hbx.trans (hb1.mono hbx.size)
 have BX : w1.heap[w.heap.size]? = some (.cells #[.string a, .bool b, .int .i64 c, .slice A3 l3.length c3, .slice A4 l4.length c4, .slice A5 l5.length c5] 26 (0, 0)) := zl (je w _) hb1
 have hG1 := hG.under hbw
 have k3 := Kd.zY h3 hbw
 have k4 := Kd.zY h4 hbw
 have k5 := Kd.zY h5 hbw
 have hlt : w.heap.size < w1.heap.size := uD BX
 have hf : ∀ W, Below w1.heap.size w1 W → W.heap[w.heap.size]? = some (.cells #[.string a, .bool b, .int .i64 c, .slice A3 l3.length c3, .slice A4 l4.length c4, .slice A5 l5.length c5] 26 (0, 0)) := fun W h => zl BX h
 have HF := Lib.hid hf
 have q0 : (w1.alloc (.cells #[.pointer none, .slice none 0 0] 129)).cell? ⟨w.heap.size, 0, none⟩ = some (.string a) := (zk (hf _ ((Below.refl _ _).alloc (Nat.le_refl _) _)) 0).trans rfl
 clear hval hb1 hbx hG h3 h4 h5 hf
 go_wp2_with fail
 refine (bU w1.heap.size w1.heap.size [] ((⟨#[102, 111, 110, 116, 32]⟩ : BY) ++ a) _ (.inl ⟨Nat.le_refl _, .slice none 0 0, World.alloc_heap_new w1 _, World.ownsRow_nil _ _ _ _, by simp [Value.ownBlock]⟩) (by rw [ByteArray.size_append]; show 0 + (5 + a.size) ≤ _; omega) (by simp)).mono ?_
 rintro e w2 ⟨rfl, hB, hbb⟩
 have hb2 : Below w1.heap.size w1 w2 := ((Below.refl _ w1).alloc (Nat.le_refl _) _).trans hbb
 have hB : Lib.IsBuilder 129 5 w1.heap.size w1.heap.size (Lib.byteCells (Xf a)) w2 := by rw [List.nil_append, Xg] at hB; exact hB
 clear hbb
 have YE := zx.mk hB
 clear hB
 have HT := zx.mk (And.intro hT (And.intro hT2 (And.intro hT1 (And.intro hT3 hT4))))
 clear hT hT2 hT1 hT3 hT4
 cases hbv : b
 case' true =>
  have hcb : w2.cell? ⟨w.heap.size, 1, none⟩ = some (.bool true) := by rw [← hbv]; exact (zk (HF.out w2 hb2) 1).trans rfl
  go_wp2_with fail
  refine (bU w1.heap.size w1.heap.size (Xf a) (⟨#[32, 115, 112, 101, 99, 105, 97, 108]⟩ : BY) w2 YE.out (by obtain ⟨p1, p2, p3, p4, p5⟩ := HT.out; have := p5 hbv; show (Xf a).length + 8 ≤ _; omega) hb2.size).mono ?_
  rintro e w2 ⟨rfl, hB, hbb⟩
  have hb2 : Below w1.heap.size w1 w2 := hb2.trans hbb
  clear hcb YE
  have YE : zx (Lib.IsBuilder 129 5 w1.heap.size w1.heap.size (Lib.byteCells (Z9 a b)) w2) := ⟨by unfold Z9; rw [if_pos hbv]; exact hB⟩
  clear hB hbb
 case' false =>
  have hcb : w2.cell? ⟨w.heap.size, 1, none⟩ = some (.bool false) := by rw [← hbv]; exact (zk (HF.out w2 hb2) 1).trans rfl
  have YE : zx (Lib.IsBuilder 129 5 w1.heap.size w1.heap.size (Lib.byteCells (Z9 a b)) w2) := ⟨by unfold Z9; rw [if_neg (by rw [hbv]; simp), List.append_nil]; exact YE.out⟩
 all_goals
  have hc2 : w2.cell? ⟨w.heap.size, 2, none⟩ = some (.int .i64 c) := (zk (HF.out w2 hb2) 2).trans rfl
  go_wp2_with fail
  refine (Pq (Xo c) _ _ 3 w2.heap.size w2 rfl (by rfl) (by rfl) (hG1.under hb2) (by intro n hn; simp [Xo] at hn; omega) (by show 3 ≤ 1000000; decide) (by obtain ⟨p1, p2, p3, p4, p5⟩ := HT.out; omega)).mono ?_
  rintro e w3 ⟨rfl, hb3⟩
  clear hc2
  go_wp2_with fail
  refine (bU w1.heap.size w1.heap.size (Z9 a b) (bar (jl (Xo c))) w3 (Xn YE.out hb3) (by obtain ⟨p1, p2, p3, p4, p5⟩ := HT.out; rw [kV]; omega) (Nat.le_trans hb2.size hb3.size)).mono ?_
  rintro e w4 ⟨rfl, hB, hbb⟩
  have hb4 : Below w1.heap.size w1 w4 := (hb2.trans (hb3.mono hb2.size)).trans hbb
  have YE : zx (Lib.IsBuilder 129 5 w1.heap.size w1.heap.size (Lib.byteCells (jK a b c ++ xq wS l3 0)) w4) := ⟨by rw [XR] at hB; rw [Xe, List.append_nil]; exact hB⟩
  clear hB hbb hb3 hb2
  have hc3 : w4.cell? ⟨w.heap.size, 3, none⟩ = some (.slice A3 l3.length c3) := (zk (HF.out w4 hb4) 3).trans rfl
  go_wp2_with fail
  go_loopw [32] (fun y W => ∃ k : Nat, y = .int .i64 (k : Int) ∧ k ≤ l3.length ∧ zx (Lib.IsBuilder 129 5 w1.heap.size w1.heap.size (Lib.byteCells (jK a b c ++ xq wS l3 k)) W) ∧ zx (Below w1.heap.size w1 W)) (fun y _ => l3.length - (intOf y).toNat)
  case atStart => exact ⟨0, rfl, Nat.zero_le _, YE, ⟨hb4⟩⟩
  case round =>
   clear YE hb4 hc3
   obtain ⟨k, rfl, hk, YE, HB⟩ := hrel
   by_cases hlt : k < l3.length
   ·have hx := List.getElem?_eq_getElem hlt
    obtain ⟨ad, e, x0, x1⟩ := VB (Kd.zY k3 HB.out) (k : Int) (by omega) (by omega)
    cases e
    have e : xL l3 (k : Int) = l3[k] := by simp [xL, List.getD_eq_getElem?_getD, hlt]
    rw [Int.toNat_natCast, e] at x0 x1
    clear e
    generalize l3[k] = x at hx x0 x1
    have HS := zx.mk (Qg wS l3 k x hx)
    have hle := UR wS l3 (k + 1)
    rw [HS.out, List.length_append] at hle
    have hL : (jK a b c ++ xq wS l3 k).length + (jl (Jc x)).length ≤ 1000000000 := by obtain ⟨p1, p2, p3, p4, p5⟩ := HT.out; have e : wS x = jl (Jc x) := rfl; rw [e] at hle; simp only [List.length_append] at hle ⊢; omega
    have HL := zx.mk hL
    have q1 : (k : Int) < (l3.length : Int) := by omega
    have q0 : (0 : Int) ≤ (k : Int) := by omega
    have q3 : ((k : Int)).toNat = k := Int.toNat_natCast k
    clear hle hL
    go_wp2_with fail
    have hbX : Below wr.heap.size wr (wr.alloc (.cells #[.string x.f0, .int .i64 x.f1] 31)) := (Below.refl _ wr).alloc (Nat.le_refl _) _
    have hzX : (wr.alloc (.cells #[.string x.f0, .int .i64 x.f1] 31)).heap.size = wr.heap.size + 1 := by simp
    refine (Pq (Jc x) _ _ 5 (wr.heap.size + 1) (wr.alloc (.cells #[.string x.f0, .int .i64 x.f1] 31)) hzX.symm (by rfl) (by rfl) ((hG1.under HB.out).under hbX) (by have := n3 x (List.mem_of_getElem? hx); intro n hn; simp [Jc] at hn; omega) (by show 5 ≤ 1000000; decide) (by have := HL.out; omega)).mono ?_
    rintro e w5 ⟨rfl, hb5⟩
    have hb6 : Below wr.heap.size wr w5 := hbX.trans (hb5.mono hbX.size)
    clear hbX hzX hb5
    go_wp2_with fail
    refine (bU w1.heap.size w1.heap.size (jK a b c ++ xq wS l3 k) (bar (jl (Jc x))) w5 (Xn YE.out hb6) (by have := HL.out; rw [kV]; omega) (Nat.le_trans HB.out.size hb6.size)).mono ?_
    rintro e w7 ⟨rfl, hB, hbb⟩
    have HB2 : zx (Below w1.heap.size w1 w7) := ⟨(HB.out.trans (hb6.mono HB.out.size)).trans hbb⟩
    have zjo : zx (Lib.IsBuilder 129 5 w1.heap.size w1.heap.size (Lib.byteCells (jK a b c ++ xq wS l3 (k + 1))) w7) := ⟨by rw [XR, List.append_assoc] at hB; rw [HS.out]; exact hB⟩
    clear hB hbb hb6 YE HB
    go_wp2_with fail
    go_roundw
    case rel => exact ⟨k + 1, by first | rfl | (simp; done) | go_num, by omega, zjo, HB2⟩
    case measure => simp [intOf]; omega
   ·obtain rfl : k = l3.length := by omega
    have sM := HB.out
    have YE : zx (Lib.IsBuilder 129 5 w1.heap.size w1.heap.size (Lib.byteCells ((jK a b c ++ xq wS l3 l3.length) ++ xq Z8 l4 0)) wr) := ⟨by rw [Xe, List.append_nil]; exact YE.out⟩
    clear HB
    have hc4 : wr.cell? ⟨w.heap.size, 4, none⟩ = some (.slice A4 l4.length c4) := (zk (HF.out wr sM) 4).trans rfl
    go_wp2_with fail
    go_loopw [52] (fun y W => ∃ k : Nat, y = .int .i64 (k : Int) ∧ k ≤ l4.length ∧ zx (Lib.IsBuilder 129 5 w1.heap.size w1.heap.size (Lib.byteCells ((jK a b c ++ xq wS l3 l3.length) ++ xq Z8 l4 k)) W) ∧ zx (Below w1.heap.size w1 W)) (fun y _ => l4.length - (intOf y).toNat)
    case atStart => exact ⟨0, rfl, Nat.zero_le _, YE, ⟨sM⟩⟩
    case round =>
     clear YE sM hc4
     obtain ⟨k, rfl, hk, YE, HB⟩ := hrel
     by_cases hlt : k < l4.length
     ·have hx := List.getElem?_eq_getElem hlt
      obtain ⟨ad, e, x0, x1, x2⟩ := gU (Kd.zY k4 HB.out) (k : Int) (by omega) (by omega)
      cases e
      have e : uE l4 (k : Int) = l4[k] := by simp [uE, List.getD_eq_getElem?_getD, hlt]
      rw [Int.toNat_natCast, e] at x0 x1 x2
      clear e
      generalize l4[k] = x at hx x0 x1 x2
      have HS := zx.mk (Qg Z8 l4 k x hx)
      have hle := UR Z8 l4 (k + 1)
      rw [HS.out, List.length_append] at hle
      have hL : ((jK a b c ++ xq wS l3 l3.length) ++ xq Z8 l4 k).length + (jl (Jd x)).length ≤ 1000000000 := by obtain ⟨p1, p2, p3, p4, p5⟩ := HT.out; have e : Z8 x = jl (Jd x) := rfl; rw [e] at hle; simp only [List.length_append] at hle ⊢; omega
      have HL := zx.mk hL
      have q1 : (k : Int) < (l4.length : Int) := by omega
      have q0 : (0 : Int) ≤ (k : Int) := by omega
      have q3 : ((k : Int)).toNat = k := Int.toNat_natCast k
      clear hle hL
      go_wp2_with fail
      have hbX : Below wr.heap.size wr (wr.alloc (.cells #[.string x.f0, .string x.f1, .string x.f2] 86)) := (Below.refl _ wr).alloc (Nat.le_refl _) _
      have hzX : (wr.alloc (.cells #[.string x.f0, .string x.f1, .string x.f2] 86)).heap.size = wr.heap.size + 1 := by simp
      refine (Pq (Jd x) _ _ 7 (wr.heap.size + 1) (wr.alloc (.cells #[.string x.f0, .string x.f1, .string x.f2] 86)) hzX.symm (by rfl) (by rfl) ((hG1.under HB.out).under hbX) (by intro n hn; simp [Jd] at hn) (by show 7 ≤ 1000000; decide) (by have := HL.out; omega)).mono ?_
      rintro e w5 ⟨rfl, hb5⟩
      have hb6 : Below wr.heap.size wr w5 := hbX.trans (hb5.mono hbX.size)
      clear hbX hzX hb5
      go_wp2_with fail
      refine (bU w1.heap.size w1.heap.size ((jK a b c ++ xq wS l3 l3.length) ++ xq Z8 l4 k) (bar (jl (Jd x))) w5 (Xn YE.out hb6) (by have := HL.out; rw [kV]; omega) (Nat.le_trans HB.out.size hb6.size)).mono ?_
      rintro e w7 ⟨rfl, hB, hbb⟩
      have HB2 : zx (Below w1.heap.size w1 w7) := ⟨(HB.out.trans (hb6.mono HB.out.size)).trans hbb⟩
      have zjo : zx (Lib.IsBuilder 129 5 w1.heap.size w1.heap.size (Lib.byteCells ((jK a b c ++ xq wS l3 l3.length) ++ xq Z8 l4 (k + 1))) w7) := ⟨by rw [XR, List.append_assoc] at hB; rw [HS.out]; exact hB⟩
      clear hB hbb hb6 YE HB
      go_wp2_with fail
      go_roundw
      case rel => exact ⟨k + 1, by first | rfl | (simp; done) | go_num, by omega, zjo, HB2⟩
      case measure => simp [intOf]; omega
     ·obtain rfl : k = l4.length := by omega
      have sM := HB.out
      have YE : zx (Lib.IsBuilder 129 5 w1.heap.size w1.heap.size (Lib.byteCells (((jK a b c ++ xq wS l3 l3.length) ++ xq Z8 l4 l4.length) ++ xq XP l5 0)) wr) := ⟨by rw [Xe, List.append_nil]; exact YE.out⟩
      clear HB
      have hc5 : wr.cell? ⟨w.heap.size, 5, none⟩ = some (.slice A5 l5.length c5) := (zk (HF.out wr sM) 5).trans rfl
      go_wp2_with fail
      go_loopw [76] (fun y W => ∃ k : Nat, y = .int .i64 (k : Int) ∧ k ≤ l5.length ∧ zx (Lib.IsBuilder 129 5 w1.heap.size w1.heap.size (Lib.byteCells (((jK a b c ++ xq wS l3 l3.length) ++ xq Z8 l4 l4.length) ++ xq XP l5 k)) W) ∧ zx (Below w1.heap.size w1 W)) (fun y _ => l5.length - (intOf y).toNat)
      case atStart => exact ⟨0, rfl, Nat.zero_le _, YE, ⟨sM⟩⟩
      case round =>
       clear YE sM hc5
       obtain ⟨k, rfl, hk, YE, HB⟩ := hrel
       by_cases hlt : k < l5.length
       ·have hx := List.getElem?_eq_getElem hlt
        obtain ⟨ad, e, x0, x1, x2⟩ := mq (Kd.zY k5 HB.out) (k : Int) (by omega) (by omega)
        cases e
        have e : jq l5 (k : Int) = l5[k] := by simp [jq, List.getD_eq_getElem?_getD, hlt]
        rw [Int.toNat_natCast, e] at x0 x1 x2
        clear e
        generalize l5[k] = x at hx x0 x1 x2
        have HS := zx.mk (Qg XP l5 k x hx)
        have hle := UR XP l5 (k + 1)
        rw [HS.out, List.length_append] at hle
        have hL : (((jK a b c ++ xq wS l3 l3.length) ++ xq Z8 l4 l4.length) ++ xq XP l5 k).length + (jl (Je x)).length ≤ 1000000000 := by obtain ⟨p1, p2, p3, p4, p5⟩ := HT.out; have e : XP x = jl (Je x) := rfl; rw [e] at hle; simp only [List.length_append] at hle ⊢; omega
        have HL := zx.mk hL
        have q1 : (k : Int) < (l5.length : Int) := by omega
        have q0 : (0 : Int) ≤ (k : Int) := by omega
        have q3 : ((k : Int)).toNat = k := Int.toNat_natCast k
        clear hle hL
        go_wp2_with fail
        have hbX : Below wr.heap.size wr (wr.alloc (.cells #[.string x.f0, .string x.f1, .int .i64 x.f2] 76)) := (Below.refl _ wr).alloc (Nat.le_refl _) _
        have hzX : (wr.alloc (.cells #[.string x.f0, .string x.f1, .int .i64 x.f2] 76)).heap.size = wr.heap.size + 1 := by simp
        refine (Pq (Je x) _ _ 7 (wr.heap.size + 1) (wr.alloc (.cells #[.string x.f0, .string x.f1, .int .i64 x.f2] 76)) hzX.symm (by rfl) (by rfl) ((hG1.under HB.out).under hbX) (by have := n5 x (List.mem_of_getElem? hx); intro n hn; simp [Je] at hn; omega) (by show 7 ≤ 1000000; decide) (by have := HL.out; omega)).mono ?_
        rintro e w5 ⟨rfl, hb5⟩
        have hb6 : Below wr.heap.size wr w5 := hbX.trans (hb5.mono hbX.size)
        clear hbX hzX hb5
        go_wp2_with fail
        refine (bU w1.heap.size w1.heap.size (((jK a b c ++ xq wS l3 l3.length) ++ xq Z8 l4 l4.length) ++ xq XP l5 k) (bar (jl (Je x))) w5 (Xn YE.out hb6) (by have := HL.out; rw [kV]; omega) (Nat.le_trans HB.out.size hb6.size)).mono ?_
        rintro e w7 ⟨rfl, hB, hbb⟩
        have HB2 : zx (Below w1.heap.size w1 w7) := ⟨(HB.out.trans (hb6.mono HB.out.size)).trans hbb⟩
        have zjo : zx (Lib.IsBuilder 129 5 w1.heap.size w1.heap.size (Lib.byteCells (((jK a b c ++ xq wS l3 l3.length) ++ xq Z8 l4 l4.length) ++ xq XP l5 (k + 1))) w7) := ⟨by rw [XR, List.append_assoc] at hB; rw [HS.out]; exact hB⟩
        clear hB hbb hb6 YE HB
        go_wp2_with fail
        go_roundw
        case rel => exact ⟨k + 1, by first | rfl | (simp; done) | go_num, by omega, zjo, HB2⟩
        case measure => simp [intOf]; omega
       ·obtain rfl : k = l5.length := by omega
        have sM := HB.out
        have HBe : Lib.IsBuilder 129 5 w1.heap.size w1.heap.size (Lib.byteCells V) wr := by rw [← HV.out]; exact YE.out
        have hs := Tryz.Builder_String_any w1.heap.size w1.heap.size _ wr HBe sM.size
        clear YE HB HBe
        go_wp2_with fail
        refine hs.mono ?_; rintro e w2 ⟨rfl, zfF⟩
        go_wp2_with fail
        go_ret2
        exact ⟨rfl, (hbw.trans (sM.mono hbw.size)).trans (zfF.mono hbw.size)⟩
set_option maxRecDepth 100000 in
theorem zQn (a : BY) (b : Bool) (c : Int) (A3 : Option Addr) (c3 : Nat) (l3 : List qg) (A4 : Option Addr) (c4 : Nat) (l4 : List xC) (A5 : Option Addr) (c5 : Nat) (l5 : List vk) (g3 : l3.length ≤ c3) (g4 : l4.length ≤ c4) (g5 : l5.length ≤ c5) (w : World) (hG : GW w) (h3 : Kd.C uf w A3 l3.length l3) (h4 : Kd.C jd w A4 l4.length l4) (h5 : Kd.C jh w A5 l5.length l5) (hl3 : l3.length ≤ 1000000000) (hl4 : l4.length ≤ 1000000000) (hl5 : l5.length ≤ 1000000000) (hv : qC a c l3 l4 l5 = false) :
  Calls Tryz.prog 25 #[.agg #[.string a, .bool b, .int .i64 c, .slice A3 l3.length c3, .slice A4 l4.length c4, .slice A5 l5.length c5]] w fun e w' => e = .returned (.tuple #[.string (⟨#[]⟩ : BY), .int .i64 1]) ∧ Below w.heap.size w w' := by
 have hbx : Below w.heap.size w (w.alloc (.cells #[.string a, .bool b, .int .i64 c, .slice A3 l3.length c3, .slice A4 l4.length c4, .slice A5 l5.length c5] 26)) := (Below.refl _ w).alloc (Nat.le_refl _) _
 have hval := jV.calls a b c A3 c3 l3 A4 c4 l4 A5 c5 l5 false (w.alloc (.cells #[.string a, .bool b, .int .i64 c, .slice A3 l3.length c3, .slice A4 l4.length c4, .slice A5 l5.length c5] 26)) (Kd.zY h3 hbx) g3 (Kd.zY h4 hbx) g4 (Kd.zY h5 hbx) g5 (hG.under hbx) (by unfold jV.f; rw [if_pos ⟨hl3, hl4, hl5⟩, hv])
 clear hG h3 h4 h5
 go_enter Tryz.func25, Tryz.ntmps25
 go_wp2_with fail
 refine hval.mono ?_; rintro e w1 ⟨rfl, hb1⟩
 go_wp2
 go_ret2
 exact ⟨rfl, hbx.trans (hb1.mono hbx.size)⟩
end Go.Proofs.YtaifemkokfoadaaGreatDoor
namespace Go.Proofs.YtaifemkokfoadaaGreatDoor
open Go.RowKit Go.Proofs.zy.zu Go.Proofs.zy.yI Go.Proofs.zy.yD Go.Proofs.YtaifemkokfoadaaGreatDoor.PX
def wO (x : zo) : List UInt8 := [103, 32] ++ x.f0.data.toList ++ [32] ++ Lib.itoa x.f1 ++ [10]
def ZM (x : qF) : List UInt8 := [108, 32] ++ x.f0.data.toList ++ [32] ++ x.f1.data.toList ++ [32] ++ x.f2.data.toList ++ [10]
def Y7 (x : qG) : List UInt8 := [107, 32] ++ x.f0.data.toList ++ [32] ++ x.f1.data.toList ++ [32] ++ Lib.itoa x.f2 ++ [10]
def UU (a : BY) (b : Bool) (c : Int) (l3 : List zo) (l4 : List qF) (l5 : List qG) : List UInt8 := ((jK a b c ++ xq wO l3 l3.length) ++ xq ZM l4 l4.length) ++ xq Y7 l5 l5.length
theorem zjr (n : Int) (h0 : 0 ≤ n) (h1 : n ≤ 9223372036854775807) (W : World) : Calls Tryz.prog 113 #[.int .i64 n] W fun e w' => e = .returned (.string (bar (Lib.itoa n))) ∧ Below W.heap.size W w' := by
 obtain ⟨k, hk⟩ := (zqL n.toNat (by omega)).rounds
 have e : ((n.toNat : Nat) : Int) = n := by omega
 have hk : qp.f k n = some (bar (Lib.itoa n)) := by rw [← e]; rw [show Lib.itoa ((n.toNat : Nat) : Int) = Lib.decDigits n.toNat from by unfold Lib.itoa; rw [if_neg (by omega), e]]; exact hk
 exact qp.calls k n _ W hk
theorem zXU (n : Int) (h0 : -9223372036854775808 ≤ n) (h1 : n ≤ 9223372036854775807) (W : World) : Calls Tryz.prog 114 #[.int .i64 n] W fun e w' => e = .returned (.string (bar (Lib.itoa n))) ∧ Below W.heap.size W w' := by
 obtain ⟨k, hk⟩ := (zQl n h0 h1).rounds
 exact xM.calls k n _ W hk
theorem zjI (a : BY) (c : Int) (l3 : List zo) (l4 : List qF) (l5 : List qG) (h : Xt a c l3 l4 l5 = true) : (0 ≤ c ∧ c ≤ 3000) ∧ (∀ (i : Nat) (hi : i < l3.length), 0 ≤ l3[i].f1 ∧ l3[i].f1 ≤ 3000) ∧ (∀ (i : Nat) (hi : i < l5.length), -500 ≤ l5[i].f2 ∧ l5[i].f2 ≤ 500) := by
 unfold Xt at h
 simp only [Bool.and_eq_true, Bool.not_eq_true'] at h
 refine ⟨?_, fun i hi => ?_, fun i hi => ?_⟩
 ·have := h.1.2.1
  unfold wP at this
  simp only [Bool.or_eq_false_iff, decide_eq_false_iff_not] at this
  omega
 ·have h1 := List.all_eq_true.1 h.2.1 i (List.mem_range.2 hi)
  have e : zN l3 (i : Int) = l3[i] := by simp [zN, List.getD_eq_getElem?_getD, hi]
  unfold Qs wP at h1
  rw [e] at h1
  simp only [Bool.and_eq_true, Bool.not_eq_true', Bool.or_eq_false_iff, decide_eq_false_iff_not] at h1
  omega
 ·have h1 := List.all_eq_true.1 h.2.2.2 i (List.mem_range.2 hi)
  have e : xY l5 (i : Int) = l5[i] := by simp [xY, List.getD_eq_getElem?_getD, hi]
  unfold XT at h1
  rw [e] at h1
  simp only [Bool.and_eq_true, Bool.not_eq_true', decide_eq_false_iff_not] at h1
  omega
theorem zw5 {s : BY} {l : List UInt8} (h : s.data.toList = l) : s.size = l.length := by rw [← h, Array.length_toList]; rfl
set_option maxRecDepth 100000 in
theorem zw6 (a : BY) (b : Bool) (c : Int) (A3 : Option Addr) (c3 : Nat) (l3 : List zo) (A4 : Option Addr) (c4 : Nat) (l4 : List qF) (A5 : Option Addr) (c5 : Nat) (l5 : List qG) (w : World) (h3 : Kd.C qJ w A3 l3.length l3) (g3 : l3.length ≤ c3) (h4 : Kd.C jC w A4 l4.length l4) (g4 : l4.length ≤ c4) (h5 : Kd.C jS w A5 l5.length l5) (g5 : l5.length ≤ c5) (hl3 : l3.length ≤ 1000000000) (hl4 : l4.length ≤ 1000000000) (hl5 : l5.length ≤ 1000000000) (ha : a.size ≤ 140737488355328) (hz : ∀ x ∈ l3, x.f0.size ≤ 140737488355328) (hv : Xt a c l3 l4 l5 = false) :
  Calls Tryz.prog 75 #[.agg #[.string a, .bool b, .int .i64 c, .slice A3 l3.length c3, .slice A4 l4.length c4, .slice A5 l5.length c5]] w fun e w' => e = .returned (.tuple #[.string (⟨#[]⟩ : BY), .int .i64 1]) ∧ Below w.heap.size w w' := by
 have hbx : Below w.heap.size w (w.alloc (.cells #[.string a, .bool b, .int .i64 c, .slice A3 l3.length c3, .slice A4 l4.length c4, .slice A5 l5.length c5] 44)) := (Below.refl _ w).alloc (Nat.le_refl _) _
 have hval := JE a b c A3 c3 l3 A4 c4 l4 A5 c5 l5 (w.alloc (.cells #[.string a, .bool b, .int .i64 c, .slice A3 l3.length c3, .slice A4 l4.length c4, .slice A5 l5.length c5] 44)) (Kd.zY h3 hbx) g3 (Kd.zY h4 hbx) g4 (Kd.zY h5 hbx) g5 hl3 hl4 hl5 ha hz
 rw [hv] at hval
 clear h3 h4 h5 hz
 go_enter Tryz.func75, Tryz.ntmps75
 go_wp2_with fail
 refine hval.mono ?_; rintro e w1 ⟨rfl, hb1⟩
 go_wp2
 go_ret2
 exact ⟨rfl, hbx.trans (hb1.mono hbx.size)⟩
set_option maxRecDepth 100000 in
set_option maxHeartbeats 8000000 in
theorem zQo (a : BY) (b : Bool) (c : Int) (A3 : Option Addr) (c3 : Nat) (l3 : List zo) (A4 : Option Addr) (c4 : Nat) (l4 : List qF) (A5 : Option Addr) (c5 : Nat) (l5 : List qG) (w : World) (h3 : Kd.C qJ w A3 l3.length l3) (g3 : l3.length ≤ c3) (h4 : Kd.C jC w A4 l4.length l4) (g4 : l4.length ≤ c4) (h5 : Kd.C jS w A5 l5.length l5) (g5 : l5.length ≤ c5) (hl3 : l3.length ≤ 1000000000) (hl4 : l4.length ≤ 1000000000) (hl5 : l5.length ≤ 1000000000) (ha : a.size ≤ 140737488355328) (hz : ∀ x ∈ l3, x.f0.size ≤ 140737488355328) (hv : Xt a c l3 l4 l5 = true) (hlen : (UU a b c l3 l4 l5).length ≤ 1000000000) :
  Calls Tryz.prog 75 #[.agg #[.string a, .bool b, .int .i64 c, .slice A3 l3.length c3, .slice A4 l4.length c4, .slice A5 l5.length c5]] w fun e w' => e = .returned (.tuple #[.string (bar (UU a b c l3 l4 l5)), .int .i64 0]) ∧ Below w.heap.size w w' := by
 have hbx : Below w.heap.size w (w.alloc (.cells #[.string a, .bool b, .int .i64 c, .slice A3 l3.length c3, .slice A4 l4.length c4, .slice A5 l5.length c5] 44)) := (Below.refl _ w).alloc (Nat.le_refl _) _
 have hval := JE a b c A3 c3 l3 A4 c4 l4 A5 c5 l5 (w.alloc (.cells #[.string a, .bool b, .int .i64 c, .slice A3 l3.length c3, .slice A4 l4.length c4, .slice A5 l5.length c5] 44)) (Kd.zY h3 hbx) g3 (Kd.zY h4 hbx) g4 (Kd.zY h5 hbx) g5 hl3 hl4 hl5 ha hz
 rw [hv] at hval
 obtain ⟨nc, n3, n5⟩ := zjI a c l3 l4 l5 hv
 have hT : (jK a b c).length + (xq wO l3 l3.length).length + (xq ZM l4 l4.length).length + (xq Y7 l5 l5.length).length ≤ 1000000000 := by
  have := hlen
  unfold UU at this
  simp only [List.length_append] at this
  omega
 have hT2 : (Z9 a b).length + (jl (Xo c)).length = (jK a b c).length := by unfold jK; rw [List.length_append]
 have hT1 : (Xf a).length ≤ (Z9 a b).length := by unfold Z9; rw [List.length_append]; omega
 have hT3 : (Xf a).length = 5 + a.size := by unfold Xf; rw [List.length_append]; rfl
 have hT4 : b = true → (Xf a).length + 8 = (Z9 a b).length := by intro h; unfold Z9; rw [List.length_append, if_pos h]; rfl
 have hT5 : (jl (Xo c)).length = 7 + (Lib.itoa c).length + 1 := by simp [jl, Xo, Q5]; omega
 generalize hwv : UU a b c l3 l4 l5 = V
 have HV := zx.mk hwv
 clear hwv hlen hv hz
 go_enter Tryz.func75, Tryz.ntmps75
 go_wp2_with fail
 refine hval.mono ?_; rintro e w1 ⟨rfl, hb1⟩
 have hbw : Below w.heap.size w w1 := hbx.trans (hb1.mono hbx.size)
 have BX : w1.heap[w.heap.size]? = some (.cells #[.string a, .bool b, .int .i64 c, .slice A3 l3.length c3, .slice A4 l4.length c4, .slice A5 l5.length c5] 44 (0, 0)) := zl (je w _) hb1
 have k3 := zx.mk (Kd.zY h3 hbw)
 have k4 := zx.mk (Kd.zY h4 hbw)
 have k5 := zx.mk (Kd.zY h5 hbw)
 have HF := zx.mk (fun (W : World) (h : Below w1.heap.size w1 W) => zl BX h)
 have HT := zx.mk (And.intro hT (And.intro hT2 (And.intro hT1 (And.intro hT3 (And.intro hT4 hT5)))))
 have q0 : w1.cell? ⟨w.heap.size, 0, none⟩ = some (.string a) := (zk BX 0).trans rfl
 have q1 : w1.cell? ⟨w.heap.size, 1, none⟩ = some (.bool b) := (zk BX 1).trans rfl
 have q2 : w1.cell? ⟨w.heap.size, 2, none⟩ = some (.int .i64 c) := (zk BX 2).trans rfl
 have z0 : (9223372036854775807 < 5 + a.size) = False := eq_false (by omega)
 have z1 : (9223372036854775807 < 5 + a.size + 8) = False := eq_false (by omega)
 have hdig := zjr c nc.1 (by omega) w1
 have gG : (bar (Lib.itoa c)).data.toList = Lib.itoa c := XR _
 have hDz : (bar (Lib.itoa c)).size ≤ 1000000000 := by rw [kV]; omega
 generalize bar (Lib.itoa c) = D at hdig gG hDz
 have z2 : (9223372036854775807 < 7 + D.size) = False := eq_false (by omega)
 have z3 : (9223372036854775807 < 7 + D.size + 1) = False := eq_false (by omega)
 have z4 : (9223372036854775807 < 5 + a.size + (7 + D.size + 1)) = False := eq_false (by omega)
 have z5 : (9223372036854775807 < 5 + a.size + 8 + (7 + D.size + 1)) = False := eq_false (by omega)
 clear hval hb1 hbx h3 h4 h5 BX hT hT1 hT2 hT3 hT4 hT5
 cases hbv : b
 case' true =>
  rw [hbv] at q1
  go_wp2_with fail
  refine hdig.mono ?_; rintro e w2 ⟨rfl, hb2⟩
  have hs : ((((⟨#[102, 111, 110, 116, 32]⟩ : BY) ++ a) ++ (⟨#[32, 115, 112, 101, 99, 105, 97, 108]⟩ : BY)) ++ (((⟨#[10, 115, 112, 97, 99, 101, 32]⟩ : BY) ++ D) ++ (⟨#[10]⟩ : BY))).data.toList = jK a b c ++ xq wO l3 0 := by
   rw [Xe, List.append_nil]
   unfold jK Z9 Xf
   rw [if_pos hbv]
   simp only [Xg, gG, jl, Xo, Q5, List.map_cons, List.map_nil, List.flatten_cons, List.flatten_nil, List.append_nil]
   simp
  go_wp2_with fail
  generalize ((((⟨#[102, 111, 110, 116, 32]⟩ : BY) ++ a) ++ (⟨#[32, 115, 112, 101, 99, 105, 97, 108]⟩ : BY)) ++ (((⟨#[10, 115, 112, 97, 99, 101, 32]⟩ : BY) ++ D) ++ (⟨#[10]⟩ : BY))) = s at hs ⊢
 case' false =>
  rw [hbv] at q1
  go_wp2_with fail
  refine hdig.mono ?_; rintro e w2 ⟨rfl, hb2⟩
  have hs : (((⟨#[102, 111, 110, 116, 32]⟩ : BY) ++ a) ++ (((⟨#[10, 115, 112, 97, 99, 101, 32]⟩ : BY) ++ D) ++ (⟨#[10]⟩ : BY))).data.toList = jK a b c ++ xq wO l3 0 := by
   rw [Xe, List.append_nil]
   unfold jK Z9 Xf
   rw [if_neg (by rw [hbv]; simp)]
   simp only [Xg, gG, jl, Xo, Q5, List.map_cons, List.map_nil, List.flatten_cons, List.flatten_nil, List.append_nil]
   simp
  go_wp2_with fail
  generalize (((⟨#[102, 111, 110, 116, 32]⟩ : BY) ++ a) ++ (((⟨#[10, 115, 112, 97, 99, 101, 32]⟩ : BY) ++ D) ++ (⟨#[10]⟩ : BY))) = s at hs ⊢
 all_goals
  clear q0 q1 q2 z0 z1 z2 z3 z4 z5 hdig gG hDz
  have HB0 := zx.mk hb2
  have HS0 := zx.mk hs
  clear hb2 hs
  go_loopw [4, 5] (fun y4 y W => ∃ (k : Nat) (s : BY), y4 = .string s ∧ y = .int .i64 (k : Int) ∧ k ≤ l3.length ∧ zx (s.data.toList = jK a b c ++ xq wO l3 k) ∧ zx (Below w1.heap.size w1 W)) (fun _ y _ => l3.length - (intOf y).toNat)
  case atStart => exact ⟨0, s, rfl, rfl, Nat.zero_le _, HS0, HB0⟩
  case round =>
   clear HS0 HB0
   obtain ⟨k, s, rfl, rfl, hk, HS3, HB3⟩ := hrel
   have hcf : wr.cell? ⟨w.heap.size, 3, none⟩ = some (.slice A3 l3.length c3) := (zk (HF.out wr HB3.out) 3).trans rfl
   by_cases hlt : k < l3.length
   ·have hx := List.getElem?_eq_getElem hlt
    obtain ⟨ad, e, x0, x1⟩ := ZY (Kd.zY k3.out HB3.out) (k : Int) (by omega) (by omega)
    cases e
    have e : zN l3 (k : Int) = l3[k] := by simp [zN, List.getD_eq_getElem?_getD, hlt]
    rw [Int.toNat_natCast, e] at x0 x1
    clear e
    have zzs := n3 k hlt
    generalize l3[k] = x at hx zzs x0 x1
    have HS := zx.mk (Qg wO l3 k x hx)
    have hle := UR wO l3 (k + 1)
    rw [HS.out, List.length_append] at hle
    have hss := zw5 HS3.out
    have hL : s.size + (wO x).length ≤ 1000000000 := by obtain ⟨p1, p2, p3, p4, p5, p6⟩ := HT.out; rw [hss]; simp only [List.length_append] at hle ⊢; omega
    have hE : (wO x).length = 2 + x.f0.size + 1 + (Lib.itoa x.f1).length + 1 := by
     unfold wO
     simp only [List.length_append, List.length_cons, List.length_nil, Array.length_toList]
     rfl
    have hcl := fun W => zjr x.f1 (by omega) (by omega) W
    have gG : (bar (Lib.itoa x.f1)).data.toList = Lib.itoa x.f1 := XR _
    have hDz : (bar (Lib.itoa x.f1)).size = (Lib.itoa x.f1).length := kV _
    generalize bar (Lib.itoa x.f1) = D at hcl gG hDz
    have z0 : (9223372036854775807 < 2 + x.f0.size) = False := eq_false (by omega)
    have z1 : (9223372036854775807 < 2 + x.f0.size + 1) = False := eq_false (by omega)
    have z2 : (9223372036854775807 < 2 + x.f0.size + 1 + D.size) = False := eq_false (by omega)
    have z3 : (9223372036854775807 < 2 + x.f0.size + 1 + D.size + 1) = False := eq_false (by omega)
    have z9 : (9223372036854775807 < s.size + (2 + x.f0.size + 1 + D.size + 1)) = False := eq_false (by omega)
    have hnew : zx ((s ++ (((((⟨#[103, 32]⟩ : BY) ++ x.f0) ++ (⟨#[32]⟩ : BY)) ++ D) ++ (⟨#[10]⟩ : BY))).data.toList = jK a b c ++ xq wO l3 (k + 1)) := ⟨by
     rw [HS.out, Xg, HS3.out]
     unfold wO
     simp only [Xg, gG, List.append_assoc]⟩
    have q1 : (k : Int) < (l3.length : Int) := by omega
    have q0 : (0 : Int) ≤ (k : Int) := by omega
    have q3 : ((k : Int)).toNat = k := Int.toNat_natCast k
    have q2 : decide ((k : Int) < (l3.length : Int)) = true := decide_eq_true q1
    clear hle hL hE hss gG hDz
    go_wp2_with fail
    have HSx := zx.mk (fun (W : World) (h : Below wr.heap.size wr W) => (show W.cell? ⟨w.heap.size, 3, none⟩ = some (.slice (some ad) l3.length c3) ∧ W.cell? (ad.add (k * 2)) = some (.string x.f0) ∧ W.cell? ⟨(ad.add (k * 2)).block, (ad.add (k * 2)).off + 1, none⟩ = some (.int .i64 x.f1) from ⟨(h.cell (World.block_lt_of_cell? wr _ hcf)).trans hcf, (h.cell (World.block_lt_of_cell? wr _ x0)).trans x0, (h.cell (World.block_lt_of_cell? wr _ x1)).trans x1⟩))
    go_region_held3 (fun W => W.cell? ⟨w.heap.size, 3, none⟩ = some (.slice (some ad) l3.length c3) ∧ W.cell? (ad.add (k * 2)) = some (.string x.f0) ∧ W.cell? ⟨(ad.add (k * 2)).block, (ad.add (k * 2)).off + 1, none⟩ = some (.int .i64 x.f1)) (first | exact HSx.out _ HA1.out | exact HSx.out _ (Below.refl _ _).drew) (first | (go_at_call 113; refine (hcl _).mono ?_; rintro e wA ⟨rfl, hA0⟩; have HA1 : zx (Below wr.heap.size wr wA) := ⟨((Below.refl _ _).drew).trans (hA0.mono (Nat.le_refl _))⟩; clear hA0))
    have HB9 : zx (Below w1.heap.size w1 wA) := ⟨HB3.out.trans (HA1.out.mono HB3.out.size)⟩
    go_wp2
    go_roundw
    case rel => exact ⟨k + 1, _, rfl, by first | rfl | (simp; done) | go_num, by omega, hnew, HB9⟩
    case measure => simp [intOf]; omega
   ·obtain rfl : k = l3.length := by omega
    have q2 : decide ((l3.length : Int) < (l3.length : Int)) = false := decide_eq_false (by omega)
    have q1 : ¬ (l3.length : Int) < (l3.length : Int) := by omega
    have HN : zx (s.data.toList = (jK a b c ++ xq wO l3 l3.length) ++ xq ZM l4 0) := ⟨by rw [Xe, List.append_nil]; exact HS3.out⟩
    clear HS3
    go_wp2
    go_loopw [4, 6] (fun y4 y W => ∃ (k : Nat) (s : BY), y4 = .string s ∧ y = .int .i64 (k : Int) ∧ k ≤ l4.length ∧ zx (s.data.toList = (jK a b c ++ xq wO l3 l3.length) ++ xq ZM l4 k) ∧ zx (Below w1.heap.size w1 W)) (fun _ y _ => l4.length - (intOf y).toNat)
    case atStart => exact ⟨0, s, rfl, rfl, Nat.zero_le _, HN, HB3⟩
    case round =>
     clear HN HB3
     obtain ⟨k, s, rfl, rfl, hk, HS4, V7⟩ := hrel
     have hcf : wr.cell? ⟨w.heap.size, 4, none⟩ = some (.slice A4 l4.length c4) := (zk (HF.out wr V7.out) 4).trans rfl
     by_cases hlt : k < l4.length
     ·have hx := List.getElem?_eq_getElem hlt
      obtain ⟨ad, e, x0, x1, x2⟩ := QD (Kd.zY k4.out V7.out) (k : Int) (by omega) (by omega)
      cases e
      have e : vJ l4 (k : Int) = l4[k] := by simp [vJ, List.getD_eq_getElem?_getD, hlt]
      rw [Int.toNat_natCast, e] at x0 x1 x2
      clear e
      skip
      generalize l4[k] = x at hx  x0 x1 x2
      have HS := zx.mk (Qg ZM l4 k x hx)
      have hle := UR ZM l4 (k + 1)
      rw [HS.out, List.length_append] at hle
      have hss := zw5 HS4.out
      have hL : s.size + (ZM x).length ≤ 1000000000 := by obtain ⟨p1, p2, p3, p4, p5, p6⟩ := HT.out; rw [hss]; simp only [List.length_append] at hle ⊢; omega
      have hE : (ZM x).length = 2 + x.f0.size + 1 + x.f1.size + 1 + x.f2.size + 1 := by
       unfold ZM
       simp only [List.length_append, List.length_cons, List.length_nil, Array.length_toList]
       rfl
      have z0 : (9223372036854775807 < 2 + x.f0.size) = False := eq_false (by omega)
      have z1 : (9223372036854775807 < 2 + x.f0.size + 1) = False := eq_false (by omega)
      have z2 : (9223372036854775807 < 2 + x.f0.size + 1 + x.f1.size) = False := eq_false (by omega)
      have z3 : (9223372036854775807 < 2 + x.f0.size + 1 + x.f1.size + 1) = False := eq_false (by omega)
      have z4 : (9223372036854775807 < 2 + x.f0.size + 1 + x.f1.size + 1 + x.f2.size) = False := eq_false (by omega)
      have z5 : (9223372036854775807 < 2 + x.f0.size + 1 + x.f1.size + 1 + x.f2.size + 1) = False := eq_false (by omega)
      have z9 : (9223372036854775807 < s.size + (2 + x.f0.size + 1 + x.f1.size + 1 + x.f2.size + 1)) = False := eq_false (by omega)
      have hnew : zx ((s ++ (((((((⟨#[108, 32]⟩ : BY) ++ x.f0) ++ (⟨#[32]⟩ : BY)) ++ x.f1) ++ (⟨#[32]⟩ : BY)) ++ x.f2) ++ (⟨#[10]⟩ : BY))).data.toList = (jK a b c ++ xq wO l3 l3.length) ++ xq ZM l4 (k + 1)) := ⟨by
       rw [HS.out, Xg, HS4.out]
       unfold ZM
       simp only [Xg, List.append_assoc]⟩
      have q1 : (k : Int) < (l4.length : Int) := by omega
      have q0 : (0 : Int) ≤ (k : Int) := by omega
      have q3 : ((k : Int)).toNat = k := Int.toNat_natCast k
      have q2 : decide ((k : Int) < (l4.length : Int)) = true := decide_eq_true q1
      clear hle hL hE hss
      go_wp2_with fail
      go_quiet (fail)
      have HB9 := zx.mk (zP V7.out nq)
      go_wp2
      go_roundw
      case rel => exact ⟨k + 1, _, rfl, by first | rfl | (simp; done) | go_num, by omega, hnew, HB9⟩
      case measure => simp [intOf]; omega
     ·obtain rfl : k = l4.length := by omega
      have q2 : decide ((l4.length : Int) < (l4.length : Int)) = false := decide_eq_false (by omega)
      have q1 : ¬ (l4.length : Int) < (l4.length : Int) := by omega
      have HN : zx (s.data.toList = ((jK a b c ++ xq wO l3 l3.length) ++ xq ZM l4 l4.length) ++ xq Y7 l5 0) := ⟨by rw [Xe, List.append_nil]; exact HS4.out⟩
      clear HS4
      go_wp2
      go_loopw [4, 7] (fun y4 y W => ∃ (k : Nat) (s : BY), y4 = .string s ∧ y = .int .i64 (k : Int) ∧ k ≤ l5.length ∧ zx (s.data.toList = ((jK a b c ++ xq wO l3 l3.length) ++ xq ZM l4 l4.length) ++ xq Y7 l5 k) ∧ zx (Below w1.heap.size w1 W)) (fun _ y _ => l5.length - (intOf y).toNat)
      case atStart => exact ⟨0, s, rfl, rfl, Nat.zero_le _, HN, V7⟩
      case round =>
       clear HN V7
       obtain ⟨k, s, rfl, rfl, hk, HS5, Qo⟩ := hrel
       have hcf : wr.cell? ⟨w.heap.size, 5, none⟩ = some (.slice A5 l5.length c5) := (zk (HF.out wr Qo.out) 5).trans rfl
       by_cases hlt : k < l5.length
       ·have hx := List.getElem?_eq_getElem hlt
        obtain ⟨ad, e, x0, x1, x2⟩ := QE (Kd.zY k5.out Qo.out) (k : Int) (by omega) (by omega)
        cases e
        have e : xY l5 (k : Int) = l5[k] := by simp [xY, List.getD_eq_getElem?_getD, hlt]
        rw [Int.toNat_natCast, e] at x0 x1 x2
        clear e
        have zzs := n5 k hlt
        generalize l5[k] = x at hx zzs x0 x1 x2
        have HS := zx.mk (Qg Y7 l5 k x hx)
        have hle := UR Y7 l5 (k + 1)
        rw [HS.out, List.length_append] at hle
        have hss := zw5 HS5.out
        have hL : s.size + (Y7 x).length ≤ 1000000000 := by obtain ⟨p1, p2, p3, p4, p5, p6⟩ := HT.out; rw [hss]; simp only [List.length_append] at hle ⊢; omega
        have hE : (Y7 x).length = 2 + x.f0.size + 1 + x.f1.size + 1 + (Lib.itoa x.f2).length + 1 := by
         unfold Y7
         simp only [List.length_append, List.length_cons, List.length_nil, Array.length_toList]
         rfl
        have hcl := fun W => zXU x.f2 (by omega) (by omega) W
        have gG : (bar (Lib.itoa x.f2)).data.toList = Lib.itoa x.f2 := XR _
        have hDz : (bar (Lib.itoa x.f2)).size = (Lib.itoa x.f2).length := kV _
        generalize bar (Lib.itoa x.f2) = D at hcl gG hDz
        have z0 : (9223372036854775807 < 2 + x.f0.size) = False := eq_false (by omega)
        have z1 : (9223372036854775807 < 2 + x.f0.size + 1) = False := eq_false (by omega)
        have z2 : (9223372036854775807 < 2 + x.f0.size + 1 + x.f1.size) = False := eq_false (by omega)
        have z3 : (9223372036854775807 < 2 + x.f0.size + 1 + x.f1.size + 1) = False := eq_false (by omega)
        have z4 : (9223372036854775807 < 2 + x.f0.size + 1 + x.f1.size + 1 + D.size) = False := eq_false (by omega)
        have z5 : (9223372036854775807 < 2 + x.f0.size + 1 + x.f1.size + 1 + D.size + 1) = False := eq_false (by omega)
        have z9 : (9223372036854775807 < s.size + (2 + x.f0.size + 1 + x.f1.size + 1 + D.size + 1)) = False := eq_false (by omega)
        have hnew : zx ((s ++ (((((((⟨#[107, 32]⟩ : BY) ++ x.f0) ++ (⟨#[32]⟩ : BY)) ++ x.f1) ++ (⟨#[32]⟩ : BY)) ++ D) ++ (⟨#[10]⟩ : BY))).data.toList = ((jK a b c ++ xq wO l3 l3.length) ++ xq ZM l4 l4.length) ++ xq Y7 l5 (k + 1)) := ⟨by
         rw [HS.out, Xg, HS5.out]
         unfold Y7
         simp only [Xg, gG, List.append_assoc]⟩
        have q1 : (k : Int) < (l5.length : Int) := by omega
        have q0 : (0 : Int) ≤ (k : Int) := by omega
        have q3 : ((k : Int)).toNat = k := Int.toNat_natCast k
        have q2 : decide ((k : Int) < (l5.length : Int)) = true := decide_eq_true q1
        clear hle hL hE hss gG hDz
        go_wp2_with fail
        have HSx := zx.mk (fun (W : World) (h : Below wr.heap.size wr W) => (show W.cell? ⟨w.heap.size, 5, none⟩ = some (.slice (some ad) l5.length c5) ∧ W.cell? (ad.add (k * 3)) = some (.string x.f0) ∧ W.cell? ⟨(ad.add (k * 3)).block, (ad.add (k * 3)).off + 1, none⟩ = some (.string x.f1) ∧ W.cell? ⟨(ad.add (k * 3)).block, (ad.add (k * 3)).off + 2, none⟩ = some (.int .i64 x.f2) from ⟨(h.cell (World.block_lt_of_cell? wr _ hcf)).trans hcf, (h.cell (World.block_lt_of_cell? wr _ x0)).trans x0, (h.cell (World.block_lt_of_cell? wr _ x1)).trans x1, (h.cell (World.block_lt_of_cell? wr _ x2)).trans x2⟩))
        go_region_held3 (fun W => W.cell? ⟨w.heap.size, 5, none⟩ = some (.slice (some ad) l5.length c5) ∧ W.cell? (ad.add (k * 3)) = some (.string x.f0) ∧ W.cell? ⟨(ad.add (k * 3)).block, (ad.add (k * 3)).off + 1, none⟩ = some (.string x.f1) ∧ W.cell? ⟨(ad.add (k * 3)).block, (ad.add (k * 3)).off + 2, none⟩ = some (.int .i64 x.f2)) (first | exact HSx.out _ HA1.out | exact HSx.out _ (Below.refl _ _).drew) (first | (go_at_call 114; refine (hcl _).mono ?_; rintro e wA ⟨rfl, hA0⟩; have HA1 : zx (Below wr.heap.size wr wA) := ⟨((Below.refl _ _).drew).trans (hA0.mono (Nat.le_refl _))⟩; clear hA0))
        have HB9 : zx (Below w1.heap.size w1 wA) := ⟨Qo.out.trans (HA1.out.mono Qo.out.size)⟩
        go_wp2
        go_roundw
        case rel => exact ⟨k + 1, _, rfl, by first | rfl | (simp; done) | go_num, by omega, hnew, HB9⟩
        case measure => simp [intOf]; omega
       ·obtain rfl : k = l5.length := by omega
        have q2 : decide ((l5.length : Int) < (l5.length : Int)) = false := decide_eq_false (by omega)
        have q1 : ¬ (l5.length : Int) < (l5.length : Int) := by omega
        have he : s = bar V := by
         rw [← HV.out]
         unfold UU
         rw [← HS5.out, zxr]
        subst he
        go_wp2
        go_ret2
        exact ⟨rfl, hbw.trans (Qo.out.mono hbw.size)⟩
end Go.Proofs.YtaifemkokfoadaaGreatDoor
namespace Go.Proofs.YtaifemkokfoadaaGreatDoor
open Go.RowKit Go.Proofs.zy.zu Go.Proofs.zy.yI Go.Proofs.zy.yD Go.Proofs.YtaifemkokfoadaaGreatDoor.PX
theorem nJ {α β : Type} (f : β → List UInt8) (g : α → β) (l : List α) : xq f (l.map g) (l.map g).length = xq (fun x => f (g x)) l l.length := by
 unfold xq
 rw [List.take_length, List.take_length, List.map_map]; rfl
theorem zw7 (a : BY) (b : Bool) (c : Int) (l3 : List qg) (l4 : List xC) (l5 : List vk) : UU a b c (l3.map uJ) (l4.map jk) (l5.map uL) = QI a b c l3 l4 l5 := by
 have eG : (fun x => wO (uJ x)) = wS := by funext x; simp [wO, uJ, wS, Jc, jl, Q5]
 have eL : (fun x => ZM (jk x)) = Z8 := by funext x; simp [ZM, jk, Z8, Jd, jl, Q5]
 have eK : (fun x => Y7 (uL x)) = XP := by funext x; simp [Y7, uL, XP, Je, jl, Q5]
 unfold UU QI
 rw [nJ, nJ, nJ, eG, eL, eK]
theorem dO {α : Type} (f : α → List UInt8) (M : Nat) (l : List α) (h : ∀ x ∈ l, (f x).length ≤ M) : (xq f l l.length).length ≤ M * l.length := by
 unfold xq
 rw [List.take_length]
 induction l with
 | nil => simp
 | cons x r ih =>
  rw [List.map_cons, List.flatten_cons, List.length_append, List.length_cons, Nat.mul_succ]
  have h1 := h x List.mem_cons_self
  have h2 := ih (fun y hy => h y (List.mem_cons_of_mem _ hy))
  omega
theorem zqM : ∀ (m n : Nat), n ≤ m → (Lib.decDigits n).length ≤ n + 1 := by
 intro m
 induction m with
 | zero => intro n h; rw [Jb n]; unfold Uv; rw [if_pos (by omega)]; simp
 | succ m ih =>
  intro n h
  rw [Jb n]
  unfold Uv
  split
  ·simp
  ·rw [List.length_append]
   have := ih (n / 10) (by omega)
   simp only [List.length_cons, List.length_nil]
   omega
theorem dP (n : Int) (h0 : -3000 ≤ n) (h1 : n ≤ 3000) : (Lib.itoa n).length ≤ 3002 := by
 unfold Lib.itoa
 split
 ·have := zqM n.natAbs n.natAbs (Nat.le_refl _)
  simp only [List.length_cons]
  omega
 ·have := zqM n.toNat n.toNat (Nat.le_refl _)
  omega
theorem zX0 {s : BY} (h : Yl s.data.toList = true) : s.size ≤ 10 := by
 unfold Yl at h
 simp only [Bool.and_eq_true, decide_eq_true_eq] at h
 have e : s.data.toList.length = s.size := Array.length_toList
 omega
theorem zjL {a : BY} {c : Int} {l3 : List qg} {l4 : List xC} {l5 : List vk} (h : qC a c l3 l4 l5 = true) :
  a.size ≤ 10 ∧ (∀ x ∈ l3, x.f0.size ≤ 10) ∧ (∀ x ∈ l4, x.f0.size ≤ 10 ∧ x.f1.size ≤ 10 ∧ x.f2.size ≤ 10) ∧ (∀ x ∈ l5, x.f0.size ≤ 10 ∧ x.f1.size ≤ 10) := by
 have ha := zqH h
 unfold qC at h
 split at h
 ·cases h
 ·rename_i q1
  split at h
  ·cases h
  ·rename_i q2
   split at h
   ·cases h
   ·rename_i q3
    simp only [Bool.or_eq_true, not_or, Bool.not_eq_true', Bool.not_eq_false, Bool.not_eq_true] at q1 q2 q3
    have hn : ∀ x ∈ l3, x.f0.size ≤ 10 := fun x hx => by
     have h1 := List.any_eq_false.1 q2.1 x hx
     unfold Jh at h1
     simp only [Bool.or_eq_true, not_or, Bool.not_eq_true', Bool.not_eq_false] at h1
     exact zX0 h1.1
    have hf : ∀ n, (YF l3 n).2 = true → n.size ≤ 10 := fun n hn2 => by
     rw [zxP l3 ha n, List.any_eq_true] at hn2
     obtain ⟨x, hx, he⟩ := hn2
     rw [← of_decide_eq_true he]; exact hn x hx
    refine ⟨?_, hn, fun x hx => ?_, fun x hx => ?_⟩
    ·have h1 := q1.1
     unfold YL at h1
     simp only [Bool.and_eq_true, decide_eq_true_eq] at h1
     have e : a.data.toList.length = a.size := Array.length_toList
     omega
    ·have h1 := List.any_eq_false.1 q3.1 x hx
     unfold Pv KF at h1
     simp only [List.all_cons, List.all_nil, Bool.and_true, Bool.not_eq_true', Bool.not_eq_false, Bool.and_eq_true] at h1
     exact ⟨hf _ h1.1, hf _ h1.2.1, hf _ h1.2.2⟩
    ·rw [Bool.and_eq_true] at h
     have h2 : l5.any (VD l3) = false := by simpa using h.1
     have h1 := List.any_eq_false.1 h2 x hx
     unfold VD KF at h1
     simp only [List.all_cons, List.all_nil, Bool.and_true, Bool.or_eq_true, not_or, Bool.not_eq_true', Bool.not_eq_false, Bool.and_eq_true] at h1
     exact ⟨hf _ h1.2.2.2.1, hf _ h1.2.2.2.2⟩
theorem dR (s : BY) : s.data.toList.length = s.size := Array.length_toList
theorem zqN {a : BY} {b : Bool} {c : Int} {l3 : List qg} {l4 : List xC} {l5 : List vk} (h : qC a c l3 l4 l5 = true) : (QI a b c l3 l4 l5).length ≤ 1000000000 := by
 obtain ⟨na, n3, n4, n5⟩ := zjL h
 obtain ⟨hc, hk⟩ := Uj h
 have hw := dG h
 obtain ⟨z3, z4, z5⟩ := zQZ h
 have b3 := dO wS 4000 l3 (fun x hx => by
  have p := n3 x hx; have q := hw x hx; have r := dP x.f1 (by omega) (by omega)
  simp [wS, Jc, jl, Q5, dR]; omega)
 have b4 := dO Z8 4000 l4 (fun x hx => by
  have p := n4 x hx
  simp [Z8, Jd, jl, Q5, dR]; omega)
 have b5 := dO XP 4000 l5 (fun x hx => by
  have p := n5 x hx; have q := hk x hx; have r := dP x.f2 (by omega) (by omega)
  simp [XP, Je, jl, Q5, dR]; omega)
 have b0 : (jK a b c).length ≤ 4000 := by
  have r := dP c (by omega) (by omega)
  unfold jK Z9 Xf
  rw [List.length_append, List.length_append, List.length_append]
  have : (jl (Xo c)).length = 7 + (Lib.itoa c).length + 1 := by simp [jl, Xo, Q5]; omega
  rw [this, dR]
  split <;> simp only [List.length_cons, List.length_nil] <;> omega
 unfold QI
 simp only [List.length_append]
 omega
set_option maxRecDepth 100000 in
theorem zQp (a : BY) (b : Bool) (c : Int) (A3 : Option Addr) (c3 : Nat) (l3 : List qg) (A4 : Option Addr) (c4 : Nat) (l4 : List xC) (A5 : Option Addr) (c5 : Nat) (l5 : List vk) (na nb : BY) (size n : Int) (w : World) (hG : GW w) (h3 : Kd.C uf w A3 l3.length l3) (g3 : l3.length ≤ c3) (h4 : Kd.C jd w A4 l4.length l4) (g4 : l4.length ≤ c4) (h5 : Kd.C jh w A5 l5.length l5) (g5 : l5.length ≤ c5) (z3 : l3.length ≤ 1000000) (z4 : l4.length ≤ 1000000) (z5 : l5.length ≤ 1000000) (ha : a.size ≤ 140737488355328) (hz : ∀ x ∈ l3, x.f0.size ≤ 140737488355328) :
  Calls Tryz.prog 20 #[.agg #[.string a, .bool b, .int .i64 c, .slice A3 l3.length c3, .slice A4 l4.length c4, .slice A5 l5.length c5], .string na, .string nb, .int .i64 size, .int .i64 n] w fun e w' => e = .returned (.bool true) ∧ Below w.heap.size w w' := by
 have m3 : (l3.map uJ).length ≤ 1000000000 := by rw [List.length_map]; omega
 have m4 : (l4.map jk).length ≤ 1000000000 := by rw [List.length_map]; omega
 have m5 : (l5.map uL).length ≤ 1000000000 := by rw [List.length_map]; omega
 have hz2 : ∀ x ∈ l3.map uJ, x.f0.size ≤ 140737488355328 := fun x hx => by
  obtain ⟨y, hy, rfl⟩ := List.mem_map.1 hx
  exact hz y hy
 have y3 : l3.length ≤ 1000000000 := by omega
 have y4 : l4.length ≤ 1000000000 := by omega
 have y5 : l5.length ≤ 1000000000 := by omega
 have hv1 : jV.f a b c l3 l4 l5 = some (qC a c l3 l4 l5) := by unfold jV.f; rw [if_pos ⟨y3, y4, y5⟩]
 have hrv := fH a c l3 l4 l5
 obtain ⟨kw, hw⟩ := (zW5 a b c l3 l4 l5 na size y3 y4 y5 ha hz).rounds
 obtain ⟨kk2, hk2⟩ := (zcA a b c l3 l4 l5 na nb size y3 y4 y5 ha hz).rounds
 obtain ⟨kj2, hj2⟩ := (zcB a b c l3 l4 l5 na nb y3 y4 y5 ha hz).rounds
 obtain ⟨km, hm⟩ := (zcC a b c l3 (l4.map jk) (l5.map uL) y3).rounds
 have hO : (∀ W, GW W → Kd.C uf W A3 l3.length l3 → Kd.C jd W A4 l4.length l4 → Kd.C jh W A5 l5.length l5 → Calls Tryz.prog 25 #[.agg #[.string a, .bool b, .int .i64 c, .slice A3 l3.length c3, .slice A4 l4.length c4, .slice A5 l5.length c5]] W fun e w' => e = .returned (.tuple #[.string (if qC a c l3 l4 l5 = true then bar (QI a b c l3 l4 l5) else (⟨#[]⟩ : BY)), .int .i64 (if qC a c l3 l4 l5 = true then 0 else 1)]) ∧ Below W.heap.size W w') := by
  intro W g k3 k4 k5
  cases hv : qC a c l3 l4 l5 with
  | true => exact zXT a b c A3 c3 l3 A4 c4 l4 A5 c5 l5 g3 g4 g5 W g k3 k4 k5 y3 y4 y5 hv (zqN hv)
  | false => exact zQn a b c A3 c3 l3 A4 c4 l4 A5 c5 l5 g3 g4 g5 W g k3 k4 k5 y3 y4 y5 hv
 have hO2 : (∀ W P3 p3 P4 p4 P5 p5, GW W → Kd.C qJ W P3 (l3.map uJ).length (l3.map uJ) → (l3.map uJ).length ≤ p3 → Kd.C jC W P4 (l4.map jk).length (l4.map jk) → (l4.map jk).length ≤ p4 → Kd.C jS W P5 (l5.map uL).length (l5.map uL) → (l5.map uL).length ≤ p5 → Calls Tryz.prog 75 #[.agg #[.string a, .bool b, .int .i64 c, .slice P3 (l3.map uJ).length p3, .slice P4 (l4.map jk).length p4, .slice P5 (l5.map uL).length p5]] W fun e w' => e = .returned (.tuple #[.string (if qC a c l3 l4 l5 = true then bar (QI a b c l3 l4 l5) else (⟨#[]⟩ : BY)), .int .i64 (if qC a c l3 l4 l5 = true then 0 else 1)]) ∧ Below W.heap.size W w') := by
  intro W P3 p3 P4 p4 P5 p5 g k3 s3 k4 s4 k5 s5
  cases hv : qC a c l3 l4 l5 with
  | true =>
   have hl := zqN (b := b) hv
   rw [← zw7] at hl ⊢
   exact zQo a b c P3 p3 (l3.map uJ) P4 p4 (l4.map jk) P5 p5 (l5.map uL) W k3 s3 k4 s4 k5 s5 m3 m4 m5 ha hz2 (hrv.trans hv) hl
  | false => exact zw6 a b c P3 p3 (l3.map uJ) P4 p4 (l4.map jk) P5 p5 (l5.map uL) W k3 s3 k4 s4 k5 s5 m3 m4 m5 ha hz2 (hrv.trans hv)
 exact zQg a b c A3 c3 l3 A4 c4 l4 A5 c5 l5 (l3.map uJ) (l4.map jk) (l5.map uL) rfl rfl rfl na nb size n (qC a c l3 l4 l5) (XU l3 na) (nH c l3) (bT (qC a c l3 l4 l5) l3 na size).1 (bT (qC a c l3 l4 l5) l3 na size).2 (bS (qC a c l3 l4 l5) c size).1 (bS (qC a c l3 l4 l5) c size).2 (W9 (qC a c l3 l4 l5) l5 na nb size).1 (W9 (qC a c l3 l4 l5) l5 na nb size).2 (Pz (qC a c l3 l4 l5) l4 na nb).1 (Pz (qC a c l3 l4 l5) l4 na nb).2 (bR n size).1 (bR n size).2 _ _
  (fun W g k3 k4 k5 => jV.calls a b c A3 c3 l3 A4 c4 l4 A5 c5 l5 _ W k3 g3 k4 g4 k5 g5 g hv1)
  (fun W P3 p3 P4 p4 P5 p5 g k3 s3 k4 s4 k5 s5 => by rw [← hrv]; exact JE a b c P3 p3 (l3.map uJ) P4 p4 (l4.map jk) P5 p5 (l5.map uL) W k3 s3 k4 s4 k5 s5 m3 m4 m5 ha hz2)
  (fun W g k3 k4 k5 => KL.calls a b c A3 c3 l3 A4 c4 l4 A5 c5 l5 na _ W k3 g3 k4 g4 k5 g5 g (by unfold KL.f; rw [if_pos y3]))
  (fun W P3 p3 P4 p4 P5 p5 g k3 s3 k4 s4 k5 s5 => by rw [← Vk]; exact fG a b c P3 p3 (l3.map uJ) P4 p4 (l4.map jk) P5 p5 (l5.map uL) na W k3 s3 k4 s4 k5 s5 m3)
  (fun W g k3 k4 k5 => JV.calls a b c A3 c3 l3 A4 c4 l4 A5 c5 l5 _ W k3 g3 k4 g4 k5 g5 g (by unfold JV.f; rw [if_pos y3]))
  (fun W P3 p3 P4 p4 P5 p5 g k3 s3 k4 s4 k5 s5 => vK.calls km a b c P3 p3 (l3.map uJ) P4 p4 (l4.map jk) P5 p5 (l5.map uL) _ W k3 s3 k4 s4 k5 s5 hm)
  (fun W g k3 k4 k5 => kT.calls a b c A3 c3 l3 A4 c4 l4 A5 c5 l5 na size _ _ W k3 g3 k4 g4 k5 g5 g (zW3 a b c l3 l4 l5 na size y3 y4 y5))
  (fun W P3 p3 P4 p4 P5 p5 g k3 s3 k4 s4 k5 s5 => xK.calls kw a b c P3 p3 (l3.map uJ) P4 p4 (l4.map jk) P5 p5 (l5.map uL) na size _ _ W k3 s3 k4 s4 k5 s5 hw)
  (fun W g k3 k4 k5 => Uz.calls a b c A3 c3 l3 A4 c4 l4 A5 c5 l5 size _ _ W k3 g3 k4 g4 k5 g5 g (zW2 a b c l3 l4 l5 size y3 y4 y5))
  (fun W P3 p3 P4 p4 P5 p5 g k3 s3 k4 s4 k5 s5 => Zo.calls a b c P3 p3 (l3.map uJ) P4 p4 (l4.map jk) P5 p5 (l5.map uL) size _ _ W k3 s3 k4 s4 k5 s5 (zW4 a b c l3 l4 l5 size y3 y4 y5 ha hz))
  (fun W g k3 k4 k5 => zjH a b c A3 c3 l3 A4 c4 l4 A5 c5 l5 na nb size W g k3 g3 k4 g4 k5 g5 y3 y4 y5)
  (fun W P3 p3 P4 p4 P5 p5 g k3 s3 k4 s4 k5 s5 => pY.calls kk2 a b c P3 p3 (l3.map uJ) P4 p4 (l4.map jk) P5 p5 (l5.map uL) na nb size _ _ W k3 s3 k4 s4 k5 s5 hk2)
  (fun W g k3 k4 k5 => zXO a b c A3 c3 l3 A4 c4 l4 A5 c5 l5 na nb W g k3 g3 k4 g4 k5 g5 y3 y4 y5)
  (fun W P3 p3 P4 p4 P5 p5 g k3 s3 k4 s4 k5 s5 => ZL.calls kj2 a b c P3 p3 (l3.map uJ) P4 p4 (l4.map jk) P5 p5 (l5.map uL) na nb _ _ W k3 s3 k4 s4 k5 s5 hj2)
  (fun W => (Ux.calls n size _ _ W (zKO n size)).mono fun e w' h => ⟨h.1, jm h.2⟩)
  (fun W => (Zp.calls n size _ _ W (zKP n size)).mono fun e w' h => ⟨h.1, jm h.2⟩)
  hO hO2 w hG h3 h4 h5 z3 z4 z5
end Go.Proofs.YtaifemkokfoadaaGreatDoor
namespace Go.Proofs.YtaifemkokfoadaaGreatDoor.PX
open Go.RowKit Go.Proofs.zy.zu Go.Proofs.zy.yI Go.Proofs.zy.yD
attribute [local go_sem] xw xZ xP xR qD qE xQ xX
def yA.f (l0 : List Int) (a1 : Int) : Option (Int) := if a1 < (l0.length : Int) then (if 0 ≤ a1 then (some (wrap64 (Int.tmod (IntKind.u64.wrap (rd l0 a1)) 100000))) else (none)) else (some 0)
set_option maxHeartbeats 8000000 in
set_option maxRecDepth 100000 in
theorem yA.calls (A0 : Option Addr) (c0 : Nat) (l0 : List Int) (a1 : Int) (r : Int) (w : World) (hr0 : Kd.C (Kd.int .i64) w A0 l0.length l0) (hc0 : l0.length ≤ c0) (h : yA.f l0 a1 = some r) :
  Calls Tryz.prog 82 #[.slice A0 l0.length c0, .int .i64 a1] w fun e w' => e = .returned (.int .i64 r) ∧ yx w w' := by
 have kG := zx.mk hr0
 have ZW := zx.mk hc0
 clear hr0 hc0
 have H : (if a1 < (l0.length : Int) then (if 0 ≤ a1 then (some (wrap64 (Int.tmod (IntKind.u64.wrap (rd l0 a1)) 100000))) else (none)) else (some 0)) = some r := h
 clear h
 by_cases c3 : a1 < (l0.length : Int)
 ·rw [if_pos c3] at H
  have ZR : decide (a1 < (l0.length : Int)) = true := decide_eq_true c3
  clear c3
  by_cases c4 : 0 ≤ a1
  ·rw [if_pos c4] at H
   have Xw : decide (0 ≤ a1) = true := decide_eq_true c4
   clear c4
   obtain rfl := Option.some.inj H
   have zX1 : 0 ≤ (a1 : Int) := of_decide_eq_true (by first | (with_reducible assumption) | assumption)
   have zX2 : a1 < (l0.length : Int) := of_decide_eq_true (by first | (with_reducible assumption) | assumption)
   obtain ⟨zlf, zfG, zgG⟩ := Kd.zxY kG.out a1 zX1 zX2
   cases zfG
   replace zX1 := eq_true zX1
   replace zX2 := eq_true zX2
   go_enter Tryz.func82, Tryz.ntmps82
   go_wp2
   go_ret
   exact ⟨by first | rfl | (simp; done) | (simp [*]; done), by repeat (first | exact yx.refl _ | apply yx.step)⟩
  ·rw [if_neg c4] at H
   exact absurd H (by simp)
 ·rw [if_neg c3] at H
  have ZR : decide (a1 < (l0.length : Int)) = false := decide_eq_false c3
  clear c3
  obtain rfl := Option.some.inj H
  go_enter Tryz.func82, Tryz.ntmps82
  go_wp2
  go_ret
  exact ⟨by first | rfl | (simp; done) | (simp [*]; done), by repeat (first | exact yx.refl _ | apply yx.step)⟩
end Go.Proofs.YtaifemkokfoadaaGreatDoor.PX
namespace Go.Proofs.YtaifemkokfoadaaGreatDoor.PX
open Go.RowKit Go.Proofs.zy.zu Go.Proofs.zy.yI Go.Proofs.zy.yD
attribute [local go_sem] xw xZ xP xR qD qE xQ xX
mutual
def zK.l0 : Nat → List Int → Int → BY → Bool → Int → List (zo) → Option (BY × Bool × Int × (List (qg)) × (List (xC)) × (List (vk)))
 | 0, _, _, _, _, _, _ => none
 | k + 1, x0, x4, Yf, Yg, Yh, jf => if x4 < 8 then ((yA.f x0 x4).bind fun WV => (if (Int.tmod WV 3) = 0 then (if x4 < 2 then ((yA.f x0 x4).bind fun QA => (if jf.length < 5864062014805 then (zK.l0 k x0 (wrap64 (x4 + 1)) Yf Yg Yh (jf ++ [(⟨strOfNums (([(wrap64 (97 + x4)) % 256] : List Int)), Int.tmod QA 3001⟩ : zo)])) else (none))) else (zK.l0 k x0 (wrap64 (x4 + 1)) Yf Yg Yh jf)) else ((yA.f x0 x4).bind fun QB => (if jf.length < 5864062014805 then (zK.l0 k x0 (wrap64 (x4 + 1)) Yf Yg Yh (jf ++ [(⟨strOfNums (([(wrap64 (97 + x4)) % 256] : List Int)), Int.tmod QB 3001⟩ : zo)])) else (none))))) else (zK.l1 k x0 (jf.length : Int) 0 Yf Yg Yh jf ([] : List (qF)) ([] : List (qG)))
def zK.l1 : Nat → List Int → Int → Int → BY → Bool → Int → List (zo) → List (qF) → List (qG) → Option (BY × Bool × Int × (List (qg)) × (List (xC)) × (List (vk)))
 | 0, _, _, _, _, _, _, _, _, _ => none
 | k + 1, x0, x5, x6, Yf, Yg, Yh, jf, Vr, Vs => if x6 < x5 then (if 0 ≤ x6 then (if x6 < (jf.length : Int) then ((yA.f x0 (wrap64 (x6 + 8))).bind fun dS => (if x5 = 0 then (none) else (if 0 ≤ (Int.tmod dS x5) then (if (Int.tmod dS x5) < (jf.length : Int) then ((yA.f x0 (wrap64 (x6 + 16))).bind fun ZG => (if 0 ≤ (Int.tmod ZG x5) then (if (Int.tmod ZG x5) < (jf.length : Int) then ((yA.f x0 (wrap64 (x6 + 8))).bind fun Qj => (if (Int.tmod Qj 4) = 1 then (if Vr.length < 2932031007402 then (zK.j2 k x0 x5 x6 ((zN jf x6).f0) ((zN jf (Int.tmod ZG x5)).f0) Yf Yg Yh jf (Vr ++ [(⟨(zN jf x6).f0, (zN jf (Int.tmod dS x5)).f0, (zN jf (Int.tmod ZG x5)).f0⟩ : qF)]) Vs) else (none)) else (zK.j2 k x0 x5 x6 ((zN jf x6).f0) ((zN jf (Int.tmod ZG x5)).f0) Yf Yg Yh jf Vr Vs))) else (none)) else (none))) else (none)) else (none)))) else (none)) else (none)) else ((jH.f k Yf Yg Yh jf Vr Vs).bind fun rR => (some (rR.1, rR.2.1, rR.2.2.1, rR.2.2.2.1, rR.2.2.2.2.1, rR.2.2.2.2.2)))
def zK.j2 : Nat → List Int → Int → Int → BY → BY → BY → Bool → Int → List (zo) → List (qF) → List (qG) → Option (BY × Bool × Int × (List (qg)) × (List (xC)) × (List (vk)))
 | 0, _, _, _, _, _, _, _, _, _, _, _ => none
 | k + 1, x0, x5, x6, x7, x9, Yf, Yg, Yh, jf, Vr, Vs => (yA.f x0 (wrap64 (x6 + 16))).bind fun XD => (if (wrap64 ((Int.tmod XD 1001) - 500)) = 0 then (zK.l1 k x0 x5 (wrap64 (x6 + 1)) Yf Yg Yh jf Vr Vs) else ((yA.f x0 (wrap64 (x6 + 24))).bind fun Js => (if (Int.tmod Js 2) = 0 then (if Vs.length < 3518437208883 then (zK.l1 k x0 x5 (wrap64 (x6 + 1)) Yf Yg Yh jf Vr (Vs ++ [(⟨x7, x9, wrap64 ((Int.tmod XD 1001) - 500)⟩ : qG)])) else (none)) else (zK.l1 k x0 x5 (wrap64 (x6 + 1)) Yf Yg Yh jf Vr Vs))))
end
def zK.f (k : Nat) (l0 : List Int) : Option (BY × Bool × Int × (List (qg)) × (List (xC)) × (List (vk))) := (yA.f l0 0).bind fun vQ => (zK.l0 k l0 0 (⟨#[71]⟩ : BY) ((Int.tmod vQ 2) == 1) 200 ([] : List (zo)))
def zK.T7 : Bool × List (List Nat × List Nat) := (true, [([], []), ([0], [0]), ([], []), ([2], [2]), ([3], [3]), ([4], [4]), ([5], [5]), ([], []), ([], []), ([7, 8], [7, 8]), ([9], [9]), ([6, 10], [6, 10]), ([11], [11]), ([1, 12, 9], [1, 12]), ([0, 1, 2, 3, 4, 5, 6, 7, 8, 9, 10, 11, 12, 13], []), ([14, 13, 13, 0, 1, 2, 3, 4, 5, 6, 7, 8, 9, 10, 11, 12, 13], [13, 14])])
def zK.B7 : List Nat := [0, 1, 0, 4, 12, 28, 60, 0, 0, 384, 896, 2044, 4092, 8191, 16383, 32767]
theorem zK.zaK : u6 .any (opsOf Tryz.f24 7) = zK.T7 := by kernel_rfl
theorem zK.zJO : jM zK.T7.2 zK.B7 = true := by kernel_rfl
def zK.T12 : Bool × List (List Nat × List Nat) := (true, [([], []), ([0], [0]), ([], []), ([1, 2], [1, 2]), ([3], [3]), ([4], [4]), ([], []), ([6], [6]), ([], []), ([], []), ([9], [9]), ([8, 10], [8, 10]), ([], []), ([11, 12], [11, 12]), ([7, 13], [7, 13]), ([14], [14]), ([15], [15]), ([], []), ([17], [17]), ([], []), ([], []), ([20], [20]), ([19, 21, 11], [19, 21]), ([], []), ([22, 23], [22, 23]), ([18, 24], [18, 24]), ([25], [25]), ([26], [26]), ([5, 22, 0, 1, 2, 3, 4, 5], [5]), ([16, 28, 0, 1, 2, 3, 4, 5, 6, 7, 8, 9, 10, 11, 12, 13, 14, 15, 16, 28], [16]), ([27, 29, 0, 1, 2, 3, 4, 5, 6, 7, 8, 9, 10, 11, 12, 13, 14, 15, 16, 17, 18, 19, 20, 21, 22, 23, 24, 25, 26, 27, 28, 29], [27])])
def zK.B12 : List Nat := [0, 1, 0, 7, 15, 31, 0, 64, 0, 0, 512, 1792, 0, 7936, 16320, 32704, 65472, 0, 131072, 0, 0, 1048576, 3673856, 0, 16256768, 33427200, 66981632, 134090496, 7868223, 276430847, 1073741823]
theorem zK.zcH : u6 .any (opsOf Tryz.f24 12) = zK.T12 := by kernel_rfl
theorem zK.zaY : jM zK.T12.2 zK.B12 = true := by kernel_rfl
set_option maxHeartbeats 8000000 in
set_option maxRecDepth 100000 in
theorem zK.calls (k : Nat) (A0 : Option Addr) (c0 : Nat) (l0 : List Int) (r1 : BY) (r2 : Bool) (r3 : Int) (r4 : List (qg)) (r5 : List (xC)) (r6 : List (vk)) (w : World) (hr0 : Kd.C (Kd.int .i64) w A0 l0.length l0) (hc0 : l0.length ≤ c0) (h : zK.f k l0 = some (r1, r2, r3, r4, r5, r6)) :
  Calls Tryz.prog 24 #[.slice A0 l0.length c0] w fun e w' => ∃ WA WB WC : Value, e = .returned (.agg #[.string r1, .bool r2, .int .i64 r3, WA, WB, WC]) ∧ Kd.R uf 31 w' w.heap.size (fun _ => True) WA r4 ∧ Kd.R jd 86 w' w.heap.size (fun _ => True) WB r5 ∧ Kd.R jh 76 w' w.heap.size (fun _ => True) WC r6 ∧ Below w.heap.size w w' := by
 have mJ := Tryz.underlying26
 have Ku := Tryz.underlying44
 have zXk := Tryz.underlying81
 have zdg := Tryz.underlying83
 have zdh := Tryz.underlying84
 have kG := zx.mk hr0
 have ZW := zx.mk hc0
 clear hr0 hc0
 have HB := zx.mk (Below.refl w.heap.size w)
 have H : ((yA.f l0 0).bind fun vQ => (zK.l0 k l0 0 (⟨#[71]⟩ : BY) ((Int.tmod vQ 2) == 1) 200 ([] : List (zo)))) = some (r1, r2, r3, r4, r5, r6) := h
 clear h
 replace H := Option.bind_eq_some_iff.mp H
 obtain ⟨vQ, A20, H⟩ := H
 replace H : (zK.l0 k l0 0 (⟨#[71]⟩ : BY) ((Int.tmod vQ 2) == 1) 200 ([] : List (zo))) = some (r1, r2, r3, r4, r5, r6) := H
 have A2 := zx.mk A20
 clear A20
 have H' := zx.mk H
 clear H
 go_enter Tryz.func24, Tryz.ntmps24
 go_wp2_with (first | ((with_reducible refine qx (N := 2) rfl ?_); refine ql ?hg (N := 2) ?hd (cs := #[.string (⟨#[]⟩ : BY), .bool false, .int .i64 0, .slice none 0 0, .slice none 0 0, .slice none 0 0]) (t := 26) ?hr ?_; (case hd => rfl); (case hg => rfl); (case hr => first | (go_simp; done) | (go_simp; rfl)); intro vM hg w3 qK hb; have zf := zx.mk (zI (zD HB.out) hb); have zh := zx.mk (qK); have zA := zx.mk ((by rw [hg]; exact (zV (zD HB.out)) : w.heap.size ≤ vM)); have zR := zx.mk ((by rw [hg]; exact (zV (zD HB.out)) : w.heap.size ≤ vM)); clear HB; have HB := zf; have qZ := zh; have zlg := zA; have zcI := zR; clear zf zh zA zR; clear hb qK hg) | ((with_reducible refine qx (N := 3) rfl ?_); refine ql ?hg (N := 3) ?hd (cs := #[.string (⟨#[]⟩ : BY), .bool false, .int .i64 0, .slice none 0 0, .slice none 0 0, .slice none 0 0]) (t := 44) ?hr ?_; (case hd => rfl); (case hg => rfl); (case hr => first | (go_simp; done) | (go_simp; rfl)); intro y7 hg w4 qK hb; have zf := zx.mk (zl (g := vM) (o := .cells #[.string (⟨#[]⟩ : BY), .bool false, .int .i64 0, .slice none 0 0, .slice none 0 0, .slice none 0 0] 26 (0, 0)) (yt qZ.out) hb); have zh := zx.mk (zI (zD HB.out) hb); have zA := zx.mk (qK); have zR := zx.mk ((by rw [hg]; exact (zV (zD HB.out)) : w.heap.size ≤ y7)); have qV := zx.mk ((by rw [hg]; exact (zV (zD HB.out)) : w.heap.size ≤ y7)); have xD := zx.mk ((by rw [hg]; exact Nat.ne_of_lt (uD (g := vM) (o := .cells #[.string (⟨#[]⟩ : BY), .bool false, .int .i64 0, .slice none 0 0, .slice none 0 0, .slice none 0 0] 26 (0, 0)) (yt qZ.out)) : vM ≠ y7)); have vE := zx.mk ((by rw [hg]; exact Nat.ne_of_gt (uD (g := vM) (o := .cells #[.string (⟨#[]⟩ : BY), .bool false, .int .i64 0, .slice none 0 0, .slice none 0 0, .slice none 0 0] 26 (0, 0)) (yt qZ.out)) : y7 ≠ vM)); clear qZ; clear HB; have qZ := zf; have HB := zh; have zW := zA; have zlh := zR; have zcL := qV; have Qv := xD; have Qk := vE; clear zf zh zA zR qV xD vE; clear hb qK hg; have zmV := Qk.out; have zmK := Qv.out; have zQQ : w4.cell? ⟨y7, 0, none⟩ = some (.string (⟨#[]⟩ : BY)) := (zk zW.out 0).trans rfl; have zQX : w4.cell? ⟨y7, 1, none⟩ = some (.bool false) := (zk zW.out 1).trans rfl; have zQJ : w4.cell? ⟨y7, 2, none⟩ = some (.int .i64 0) := (zk zW.out 2).trans rfl; have zQV : w4.cell? ⟨y7, 3, none⟩ = some (.slice none 0 0) := (zk zW.out 3).trans rfl; have zQK : w4.cell? ⟨y7, 4, none⟩ = some (.slice none 0 0) := (zk zW.out 4).trans rfl; have zQY : w4.cell? ⟨y7, 5, none⟩ = some (.slice none 0 0) := (zk zW.out 5).trans rfl; have zQW := zw zW.out 0; have zQa := zw zW.out 1; have zQb := zw zW.out 2; have zQc := zw zW.out 3; have zQd := zw zW.out 4; have zQe := zw zW.out 5) | ((with_reducible refine yY (f := 82) rfl ?_); refine uN (some 13) Tryz.func82 #[.slice A0 l0.length c0, .int .i64 0] ?_; (with_reducible refine (yA.calls _ _ l0 0 vQ _ ?y8 ?qy A2.out).mono ?_); (case y8 => exact Kd.zY kG.out (zD HB.out)); (case qy => exact ZW.out); rintro e w' ⟨rfl, ⟨nd, rfl⟩⟩; refine ⟨_, rfl, ?_⟩))
 go_loopg [4] k (fun kq v4 w' => ∃ (vO : Int) (zQ : List (zo)) (Qh : Value), v4 = .int .i64 vO ∧ zx (zK.l0 kq l0 vO (⟨#[71]⟩ : BY) ((Int.tmod vQ 2) == 1) 200 zQ = some (r1, r2, r3, r4, r5, r6)) ∧ zx (kq ≤ k) ∧ zx (Kd.R qJ 81 w' w.heap.size (fun _ => True) Qh zQ) ∧ zx (w'.heap[vM]? = some (.cells #[.string (⟨#[]⟩ : BY), .bool false, .int .i64 0, (.slice none 0 0), (.slice none 0 0), (.slice none 0 0)] 26 (0, 0))) ∧ zx (w'.heap[y7]? = some (.cells #[.string (⟨#[71]⟩ : BY), .bool ((Int.tmod vQ 2) == 1), .int .i64 200, Qh, (.slice none 0 0), (.slice none 0 0)] 44 (0, 0))) ∧ zx (Below w.heap.size w w'))
 case atStart => exact ⟨(0), (([] : List (zo))), (.slice none 0 0), (by first | rfl | (simp; done) | (simp [*]; done)), H', ⟨Nat.le_refl _⟩, ⟨by first | exact Kd.ku _ _ _ _ _ | exact Kd.JB _ _ _ _ _ | exact Kd.JD _ _ _ _ _ | exact Kd.Ju _ _ _ _ _ | exact Kd.JA _ _ _ _ _⟩, ⟨wJ qZ.out⟩, ⟨by (with_reducible repeat (first | refine zJ ?_ _ | refine zX ?_ | refine zZ ?_ _)); refine yC (cs := #[.string (⟨#[71]⟩ : BY), .bool false, .int .i64 200, .slice none 0 0, .slice none 0 0, .slice none 0 0]) ?_ 1 _ rfl; (with_reducible repeat (first | refine zJ ?_ _ | refine zX ?_ | refine zZ ?_ _)); refine yC (cs := #[.string (⟨#[71]⟩ : BY), .bool false, .int .i64 200, .slice none 0 0, .slice none 0 0, .slice none 0 0]) ?_ 5 _ rfl; (with_reducible repeat (first | refine zJ ?_ _ | refine zX ?_ | refine zZ ?_ _)); refine yC (cs := #[.string (⟨#[71]⟩ : BY), .bool false, .int .i64 200, .slice none 0 0, .slice none 0 0, .slice none 0 0]) ?_ 4 _ rfl; (with_reducible repeat (first | refine zJ ?_ _ | refine zX ?_ | refine zZ ?_ _)); refine yC (cs := #[.string (⟨#[71]⟩ : BY), .bool false, .int .i64 200, .slice none 0 0, .slice none 0 0, .slice none 0 0]) ?_ 3 _ rfl; (with_reducible repeat (first | refine zJ ?_ _ | refine zX ?_ | refine zZ ?_ _)); refine yC (cs := #[.string (⟨#[71]⟩ : BY), .bool false, .int .i64 0, .slice none 0 0, .slice none 0 0, .slice none 0 0]) ?_ 2 _ rfl; (with_reducible repeat (first | refine zJ ?_ _ | refine zX ?_ | refine zZ ?_ _)); refine yC (cs := #[.string (⟨#[71]⟩ : BY), .bool false, .int .i64 0, .slice none 0 0, .slice none 0 0, .slice none 0 0]) ?_ 1 _ rfl; (with_reducible repeat (first | refine zJ ?_ _ | refine zX ?_ | refine zZ ?_ _)); refine yC (cs := #[.string (⟨#[]⟩ : BY), .bool false, .int .i64 0, .slice none 0 0, .slice none 0 0, .slice none 0 0]) ?_ 0 _ rfl; (with_reducible repeat (first | refine zJ ?_ _ | refine zX ?_ | refine zZ ?_ _)); exact zW.out⟩, ⟨zD HB.out⟩⟩
 case round =>
  clear H'
  try clear c2
  try clear p2
  try clear c5
  try clear zQQ
  try clear zQX
  try clear zQJ
  try clear zQV
  try clear zQK
  try clear zQY
  try clear zQW
  try clear zQa
  try clear zQb
  try clear zQc
  try clear zQd
  try clear zQe
  obtain ⟨vO, zQ, Qh, rfl, HA, jv, yh, qZ, zW, HB⟩ := hrel
  cases gk with
  | zero => exact absurd HA.out (by simp [zK.l0])
  | succ k1 =>
   have H := HA.out
   clear HA
   simp only [zK.l0] at H
   by_cases c7 : vO < 8
   ·rw [if_pos c7] at H
    have ZT : decide (vO < 8) = true := decide_eq_true c7
    clear c7
    replace H := Option.bind_eq_some_iff.mp H
    obtain ⟨WV, A80, H⟩ := H
    replace H : (if (Int.tmod WV 3) = 0 then (if vO < 2 then ((yA.f l0 vO).bind fun QA => (if zQ.length < 5864062014805 then (zK.l0 k1 l0 (wrap64 (vO + 1)) (⟨#[71]⟩ : BY) ((Int.tmod vQ 2) == 1) 200 (zQ ++ [(⟨strOfNums (([(wrap64 (97 + vO)) % 256] : List Int)), Int.tmod QA 3001⟩ : zo)])) else (none))) else (zK.l0 k1 l0 (wrap64 (vO + 1)) (⟨#[71]⟩ : BY) ((Int.tmod vQ 2) == 1) 200 zQ)) else ((yA.f l0 vO).bind fun QB => (if zQ.length < 5864062014805 then (zK.l0 k1 l0 (wrap64 (vO + 1)) (⟨#[71]⟩ : BY) ((Int.tmod vQ 2) == 1) 200 (zQ ++ [(⟨strOfNums (([(wrap64 (97 + vO)) % 256] : List Int)), Int.tmod QB 3001⟩ : zo)])) else (none)))) = some (r1, r2, r3, r4, r5, r6) := H
    have A8 := zx.mk A80
    clear A80
    by_cases c9 : (Int.tmod WV 3) = 0
    ·rw [if_pos c9] at H
     have mQ : ((Int.tmod WV 3) == 0) = true := beq_iff_eq.mpr c9
     have zjg : ((Int.tmod WV 3) != 0) = false := bne_eq_false_iff_eq.mpr c9
     clear c9
     by_cases c10 : vO < 2
     ·rw [if_pos c10] at H
      have fM : decide (vO < 2) = true := decide_eq_true c10
      clear c10
      obtain ⟨dU, lD⟩ : ∃ y_ : List Int, y_ = (([(wrap64 (97 + vO)) % 256] : List Int)) := ⟨_, rfl⟩
      replace H : ((yA.f l0 vO).bind fun QA => (if zQ.length < 5864062014805 then (zK.l0 k1 l0 (wrap64 (vO + 1)) (⟨#[71]⟩ : BY) ((Int.tmod vQ 2) == 1) 200 (zQ ++ [(⟨strOfNums dU, Int.tmod QA 3001⟩ : zo)])) else (none))) = some (r1, r2, r3, r4, r5, r6) := by first | (rw [lD]; with_reducible exact H) | (have xJ := (Option.bind_some _ _).symm.trans H; rw [lD]; with_reducible exact xJ) | (have xJ := (Option.bind_some _ _).symm.trans H; with_reducible exact xJ) | with_reducible exact H | (rw [lD]; exact H) | exact H
      have zxX := zx.mk lD
      clear lD
      replace H := Option.bind_eq_some_iff.mp H
      obtain ⟨QA, zji, H⟩ := H
      replace H : (if zQ.length < 5864062014805 then (zK.l0 k1 l0 (wrap64 (vO + 1)) (⟨#[71]⟩ : BY) ((Int.tmod vQ 2) == 1) 200 (zQ ++ [(⟨strOfNums dU, Int.tmod QA 3001⟩ : zo)])) else (none)) = some (r1, r2, r3, r4, r5, r6) := H
      have A11 := zx.mk zji
      clear zji
      by_cases c12 : zQ.length < 5864062014805
      ·rw [if_pos c12] at H
       have fP := zx.mk c12
       clear c12
       obtain ⟨zw8, lF⟩ : ∃ y_ : List (zo), y_ = (zQ ++ [(⟨strOfNums dU, Int.tmod QA 3001⟩ : zo)]) := ⟨_, rfl⟩
       replace H : (zK.l0 k1 l0 (wrap64 (vO + 1)) (⟨#[71]⟩ : BY) ((Int.tmod vQ 2) == 1) 200 zw8) = some (r1, r2, r3, r4, r5, r6) := by first | (rw [lF]; with_reducible exact H) | (have xJ := (Option.bind_some _ _).symm.trans H; rw [lF]; with_reducible exact xJ) | (have xJ := (Option.bind_some _ _).symm.trans H; with_reducible exact xJ) | with_reducible exact H | (rw [lF]; exact H) | exact H
       have zcM := zx.mk lF
       clear lF
       have H' := zx.mk H
       clear H
       try go_wp2_with (first | ((with_reducible refine yY (f := 82) rfl ?_); refine uN (some 23) Tryz.func82 #[.slice A0 l0.length c0, .int .i64 vO] ?_; (with_reducible refine (yA.calls _ _ l0 vO WV _ ?y8 ?qy A8.out).mono ?_); (case y8 => repeat (first | exact (Kd.zY kG.out HB.out) | (with_reducible refine Kd.zS ?_ _) | (with_reducible refine Kd.zT ?_ _) | (with_reducible refine Kd.yc ?_))); (case qy => exact ZW.out); rintro e w' ⟨rfl, ⟨nd, rfl⟩⟩; refine ⟨_, rfl, ?_⟩; (try (rw [JC wr]; generalize Y8 : World.drewN wr _ = wr; have zf : zx (Kd.R qJ 81 wr w.heap.size (fun _ => True) Qh zQ) := ⟨by rw [← Y8]; exact (yF yh.out)⟩; have zh : zx (wr.heap[vM]? = some (.cells #[.string (⟨#[]⟩ : BY), .bool false, .int .i64 0, .slice none 0 0, .slice none 0 0, .slice none 0 0] 26 (0, 0))) := ⟨by rw [← Y8]; exact (yt qZ.out)⟩; have zA : zx (wr.heap[y7]? = some (.cells #[.string (⟨#[71]⟩ : BY), .bool ((Int.tmod vQ 2) == 1), .int .i64 200, Qh, .slice none 0 0, .slice none 0 0] 44 (0, 0))) := ⟨by rw [← Y8]; exact (yt zW.out)⟩; have zR : zx (Below w.heap.size w wr) := ⟨by rw [← Y8]; exact (zD HB.out)⟩; clear yh qZ zW HB Y8; have yh := zf; have qZ := zh; have zW := zA; have HB := zR; clear zf zh zA zR)); obtain ⟨QU, Q0, zjw⟩ := Kd.y9 yh.out; subst zjw))
       have zf := zx.mk (Kd.qw yh.out)
       have zh := zx.mk (zX qZ.out)
       have zA := zx.mk (zX zW.out)
       have zR := zx.mk (yT HB.out)
       clear yh qZ zW HB
       have yh := zf
       have qZ := zh
       have zW := zA
       have HB := zR
       clear zf zh zA zR
       refine Zj (n := 16) (S := fun w' => w'.cell? ⟨y7, 0, none⟩ = some (.string (⟨#[71]⟩ : BY)) ∧ w'.cell? ⟨y7, 1, none⟩ = some (.bool ((Int.tmod vQ 2) == 1)) ∧ w'.cell? ⟨y7, 2, none⟩ = some (.int .i64 200) ∧ w'.cell? ⟨y7, 3, none⟩ = some (.slice QU zQ.length Q0) ∧ w'.cell? ⟨y7, 4, none⟩ = some (.slice none 0 0) ∧ w'.cell? ⟨y7, 5, none⟩ = some (.slice none 0 0)) (ds := [15]) #[false, false, false, false, false, false, false, false, false, false, false, false, false, false, false, false] (by kernel_rfl) rfl rfl ⟨(zk zW.out 0).trans rfl, (zk zW.out 1).trans rfl, (zk zW.out 2).trans rfl, (zk zW.out 3).trans rfl, (zk zW.out 4).trans rfl, (zk zW.out 5).trans rfl⟩ (fun hHeld => ?_); refine wL zK.zaK zK.zJO (fun zM jJ => ?_)
       generalize wr.drew = Ya at yh qZ zW HB hHeld ⊢
       refine qW 0 (some 30) zM ?_
       refine qW 2 (some 32) zM ?_
       refine qW 3 (some 33) zM ?_
       refine qW 4 (some 34) zM ?_
       refine qW 7 (some 37) zM ?_
       refine qW 8 (some 38) zM ?_
       refine kQ 1 (some 31) zM jJ hHeld ?_
       refine zy3 (σ := Value) 5 #[true, true, true, true, true, true, true, true, true, true, true, false, false, false, false, false] (fun s_ => [(35, s_), (36, .string (strOfNums dU)), (39, .int .i64 QA), (40, .int .i64 (Int.tmod QA 3001))]) (fun s_ w' => (w'.cell? ⟨y7, 0, none⟩ = some (.string (⟨#[71]⟩ : BY)) ∧ w'.cell? ⟨y7, 1, none⟩ = some (.bool ((Int.tmod vQ 2) == 1)) ∧ w'.cell? ⟨y7, 2, none⟩ = some (.int .i64 200) ∧ w'.cell? ⟨y7, 3, none⟩ = some (.slice QU zQ.length Q0) ∧ w'.cell? ⟨y7, 4, none⟩ = some (.slice none 0 0) ∧ w'.cell? ⟨y7, 5, none⟩ = some (.slice none 0 0)) ∧ (Kd.R (Kd.int .u8) 5 w' w.heap.size (fun _ => True) s_ dU) ∧ (Kd.R qJ 81 w' w.heap.size (fun _ => True) (.slice QU zQ.length Q0) zQ) ∧ (w'.heap[vM]? = some (.cells #[.string (⟨#[]⟩ : BY), .bool false, .int .i64 0, .slice none 0 0, .slice none 0 0, .slice none 0 0] 26 (0, 0))) ∧ (w'.heap[y7]? = some (.cells #[.string (⟨#[71]⟩ : BY), .bool ((Int.tmod vQ 2) == 1), .int .i64 200, .slice QU zQ.length Q0, .slice none 0 0, .slice none 0 0] 44 (0, 0))) ∧ (Below w.heap.size w w')) ?_ ?_
       rotate_left
       ·intro V3
        refine oq (i := 5) (j := 9) (Ni := some 35) (Nj := some 39) #[true, true, true, true, true, true, false, true, true, false, false, false, false, false, false, false] #[true, true, true, true, true, false, false, true, true, true, false, false, false, false, false, false] rfl rfl rfl rfl (PD zM.out (by kernel_rfl)) (by decide) (by decide) (fun K hK => ?_) (fun K hK => ?_)
        ·skip
         refine Kd.Qy (Kd.int .u8) _ 5 ?hg (N := 35) ?hd (xs := ([(wrap64 (97 + vO)) % 256] : List Int)) (inner := [.int .u8 ((wrap64 (97 + vO)) % 256)]) (ok := fun _ => True) (jc := fun _ => True) ?hr ?hp (fun _ hk => hk) trivial (Below.refl _ _) (Nat.le_refl _) (by simp) ?_; (case hd => rfl); (case hg => rfl); (case hr => first | (go_simp; done) | (go_simp; rfl)); (case hp => exact (yS.one (show Kd.M (Kd.int .u8) _ _ _ ((wrap64 (97 + vO)) % 256) [.int .u8 ((wrap64 (97 + vO)) % 256)] from rfl) (yS.none _ _)))
         intro zqZ JW WK hb wo ug
         clear wo ug
         (first | rw [← zxX.out] at WK | (simp only [Int.reduceToNat] at WK; rw [← zxX.out] at WK))
         have zf := zx.mk (Kd.qz (yF yh.out) hb)
         have zh := zx.mk (Kd.xI WK (zV (zD HB.out)))
         have zA := zx.mk (zl (g := vM) (o := .cells #[.string (⟨#[]⟩ : BY), .bool false, .int .i64 0, .slice none 0 0, .slice none 0 0, .slice none 0 0] 26 (0, 0)) (yt qZ.out) hb)
         have zR := zx.mk (zl (g := y7) (o := .cells #[.string (⟨#[71]⟩ : BY), .bool ((Int.tmod vQ 2) == 1), .int .i64 200, .slice QU zQ.length Q0, .slice none 0 0, .slice none 0 0] 44 (0, 0)) (yt zW.out) hb)
         have qV := zx.mk (zI (zD HB.out) hb)
         clear yh qZ zW HB
         have yh := zf
         have Uk := zh
         have qZ := zA
         have zW := zR
         have HB := qV
         clear zf zh zA zR qV hb WK
         refine hK.out _ _ ⟨(zk zW.out 0).trans rfl, (zk zW.out 1).trans rfl, (zk zW.out 2).trans rfl, (zk zW.out 3).trans rfl, (zk zW.out 4).trans rfl, (zk zW.out 5).trans rfl⟩ (fun hHeld => ?_)
         clear hK K
         refine wX (some 35) ?_
         refine oq (i := 6) (j := 9) (Ni := some 36) (Nj := some 39) #[true, true, true, true, true, true, true, true, true, false, false, false, false, false, false, false] #[true, true, true, true, true, true, false, true, true, true, false, false, false, false, false, false] rfl rfl rfl rfl (PD zM.out (by kernel_rfl)) (by decide) (by decide) (fun K hK => ?_) (fun K hK => ?_)
         ·skip
          have gq := wE (P := Tryz.prog) Tryz.underlying66 Tryz.underlying5 Tryz.underlying9 (Kd.ZC Uk.out)
          refine Jj ?_
          clear gq
          refine hK.out _ _ ⟨(zk zW.out 0).trans rfl, (zk zW.out 1).trans rfl, (zk zW.out 2).trans rfl, (zk zW.out 3).trans rfl, (zk zW.out 4).trans rfl, (zk zW.out 5).trans rfl⟩ (fun hHeld => ?_)
          clear hK K
          refine wX (some 36) ?_
          refine ZH 9 (some 39) zM (fun K hK => ?_)
          refine Xv Tryz.func82 (by kernel_rfl) rfl #[.slice A0 l0.length c0, .int .i64 vO] (by rfl) rfl rfl (by (try simp only [List.map_toArray, List.map_cons, List.map_nil]); first | done | rfl | (simp only [List.length_drop, List.length_take]; rfl)) ?_
          with_reducible refine (yA.calls _ _ l0 vO QA _ ?y8 ?qy A11.out).mono ?_
          (case y8 => repeat (first | exact (Kd.zY kG.out HB.out) | (with_reducible refine Kd.zS ?_ _) | (with_reducible refine Kd.zT ?_ _) | (with_reducible refine Kd.yc ?_)))
          (case qy => exact ZW.out)
          rintro e w' ⟨rfl, ⟨nd, rfl⟩⟩
          refine ⟨_, rfl, ?_⟩
          refine hK.out _ _ ⟨(zk zW.out 0).trans rfl, (zk zW.out 1).trans rfl, (zk zW.out 2).trans rfl, (zk zW.out 3).trans rfl, (zk zW.out 4).trans rfl, (zk zW.out 5).trans rfl⟩ (fun hHeld => ?_)
          clear hK K
          refine wX (some 39) ?_
          refine qW 10 (some 40) zM ?_
          exact YK (by simp only [YZ, Act.put, List.setIfInBounds_toArray, List.set_cons_zero, List.set_cons_succ]) (V3 (zqZ) _ ⟨hHeld, (yF Uk.out), (yF yh.out), (yt qZ.out), (yt zW.out), (zD HB.out)⟩)
         ·skip
          refine Xv Tryz.func82 (by kernel_rfl) rfl #[.slice A0 l0.length c0, .int .i64 vO] (by rfl) rfl rfl (by (try simp only [List.map_toArray, List.map_cons, List.map_nil]); first | done | rfl | (simp only [List.length_drop, List.length_take]; rfl)) ?_
          with_reducible refine (yA.calls _ _ l0 vO QA _ ?y8 ?qy A11.out).mono ?_
          (case y8 => repeat (first | exact (Kd.zY kG.out HB.out) | (with_reducible refine Kd.zS ?_ _) | (with_reducible refine Kd.zT ?_ _) | (with_reducible refine Kd.yc ?_)))
          (case qy => exact ZW.out)
          rintro e w' ⟨rfl, ⟨nd, rfl⟩⟩
          refine ⟨_, rfl, ?_⟩
          refine hK.out _ _ ⟨(zk zW.out 0).trans rfl, (zk zW.out 1).trans rfl, (zk zW.out 2).trans rfl, (zk zW.out 3).trans rfl, (zk zW.out 4).trans rfl, (zk zW.out 5).trans rfl⟩ (fun hHeld => ?_)
          clear hK K
          refine wX (some 39) ?_
          refine qW 10 (some 40) zM ?_
          refine ZH 6 (some 36) zM (fun K hK => ?_)
          have gq := wE (P := Tryz.prog) Tryz.underlying66 Tryz.underlying5 Tryz.underlying9 (Kd.ZC (Kd.qL Uk.out nd))
          refine Jj ?_
          clear gq
          refine hK.out _ _ ⟨(zk zW.out 0).trans rfl, (zk zW.out 1).trans rfl, (zk zW.out 2).trans rfl, (zk zW.out 3).trans rfl, (zk zW.out 4).trans rfl, (zk zW.out 5).trans rfl⟩ (fun hHeld => ?_)
          clear hK K
          refine wX (some 36) ?_
          exact YK (by simp only [YZ, Act.put, List.setIfInBounds_toArray, List.set_cons_zero, List.set_cons_succ]) (V3 (zqZ) _ ⟨hHeld, (yF Uk.out), (yF yh.out), (yt qZ.out), (yt zW.out), (zD HB.out)⟩)
        ·skip
         refine Xv Tryz.func82 (by kernel_rfl) rfl #[.slice A0 l0.length c0, .int .i64 vO] (by rfl) rfl rfl (by (try simp only [List.map_toArray, List.map_cons, List.map_nil]); first | done | rfl | (simp only [List.length_drop, List.length_take]; rfl)) ?_
         with_reducible refine (yA.calls _ _ l0 vO QA _ ?y8 ?qy A11.out).mono ?_
         (case y8 => repeat (first | exact (Kd.zY kG.out HB.out) | (with_reducible refine Kd.zS ?_ _) | (with_reducible refine Kd.zT ?_ _) | (with_reducible refine Kd.yc ?_)))
         (case qy => exact ZW.out)
         rintro e w' ⟨rfl, ⟨nd, rfl⟩⟩
         refine ⟨_, rfl, ?_⟩
         refine hK.out _ _ ⟨(zk zW.out 0).trans rfl, (zk zW.out 1).trans rfl, (zk zW.out 2).trans rfl, (zk zW.out 3).trans rfl, (zk zW.out 4).trans rfl, (zk zW.out 5).trans rfl⟩ (fun hHeld => ?_)
         clear hK K
         refine wX (some 39) ?_
         refine qW 10 (some 40) zM ?_
         refine ZH 5 (some 35) zM (fun K hK => ?_)
         refine Kd.Qy (Kd.int .u8) _ 5 ?hg (N := 35) ?hd (xs := ([(wrap64 (97 + vO)) % 256] : List Int)) (inner := [.int .u8 ((wrap64 (97 + vO)) % 256)]) (ok := fun _ => True) (jc := fun _ => True) ?hr ?hp (fun _ hk => hk) trivial (Below.refl _ _) (Nat.le_refl _) (by simp) ?_; (case hd => rfl); (case hg => rfl); (case hr => first | (go_simp; done) | (go_simp; rfl)); (case hp => exact (yS.one (show Kd.M (Kd.int .u8) _ _ _ ((wrap64 (97 + vO)) % 256) [.int .u8 ((wrap64 (97 + vO)) % 256)] from rfl) (yS.none _ _)))
         intro zqZ JW WK hb wo ug
         clear wo ug
         (first | rw [← zxX.out] at WK | (simp only [Int.reduceToNat] at WK; rw [← zxX.out] at WK))
         have zf := zx.mk (Kd.qz (yF yh.out) hb)
         have zh := zx.mk (Kd.xI WK (zV (zD HB.out)))
         have zA := zx.mk (zl (g := vM) (o := .cells #[.string (⟨#[]⟩ : BY), .bool false, .int .i64 0, .slice none 0 0, .slice none 0 0, .slice none 0 0] 26 (0, 0)) (yt qZ.out) hb)
         have zR := zx.mk (zl (g := y7) (o := .cells #[.string (⟨#[71]⟩ : BY), .bool ((Int.tmod vQ 2) == 1), .int .i64 200, .slice QU zQ.length Q0, .slice none 0 0, .slice none 0 0] 44 (0, 0)) (yt zW.out) hb)
         have qV := zx.mk (zI (zD HB.out) hb)
         clear yh qZ zW HB
         have yh := zf
         have Uk := zh
         have qZ := zA
         have zW := zR
         have HB := qV
         clear zf zh zA zR qV hb WK
         refine hK.out _ _ ⟨(zk zW.out 0).trans rfl, (zk zW.out 1).trans rfl, (zk zW.out 2).trans rfl, (zk zW.out 3).trans rfl, (zk zW.out 4).trans rfl, (zk zW.out 5).trans rfl⟩ (fun hHeld => ?_)
         clear hK K
         refine wX (some 35) ?_
         refine ZH 6 (some 36) zM (fun K hK => ?_)
         have gq := wE (P := Tryz.prog) Tryz.underlying66 Tryz.underlying5 Tryz.underlying9 (Kd.ZC Uk.out)
         refine Jj ?_
         clear gq
         refine hK.out _ _ ⟨(zk zW.out 0).trans rfl, (zk zW.out 1).trans rfl, (zk zW.out 2).trans rfl, (zk zW.out 3).trans rfl, (zk zW.out 4).trans rfl, (zk zW.out 5).trans rfl⟩ (fun hHeld => ?_)
         clear hK K
         refine wX (some 36) ?_
         exact YK (by simp only [YZ, Act.put, List.setIfInBounds_toArray, List.set_cons_zero, List.set_cons_succ]) (V3 (zqZ) _ ⟨hHeld, (yF Uk.out), (yF yh.out), (yt qZ.out), (yt zW.out), (zD HB.out)⟩)
       rintro zqZ YD ⟨hS_, h0_, h1_, h2_, h3_, h4_⟩
       have zf : zx (Kd.R (Kd.int .u8) 5 YD w.heap.size (fun _ => True) zqZ dU) := ⟨h0_⟩
       have zh : zx (Kd.R qJ 81 YD w.heap.size (fun _ => True) (.slice QU zQ.length Q0) zQ) := ⟨h1_⟩
       have zA : zx (YD.heap[vM]? = some (.cells #[.string (⟨#[]⟩ : BY), .bool false, .int .i64 0, .slice none 0 0, .slice none 0 0, .slice none 0 0] 26 (0, 0))) := ⟨h2_⟩
       have zR : zx (YD.heap[y7]? = some (.cells #[.string (⟨#[71]⟩ : BY), .bool ((Int.tmod vQ 2) == 1), .int .i64 200, .slice QU zQ.length Q0, .slice none 0 0, .slice none 0 0] 44 (0, 0))) := ⟨h3_⟩
       have qV : zx (Below w.heap.size w YD) := ⟨h4_⟩
       clear yh qZ zW HB h0_ h1_ h2_ h3_ h4_
       have Uk := zf
       have yh := zh
       have qZ := zA
       have zW := zR
       have HB := qV
       clear zf zh zA zR qV
       have hHeld : YD.cell? ⟨y7, 0, none⟩ = some (.string (⟨#[71]⟩ : BY)) ∧ YD.cell? ⟨y7, 1, none⟩ = some (.bool ((Int.tmod vQ 2) == 1)) ∧ YD.cell? ⟨y7, 2, none⟩ = some (.int .i64 200) ∧ YD.cell? ⟨y7, 3, none⟩ = some (.slice QU zQ.length Q0) ∧ YD.cell? ⟨y7, 4, none⟩ = some (.slice none 0 0) ∧ YD.cell? ⟨y7, 5, none⟩ = some (.slice none 0 0) := hS_
       refine YK (a' := ?_) ?_ ?_
       rotate_left
       ·simp only [YZ, Act.put, List.setIfInBounds_toArray, List.set_cons_zero, List.set_cons_succ]
        rfl
       refine qW 11 (some 41) zM ?_
       refine ZH 12 (some 42) zM (fun K hK => ?_)
       refine Jj ?_
       refine hK.out _ _ ⟨(zk (zZ zW.out _) 0).trans rfl, (zk (zZ zW.out _) 1).trans rfl, (zk (zZ zW.out _) 2).trans rfl, (zk (zZ zW.out _) 3).trans rfl, (zk (zZ zW.out _) 4).trans rfl, (zk (zZ zW.out _) 5).trans rfl⟩ (fun hHeld => ?_)
       clear hK K
       refine wX (some 42) ?_
       refine ZH 13 (some 43) zM (fun K hK => ?_)
       refine Kd.kL qJ (w0 := w) w.heap.size (by rfl) (.tmp 31) (.tmp 42) 40 81 (.agg #[(.string ⟨#[]⟩), (.int .i64 0)]) 24 rfl Tryz.underlying40 u7 rfl (by decide) (by omega) (.slice QU zQ.length Q0) zQ (⟨strOfNums dU, Int.tmod QA 3001⟩ : zo) [.string (strOfNums dU), .int .i64 (Int.tmod QA 3001)] (fun _ => True) (fun _ => False) rfl rfl ?aP (fun _ hk => hk.elim) ?aF ?aO ?aB ?aS ?aL ?_
       (case aP => exact xS _ _ _ (⟨strOfNums dU, Int.tmod QA 3001⟩ : zo))
       (case aB => exact (zD HB.out))
       (case aF => exact (fun _ _ => trivial))
       (case aO => exact (yF yh.out))
       (case aS => exact (zV (zD HB.out)))
       (case aL => have := fP.out; omega)
       intro zmY mP ho hb hg hat
       rw [← zcM.out] at ho
       have zf := zx.mk (qQ (g := vM) (o := .cells #[.string (⟨#[]⟩ : BY), .bool false, .int .i64 0, .slice none 0 0, .slice none 0 0, .slice none 0 0] 26 (0, 0)) (yt qZ.out) hg (Kd.kE yh.out qZ.out (by decide)))
       have zh := zx.mk (qQ (g := y7) (o := .cells #[.string (⟨#[71]⟩ : BY), .bool ((Int.tmod vQ 2) == 1), .int .i64 200, .slice QU zQ.length Q0, .slice none 0 0, .slice none 0 0] 44 (0, 0)) (yt zW.out) hg (Kd.kE yh.out zW.out (by decide)))
       have zA := zx.mk (Kd.Yd (yF Uk.out) (Kd.kN (yF yh.out)) (by decide) hg)
       have zR := zx.mk (hb)
       have qV := zx.mk (ho)
       clear qZ zW Uk HB yh
       have qZ := zf
       have zW := zh
       have Uk := zA
       have HB := zR
       have zJP := qV
       clear zf zh zA zR qV ho hb hg hat
       obtain ⟨zaW, zaa, zab⟩ := Kd.y9 zJP.out
       (first | subst zab | (injection zab with X8 KT X9; have KU := X8.symm; have K8 := X9.symm; clear X8 KT X9; subst KU; subst K8))
       refine hK.out _ _ ⟨(zk zW.out 0).trans rfl, (zk zW.out 1).trans rfl, (zk zW.out 2).trans rfl, (zk zW.out 3).trans rfl, (zk zW.out 4).trans rfl, (zk zW.out 5).trans rfl⟩ (fun hHeld => ?_)
       clear hK K
       refine wX (some 43) ?_
       refine qW 14 (some 44) zM ?_
       refine Qw (i := 15) (N := none) #[true, true, true, true, true, true, true, true, true, true, true, true, true, true, true, true] rfl rfl (wI zM.out (by kernel_rfl)) (by decide) (fun K hK => ?_)
       have zmW : mP.cell? ⟨y7, 3, none⟩ = some (.slice QU zQ.length Q0) := (zk zW.out 3).trans rfl
       have zli := zw zW.out 3
       have zgH := Qv.out
       have zgI := Qk.out
       refine QZ (w1 := ?_) (by rfl) rfl ?_ ?_
       rotate_left
       ·go_simp
        rfl
       refine hK.out _ _ ?_
       clear hK K
       refine uO (vW zM.out (by kernel_rfl)) ?_
       try go_wp2
       go_roundg k1
       case measure => have := jv.out; omega
       case rel => exact ⟨(wrap64 (vO + 1)), (zw8), (.slice zaW zw8.length zaa), (by first | rfl | (simp; done) | (simp [*]; done)), H', ⟨by have := jv.out; omega⟩, ⟨by (with_reducible repeat (first | apply Kd.q9 | apply Kd.qL | apply Kd.qw)); exact Kd.zL (Kd.yK (p := ⟨y7, 3, none⟩) (Kd.zi zJP.out zW.out (by decide)) (fun _ hk => hk.2) (.slice zaW zw8.length zaa)) (fun _ hk => trivial)⟩, ⟨wJ qZ.out⟩, ⟨by (with_reducible repeat (first | refine zJ ?_ _ | refine zX ?_ | refine zZ ?_ _)); refine yC (cs := #[.string (⟨#[71]⟩ : BY), .bool ((Int.tmod vQ 2) == 1), .int .i64 200, .slice QU zQ.length Q0, .slice none 0 0, .slice none 0 0]) ?_ 3 _ rfl; (with_reducible repeat (first | refine zJ ?_ _ | refine zX ?_ | refine zZ ?_ _)); exact zW.out⟩, ⟨zD HB.out⟩⟩
      ·rw [if_neg c12] at H
       exact absurd H (by simp)
     ·rw [if_neg c10] at H
      have fM : decide (vO < 2) = false := decide_eq_false c10
      clear c10
      have H' := zx.mk H
      clear H
      go_wp2_with (first | ((with_reducible refine yY (f := 82) rfl ?_); refine uN (some 23) Tryz.func82 #[.slice A0 l0.length c0, .int .i64 vO] ?_; (with_reducible refine (yA.calls _ _ l0 vO WV _ ?y8 ?qy A8.out).mono ?_); (case y8 => repeat (first | exact (Kd.zY kG.out HB.out) | (with_reducible refine Kd.zS ?_ _) | (with_reducible refine Kd.zT ?_ _) | (with_reducible refine Kd.yc ?_))); (case qy => exact ZW.out); rintro e w' ⟨rfl, ⟨nd, rfl⟩⟩; refine ⟨_, rfl, ?_⟩))
      go_roundg k1
      case measure => have := jv.out; omega
      case rel => exact ⟨(wrap64 (vO + 1)), (zQ), (Qh), (by first | rfl | (simp; done) | (simp [*]; done)), H', ⟨by have := jv.out; omega⟩, ⟨yF yh.out⟩, ⟨yt qZ.out⟩, ⟨yt zW.out⟩, ⟨zD HB.out⟩⟩
    ·rw [if_neg c9] at H
     have mQ : ((Int.tmod WV 3) == 0) = false := beq_eq_false_iff_ne.mpr c9
     have zjg : ((Int.tmod WV 3) != 0) = true := bne_iff_ne.mpr c9
     obtain ⟨gy, lG⟩ : ∃ y_ : List Int, y_ = (([(wrap64 (97 + vO)) % 256] : List Int)) := ⟨_, rfl⟩
     replace H : ((yA.f l0 vO).bind fun QB => (if zQ.length < 5864062014805 then (zK.l0 k1 l0 (wrap64 (vO + 1)) (⟨#[71]⟩ : BY) ((Int.tmod vQ 2) == 1) 200 (zQ ++ [(⟨strOfNums gy, Int.tmod QB 3001⟩ : zo)])) else (none))) = some (r1, r2, r3, r4, r5, r6) := by first | (rw [lG]; with_reducible exact H) | (have xJ := (Option.bind_some _ _).symm.trans H; rw [lG]; with_reducible exact xJ) | (have xJ := (Option.bind_some _ _).symm.trans H; with_reducible exact xJ) | with_reducible exact H | (rw [lG]; exact H) | exact H
     have zxJ := zx.mk lG
     clear lG
     replace H := Option.bind_eq_some_iff.mp H
     obtain ⟨QB, zx2, H⟩ := H
     replace H : (if zQ.length < 5864062014805 then (zK.l0 k1 l0 (wrap64 (vO + 1)) (⟨#[71]⟩ : BY) ((Int.tmod vQ 2) == 1) 200 (zQ ++ [(⟨strOfNums gy, Int.tmod QB 3001⟩ : zo)])) else (none)) = some (r1, r2, r3, r4, r5, r6) := H
     have A22 := zx.mk zx2
     clear zx2
     by_cases c23 : zQ.length < 5864062014805
     ·rw [if_pos c23] at H
      have zcN := zx.mk c23
      clear c23
      obtain ⟨zw9, lH⟩ : ∃ y_ : List (zo), y_ = (zQ ++ [(⟨strOfNums gy, Int.tmod QB 3001⟩ : zo)]) := ⟨_, rfl⟩
      replace H : (zK.l0 k1 l0 (wrap64 (vO + 1)) (⟨#[71]⟩ : BY) ((Int.tmod vQ 2) == 1) 200 zw9) = some (r1, r2, r3, r4, r5, r6) := by first | (rw [lH]; with_reducible exact H) | (have xJ := (Option.bind_some _ _).symm.trans H; rw [lH]; with_reducible exact xJ) | (have xJ := (Option.bind_some _ _).symm.trans H; with_reducible exact xJ) | with_reducible exact H | (rw [lH]; exact H) | exact H
      have zcO := zx.mk lH
      clear lH
      have H' := zx.mk H
      clear H
      try go_wp2_with (first | ((with_reducible refine yY (f := 82) rfl ?_); refine uN (some 23) Tryz.func82 #[.slice A0 l0.length c0, .int .i64 vO] ?_; (with_reducible refine (yA.calls _ _ l0 vO WV _ ?y8 ?qy A8.out).mono ?_); (case y8 => repeat (first | exact (Kd.zY kG.out HB.out) | (with_reducible refine Kd.zS ?_ _) | (with_reducible refine Kd.zT ?_ _) | (with_reducible refine Kd.yc ?_))); (case qy => exact ZW.out); rintro e w' ⟨rfl, ⟨nd, rfl⟩⟩; refine ⟨_, rfl, ?_⟩; (try (rw [JC wr]; generalize Y8 : World.drewN wr _ = wr; have zf : zx (Kd.R qJ 81 wr w.heap.size (fun _ => True) Qh zQ) := ⟨by rw [← Y8]; exact (yF yh.out)⟩; have zh : zx (wr.heap[vM]? = some (.cells #[.string (⟨#[]⟩ : BY), .bool false, .int .i64 0, .slice none 0 0, .slice none 0 0, .slice none 0 0] 26 (0, 0))) := ⟨by rw [← Y8]; exact (yt qZ.out)⟩; have zA : zx (wr.heap[y7]? = some (.cells #[.string (⟨#[71]⟩ : BY), .bool ((Int.tmod vQ 2) == 1), .int .i64 200, Qh, .slice none 0 0, .slice none 0 0] 44 (0, 0))) := ⟨by rw [← Y8]; exact (yt zW.out)⟩; have zR : zx (Below w.heap.size w wr) := ⟨by rw [← Y8]; exact (zD HB.out)⟩; clear yh qZ zW HB Y8; have yh := zf; have qZ := zh; have zW := zA; have HB := zR; clear zf zh zA zR)); obtain ⟨U0, U1, zfH⟩ := Kd.y9 yh.out; subst zfH))
      have zf := zx.mk (Kd.qw yh.out)
      have zh := zx.mk (zX qZ.out)
      have zA := zx.mk (zX zW.out)
      have zR := zx.mk (yT HB.out)
      clear yh qZ zW HB
      have yh := zf
      have qZ := zh
      have zW := zA
      have HB := zR
      clear zf zh zA zR
      refine Zj (n := 16) (S := fun w' => w'.cell? ⟨y7, 0, none⟩ = some (.string (⟨#[71]⟩ : BY)) ∧ w'.cell? ⟨y7, 1, none⟩ = some (.bool ((Int.tmod vQ 2) == 1)) ∧ w'.cell? ⟨y7, 2, none⟩ = some (.int .i64 200) ∧ w'.cell? ⟨y7, 3, none⟩ = some (.slice U0 zQ.length U1) ∧ w'.cell? ⟨y7, 4, none⟩ = some (.slice none 0 0) ∧ w'.cell? ⟨y7, 5, none⟩ = some (.slice none 0 0)) (ds := [15]) #[false, false, false, false, false, false, false, false, false, false, false, false, false, false, false, false] (by kernel_rfl) rfl rfl ⟨(zk zW.out 0).trans rfl, (zk zW.out 1).trans rfl, (zk zW.out 2).trans rfl, (zk zW.out 3).trans rfl, (zk zW.out 4).trans rfl, (zk zW.out 5).trans rfl⟩ (fun hHeld => ?_); refine wL zK.zaK zK.zJO (fun zM jJ => ?_)
      generalize wr.drew = w25 at yh qZ zW HB hHeld ⊢
      refine qW 0 (some 30) zM ?_
      refine qW 2 (some 32) zM ?_
      refine qW 3 (some 33) zM ?_
      refine qW 4 (some 34) zM ?_
      refine qW 7 (some 37) zM ?_
      refine qW 8 (some 38) zM ?_
      refine kQ 1 (some 31) zM jJ hHeld ?_
      refine zy3 (σ := Value) 5 #[true, true, true, true, true, true, true, true, true, true, true, false, false, false, false, false] (fun s_ => [(35, s_), (36, .string (strOfNums gy)), (39, .int .i64 QB), (40, .int .i64 (Int.tmod QB 3001))]) (fun s_ w' => (w'.cell? ⟨y7, 0, none⟩ = some (.string (⟨#[71]⟩ : BY)) ∧ w'.cell? ⟨y7, 1, none⟩ = some (.bool ((Int.tmod vQ 2) == 1)) ∧ w'.cell? ⟨y7, 2, none⟩ = some (.int .i64 200) ∧ w'.cell? ⟨y7, 3, none⟩ = some (.slice U0 zQ.length U1) ∧ w'.cell? ⟨y7, 4, none⟩ = some (.slice none 0 0) ∧ w'.cell? ⟨y7, 5, none⟩ = some (.slice none 0 0)) ∧ (Kd.R (Kd.int .u8) 5 w' w.heap.size (fun _ => True) s_ gy) ∧ (Kd.R qJ 81 w' w.heap.size (fun _ => True) (.slice U0 zQ.length U1) zQ) ∧ (w'.heap[vM]? = some (.cells #[.string (⟨#[]⟩ : BY), .bool false, .int .i64 0, .slice none 0 0, .slice none 0 0, .slice none 0 0] 26 (0, 0))) ∧ (w'.heap[y7]? = some (.cells #[.string (⟨#[71]⟩ : BY), .bool ((Int.tmod vQ 2) == 1), .int .i64 200, .slice U0 zQ.length U1, .slice none 0 0, .slice none 0 0] 44 (0, 0))) ∧ (Below w.heap.size w w')) ?_ ?_
      rotate_left
      ·intro V3
       refine oq (i := 5) (j := 9) (Ni := some 35) (Nj := some 39) #[true, true, true, true, true, true, false, true, true, false, false, false, false, false, false, false] #[true, true, true, true, true, false, false, true, true, true, false, false, false, false, false, false] rfl rfl rfl rfl (PD zM.out (by kernel_rfl)) (by decide) (by decide) (fun K hK => ?_) (fun K hK => ?_)
       ·skip
        refine Kd.Qy (Kd.int .u8) _ 5 ?hg (N := 35) ?hd (xs := ([(wrap64 (97 + vO)) % 256] : List Int)) (inner := [.int .u8 ((wrap64 (97 + vO)) % 256)]) (ok := fun _ => True) (jc := fun _ => True) ?hr ?hp (fun _ hk => hk) trivial (Below.refl _ _) (Nat.le_refl _) (by simp) ?_; (case hd => rfl); (case hg => rfl); (case hr => first | (go_simp; done) | (go_simp; rfl)); (case hp => exact (yS.one (show Kd.M (Kd.int .u8) _ _ _ ((wrap64 (97 + vO)) % 256) [.int .u8 ((wrap64 (97 + vO)) % 256)] from rfl) (yS.none _ _)))
        intro zqQ w26 WY hb wo ug
        clear wo ug
        (first | rw [← zxJ.out] at WY | (simp only [Int.reduceToNat] at WY; rw [← zxJ.out] at WY))
        have zf := zx.mk (Kd.qz (yF yh.out) hb)
        have zh := zx.mk (Kd.xI WY (zV (zD HB.out)))
        have zA := zx.mk (zl (g := vM) (o := .cells #[.string (⟨#[]⟩ : BY), .bool false, .int .i64 0, .slice none 0 0, .slice none 0 0, .slice none 0 0] 26 (0, 0)) (yt qZ.out) hb)
        have zR := zx.mk (zl (g := y7) (o := .cells #[.string (⟨#[71]⟩ : BY), .bool ((Int.tmod vQ 2) == 1), .int .i64 200, .slice U0 zQ.length U1, .slice none 0 0, .slice none 0 0] 44 (0, 0)) (yt zW.out) hb)
        have qV := zx.mk (zI (zD HB.out) hb)
        clear yh qZ zW HB
        have yh := zf
        have Uy := zh
        have qZ := zA
        have zW := zR
        have HB := qV
        clear zf zh zA zR qV hb WY
        refine hK.out _ _ ⟨(zk zW.out 0).trans rfl, (zk zW.out 1).trans rfl, (zk zW.out 2).trans rfl, (zk zW.out 3).trans rfl, (zk zW.out 4).trans rfl, (zk zW.out 5).trans rfl⟩ (fun hHeld => ?_)
        clear hK K
        refine wX (some 35) ?_
        refine oq (i := 6) (j := 9) (Ni := some 36) (Nj := some 39) #[true, true, true, true, true, true, true, true, true, false, false, false, false, false, false, false] #[true, true, true, true, true, true, false, true, true, true, false, false, false, false, false, false] rfl rfl rfl rfl (PD zM.out (by kernel_rfl)) (by decide) (by decide) (fun K hK => ?_) (fun K hK => ?_)
        ·skip
         have gZ := wE (P := Tryz.prog) Tryz.underlying66 Tryz.underlying5 Tryz.underlying9 (Kd.ZC Uy.out)
         refine Jj ?_
         clear gZ
         refine hK.out _ _ ⟨(zk zW.out 0).trans rfl, (zk zW.out 1).trans rfl, (zk zW.out 2).trans rfl, (zk zW.out 3).trans rfl, (zk zW.out 4).trans rfl, (zk zW.out 5).trans rfl⟩ (fun hHeld => ?_)
         clear hK K
         refine wX (some 36) ?_
         refine ZH 9 (some 39) zM (fun K hK => ?_)
         refine Xv Tryz.func82 (by kernel_rfl) rfl #[.slice A0 l0.length c0, .int .i64 vO] (by rfl) rfl rfl (by (try simp only [List.map_toArray, List.map_cons, List.map_nil]); first | done | rfl | (simp only [List.length_drop, List.length_take]; rfl)) ?_
         with_reducible refine (yA.calls _ _ l0 vO QB _ ?y8 ?qy A22.out).mono ?_
         (case y8 => repeat (first | exact (Kd.zY kG.out HB.out) | (with_reducible refine Kd.zS ?_ _) | (with_reducible refine Kd.zT ?_ _) | (with_reducible refine Kd.yc ?_)))
         (case qy => exact ZW.out)
         rintro e w' ⟨rfl, ⟨nd, rfl⟩⟩
         refine ⟨_, rfl, ?_⟩
         refine hK.out _ _ ⟨(zk zW.out 0).trans rfl, (zk zW.out 1).trans rfl, (zk zW.out 2).trans rfl, (zk zW.out 3).trans rfl, (zk zW.out 4).trans rfl, (zk zW.out 5).trans rfl⟩ (fun hHeld => ?_)
         clear hK K
         refine wX (some 39) ?_
         refine qW 10 (some 40) zM ?_
         exact YK (by simp only [YZ, Act.put, List.setIfInBounds_toArray, List.set_cons_zero, List.set_cons_succ]) (V3 (zqQ) _ ⟨hHeld, (yF Uy.out), (yF yh.out), (yt qZ.out), (yt zW.out), (zD HB.out)⟩)
        ·skip
         refine Xv Tryz.func82 (by kernel_rfl) rfl #[.slice A0 l0.length c0, .int .i64 vO] (by rfl) rfl rfl (by (try simp only [List.map_toArray, List.map_cons, List.map_nil]); first | done | rfl | (simp only [List.length_drop, List.length_take]; rfl)) ?_
         with_reducible refine (yA.calls _ _ l0 vO QB _ ?y8 ?qy A22.out).mono ?_
         (case y8 => repeat (first | exact (Kd.zY kG.out HB.out) | (with_reducible refine Kd.zS ?_ _) | (with_reducible refine Kd.zT ?_ _) | (with_reducible refine Kd.yc ?_)))
         (case qy => exact ZW.out)
         rintro e w' ⟨rfl, ⟨nd, rfl⟩⟩
         refine ⟨_, rfl, ?_⟩
         refine hK.out _ _ ⟨(zk zW.out 0).trans rfl, (zk zW.out 1).trans rfl, (zk zW.out 2).trans rfl, (zk zW.out 3).trans rfl, (zk zW.out 4).trans rfl, (zk zW.out 5).trans rfl⟩ (fun hHeld => ?_)
         clear hK K
         refine wX (some 39) ?_
         refine qW 10 (some 40) zM ?_
         refine ZH 6 (some 36) zM (fun K hK => ?_)
         have gZ := wE (P := Tryz.prog) Tryz.underlying66 Tryz.underlying5 Tryz.underlying9 (Kd.ZC (Kd.qL Uy.out nd))
         refine Jj ?_
         clear gZ
         refine hK.out _ _ ⟨(zk zW.out 0).trans rfl, (zk zW.out 1).trans rfl, (zk zW.out 2).trans rfl, (zk zW.out 3).trans rfl, (zk zW.out 4).trans rfl, (zk zW.out 5).trans rfl⟩ (fun hHeld => ?_)
         clear hK K
         refine wX (some 36) ?_
         exact YK (by simp only [YZ, Act.put, List.setIfInBounds_toArray, List.set_cons_zero, List.set_cons_succ]) (V3 (zqQ) _ ⟨hHeld, (yF Uy.out), (yF yh.out), (yt qZ.out), (yt zW.out), (zD HB.out)⟩)
       ·skip
        refine Xv Tryz.func82 (by kernel_rfl) rfl #[.slice A0 l0.length c0, .int .i64 vO] (by rfl) rfl rfl (by (try simp only [List.map_toArray, List.map_cons, List.map_nil]); first | done | rfl | (simp only [List.length_drop, List.length_take]; rfl)) ?_
        with_reducible refine (yA.calls _ _ l0 vO QB _ ?y8 ?qy A22.out).mono ?_
        (case y8 => repeat (first | exact (Kd.zY kG.out HB.out) | (with_reducible refine Kd.zS ?_ _) | (with_reducible refine Kd.zT ?_ _) | (with_reducible refine Kd.yc ?_)))
        (case qy => exact ZW.out)
        rintro e w' ⟨rfl, ⟨nd, rfl⟩⟩
        refine ⟨_, rfl, ?_⟩
        refine hK.out _ _ ⟨(zk zW.out 0).trans rfl, (zk zW.out 1).trans rfl, (zk zW.out 2).trans rfl, (zk zW.out 3).trans rfl, (zk zW.out 4).trans rfl, (zk zW.out 5).trans rfl⟩ (fun hHeld => ?_)
        clear hK K
        refine wX (some 39) ?_
        refine qW 10 (some 40) zM ?_
        refine ZH 5 (some 35) zM (fun K hK => ?_)
        refine Kd.Qy (Kd.int .u8) _ 5 ?hg (N := 35) ?hd (xs := ([(wrap64 (97 + vO)) % 256] : List Int)) (inner := [.int .u8 ((wrap64 (97 + vO)) % 256)]) (ok := fun _ => True) (jc := fun _ => True) ?hr ?hp (fun _ hk => hk) trivial (Below.refl _ _) (Nat.le_refl _) (by simp) ?_; (case hd => rfl); (case hg => rfl); (case hr => first | (go_simp; done) | (go_simp; rfl)); (case hp => exact (yS.one (show Kd.M (Kd.int .u8) _ _ _ ((wrap64 (97 + vO)) % 256) [.int .u8 ((wrap64 (97 + vO)) % 256)] from rfl) (yS.none _ _)))
        intro zqQ w26 WY hb wo ug
        clear wo ug
        (first | rw [← zxJ.out] at WY | (simp only [Int.reduceToNat] at WY; rw [← zxJ.out] at WY))
        have zf := zx.mk (Kd.qz (yF yh.out) hb)
        have zh := zx.mk (Kd.xI WY (zV (zD HB.out)))
        have zA := zx.mk (zl (g := vM) (o := .cells #[.string (⟨#[]⟩ : BY), .bool false, .int .i64 0, .slice none 0 0, .slice none 0 0, .slice none 0 0] 26 (0, 0)) (yt qZ.out) hb)
        have zR := zx.mk (zl (g := y7) (o := .cells #[.string (⟨#[71]⟩ : BY), .bool ((Int.tmod vQ 2) == 1), .int .i64 200, .slice U0 zQ.length U1, .slice none 0 0, .slice none 0 0] 44 (0, 0)) (yt zW.out) hb)
        have qV := zx.mk (zI (zD HB.out) hb)
        clear yh qZ zW HB
        have yh := zf
        have Uy := zh
        have qZ := zA
        have zW := zR
        have HB := qV
        clear zf zh zA zR qV hb WY
        refine hK.out _ _ ⟨(zk zW.out 0).trans rfl, (zk zW.out 1).trans rfl, (zk zW.out 2).trans rfl, (zk zW.out 3).trans rfl, (zk zW.out 4).trans rfl, (zk zW.out 5).trans rfl⟩ (fun hHeld => ?_)
        clear hK K
        refine wX (some 35) ?_
        refine ZH 6 (some 36) zM (fun K hK => ?_)
        have gZ := wE (P := Tryz.prog) Tryz.underlying66 Tryz.underlying5 Tryz.underlying9 (Kd.ZC Uy.out)
        refine Jj ?_
        clear gZ
        refine hK.out _ _ ⟨(zk zW.out 0).trans rfl, (zk zW.out 1).trans rfl, (zk zW.out 2).trans rfl, (zk zW.out 3).trans rfl, (zk zW.out 4).trans rfl, (zk zW.out 5).trans rfl⟩ (fun hHeld => ?_)
        clear hK K
        refine wX (some 36) ?_
        exact YK (by simp only [YZ, Act.put, List.setIfInBounds_toArray, List.set_cons_zero, List.set_cons_succ]) (V3 (zqQ) _ ⟨hHeld, (yF Uy.out), (yF yh.out), (yt qZ.out), (yt zW.out), (zD HB.out)⟩)
      rintro zqQ bF ⟨hS_, h0_, h1_, h2_, h3_, h4_⟩
      have zf : zx (Kd.R (Kd.int .u8) 5 bF w.heap.size (fun _ => True) zqQ gy) := ⟨h0_⟩
      have zh : zx (Kd.R qJ 81 bF w.heap.size (fun _ => True) (.slice U0 zQ.length U1) zQ) := ⟨h1_⟩
      have zA : zx (bF.heap[vM]? = some (.cells #[.string (⟨#[]⟩ : BY), .bool false, .int .i64 0, .slice none 0 0, .slice none 0 0, .slice none 0 0] 26 (0, 0))) := ⟨h2_⟩
      have zR : zx (bF.heap[y7]? = some (.cells #[.string (⟨#[71]⟩ : BY), .bool ((Int.tmod vQ 2) == 1), .int .i64 200, .slice U0 zQ.length U1, .slice none 0 0, .slice none 0 0] 44 (0, 0))) := ⟨h3_⟩
      have qV : zx (Below w.heap.size w bF) := ⟨h4_⟩
      clear yh qZ zW HB h0_ h1_ h2_ h3_ h4_
      have Uy := zf
      have yh := zh
      have qZ := zA
      have zW := zR
      have HB := qV
      clear zf zh zA zR qV
      have hHeld : bF.cell? ⟨y7, 0, none⟩ = some (.string (⟨#[71]⟩ : BY)) ∧ bF.cell? ⟨y7, 1, none⟩ = some (.bool ((Int.tmod vQ 2) == 1)) ∧ bF.cell? ⟨y7, 2, none⟩ = some (.int .i64 200) ∧ bF.cell? ⟨y7, 3, none⟩ = some (.slice U0 zQ.length U1) ∧ bF.cell? ⟨y7, 4, none⟩ = some (.slice none 0 0) ∧ bF.cell? ⟨y7, 5, none⟩ = some (.slice none 0 0) := hS_
      refine YK (a' := ?_) ?_ ?_
      rotate_left
      ·simp only [YZ, Act.put, List.setIfInBounds_toArray, List.set_cons_zero, List.set_cons_succ]
       rfl
      refine qW 11 (some 41) zM ?_
      refine ZH 12 (some 42) zM (fun K hK => ?_)
      refine Jj ?_
      refine hK.out _ _ ⟨(zk (zZ zW.out _) 0).trans rfl, (zk (zZ zW.out _) 1).trans rfl, (zk (zZ zW.out _) 2).trans rfl, (zk (zZ zW.out _) 3).trans rfl, (zk (zZ zW.out _) 4).trans rfl, (zk (zZ zW.out _) 5).trans rfl⟩ (fun hHeld => ?_)
      clear hK K
      refine wX (some 42) ?_
      refine ZH 13 (some 43) zM (fun K hK => ?_)
      refine Kd.kL qJ (w0 := w) w.heap.size (by rfl) (.tmp 31) (.tmp 42) 40 81 (.agg #[(.string ⟨#[]⟩), (.int .i64 0)]) 24 rfl Tryz.underlying40 u7 rfl (by decide) (by omega) (.slice U0 zQ.length U1) zQ (⟨strOfNums gy, Int.tmod QB 3001⟩ : zo) [.string (strOfNums gy), .int .i64 (Int.tmod QB 3001)] (fun _ => True) (fun _ => False) rfl rfl ?aP (fun _ hk => hk.elim) ?aF ?aO ?aB ?aS ?aL ?_
      (case aP => exact xS _ _ _ (⟨strOfNums gy, Int.tmod QB 3001⟩ : zo))
      (case aB => exact (zD HB.out))
      (case aF => exact (fun _ _ => trivial))
      (case aO => exact (yF yh.out))
      (case aS => exact (zV (zD HB.out)))
      (case aL => have := zcN.out; omega)
      intro zma w30 ho hb hg hat
      rw [← zcO.out] at ho
      have zf := zx.mk (qQ (g := vM) (o := .cells #[.string (⟨#[]⟩ : BY), .bool false, .int .i64 0, .slice none 0 0, .slice none 0 0, .slice none 0 0] 26 (0, 0)) (yt qZ.out) hg (Kd.kE yh.out qZ.out (by decide)))
      have zh := zx.mk (qQ (g := y7) (o := .cells #[.string (⟨#[71]⟩ : BY), .bool ((Int.tmod vQ 2) == 1), .int .i64 200, .slice U0 zQ.length U1, .slice none 0 0, .slice none 0 0] 44 (0, 0)) (yt zW.out) hg (Kd.kE yh.out zW.out (by decide)))
      have zA := zx.mk (Kd.Yd (yF Uy.out) (Kd.kN (yF yh.out)) (by decide) hg)
      have zR := zx.mk (hb)
      have qV := zx.mk (ho)
      clear qZ zW Uy HB yh
      have qZ := zf
      have zW := zh
      have Uy := zA
      have HB := zR
      have zJR := qV
      clear zf zh zA zR qV ho hb hg hat
      obtain ⟨zac, zad, zae⟩ := Kd.y9 zJR.out
      (first | subst zae | (injection zae with X8 KT X9; have KU := X8.symm; have K8 := X9.symm; clear X8 KT X9; subst KU; subst K8))
      refine hK.out _ _ ⟨(zk zW.out 0).trans rfl, (zk zW.out 1).trans rfl, (zk zW.out 2).trans rfl, (zk zW.out 3).trans rfl, (zk zW.out 4).trans rfl, (zk zW.out 5).trans rfl⟩ (fun hHeld => ?_)
      clear hK K
      refine wX (some 43) ?_
      refine qW 14 (some 44) zM ?_
      refine Qw (i := 15) (N := none) #[true, true, true, true, true, true, true, true, true, true, true, true, true, true, true, true] rfl rfl (wI zM.out (by kernel_rfl)) (by decide) (fun K hK => ?_)
      have zmb : w30.cell? ⟨y7, 3, none⟩ = some (.slice U0 zQ.length U1) := (zk zW.out 3).trans rfl
      have zll := zw zW.out 3
      have zgL := Qv.out
      have zgM := Qk.out
      refine QZ (w1 := ?_) (by rfl) rfl ?_ ?_
      rotate_left
      ·go_simp
       rfl
      refine hK.out _ _ ?_
      clear hK K
      refine uO (vW zM.out (by kernel_rfl)) ?_
      try go_wp2
      go_roundg k1
      case measure => have := jv.out; omega
      case rel => exact ⟨(wrap64 (vO + 1)), (zw9), (.slice zac zw9.length zad), (by first | rfl | (simp; done) | (simp [*]; done)), H', ⟨by have := jv.out; omega⟩, ⟨by (with_reducible repeat (first | apply Kd.q9 | apply Kd.qL | apply Kd.qw)); exact Kd.zL (Kd.yK (p := ⟨y7, 3, none⟩) (Kd.zi zJR.out zW.out (by decide)) (fun _ hk => hk.2) (.slice zac zw9.length zad)) (fun _ hk => trivial)⟩, ⟨wJ qZ.out⟩, ⟨by (with_reducible repeat (first | refine zJ ?_ _ | refine zX ?_ | refine zZ ?_ _)); refine yC (cs := #[.string (⟨#[71]⟩ : BY), .bool ((Int.tmod vQ 2) == 1), .int .i64 200, .slice U0 zQ.length U1, .slice none 0 0, .slice none 0 0]) ?_ 3 _ rfl; (with_reducible repeat (first | refine zJ ?_ _ | refine zX ?_ | refine zZ ?_ _)); exact zW.out⟩, ⟨zD HB.out⟩⟩
     ·rw [if_neg c23] at H
      exact absurd H (by simp)
   ·rw [if_neg c7] at H
    have ZT : decide (vO < 8) = false := decide_eq_false c7
    clear c7
    have H' := zx.mk H
    clear H
    have zbz := Qk.out
    have zbq := Qv.out
    have zys : wr.cell? ⟨y7, 0, none⟩ = some (.string (⟨#[71]⟩ : BY)) := (zk zW.out 0).trans rfl
    have zyt : wr.cell? ⟨y7, 1, none⟩ = some (.bool ((Int.tmod vQ 2) == 1)) := (zk zW.out 1).trans rfl
    have zyu : wr.cell? ⟨y7, 2, none⟩ = some (.int .i64 200) := (zk zW.out 2).trans rfl
    have zyA : wr.cell? ⟨y7, 3, none⟩ = some (Qh) := (zk zW.out 3).trans rfl
    have zyB : wr.cell? ⟨y7, 4, none⟩ = some (.slice none 0 0) := (zk zW.out 4).trans rfl
    have zyC : wr.cell? ⟨y7, 5, none⟩ = some (.slice none 0 0) := (zk zW.out 5).trans rfl
    have zyD := zw zW.out 0
    have zyE := zw zW.out 1
    have zyF := zw zW.out 2
    have zyG := zw zW.out 3
    have zyH := zw zW.out 4
    have zyI := zw zW.out 5
    obtain ⟨zjs, Y9, zfI⟩ := Kd.y9 yh.out
    subst zfI
    go_wp2
    go_loopg [6] k1 (fun kq v6 w' => ∃ (xg : Int) (uX : List (qF)) (vZ : List (qG)) (jW : Value) (j3 : Value), v6 = .int .i64 xg ∧ zx (zK.l1 kq l0 (zQ.length : Int) xg (⟨#[71]⟩ : BY) ((Int.tmod vQ 2) == 1) 200 zQ uX vZ = some (r1, r2, r3, r4, r5, r6)) ∧ zx (kq ≤ k1) ∧ zx (Kd.R qJ 81 w' w.heap.size (fun _ => True) (.slice zjs zQ.length Y9) zQ) ∧ zx (Kd.R jC 83 w' w.heap.size (fun _ => True) jW uX) ∧ zx (Kd.R jS 84 w' w.heap.size (fun _ => True) j3 vZ) ∧ zx (w'.heap[vM]? = some (.cells #[.string (⟨#[]⟩ : BY), .bool false, .int .i64 0, (.slice none 0 0), (.slice none 0 0), (.slice none 0 0)] 26 (0, 0))) ∧ zx (w'.heap[y7]? = some (.cells #[.string (⟨#[71]⟩ : BY), .bool ((Int.tmod vQ 2) == 1), .int .i64 200, (.slice zjs zQ.length Y9), jW, j3] 44 (0, 0))) ∧ zx (Below w.heap.size w w'))
    case atStart => exact ⟨(0), (([] : List (qF))), (([] : List (qG))), (.slice none 0 0), (.slice none 0 0), (by first | rfl | (simp; done) | (simp [*]; done)), H', ⟨Nat.le_refl _⟩, ⟨yF yh.out⟩, ⟨by first | exact Kd.ku _ _ _ _ _ | exact Kd.JB _ _ _ _ _ | exact Kd.JD _ _ _ _ _ | exact Kd.Ju _ _ _ _ _ | exact Kd.JA _ _ _ _ _⟩, ⟨by first | exact Kd.ku _ _ _ _ _ | exact Kd.JB _ _ _ _ _ | exact Kd.JD _ _ _ _ _ | exact Kd.Ju _ _ _ _ _ | exact Kd.JA _ _ _ _ _⟩, ⟨yt qZ.out⟩, ⟨yt zW.out⟩, ⟨zD HB.out⟩⟩
    case round =>
     clear H'
     try clear c1
     try clear zfL
     try clear c2
     try clear p2
     try clear zfM
     try clear c3
     try clear p6
     try clear c7
     try clear ZT
     try clear c8
     try clear c9
     try clear mQ
     try clear zjg
     try clear c10
     try clear fM
     try clear c12
     try clear gq
     try clear c23
     try clear gZ
     try clear c33
     try clear zys
     try clear zyt
     try clear zyu
     try clear zyA
     try clear zyB
     try clear zyC
     try clear zyD
     try clear zyE
     try clear zyF
     try clear zyG
     try clear zyH
     try clear zyI
     obtain ⟨xg, uX, vZ, jW, j3, rfl, HA, bG, yh, vB, vC, qZ, zW, HB⟩ := hrel
     cases gk with
     | zero => exact absurd HA.out (by simp [zK.l1])
     | succ k2 =>
      have H := HA.out
      clear HA
      simp only [zK.l1] at H
      by_cases c36 : xg < (zQ.length : Int)
      ·rw [if_pos c36] at H
       have zJS : decide (xg < (zQ.length : Int)) = true := decide_eq_true c36
       clear c36
       by_cases c37 : 0 ≤ xg
       ·rw [if_pos c37] at H
        have zcP : decide (0 ≤ xg) = true := decide_eq_true c37
        clear c37
        by_cases c38 : xg < (zQ.length : Int)
        ·rw [if_pos c38] at H
         have zcR : decide (xg < (zQ.length : Int)) = true := decide_eq_true c38
         clear c38
         replace H := Option.bind_eq_some_iff.mp H
         obtain ⟨dS, zaf, H⟩ := H
         replace H : (if (zQ.length : Int) = 0 then (none) else (if 0 ≤ (Int.tmod dS (zQ.length : Int)) then (if (Int.tmod dS (zQ.length : Int)) < (zQ.length : Int) then ((yA.f l0 (wrap64 (xg + 16))).bind fun ZG => (if 0 ≤ (Int.tmod ZG (zQ.length : Int)) then (if (Int.tmod ZG (zQ.length : Int)) < (zQ.length : Int) then ((yA.f l0 (wrap64 (xg + 8))).bind fun Qj => (if (Int.tmod Qj 4) = 1 then (if uX.length < 2932031007402 then (zK.j2 k2 l0 (zQ.length : Int) xg ((zN zQ xg).f0) ((zN zQ (Int.tmod ZG (zQ.length : Int))).f0) (⟨#[71]⟩ : BY) ((Int.tmod vQ 2) == 1) 200 zQ (uX ++ [(⟨(zN zQ xg).f0, (zN zQ (Int.tmod dS (zQ.length : Int))).f0, (zN zQ (Int.tmod ZG (zQ.length : Int))).f0⟩ : qF)]) vZ) else (none)) else (zK.j2 k2 l0 (zQ.length : Int) xg ((zN zQ xg).f0) ((zN zQ (Int.tmod ZG (zQ.length : Int))).f0) (⟨#[71]⟩ : BY) ((Int.tmod vQ 2) == 1) 200 zQ uX vZ))) else (none)) else (none))) else (none)) else (none))) = some (r1, r2, r3, r4, r5, r6) := H
         have iZ := zx.mk zaf
         clear zaf
         by_cases c40 : (zQ.length : Int) = 0
         ·rw [if_pos c40] at H
          exact absurd H (by simp)
         ·rw [if_neg c40] at H
          have zcS : ((zQ.length : Int) == 0) = false := beq_eq_false_iff_ne.mpr c40
          have zcT : ((zQ.length : Int) != 0) = true := bne_iff_ne.mpr c40
          have zcU : ¬ (zQ = []) := fun h_ => c40 (by rw [h_]; rfl)
          obtain ⟨Yc, zZz⟩ : ∃ j_ : Int, (Int.tmod dS (zQ.length : Int)) = j_ := ⟨_, rfl⟩
          replace H : (if 0 ≤ (Yc) then (if (Yc) < (zQ.length : Int) then ((yA.f l0 (wrap64 (xg + 16))).bind fun ZG => (if 0 ≤ (Int.tmod ZG (zQ.length : Int)) then (if (Int.tmod ZG (zQ.length : Int)) < (zQ.length : Int) then ((yA.f l0 (wrap64 (xg + 8))).bind fun Qj => (if (Int.tmod Qj 4) = 1 then (if uX.length < 2932031007402 then (zK.j2 k2 l0 (zQ.length : Int) xg ((zN zQ xg).f0) ((zN zQ (Int.tmod ZG (zQ.length : Int))).f0) (⟨#[71]⟩ : BY) ((Int.tmod vQ 2) == 1) 200 zQ (uX ++ [(⟨(zN zQ xg).f0, (zN zQ (Yc)).f0, (zN zQ (Int.tmod ZG (zQ.length : Int))).f0⟩ : qF)]) vZ) else (none)) else (zK.j2 k2 l0 (zQ.length : Int) xg ((zN zQ xg).f0) ((zN zQ (Int.tmod ZG (zQ.length : Int))).f0) (⟨#[71]⟩ : BY) ((Int.tmod vQ 2) == 1) 200 zQ uX vZ))) else (none)) else (none))) else (none)) else (none)) = some (r1, r2, r3, r4, r5, r6) := by first | (rw [zZz] at H; exact H) | (simp only [zZz] at H ⊢; exact H)
          (try rw [zZz] at iZ)
          by_cases c42 : 0 ≤ (Yc)
          ·rw [if_pos c42] at H
           have zc0 : decide (0 ≤ (Yc)) = true := decide_eq_true c42
           clear c42
           by_cases c43 : (Yc) < (zQ.length : Int)
           ·rw [if_pos c43] at H
            have zc1 : decide ((Yc) < (zQ.length : Int)) = true := decide_eq_true c43
            clear c43
            replace H := Option.bind_eq_some_iff.mp H
            obtain ⟨ZG, zah, H⟩ := H
            replace H : (if 0 ≤ (Int.tmod ZG (zQ.length : Int)) then (if (Int.tmod ZG (zQ.length : Int)) < (zQ.length : Int) then ((yA.f l0 (wrap64 (xg + 8))).bind fun Qj => (if (Int.tmod Qj 4) = 1 then (if uX.length < 2932031007402 then (zK.j2 k2 l0 (zQ.length : Int) xg ((zN zQ xg).f0) ((zN zQ (Int.tmod ZG (zQ.length : Int))).f0) (⟨#[71]⟩ : BY) ((Int.tmod vQ 2) == 1) 200 zQ (uX ++ [(⟨(zN zQ xg).f0, (zN zQ (Yc)).f0, (zN zQ (Int.tmod ZG (zQ.length : Int))).f0⟩ : qF)]) vZ) else (none)) else (zK.j2 k2 l0 (zQ.length : Int) xg ((zN zQ xg).f0) ((zN zQ (Int.tmod ZG (zQ.length : Int))).f0) (⟨#[71]⟩ : BY) ((Int.tmod vQ 2) == 1) 200 zQ uX vZ))) else (none)) else (none)) = some (r1, r2, r3, r4, r5, r6) := H
            have A44 := zx.mk zah
            clear zah
            obtain ⟨wD, zxV⟩ : ∃ j_ : Int, (Int.tmod ZG (zQ.length : Int)) = j_ := ⟨_, rfl⟩
            replace H : (if 0 ≤ (wD) then (if (wD) < (zQ.length : Int) then ((yA.f l0 (wrap64 (xg + 8))).bind fun Qj => (if (Int.tmod Qj 4) = 1 then (if uX.length < 2932031007402 then (zK.j2 k2 l0 (zQ.length : Int) xg ((zN zQ xg).f0) ((zN zQ (wD)).f0) (⟨#[71]⟩ : BY) ((Int.tmod vQ 2) == 1) 200 zQ (uX ++ [(⟨(zN zQ xg).f0, (zN zQ (Yc)).f0, (zN zQ (wD)).f0⟩ : qF)]) vZ) else (none)) else (zK.j2 k2 l0 (zQ.length : Int) xg ((zN zQ xg).f0) ((zN zQ (wD)).f0) (⟨#[71]⟩ : BY) ((Int.tmod vQ 2) == 1) 200 zQ uX vZ))) else (none)) else (none)) = some (r1, r2, r3, r4, r5, r6) := by first | (rw [zxV] at H; exact H) | (simp only [zxV] at H ⊢; exact H)
            (try rw [zxV] at iZ)
            (try rw [zxV] at A44)
            by_cases c46 : 0 ≤ (wD)
            ·rw [if_pos c46] at H
             have zc2 : decide (0 ≤ (wD)) = true := decide_eq_true c46
             clear c46
             by_cases c47 : (wD) < (zQ.length : Int)
             ·rw [if_pos c47] at H
              have zc3 : decide ((wD) < (zQ.length : Int)) = true := decide_eq_true c47
              clear c47
              replace H := Option.bind_eq_some_iff.mp H
              obtain ⟨Qj, zai, H⟩ := H
              replace H : (if (Int.tmod Qj 4) = 1 then (if uX.length < 2932031007402 then (zK.j2 k2 l0 (zQ.length : Int) xg ((zN zQ xg).f0) ((zN zQ (wD)).f0) (⟨#[71]⟩ : BY) ((Int.tmod vQ 2) == 1) 200 zQ (uX ++ [(⟨(zN zQ xg).f0, (zN zQ (Yc)).f0, (zN zQ (wD)).f0⟩ : qF)]) vZ) else (none)) else (zK.j2 k2 l0 (zQ.length : Int) xg ((zN zQ xg).f0) ((zN zQ (wD)).f0) (⟨#[71]⟩ : BY) ((Int.tmod vQ 2) == 1) 200 zQ uX vZ)) = some (r1, r2, r3, r4, r5, r6) := H
              have A48 := zx.mk zai
              clear zai
              have zX3 := zx.mk H
              clear H
              try go_wp2
              have zf := zx.mk (Kd.qw yh.out)
              have zh := zx.mk (Kd.qw vB.out)
              have zA := zx.mk (Kd.qw vC.out)
              have zR := zx.mk (zX qZ.out)
              have qV := zx.mk (zX zW.out)
              have xD := zx.mk (yT HB.out)
              clear yh vB vC qZ zW HB
              have yh := zf
              have vB := zh
              have vC := zA
              have qZ := zR
              have zW := qV
              have HB := xD
              clear zf zh zA zR qV xD
              have zZq : 0 ≤ (xg : Int) := of_decide_eq_true (by first | (with_reducible assumption) | assumption)
              have zZx : xg < (zQ.length : Int) := of_decide_eq_true (by first | (with_reducible assumption) | assumption)
              obtain ⟨wh, zfN, zqX, zqJ⟩ := ZY (Kd.qU yh.out).2.2 xg zZq zZx
              cases zfN
              replace zZq := eq_true zZq
              replace zZx := eq_true zZx
              have zZj : 0 ≤ ((Yc) : Int) := of_decide_eq_true (by first | (with_reducible assumption) | assumption)
              have zZv : (Yc) < (zQ.length : Int) := of_decide_eq_true (by first | (with_reducible assumption) | assumption)
              obtain ⟨zc4, zfO, zqV, zqK⟩ := ZY (Kd.qU yh.out).2.2 (Yc) zZj zZv
              obtain rfl : wh = zc4 := (by injection zfO)
              replace zZj := eq_true zZj
              replace zZv := eq_true zZv
              have zZk : 0 ≤ ((wD) : Int) := of_decide_eq_true (by first | (with_reducible assumption) | assumption)
              have zZy : (wD) < (zQ.length : Int) := of_decide_eq_true (by first | (with_reducible assumption) | assumption)
              obtain ⟨zc5, zfP, zqY, zqW⟩ := ZY (Kd.qU yh.out).2.2 (wD) zZk zZy
              obtain rfl : wh = zc5 := (by injection zfP)
              replace zZk := eq_true zZk
              replace zZy := eq_true zZy
              refine Zj (n := 31) (S := fun w' => w'.cell? ⟨y7, 0, none⟩ = some (.string (⟨#[71]⟩ : BY)) ∧ w'.cell? ⟨y7, 1, none⟩ = some (.bool ((Int.tmod vQ 2) == 1)) ∧ w'.cell? ⟨y7, 2, none⟩ = some (.int .i64 200) ∧ w'.cell? ⟨y7, 3, none⟩ = some (.slice (some wh) zQ.length Y9) ∧ w'.cell? ⟨y7, 4, none⟩ = some (jW) ∧ w'.cell? ⟨y7, 5, none⟩ = some (j3) ∧ w'.cell? (wh.add ((xg).toNat * 2)) = some (.string ((zN zQ xg).f0)) ∧ w'.cell? ⟨(wh.add ((xg).toNat * 2)).block, (wh.add ((xg).toNat * 2)).off + 1, none⟩ = some (.int .i64 ((zN zQ xg).f1)) ∧ w'.cell? (wh.add (((Yc)).toNat * 2)) = some (.string ((zN zQ (Yc)).f0)) ∧ w'.cell? ⟨(wh.add (((Yc)).toNat * 2)).block, (wh.add (((Yc)).toNat * 2)).off + 1, none⟩ = some (.int .i64 ((zN zQ (Yc)).f1)) ∧ w'.cell? (wh.add (((wD)).toNat * 2)) = some (.string ((zN zQ (wD)).f0)) ∧ w'.cell? ⟨(wh.add (((wD)).toNat * 2)).block, (wh.add (((wD)).toNat * 2)).off + 1, none⟩ = some (.int .i64 ((zN zQ (wD)).f1))) (ds := []) #[false, false, false, false, false, false, false, false, false, false, false, false, false, false, false, false, false, false, false, false, false, false, false, false, false, false, false, false, false, false, false] (by kernel_rfl) rfl rfl ⟨(zk zW.out 0).trans rfl, (zk zW.out 1).trans rfl, (zk zW.out 2).trans rfl, (zk zW.out 3).trans rfl, (zk zW.out 4).trans rfl, (zk zW.out 5).trans rfl, zqX, zqJ, zqV, zqK, zqY, zqW⟩ (fun hHeld => ?_); refine wL zK.zcH zK.zaY (fun zM jJ => ?_)
              generalize wr.drew = w50 at yh vB vC qZ zW HB zqX zqJ zqV zqK zqY zqW hHeld ⊢
              refine qW 0 (some 53) zM ?_
              refine qW 2 (some 55) zM ?_
              refine qW 6 (some 59) zM ?_
              refine qW 8 (some 61) zM ?_
              refine qW 9 (some 62) zM ?_
              refine qW 10 (some 63) zM ?_
              refine qW 12 (some 65) zM ?_
              refine qW 17 (some 70) zM ?_
              refine qW 19 (some 72) zM ?_
              refine qW 20 (some 73) zM ?_
              refine qW 21 (some 74) zM ?_
              refine qW 23 (some 76) zM ?_
              refine kQ 1 (some 54) zM jJ hHeld ?_
              refine qW 3 (some 56) zM ?_
              refine qW 4 (some 57) zM ?_
              refine kQ 5 (some 58) zM jJ hHeld ?_
              refine kQ 7 (some 60) zM jJ hHeld ?_
              refine kQ 18 (some 71) zM jJ hHeld ?_
              refine ZH 11 (some 64) zM (fun K hK => ?_)
              refine Xv Tryz.func82 (by kernel_rfl) rfl #[.slice A0 l0.length c0, .int .i64 (wrap64 (xg + 8))] (by rfl) rfl rfl (by (try simp only [List.map_toArray, List.map_cons, List.map_nil]); first | done | rfl | (simp only [List.length_drop, List.length_take]; rfl)) ?_
              with_reducible refine (yA.calls _ _ l0 (wrap64 (xg + 8)) dS _ ?y8 ?qy iZ.out).mono ?_
              (case y8 => repeat (first | exact (Kd.zY kG.out HB.out) | (with_reducible refine Kd.zS ?_ _) | (with_reducible refine Kd.zT ?_ _) | (with_reducible refine Kd.yc ?_)))
              (case qy => exact ZW.out)
              rintro e w' ⟨rfl, ⟨nd, rfl⟩⟩
              refine ⟨_, rfl, ?_⟩
              refine hK.out _ _ ⟨(zk zW.out 0).trans rfl, (zk zW.out 1).trans rfl, (zk zW.out 2).trans rfl, (zk zW.out 3).trans rfl, (zk zW.out 4).trans rfl, (zk zW.out 5).trans rfl, hHeld.2.2.2.2.2.2.1, hHeld.2.2.2.2.2.2.2.1, hHeld.2.2.2.2.2.2.2.2.1, hHeld.2.2.2.2.2.2.2.2.2.1, hHeld.2.2.2.2.2.2.2.2.2.2.1, hHeld.2.2.2.2.2.2.2.2.2.2.2⟩ (fun hHeld => ?_)
              clear hK K
              refine wX (some 64) ?_
              refine qW 13 (some 66) zM ?_
              refine qW 14 (some 67) zM ?_
              refine qW 15 (some 68) zM ?_
              refine kQ 16 (some 69) zM jJ hHeld ?_
              refine ZH 22 (some 75) zM (fun K hK => ?_)
              refine Xv Tryz.func82 (by kernel_rfl) rfl #[.slice A0 l0.length c0, .int .i64 (wrap64 (xg + 16))] (by rfl) rfl rfl (by (try simp only [List.map_toArray, List.map_cons, List.map_nil]); first | done | rfl | (simp only [List.length_drop, List.length_take]; rfl)) ?_
              with_reducible refine (yA.calls _ _ l0 (wrap64 (xg + 16)) ZG _ ?y8 ?qy A44.out).mono ?_
              (case y8 => repeat (first | exact (Kd.zY kG.out (zD HB.out)) | (with_reducible refine Kd.zS ?_ _) | (with_reducible refine Kd.zT ?_ _) | (with_reducible refine Kd.yc ?_)))
              (case qy => exact ZW.out)
              rintro e w' ⟨rfl, ⟨nd, rfl⟩⟩
              refine ⟨_, rfl, ?_⟩
              refine hK.out _ _ ⟨(zk zW.out 0).trans rfl, (zk zW.out 1).trans rfl, (zk zW.out 2).trans rfl, (zk zW.out 3).trans rfl, (zk zW.out 4).trans rfl, (zk zW.out 5).trans rfl, hHeld.2.2.2.2.2.2.1, hHeld.2.2.2.2.2.2.2.1, hHeld.2.2.2.2.2.2.2.2.1, hHeld.2.2.2.2.2.2.2.2.2.1, hHeld.2.2.2.2.2.2.2.2.2.2.1, hHeld.2.2.2.2.2.2.2.2.2.2.2⟩ (fun hHeld => ?_)
              clear hK K
              refine wX (some 75) ?_
              refine qW 24 (some 77) zM ?_
              refine qW 25 (some 78) zM ?_
              refine qW 26 (some 79) zM ?_
              refine qW 28 (some 7) zM ?_
              refine qW 29 (some 8) zM ?_
              refine kQ 27 (some 80) zM jJ hHeld ?_
              refine qW 30 (some 9) zM ?_
              refine uO (vW zM.out (by kernel_rfl)) ?_
              go_upto_if 86 with (first | ((with_reducible refine yY (f := 82) rfl ?_); refine uN (some 84) Tryz.func82 #[.slice A0 l0.length c0, .int .i64 (wrap64 (xg + 8))] ?_; (with_reducible refine (yA.calls _ _ l0 (wrap64 (xg + 8)) Qj _ ?y8 ?qy A48.out).mono ?_); (case y8 => repeat (first | exact (Kd.zY kG.out (zD HB.out)) | (with_reducible refine Kd.zS ?_ _) | (with_reducible refine Kd.zT ?_ _) | (with_reducible refine Kd.yc ?_))); (case qy => exact ZW.out); rintro e w' ⟨rfl, ⟨nd, rfl⟩⟩; refine ⟨_, rfl, ?_⟩))
              (try simp only [Act.put, List.setIfInBounds_toArray, List.set_cons_zero, List.set_cons_succ])
              go_cut [] (fun wc => ∃ (kq : Nat) (ko : List (qF)) (jW : Value), zx (zK.j2 kq l0 (zQ.length : Int) xg ((zN zQ xg).f0) ((zN zQ (wD)).f0) (⟨#[71]⟩ : BY) ((Int.tmod vQ 2) == 1) 200 zQ ko vZ = some (r1, r2, r3, r4, r5, r6)) ∧ zx (kq ≤ k2) ∧ zx (Kd.R qJ 81 wc w.heap.size (fun _ => True) (.slice (some wh) zQ.length Y9) zQ) ∧ zx (Kd.R jC 83 wc w.heap.size (fun _ => True) jW ko) ∧ zx (Kd.R jS 84 wc w.heap.size (fun _ => True) j3 vZ) ∧ zx (wc.heap[vM]? = some (.cells #[.string (⟨#[]⟩ : BY), .bool false, .int .i64 0, (.slice none 0 0), (.slice none 0 0), (.slice none 0 0)] 26 (0, 0))) ∧ zx (wc.heap[y7]? = some (.cells #[.string (⟨#[71]⟩ : BY), .bool ((Int.tmod vQ 2) == 1), .int .i64 200, (.slice (some wh) zQ.length Y9), jW, j3] 44 (0, 0))) ∧ zx (Below w.heap.size w wc))
              case first =>
               have H := zX3.out
               clear zX3
               by_cases c51 : (Int.tmod Qj 4) = 1
               ·rw [if_pos c51] at H
                have r9 : ((Int.tmod Qj 4) == 1) = true := beq_iff_eq.mpr c51
                have zJT : ((Int.tmod Qj 4) != 1) = false := bne_eq_false_iff_eq.mpr c51
                clear c51
                (first | rw [r9] | (simp only [Xk, QX]; rw [r9]) | skip)
                by_cases c52 : uX.length < 2932031007402
                ·rw [if_pos c52] at H
                 have zc6 := zx.mk c52
                 clear c52
                 obtain ⟨zqa, lI⟩ : ∃ y_ : List (qF), y_ = (uX ++ [(⟨(zN zQ xg).f0, (zN zQ (Yc)).f0, (zN zQ (wD)).f0⟩ : qF)]) := ⟨_, rfl⟩
                 replace H : (zK.j2 k2 l0 (zQ.length : Int) xg ((zN zQ xg).f0) ((zN zQ (wD)).f0) (⟨#[71]⟩ : BY) ((Int.tmod vQ 2) == 1) 200 zQ zqa vZ) = some (r1, r2, r3, r4, r5, r6) := by first | (rw [lI]; with_reducible exact H) | (have xJ := (Option.bind_some _ _).symm.trans H; rw [lI]; with_reducible exact xJ) | (have xJ := (Option.bind_some _ _).symm.trans H; with_reducible exact xJ) | with_reducible exact H | (rw [lI]; exact H) | exact H
                 have zc7 := zx.mk lI
                 clear lI
                 have H' := zx.mk H
                 clear H
                 have zlm := Qk.out
                 have zln := Qv.out
                 have zKU : w50.cell? ⟨y7, 0, none⟩ = some (.string (⟨#[71]⟩ : BY)) := (zk zW.out 0).trans rfl
                 have zK0 : w50.cell? ⟨y7, 1, none⟩ = some (.bool ((Int.tmod vQ 2) == 1)) := (zk zW.out 1).trans rfl
                 have zK1 : w50.cell? ⟨y7, 2, none⟩ = some (.int .i64 200) := (zk zW.out 2).trans rfl
                 have zK2 : w50.cell? ⟨y7, 3, none⟩ = some (.slice (some wh) zQ.length Y9) := (zk zW.out 3).trans rfl
                 have zK3 : w50.cell? ⟨y7, 4, none⟩ = some (jW) := (zk zW.out 4).trans rfl
                 have zK4 : w50.cell? ⟨y7, 5, none⟩ = some (j3) := (zk zW.out 5).trans rfl
                 have zK5 := zw zW.out 0
                 have zK6 := zw zW.out 1
                 have zK7 := zw zW.out 2
                 have zK8 := zw zW.out 3
                 have zK9 := zw zW.out 4
                 have zYz := zw zW.out 5
                 go_wp2_with (first | ((with_reducible refine vN (b := .append) (xs := #[.tmp 88, .tmp 93]) rfl ?_); at_builtin; refine Kd.Xj jC (w0 := w) w.heap.size rfl (.tmp 88) (.tmp 93) 41 83 (.agg #[(.string ⟨#[]⟩), (.string ⟨#[]⟩), (.string ⟨#[]⟩)]) 48 rfl Tryz.underlying41 zZu rfl (by decide) (by omega) jW uX (⟨(zN zQ xg).f0, (zN zQ (Yc)).f0, (zN zQ (wD)).f0⟩ : qF) [.string ((zN zQ xg).f0), .string ((zN zQ (Yc)).f0), .string ((zN zQ (wD)).f0)] (fun _ => True) (fun _ => False) rfl rfl ?aP (fun _ hk => hk.elim) ?aF ?aO ?aB ?aS ?aL ?_; (case aP => exact Q8 _ _ _ (⟨(zN zQ xg).f0, (zN zQ (Yc)).f0, (zN zQ (wD)).f0⟩ : qF)); (case aB => exact (zD HB.out)); (case aF => exact (fun _ _ => trivial)); (case aO => exact (yF vB.out)); (case aS => exact (zV (zD HB.out))); (case aL => have := zc6.out; omega); intro zmc w55 ho hb hg hat; rw [← zc7.out] at ho; have zf := zx.mk (Kd.Yd (yF yh.out) (Kd.kN (yF vB.out)) (by decide) hg); have zh := zx.mk (Kd.Yd (yF vC.out) (Kd.kN (yF vB.out)) (by decide) hg); have zA := zx.mk (qQ (g := vM) (o := .cells #[.string (⟨#[]⟩ : BY), .bool false, .int .i64 0, .slice none 0 0, .slice none 0 0, .slice none 0 0] 26 (0, 0)) (yt qZ.out) hg (Kd.kE vB.out qZ.out (by decide))); have zR := zx.mk (qQ (g := y7) (o := .cells #[.string (⟨#[71]⟩ : BY), .bool ((Int.tmod vQ 2) == 1), .int .i64 200, .slice (some wh) zQ.length Y9, jW, j3] 44 (0, 0)) (yt zW.out) hg (Kd.kE vB.out zW.out (by decide))); have qV := zx.mk (hb); have xD := zx.mk (ho); clear yh; clear vC; clear qZ; clear zW; clear HB; clear vB; have yh := zf; have vC := zh; have qZ := zA; have zW := zR; have HB := qV; have zJU := xD; clear zf zh zA zR qV xD; clear ho hb hg hat; obtain ⟨zZw, zZZ, zfR⟩ := Kd.y9 zJU.out; subst zfR; have zYq : w55.cell? ⟨y7, 0, none⟩ = some (.string (⟨#[71]⟩ : BY)) := (zk zW.out 0).trans rfl; have zYx : w55.cell? ⟨y7, 1, none⟩ = some (.bool ((Int.tmod vQ 2) == 1)) := (zk zW.out 1).trans rfl; have zYj : w55.cell? ⟨y7, 2, none⟩ = some (.int .i64 200) := (zk zW.out 2).trans rfl; have zYv : w55.cell? ⟨y7, 3, none⟩ = some (.slice (some wh) zQ.length Y9) := (zk zW.out 3).trans rfl; have zYk : w55.cell? ⟨y7, 4, none⟩ = some (jW) := (zk zW.out 4).trans rfl; have zYy : w55.cell? ⟨y7, 5, none⟩ = some (j3) := (zk zW.out 5).trans rfl; have zYw := zw zW.out 0; have zYZ := zw zW.out 1; have zYQ := zw zW.out 2; have zYX := zw zW.out 3; have zYJ := zw zW.out 4; have zYV := zw zW.out 5))
                 go_meet
                 case rel => exact ⟨_, (zqa), (.slice zZw zqa.length zZZ), H', ⟨by have := jv.out; have := bG.out; first | omega | exact Nat.le_refl _⟩, ⟨by (with_reducible repeat (first | apply Kd.q9 | apply Kd.qL | apply Kd.qw)); exact Kd.zL (Kd.yK (p := ⟨y7, 4, none⟩) (Kd.zi yh.out zW.out (by decide)) (fun _ hk => hk.2) (.slice zZw zqa.length zZZ)) (fun _ hk => trivial)⟩, ⟨by (with_reducible repeat (first | apply Kd.q9 | apply Kd.qL | apply Kd.qw)); exact Kd.zL (Kd.yK (p := ⟨y7, 4, none⟩) (Kd.zi zJU.out zW.out (by decide)) (fun _ hk => hk.2) (.slice zZw zqa.length zZZ)) (fun _ hk => trivial)⟩, ⟨by (with_reducible repeat (first | apply Kd.q9 | apply Kd.qL | apply Kd.qw)); exact Kd.zL (Kd.yK (p := ⟨y7, 4, none⟩) (Kd.zi vC.out zW.out (by decide)) (fun _ hk => hk.2) (.slice zZw zqa.length zZZ)) (fun _ hk => trivial)⟩, ⟨wJ qZ.out⟩, ⟨by (with_reducible repeat (first | refine zJ ?_ _ | refine zX ?_ | refine zZ ?_ _)); refine yC (cs := #[.string (⟨#[71]⟩ : BY), .bool ((Int.tmod vQ 2) == 1), .int .i64 200, .slice (some wh) zQ.length Y9, jW, j3]) ?_ 4 _ rfl; (with_reducible repeat (first | refine zJ ?_ _ | refine zX ?_ | refine zZ ?_ _)); exact zW.out⟩, ⟨zD HB.out⟩⟩
                ·rw [if_neg c52] at H
                 exact absurd H (by simp)
               ·rw [if_neg c51] at H
                have r9 : ((Int.tmod Qj 4) == 1) = false := beq_eq_false_iff_ne.mpr c51
                have zJT : ((Int.tmod Qj 4) != 1) = true := bne_iff_ne.mpr c51
                (first | rw [r9] | (simp only [Xk, QX]; rw [r9]) | skip)
                have H' := zx.mk H
                clear H
                go_wp2
                go_meet
                case rel => exact ⟨_, (uX), (jW), H', ⟨by have := jv.out; have := bG.out; first | omega | exact Nat.le_refl _⟩, ⟨yF yh.out⟩, ⟨yF vB.out⟩, ⟨yF vC.out⟩, ⟨yt qZ.out⟩, ⟨yt zW.out⟩, ⟨zD HB.out⟩⟩
              case rest =>
               clear zX3
               try clear c1
               try clear zfL
               try clear c2
               try clear p2
               try clear zfM
               try clear c3
               try clear c4
               try clear c5
               try clear p5
               try clear q5
               try clear hx5
               try clear p6
               try clear c7
               try clear ZT
               try clear c8
               try clear c9
               try clear mQ
               try clear zjg
               try clear c10
               try clear fM
               try clear c12
               try clear gq
               try clear c23
               try clear gZ
               try clear c33
               try clear c36
               try clear zJS
               try clear c37
               try clear zcP
               try clear c38
               try clear zcR
               try clear c40
               try clear zcS
               try clear zcT
               try clear zcU
               try clear c42
               try clear zc0
               try clear c43
               try clear zc1
               try clear c46
               try clear zc2
               try clear c47
               try clear zc3
               try clear p50
               try clear q50
               try clear zWP
               try clear c51
               try clear r9
               try clear zJT
               try clear c52
               try clear c53
               try clear zys
               try clear zyt
               try clear zyu
               try clear zyA
               try clear zyB
               try clear zyC
               try clear zKU
               try clear zK0
               try clear zK1
               try clear zK2
               try clear zK3
               try clear zK4
               try clear zYq
               try clear zYx
               try clear zYj
               try clear zYv
               try clear zYk
               try clear zYy
               try clear zyD
               try clear zyE
               try clear zyF
               try clear zyG
               try clear zyH
               try clear zyI
               try clear zK5
               try clear zK6
               try clear zK7
               try clear zK8
               try clear zK9
               try clear zYz
               try clear zYw
               try clear zYZ
               try clear zYQ
               try clear zYX
               try clear zYJ
               try clear zYV
               try clear zqX
               try clear zqJ
               try clear zqV
               try clear zqK
               try clear zqY
               try clear zqW
               try clear p2
               try clear zZq
               try clear zZj
               try clear zZk
               try clear p6
               try clear zZx
               try clear zZv
               try clear zZy
               obtain ⟨kq, ko, jW, HA, zqb, yh, vB, vC, qZ, zW, HB⟩ := hcut
               cases kq with
               | zero => exact absurd HA.out (by simp [zK.j2])
               | succ gQ =>
                have H := HA.out
                clear HA
                simp only [zK.j2] at H
                replace H := Option.bind_eq_some_iff.mp H
                obtain ⟨XD, zal, H⟩ := H
                replace H : (if (wrap64 ((Int.tmod XD 1001) - 500)) = 0 then (zK.l1 gQ l0 (zQ.length : Int) (wrap64 (xg + 1)) (⟨#[71]⟩ : BY) ((Int.tmod vQ 2) == 1) 200 zQ ko vZ) else ((yA.f l0 (wrap64 (xg + 24))).bind fun Js => (if (Int.tmod Js 2) = 0 then (if vZ.length < 3518437208883 then (zK.l1 gQ l0 (zQ.length : Int) (wrap64 (xg + 1)) (⟨#[71]⟩ : BY) ((Int.tmod vQ 2) == 1) 200 zQ ko (vZ ++ [(⟨((zN zQ xg).f0), ((zN zQ (wD)).f0), wrap64 ((Int.tmod XD 1001) - 500)⟩ : qG)])) else (none)) else (zK.l1 gQ l0 (zQ.length : Int) (wrap64 (xg + 1)) (⟨#[71]⟩ : BY) ((Int.tmod vQ 2) == 1) 200 zQ ko vZ)))) = some (r1, r2, r3, r4, r5, r6) := H
                have A58 := zx.mk zal
                clear zal
                by_cases c59 : (wrap64 ((Int.tmod XD 1001) - 500)) = 0
                ·rw [if_pos c59] at H
                 have zc8 : ((wrap64 ((Int.tmod XD 1001) - 500)) == 0) = true := beq_iff_eq.mpr c59
                 have zc9 : ((wrap64 ((Int.tmod XD 1001) - 500)) != 0) = false := bne_eq_false_iff_eq.mpr c59
                 clear c59
                 have H' := zx.mk H
                 clear H
                 go_wp2_with (first | ((with_reducible refine yY (f := 82) rfl ?_); refine uN (some 99) Tryz.func82 #[.slice A0 l0.length c0, .int .i64 (wrap64 (xg + 16))] ?_; (with_reducible refine (yA.calls _ _ l0 (wrap64 (xg + 16)) XD _ ?y8 ?qy A58.out).mono ?_); (case y8 => repeat (first | exact (Kd.zY kG.out HB.out) | (with_reducible refine Kd.zS ?_ _) | (with_reducible refine Kd.zT ?_ _) | (with_reducible refine Kd.yc ?_))); (case qy => exact ZW.out); rintro e w' ⟨rfl, ⟨nd, rfl⟩⟩; refine ⟨_, rfl, ?_⟩))
                 go_roundg gQ
                 case measure => have := jv.out; have := bG.out; have := zqb.out; omega
                 case rel => exact ⟨(wrap64 (xg + 1)), (ko), (vZ), (jW), (j3), (by first | rfl | (simp; done) | (simp [*]; done)), H', ⟨by have := jv.out; have := bG.out; have := zqb.out; omega⟩, ⟨yF yh.out⟩, ⟨yF vB.out⟩, ⟨yF vC.out⟩, ⟨yt qZ.out⟩, ⟨yt zW.out⟩, ⟨zD HB.out⟩⟩
                ·rw [if_neg c59] at H
                 have zc8 : ((wrap64 ((Int.tmod XD 1001) - 500)) == 0) = false := beq_eq_false_iff_ne.mpr c59
                 have zc9 : ((wrap64 ((Int.tmod XD 1001) - 500)) != 0) = true := bne_iff_ne.mpr c59
                 replace H := Option.bind_eq_some_iff.mp H
                 obtain ⟨Js, zam, H⟩ := H
                 replace H : (if (Int.tmod Js 2) = 0 then (if vZ.length < 3518437208883 then (zK.l1 gQ l0 (zQ.length : Int) (wrap64 (xg + 1)) (⟨#[71]⟩ : BY) ((Int.tmod vQ 2) == 1) 200 zQ ko (vZ ++ [(⟨((zN zQ xg).f0), ((zN zQ (wD)).f0), wrap64 ((Int.tmod XD 1001) - 500)⟩ : qG)])) else (none)) else (zK.l1 gQ l0 (zQ.length : Int) (wrap64 (xg + 1)) (⟨#[71]⟩ : BY) ((Int.tmod vQ 2) == 1) 200 zQ ko vZ)) = some (r1, r2, r3, r4, r5, r6) := H
                 have A60 := zx.mk zam
                 clear zam
                 by_cases c61 : (Int.tmod Js 2) = 0
                 ·rw [if_pos c61] at H
                  have zdz : ((Int.tmod Js 2) == 0) = true := beq_iff_eq.mpr c61
                  have zdq : ((Int.tmod Js 2) != 0) = false := bne_eq_false_iff_eq.mpr c61
                  clear c61
                  by_cases c62 : vZ.length < 3518437208883
                  ·rw [if_pos c62] at H
                   have zdx := zx.mk c62
                   clear c62
                   obtain ⟨zqc, lM⟩ : ∃ y_ : List (qG), y_ = (vZ ++ [(⟨((zN zQ xg).f0), ((zN zQ (wD)).f0), wrap64 ((Int.tmod XD 1001) - 500)⟩ : qG)]) := ⟨_, rfl⟩
                   replace H : (zK.l1 gQ l0 (zQ.length : Int) (wrap64 (xg + 1)) (⟨#[71]⟩ : BY) ((Int.tmod vQ 2) == 1) 200 zQ ko zqc) = some (r1, r2, r3, r4, r5, r6) := by first | (rw [lM]; with_reducible exact H) | (have xJ := (Option.bind_some _ _).symm.trans H; rw [lM]; with_reducible exact xJ) | (have xJ := (Option.bind_some _ _).symm.trans H; with_reducible exact xJ) | with_reducible exact H | (rw [lM]; exact H) | exact H
                   have zdj := zx.mk lM
                   clear lM
                   have H' := zx.mk H
                   clear H
                   go_wp2_with (first | ((with_reducible refine yY (f := 82) rfl ?_); refine uN (some 99) Tryz.func82 #[.slice A0 l0.length c0, .int .i64 (wrap64 (xg + 16))] ?_; (with_reducible refine (yA.calls _ _ l0 (wrap64 (xg + 16)) XD _ ?y8 ?qy A58.out).mono ?_); (case y8 => repeat (first | exact (Kd.zY kG.out HB.out) | (with_reducible refine Kd.zS ?_ _) | (with_reducible refine Kd.zT ?_ _) | (with_reducible refine Kd.yc ?_))); (case qy => exact ZW.out); rintro e w' ⟨rfl, ⟨nd, rfl⟩⟩; refine ⟨_, rfl, ?_⟩; (try (rw [JC wc]; generalize Y8 : World.drewN wc _ = wc; have zf : zx (Kd.R qJ 81 wc w.heap.size (fun _ => True) (.slice (some wh) zQ.length Y9) zQ) := ⟨by rw [← Y8]; exact (yF yh.out)⟩; have zh : zx (Kd.R jC 83 wc w.heap.size (fun _ => True) jW ko) := ⟨by rw [← Y8]; exact (yF vB.out)⟩; have zA : zx (Kd.R jS 84 wc w.heap.size (fun _ => True) j3 vZ) := ⟨by rw [← Y8]; exact (yF vC.out)⟩; have zR : zx (wc.heap[vM]? = some (.cells #[.string (⟨#[]⟩ : BY), .bool false, .int .i64 0, .slice none 0 0, .slice none 0 0, .slice none 0 0] 26 (0, 0))) := ⟨by rw [← Y8]; exact (yt qZ.out)⟩; have qV : zx (wc.heap[y7]? = some (.cells #[.string (⟨#[71]⟩ : BY), .bool ((Int.tmod vQ 2) == 1), .int .i64 200, .slice (some wh) zQ.length Y9, jW, j3] 44 (0, 0))) := ⟨by rw [← Y8]; exact (yt zW.out)⟩; have xD : zx (Below w.heap.size w wc) := ⟨by rw [← Y8]; exact (zD HB.out)⟩; clear yh vB vC qZ zW HB Y8; have yh := zf; have vB := zh; have vC := zA; have qZ := zR; have zW := qV; have HB := xD; clear zf zh zA zR qV xD))) | (go_at_call 82; (with_reducible refine (yA.calls _ _ l0 (wrap64 (xg + 24)) Js _ ?y8 ?qy A60.out).mono ?_); (case y8 => repeat (first | exact (Kd.zY kG.out HB.out) | (with_reducible refine Kd.zS ?_ _) | (with_reducible refine Kd.zT ?_ _) | (with_reducible refine Kd.yc ?_))); (case qy => exact ZW.out); rintro e w' ⟨rfl, ⟨nd, rfl⟩⟩; (try (rw [JC wc]; generalize Y8 : World.drewN wc _ = wc; have zf : zx (Kd.R qJ 81 wc w.heap.size (fun _ => True) (.slice (some wh) zQ.length Y9) zQ) := ⟨by rw [← Y8]; exact (yF yh.out)⟩; have zh : zx (Kd.R jC 83 wc w.heap.size (fun _ => True) jW ko) := ⟨by rw [← Y8]; exact (yF vB.out)⟩; have zA : zx (Kd.R jS 84 wc w.heap.size (fun _ => True) j3 vZ) := ⟨by rw [← Y8]; exact (yF vC.out)⟩; have zR : zx (wc.heap[vM]? = some (.cells #[.string (⟨#[]⟩ : BY), .bool false, .int .i64 0, .slice none 0 0, .slice none 0 0, .slice none 0 0] 26 (0, 0))) := ⟨by rw [← Y8]; exact (yt qZ.out)⟩; have qV : zx (wc.heap[y7]? = some (.cells #[.string (⟨#[71]⟩ : BY), .bool ((Int.tmod vQ 2) == 1), .int .i64 200, .slice (some wh) zQ.length Y9, jW, j3] 44 (0, 0))) := ⟨by rw [← Y8]; exact (yt zW.out)⟩; have xD : zx (Below w.heap.size w wc) := ⟨by rw [← Y8]; exact (zD HB.out)⟩; clear yh vB vC qZ zW HB Y8; have yh := zf; have vB := zh; have vC := zA; have qZ := zR; have zW := qV; have HB := xD; clear zf zh zA zR qV xD)); have zlo := Qk.out; have zlp := Qv.out; have zgN : wc.cell? ⟨y7, 0, none⟩ = some (.string (⟨#[71]⟩ : BY)) := (zk zW.out 0).trans rfl; have zgO : wc.cell? ⟨y7, 1, none⟩ = some (.bool ((Int.tmod vQ 2) == 1)) := (zk zW.out 1).trans rfl; have zgP : wc.cell? ⟨y7, 2, none⟩ = some (.int .i64 200) := (zk zW.out 2).trans rfl; have zgR : wc.cell? ⟨y7, 3, none⟩ = some (.slice (some wh) zQ.length Y9) := (zk zW.out 3).trans rfl; have zgS : wc.cell? ⟨y7, 4, none⟩ = some (jW) := (zk zW.out 4).trans rfl; have zgT : wc.cell? ⟨y7, 5, none⟩ = some (j3) := (zk zW.out 5).trans rfl; have zgU := zw zW.out 0; have zg0 := zw zW.out 1; have zg1 := zw zW.out 2; have zg2 := zw zW.out 3; have zg3 := zw zW.out 4; have zg4 := zw zW.out 5) | ((with_reducible refine vN (b := .append) (xs := #[.tmp 113, .tmp 118]) rfl ?_); at_builtin; refine Kd.Xj jS (w0 := w) w.heap.size rfl (.tmp 113) (.tmp 118) 42 84 (.agg #[(.string ⟨#[]⟩), (.string ⟨#[]⟩), (.int .i64 0)]) 40 rfl Tryz.underlying42 zZA rfl (by decide) (by omega) j3 vZ (⟨((zN zQ xg).f0), ((zN zQ (wD)).f0), wrap64 ((Int.tmod XD 1001) - 500)⟩ : qG) [.string ((zN zQ xg).f0), .string ((zN zQ (wD)).f0), .int .i64 (wrap64 ((Int.tmod XD 1001) - 500))] (fun _ => True) (fun _ => False) rfl rfl ?aP (fun _ hk => hk.elim) ?aF ?aO ?aB ?aS ?aL ?_; (case aP => exact UK _ _ _ (⟨((zN zQ xg).f0), ((zN zQ (wD)).f0), wrap64 ((Int.tmod XD 1001) - 500)⟩ : qG)); (case aB => exact (zD HB.out)); (case aF => exact (fun _ _ => trivial)); (case aO => exact (yF vC.out)); (case aS => exact (zV (zD HB.out))); (case aL => have := zdx.out; omega); intro zmd w65 ho hb hg hat; rw [← zdj.out] at ho; have zf := zx.mk (Kd.Yd (yF yh.out) (Kd.kN (yF vC.out)) (by decide) hg); have zh := zx.mk (Kd.Yd (yF vB.out) (Kd.kN (yF vC.out)) (by decide) hg); have zA := zx.mk (qQ (g := vM) (o := .cells #[.string (⟨#[]⟩ : BY), .bool false, .int .i64 0, .slice none 0 0, .slice none 0 0, .slice none 0 0] 26 (0, 0)) (yt qZ.out) hg (Kd.kE vC.out qZ.out (by decide))); have zR := zx.mk (qQ (g := y7) (o := .cells #[.string (⟨#[71]⟩ : BY), .bool ((Int.tmod vQ 2) == 1), .int .i64 200, .slice (some wh) zQ.length Y9, jW, j3] 44 (0, 0)) (yt zW.out) hg (Kd.kE vC.out zW.out (by decide))); have qV := zx.mk (hb); have xD := zx.mk (ho); clear yh; clear vB; clear qZ; clear zW; clear HB; clear vC; have yh := zf; have vB := zh; have qZ := zA; have zW := zR; have HB := qV; have zJ0 := xD; clear zf zh zA zR qV xD; clear ho hb hg hat; obtain ⟨zZQ, zZX, zfS⟩ := Kd.y9 zJ0.out; subst zfS; have zg5 : w65.cell? ⟨y7, 0, none⟩ = some (.string (⟨#[71]⟩ : BY)) := (zk zW.out 0).trans rfl; have zg6 : w65.cell? ⟨y7, 1, none⟩ = some (.bool ((Int.tmod vQ 2) == 1)) := (zk zW.out 1).trans rfl; have zg7 : w65.cell? ⟨y7, 2, none⟩ = some (.int .i64 200) := (zk zW.out 2).trans rfl; have zg8 : w65.cell? ⟨y7, 3, none⟩ = some (.slice (some wh) zQ.length Y9) := (zk zW.out 3).trans rfl; have zg9 : w65.cell? ⟨y7, 4, none⟩ = some (jW) := (zk zW.out 4).trans rfl; have zhz : w65.cell? ⟨y7, 5, none⟩ = some (j3) := (zk zW.out 5).trans rfl; have zhq := zw zW.out 0; have zhx := zw zW.out 1; have zhj := zw zW.out 2; have zhv := zw zW.out 3; have zhk := zw zW.out 4; have zhy := zw zW.out 5))
                   go_roundg gQ
                   case measure => have := jv.out; have := bG.out; have := zqb.out; omega
                   case rel => exact ⟨(wrap64 (xg + 1)), (ko), (zqc), (jW), (.slice zZQ zqc.length zZX), (by first | rfl | (simp; done) | (simp [*]; done)), H', ⟨by have := jv.out; have := bG.out; have := zqb.out; omega⟩, ⟨by (with_reducible repeat (first | apply Kd.q9 | apply Kd.qL | apply Kd.qw)); exact Kd.zL (Kd.yK (p := ⟨y7, 5, none⟩) (Kd.zi yh.out zW.out (by decide)) (fun _ hk => hk.2) (.slice zZQ zqc.length zZX)) (fun _ hk => trivial)⟩, ⟨by (with_reducible repeat (first | apply Kd.q9 | apply Kd.qL | apply Kd.qw)); exact Kd.zL (Kd.yK (p := ⟨y7, 5, none⟩) (Kd.zi vB.out zW.out (by decide)) (fun _ hk => hk.2) (.slice zZQ zqc.length zZX)) (fun _ hk => trivial)⟩, ⟨by (with_reducible repeat (first | apply Kd.q9 | apply Kd.qL | apply Kd.qw)); exact Kd.zL (Kd.yK (p := ⟨y7, 5, none⟩) (Kd.zi zJ0.out zW.out (by decide)) (fun _ hk => hk.2) (.slice zZQ zqc.length zZX)) (fun _ hk => trivial)⟩, ⟨wJ qZ.out⟩, ⟨by (with_reducible repeat (first | refine zJ ?_ _ | refine zX ?_ | refine zZ ?_ _)); refine yC (cs := #[.string (⟨#[71]⟩ : BY), .bool ((Int.tmod vQ 2) == 1), .int .i64 200, .slice (some wh) zQ.length Y9, jW, j3]) ?_ 5 _ rfl; (with_reducible repeat (first | refine zJ ?_ _ | refine zX ?_ | refine zZ ?_ _)); exact zW.out⟩, ⟨zD HB.out⟩⟩
                  ·rw [if_neg c62] at H
                   exact absurd H (by simp)
                 ·rw [if_neg c61] at H
                  have zdz : ((Int.tmod Js 2) == 0) = false := beq_eq_false_iff_ne.mpr c61
                  have zdq : ((Int.tmod Js 2) != 0) = true := bne_iff_ne.mpr c61
                  have H' := zx.mk H
                  clear H
                  go_wp2_with (first | ((with_reducible refine yY (f := 82) rfl ?_); refine uN (some 99) Tryz.func82 #[.slice A0 l0.length c0, .int .i64 (wrap64 (xg + 16))] ?_; (with_reducible refine (yA.calls _ _ l0 (wrap64 (xg + 16)) XD _ ?y8 ?qy A58.out).mono ?_); (case y8 => repeat (first | exact (Kd.zY kG.out HB.out) | (with_reducible refine Kd.zS ?_ _) | (with_reducible refine Kd.zT ?_ _) | (with_reducible refine Kd.yc ?_))); (case qy => exact ZW.out); rintro e w' ⟨rfl, ⟨nd, rfl⟩⟩; refine ⟨_, rfl, ?_⟩) | (go_at_call 82; (with_reducible refine (yA.calls _ _ l0 (wrap64 (xg + 24)) Js _ ?y8 ?qy A60.out).mono ?_); (case y8 => repeat (first | exact (Kd.zY kG.out (zD HB.out)) | (with_reducible refine Kd.zS ?_ _) | (with_reducible refine Kd.zT ?_ _) | (with_reducible refine Kd.yc ?_))); (case qy => exact ZW.out); rintro e w' ⟨rfl, ⟨nd, rfl⟩⟩))
                  go_roundg gQ
                  case measure => have := jv.out; have := bG.out; have := zqb.out; omega
                  case rel => exact ⟨(wrap64 (xg + 1)), (ko), (vZ), (jW), (j3), (by first | rfl | (simp; done) | (simp [*]; done)), H', ⟨by have := jv.out; have := bG.out; have := zqb.out; omega⟩, ⟨yF yh.out⟩, ⟨yF vB.out⟩, ⟨yF vC.out⟩, ⟨yt qZ.out⟩, ⟨yt zW.out⟩, ⟨zD HB.out⟩⟩
             ·rw [if_neg c47] at H
              exact absurd H (by simp)
            ·rw [if_neg c46] at H
             exact absurd H (by simp)
           ·rw [if_neg c43] at H
            exact absurd H (by simp)
          ·rw [if_neg c42] at H
           exact absurd H (by simp)
        ·rw [if_neg c38] at H
         exact absurd H (by simp)
       ·rw [if_neg c37] at H
        exact absurd H (by simp)
      ·rw [if_neg c36] at H
       have zJS : decide (xg < (zQ.length : Int)) = false := decide_eq_false c36
       clear c36
       replace H := Option.bind_eq_some_iff.mp H
       obtain ⟨⟨WW, Pb, gX, nV, aI, zqd⟩, zx8, H⟩ := H
       replace H : (some (WW, Pb, gX, nV, aI, zqd)) = some (r1, r2, r3, r4, r5, r6) := H
       have A68 := zx.mk zx8
       clear zx8
       simp only [Option.some.injEq, Prod.mk.injEq] at H
       obtain ⟨rfl, rfl, rfl, rfl, rfl, rfl⟩ := H
       have zlr := Qk.out
       have zls := Qv.out
       have zhw : wr.cell? ⟨y7, 0, none⟩ = some (.string (⟨#[71]⟩ : BY)) := (zk zW.out 0).trans rfl
       have zhZ : wr.cell? ⟨y7, 1, none⟩ = some (.bool ((Int.tmod vQ 2) == 1)) := (zk zW.out 1).trans rfl
       have zhQ : wr.cell? ⟨y7, 2, none⟩ = some (.int .i64 200) := (zk zW.out 2).trans rfl
       have zhX : wr.cell? ⟨y7, 3, none⟩ = some (.slice zjs zQ.length Y9) := (zk zW.out 3).trans rfl
       have zhJ : wr.cell? ⟨y7, 4, none⟩ = some (jW) := (zk zW.out 4).trans rfl
       have zhV : wr.cell? ⟨y7, 5, none⟩ = some (j3) := (zk zW.out 5).trans rfl
       have zhK := zw zW.out 0
       have zhY := zw zW.out 1
       have zhW := zw zW.out 2
       have zha := zw zW.out 3
       have zhb := zw zW.out 4
       have zhc := zw zW.out 5
       obtain ⟨Uf, Ug, zwl⟩ := Kd.y9 vB.out
       subst zwl
       obtain ⟨zan, zao, zfT⟩ := Kd.y9 vC.out
       subst zfT
       go_wp2_with (first | ((with_reducible refine yY (f := 19) rfl ?_); refine uN (some 122) Tryz.func19 #[.agg #[.string (⟨#[71]⟩ : BY), .bool ((Int.tmod vQ 2) == 1), .int .i64 200, .slice zjs zQ.length Y9, .slice Uf uX.length Ug, .slice zan vZ.length zao]] ?_; (with_reducible refine (jH.calls k2 (⟨#[71]⟩ : BY) ((Int.tmod vQ 2) == 1) 200 _ _ zQ _ _ uX _ _ vZ WW Pb gX nV aI zqd _ ?y8 ?qy ?vT ?vU ?uz ?uq A68.out).mono ?_); (case y8 => repeat (first | exact (Kd.qU yh.out).2.2 | (with_reducible refine Kd.zS ?_ _) | (with_reducible refine Kd.zT ?_ _) | (with_reducible refine Kd.yc ?_))); (case qy => exact (Kd.qU yh.out).2.1); (case vT => repeat (first | exact (Kd.qU vB.out).2.2 | (with_reducible refine Kd.zS ?_ _) | (with_reducible refine Kd.zT ?_ _) | (with_reducible refine Kd.yc ?_))); (case vU => exact (Kd.qU vB.out).2.1); (case uz => repeat (first | exact (Kd.qU vC.out).2.2 | (with_reducible refine Kd.zS ?_ _) | (with_reducible refine Kd.zT ?_ _) | (with_reducible refine Kd.yc ?_))); (case uq => exact (Kd.qU vC.out).2.1); rintro e w73 ⟨zme, zmf, zmg, rfl, ho0, ho1, ho2, hb⟩; refine ⟨_, rfl, ?_⟩; have zf := zx.mk (Kd.qz (yF yh.out) hb); have zh := zx.mk (Kd.qz (yF vB.out) hb); have zA := zx.mk (Kd.qz (yF vC.out) hb); have zR := zx.mk (Kd.xI ho0 (zV (zD HB.out))); have qV := zx.mk (Kd.xI ho1 (zV (zD HB.out))); have xD := zx.mk (Kd.xI ho2 (zV (zD HB.out))); have vE := zx.mk (zl (g := vM) (o := .cells #[.string (⟨#[]⟩ : BY), .bool false, .int .i64 0, .slice none 0 0, .slice none 0 0, .slice none 0 0] 26 (0, 0)) (yt qZ.out) hb); have vR := zx.mk (zl (g := y7) (o := .cells #[.string (⟨#[71]⟩ : BY), .bool ((Int.tmod vQ 2) == 1), .int .i64 200, .slice zjs zQ.length Y9, .slice Uf uX.length Ug, .slice zan vZ.length zao] 44 (0, 0)) (yt zW.out) hb); have uK := zx.mk (zI (zD HB.out) hb); clear yh; clear vB; clear vC; clear qZ; clear zW; clear HB; have yh := zf; have vB := zh; have vC := zA; have zJ1 := zR; have zJ2 := qV; have zJ3 := xD; have qZ := vE; have zW := vR; have HB := uK; clear zf zh zA zR qV xD vE vR uK; (try clear hb); (try clear hb2); (try clear hk); (try clear hi); (try clear ho0); (try clear ho1); (try clear ho2); have zhd : w73.cell? ⟨vM, 0, none⟩ = some (.string (⟨#[]⟩ : BY)) := (zk qZ.out 0).trans rfl; have zhe : w73.cell? ⟨vM, 1, none⟩ = some (.bool false) := (zk qZ.out 1).trans rfl; have zhf : w73.cell? ⟨vM, 2, none⟩ = some (.int .i64 0) := (zk qZ.out 2).trans rfl; have zhg : w73.cell? ⟨vM, 3, none⟩ = some (.slice none 0 0) := (zk qZ.out 3).trans rfl; have zhh : w73.cell? ⟨vM, 4, none⟩ = some (.slice none 0 0) := (zk qZ.out 4).trans rfl; have zhi : w73.cell? ⟨vM, 5, none⟩ = some (.slice none 0 0) := (zk qZ.out 5).trans rfl; have zhl := zw qZ.out 0; have zhm := zw qZ.out 1; have zhn := zw qZ.out 2; have zho := zw qZ.out 3; have zhp := zw qZ.out 4; have zhr := zw qZ.out 5; obtain ⟨zqe, zqf, zfU⟩ := Kd.y9 zJ1.out; subst zfU; obtain ⟨zjt, zju, zf6⟩ := Kd.y9 zJ2.out; subst zf6; obtain ⟨Pw, PZ, zwo⟩ := Kd.y9 zJ3.out; subst zwo))
       refine bodyPost_ret (results_cell_row rfl _ _ vM 26 #[.string WW, .bool Pb, .int .i64 gX, .slice zqe nV.length zqf, .slice zjt aI.length zju, .slice Pw zqd.length PZ] (0, 0) _ rfl (by (with_reducible repeat (first | refine zJ ?_ _ | refine zX ?_ | refine zZ ?_ _)); refine yC (cs := #[.string WW, .bool Pb, .int .i64 gX, .slice zqe nV.length zqf, .slice zjt aI.length zju, .slice none 0 0]) ?_ 5 _ rfl; (with_reducible repeat (first | refine zJ ?_ _ | refine zX ?_ | refine zZ ?_ _)); refine yC (cs := #[.string WW, .bool Pb, .int .i64 gX, .slice zqe nV.length zqf, .slice none 0 0, .slice none 0 0]) ?_ 4 _ rfl; (with_reducible repeat (first | refine zJ ?_ _ | refine zX ?_ | refine zZ ?_ _)); refine yC (cs := #[.string WW, .bool Pb, .int .i64 gX, .slice none 0 0, .slice none 0 0, .slice none 0 0]) ?_ 3 _ rfl; (with_reducible repeat (first | refine zJ ?_ _ | refine zX ?_ | refine zZ ?_ _)); refine yC (cs := #[.string WW, .bool Pb, .int .i64 0, .slice none 0 0, .slice none 0 0, .slice none 0 0]) ?_ 2 _ rfl; (with_reducible repeat (first | refine zJ ?_ _ | refine zX ?_ | refine zZ ?_ _)); refine yC (cs := #[.string WW, .bool false, .int .i64 0, .slice none 0 0, .slice none 0 0, .slice none 0 0]) ?_ 1 _ rfl; (with_reducible repeat (first | refine zJ ?_ _ | refine zX ?_ | refine zZ ?_ _)); refine yC (cs := #[.string (⟨#[]⟩ : BY), .bool false, .int .i64 0, .slice none 0 0, .slice none 0 0, .slice none 0 0]) ?_ 0 _ rfl; (with_reducible repeat (first | refine zJ ?_ _ | refine zX ?_ | refine zZ ?_ _)); exact qZ.out) Tryz.underlying26 rfl (by kernel_rfl)) rfl ?_
       exact ⟨_, _, _, by first | rfl | (simp [zU, z8] <;> rfl) | (simp [*, zU, z8] <;> rfl), by (with_reducible repeat (first | apply Kd.q9 | apply Kd.qL | apply Kd.qw)); exact Kd.zL (Kd.yK (p := ⟨vM, 5, none⟩) (Kd.yK (p := ⟨vM, 4, none⟩) (Kd.yK (p := ⟨vM, 3, none⟩) (Kd.yK (p := ⟨vM, 2, none⟩) (Kd.yK (p := ⟨vM, 1, none⟩) (Kd.yK (p := ⟨vM, 0, none⟩) (Kd.zi zJ1.out qZ.out (by decide)) (fun _ hk => hk.2) (.string WW)) (fun _ hk => hk.2) (.bool Pb)) (fun _ hk => hk.2) (.int .i64 gX)) (fun _ hk => hk.2) (.slice zqe nV.length zqf)) (fun _ hk => hk.2) (.slice zjt aI.length zju)) (fun _ hk => hk.2) (.slice Pw zqd.length PZ)) (fun _ hk => trivial), by (with_reducible repeat (first | apply Kd.q9 | apply Kd.qL | apply Kd.qw)); exact Kd.zL (Kd.yK (p := ⟨vM, 5, none⟩) (Kd.yK (p := ⟨vM, 4, none⟩) (Kd.yK (p := ⟨vM, 3, none⟩) (Kd.yK (p := ⟨vM, 2, none⟩) (Kd.yK (p := ⟨vM, 1, none⟩) (Kd.yK (p := ⟨vM, 0, none⟩) (Kd.zi zJ2.out qZ.out (by decide)) (fun _ hk => hk.2) (.string WW)) (fun _ hk => hk.2) (.bool Pb)) (fun _ hk => hk.2) (.int .i64 gX)) (fun _ hk => hk.2) (.slice zqe nV.length zqf)) (fun _ hk => hk.2) (.slice zjt aI.length zju)) (fun _ hk => hk.2) (.slice Pw zqd.length PZ)) (fun _ hk => trivial), by (with_reducible repeat (first | apply Kd.q9 | apply Kd.qL | apply Kd.qw)); exact Kd.zL (Kd.yK (p := ⟨vM, 5, none⟩) (Kd.yK (p := ⟨vM, 4, none⟩) (Kd.yK (p := ⟨vM, 3, none⟩) (Kd.yK (p := ⟨vM, 2, none⟩) (Kd.yK (p := ⟨vM, 1, none⟩) (Kd.yK (p := ⟨vM, 0, none⟩) (Kd.zi zJ3.out qZ.out (by decide)) (fun _ hk => hk.2) (.string WW)) (fun _ hk => hk.2) (.bool Pb)) (fun _ hk => hk.2) (.int .i64 gX)) (fun _ hk => hk.2) (.slice zqe nV.length zqf)) (fun _ hk => hk.2) (.slice zjt aI.length zju)) (fun _ hk => hk.2) (.slice Pw zqd.length PZ)) (fun _ hk => trivial), by repeat (first | (with_reducible first | exact HB.out | apply yu | apply zP | apply yT | refine qB ?_ zcI.out | refine qB ?_ zcL.out) | exact HB.out)⟩
end Go.Proofs.YtaifemkokfoadaaGreatDoor.PX
namespace Go.Proofs.YtaifemkokfoadaaGreatDoor
open Go.RowKit Go.Proofs.zy.zu Go.Proofs.zy.yI Go.Proofs.zy.yD Go.Proofs.YtaifemkokfoadaaGreatDoor.PX
def OkF (r : BY × Bool × Int × (List qg) × (List xC) × (List vk)) : Prop :=
 r.1.size ≤ 100 ∧ 0 < r.2.2.2.1.length ∧ r.2.2.2.1.length ≤ 1000 ∧ r.2.2.2.2.1.length ≤ 1000 ∧ r.2.2.2.2.2.length ≤ 1000 ∧ ∀ x ∈ r.2.2.2.1, x.f0.size ≤ 100
theorem U2 (l : List Int) (i : Nat) : ∃ v : Nat, yA.f l (i : Int) = some (v : Int) ∧ v < 100000 := by
 unfold yA.f
 by_cases h : (i : Int) < (l.length : Int)
 ·obtain ⟨v, hv, e⟩ := rM (rd l (i : Int)) 100000 (by decide) (by decide)
  exact ⟨v, by rw [if_pos h, if_pos (by omega), e], by omega⟩
 ·exact ⟨0, by rw [if_neg h]; rfl, by omega⟩
theorem aw (i : Nat) (m : Int) (n : Nat) (h : i ≤ 1000) (hm : m = (n : Int)) (hn : n ≤ 1000) : zx (wrap64 ((i : Int) + m) = ((i + n : Nat) : Int)) := ⟨by rw [hm, Yi (by omega) (by omega)]; omega⟩
theorem zYK (k : Nat) (n : BY) (b : Bool) (c : Int) (l3 : List zo) (l4 : List qF) (l5 : List qG) (h3 : l3.length ≤ 8) (h4 : l4.length ≤ 8) (h5 : l5.length ≤ 8) : jH.f k n b c l3 l4 l5 = some (n, b, c, l3.map Uh, l4.map Jm, l5.map Jo) := by
 unfold jH.f
 rw [if_pos (by omega)]
theorem gr2 (l0 : List Int) (n : BY) (b : Bool) (c : Int) (L : List zo) (l4 : List qF) (l5 : List qG) (i : Nat) (hi : i < 8) (x7 x9 : BY) (h5 : l5.length ≤ i)
  (ih : ∀ l : List qG, l.length ≤ i + 1 → ∃ r, Ev (fun k => zK.l1 k l0 (L.length : Int) ((i + 1 : Nat) : Int) n b c L l4 l) r ∧ OkF r) :
  ∃ r, Ev (fun k => zK.j2 k l0 (L.length : Int) (i : Int) x7 x9 n b c L l4 l5) r ∧ OkF r := by
 obtain ⟨v, ev, _⟩ := U2 l0 (i + 16)
 obtain ⟨u, eu, _⟩ := U2 l0 (i + 24)
 have h1 := aw i 1 1 (by omega) rfl (by omega)
 have h16 := aw i 16 16 (by omega) rfl (by omega)
 have h24 := aw i 24 24 (by omega) rfl (by omega)
 by_cases c1 : wrap64 (Int.tmod (v : Int) 1001 - 500) = 0
 ·obtain ⟨r, hr, ok⟩ := ih l5 (by omega)
  refine ⟨r, Ev.step (fun k => by rw [zK.j2, h1.out, h16.out, h24.out, ev]) ?_, ok⟩
  exact Zu (qM c1 hr)
 ·by_cases c2 : Int.tmod (u : Int) 2 = 0
  ·obtain ⟨r, hr, ok⟩ := ih (l5 ++ [⟨x7, x9, wrap64 (Int.tmod (v : Int) 1001 - 500)⟩]) (by rw [List.length_append]; simp; omega)
   have hb : l5.length < 3518437208883 := by omega
   refine ⟨r, Ev.step (fun k => by rw [zK.j2, h1.out, h16.out, h24.out, ev]) ?_, ok⟩
   exact Zu (uY c1 (fA eu (qM c2 (qM hb hr))))
  ·obtain ⟨r, hr, ok⟩ := ih l5 (by omega)
   refine ⟨r, Ev.step (fun k => by rw [zK.j2, h1.out, h16.out, h24.out, ev]) ?_, ok⟩
   exact Zu (uY c1 (fA eu (uY c2 hr)))
theorem zyL (v n : Nat) (h : 0 < n) : (0 : Int) ≤ Int.tmod (v : Int) (n : Int) ∧ Int.tmod (v : Int) (n : Int) < (n : Int) := by
 rw [Int.tmod_eq_emod_of_nonneg (by omega)]
 exact ⟨Int.emod_nonneg _ (by omega), Int.emod_lt_of_pos _ (by omega)⟩
theorem gr1 (l0 : List Int) (n : BY) (b : Bool) (c : Int) (L : List zo) (hn : n.size ≤ 100) (hL0 : 0 < L.length) (hL : L.length ≤ 8) (hN : ∀ x ∈ L, x.f0.size ≤ 100) :
  ∀ d i (l4 : List qF) (l5 : List qG), L.length - i = d → i ≤ L.length → l4.length ≤ i → l5.length ≤ i → ∃ r, Ev (fun k => zK.l1 k l0 (L.length : Int) (i : Int) n b c L l4 l5) r ∧ OkF r := by
 intro d
 induction d with
 | zero =>
  intro i l4 l5 hd hi h4 h5
  have hlt : ¬ (i : Int) < (L.length : Int) := by omega
  have hb := fun k => zYK k n b c L l4 l5 hL (by omega) (by omega)
  refine ⟨(n, b, c, L.map Uh, l4.map Jm, l5.map Jo), Ev.step (fun k => by rw [zK.l1]) ?_, ?_⟩
  ·exact uY hlt (Ev.congr (fun k => by rw [hb k]; rfl) (Ev.now _))
  refine ⟨hn, ?_, ?_, ?_, ?_, fun x hx => ?_⟩
  ·show 0 < (L.map Uh).length
   rw [List.length_map]; exact hL0
  ·show (L.map Uh).length ≤ 1000
   rw [List.length_map]; omega
  ·show (l4.map Jm).length ≤ 1000
   rw [List.length_map]; omega
  ·show (l5.map Jo).length ≤ 1000
   rw [List.length_map]; omega
  ·obtain ⟨y, hy, rfl⟩ := List.mem_map.1 hx
   exact hN y hy
 | succ d ih =>
  intro i l4 l5 hd hi h4 h5
  have hlt : (i : Int) < (L.length : Int) := by omega
  have h0 : (0 : Int) ≤ (i : Int) := by omega
  have hz : ¬ (L.length : Int) = 0 := by omega
  obtain ⟨v, ev, _⟩ := U2 l0 (i + 8)
  obtain ⟨u, eu, _⟩ := U2 l0 (i + 16)
  obtain ⟨v0, v1⟩ := zyL v L.length hL0
  obtain ⟨u0, u1⟩ := zyL u L.length hL0
  have hb : l4.length < 2932031007402 := by omega
  have hl8 : i < 8 := by omega
  have a4 : ∀ x, (l4 ++ [x]).length ≤ i + 1 := fun x => by rw [List.length_append]; simp; omega
  have a4' : l4.length ≤ i + 1 := by omega
  have a1 : L.length - (i + 1) = d := by omega
  have a2 : i + 1 ≤ L.length := by omega
  have h8 := aw i 8 8 (by omega) rfl (by omega)
  have h16 := aw i 16 16 (by omega) rfl (by omega)
  by_cases c1 : Int.tmod (v : Int) 4 = 1
  ·obtain ⟨r, hr, ok⟩ := gr2 l0 n b c L (l4 ++ [⟨(zN L (i : Int)).f0, (zN L (Int.tmod (v : Int) (L.length : Int))).f0, (zN L (Int.tmod (u : Int) (L.length : Int))).f0⟩]) l5 i hl8 (zN L (i : Int)).f0 (zN L (Int.tmod (u : Int) (L.length : Int))).f0 h5 (fun l hl => ih (i + 1) _ l a1 a2 (a4 _) hl)
   refine ⟨r, Ev.step (fun k => by rw [zK.l1, h8.out, h16.out, ev, eu]) ?_, ok⟩
   exact qM hlt (qM h0 (qM hlt (Zu (uY hz (qM v0 (qM v1 (Zu (qM u0 (qM u1 (Zu (qM c1 (qM hb hr))))))))))))
  ·obtain ⟨r, hr, ok⟩ := gr2 l0 n b c L l4 l5 i hl8 (zN L (i : Int)).f0 (zN L (Int.tmod (u : Int) (L.length : Int))).f0 h5 (fun l hl => ih (i + 1) _ l a1 a2 a4' hl)
   refine ⟨r, Ev.step (fun k => by rw [zK.l1, h8.out, h16.out, ev, eu]) ?_, ok⟩
   exact qM hlt (qM h0 (qM hlt (Zu (uY hz (qM v0 (qM v1 (Zu (qM u0 (qM u1 (Zu (uY c1 hr)))))))))))
theorem zX4 (x : Int) : (strOfNums [x]).size = 1 := by rw [Vz, kV]; rfl
theorem gr0 (l0 : List Int) (n : BY) (b : Bool) (c : Int) (hn : n.size ≤ 100) :
  ∀ d i (l3 : List zo), 8 - i = d → i ≤ 8 → l3.length ≤ i → (0 < i → 0 < l3.length) → (∀ x ∈ l3, x.f0.size ≤ 100) → ∃ r, Ev (fun k => zK.l0 k l0 (i : Int) n b c l3) r ∧ OkF r := by
 intro d
 induction d with
 | zero =>
  intro i l3 hd hi h3 hp hN
  have hlt : ¬ (i : Int) < 8 := by omega
  obtain ⟨r, hr, ok⟩ := gr1 l0 n b c l3 hn (hp (by omega)) (by omega) hN _ 0 [] [] rfl (by omega) (Nat.le_refl _) (Nat.le_refl _)
  refine ⟨r, Ev.step (fun k => by rw [zK.l0]) ?_, ok⟩
  exact uY hlt hr
 | succ d ih =>
  intro i l3 hd hi h3 hp hN
  have hlt : (i : Int) < 8 := by omega
  obtain ⟨v, ev, _⟩ := U2 l0 i
  have hb : l3.length < 5864062014805 := by omega
  have a3 : ∀ x, (l3 ++ [x]).length ≤ i + 1 := fun x => by rw [List.length_append]; simp; omega
  have a3' : l3.length ≤ i + 1 := by omega
  have a5 : ∀ x, 0 < i + 1 → 0 < (l3 ++ [x]).length := fun x _ => by rw [List.length_append]; simp
  have a6 : ¬ (i : Int) < 2 → 0 < i + 1 → 0 < l3.length := fun h _ => hp (by omega)
  have a1 : 8 - (i + 1) = d := by omega
  have a2 : i + 1 ≤ 8 := by omega
  have aN : ∀ (x : Int) (y : Int), ∀ z ∈ l3 ++ [(⟨strOfNums [x], y⟩ : zo)], z.f0.size ≤ 100 := fun x y z hz => by
   rcases List.mem_append.1 hz with h | h
   ·exact hN z h
   ·rw [List.mem_singleton.1 h]
    show (strOfNums [x]).size ≤ 100
    rw [zX4]; omega
  have h1 := aw i 1 1 (by omega) rfl (by omega)
  by_cases c1 : Int.tmod (v : Int) 3 = 0
  ·by_cases c2 : (i : Int) < 2
   ·obtain ⟨r, hr, ok⟩ := ih (i + 1) (l3 ++ [⟨strOfNums [wrap64 (97 + (i : Int)) % 256], Int.tmod (v : Int) 3001⟩]) a1 a2 (a3 _) (a5 _) (aN _ _)
    refine ⟨r, Ev.step (fun k => by rw [zK.l0, h1.out, ev]) ?_, ok⟩
    exact qM hlt (Zu (qM c1 (qM c2 (Zu (qM hb hr)))))
   ·obtain ⟨r, hr, ok⟩ := ih (i + 1) l3 a1 a2 a3' (a6 c2) hN
    refine ⟨r, Ev.step (fun k => by rw [zK.l0, h1.out, ev]) ?_, ok⟩
    exact qM hlt (Zu (qM c1 (uY c2 hr)))
  ·obtain ⟨r, hr, ok⟩ := ih (i + 1) (l3 ++ [⟨strOfNums [wrap64 (97 + (i : Int)) % 256], Int.tmod (v : Int) 3001⟩]) a1 a2 (a3 _) (a5 _) (aN _ _)
   refine ⟨r, Ev.step (fun k => by rw [zK.l0, h1.out, ev]) ?_, ok⟩
   exact qM hlt (Zu (uY c1 (Zu (qM hb hr))))
theorem zZJ (l0 : List Int) : ∃ k r, zK.f k l0 = some r ∧ OkF r := by
 obtain ⟨v, ev, _⟩ := U2 l0 0
 obtain ⟨r, hr, ok⟩ := gr0 l0 (⟨#[71]⟩ : BY) ((Int.tmod (v : Int) 2) == 1) 200 (by decide) _ 0 [] rfl (by omega) (Nat.le_refl _) (fun h => absurd h (Nat.lt_irrefl _)) (fun x hx => absurd hx (List.not_mem_nil))
 have e0 : yA.f l0 0 = some (v : Int) := ev
 have h2 : Ev (fun k => zK.f k l0) r := by
  refine Ev.congr (fun k => by rw [zK.f, e0]) ?_
  exact Zu hr
 obtain ⟨k, hk⟩ := h2.rounds
 exact ⟨k, r, hk, ok⟩
end Go.Proofs.YtaifemkokfoadaaGreatDoor
namespace Go.Proofs.YtaifemkokfoadaaGreatDoor.PX
open Go.RowKit Go.Proofs.zy.zu Go.Proofs.zy.yI Go.Proofs.zy.yD
attribute [local go_sem] xw xZ xP xR qD qE xQ xX
def pW.f (k : Nat) (l0 : List Int) (a1 : Int) : Option (BY × Bool × Int × (List (qg)) × (List (xC)) × (List (vk))) := if (wrap64 (Int.tmod (IntKind.u64.wrap (a1)) 7)) < 5 then ((vG.f k).bind fun vv => (if 0 ≤ (wrap64 (Int.tmod (IntKind.u64.wrap (a1)) 7)) then (if (wrap64 (Int.tmod (IntKind.u64.wrap (a1)) 7)) < (vv.length : Int) then (some ((yQ vv (wrap64 (Int.tmod (IntKind.u64.wrap (a1)) 7))).f0, (yQ vv (wrap64 (Int.tmod (IntKind.u64.wrap (a1)) 7))).f1, (yQ vv (wrap64 (Int.tmod (IntKind.u64.wrap (a1)) 7))).f2, (yQ vv (wrap64 (Int.tmod (IntKind.u64.wrap (a1)) 7))).f3, (yQ vv (wrap64 (Int.tmod (IntKind.u64.wrap (a1)) 7))).f4, (yQ vv (wrap64 (Int.tmod (IntKind.u64.wrap (a1)) 7))).f5)) else (none)) else (none))) else ((zK.f k l0).bind fun Qi => (some (Qi.1, Qi.2.1, Qi.2.2.1, Qi.2.2.2.1, Qi.2.2.2.2.1, Qi.2.2.2.2.2)))
set_option maxHeartbeats 8000000 in
set_option maxRecDepth 100000 in
theorem pW.calls (k : Nat) (A0 : Option Addr) (c0 : Nat) (l0 : List Int) (a1 : Int) (r1 : BY) (r2 : Bool) (r3 : Int) (r4 : List (qg)) (r5 : List (xC)) (r6 : List (vk)) (w : World) (hr0 : Kd.C (Kd.int .i64) w A0 l0.length l0) (hc0 : l0.length ≤ c0) (h : pW.f k l0 a1 = some (r1, r2, r3, r4, r5, r6)) :
  Calls Tryz.prog 21 #[.slice A0 l0.length c0, .int .i64 a1] w fun e w' => ∃ WA WB WC : Value, e = .returned (.agg #[.string r1, .bool r2, .int .i64 r3, WA, WB, WC]) ∧ Kd.V uf 31 w' w.heap.size (fun k_ => (w.heap.size ≤ k_)) WA r4 ∧ Kd.V jd 86 w' w.heap.size (fun k_ => (w.heap.size ≤ k_)) WB r5 ∧ Kd.V jh 76 w' w.heap.size (fun k_ => (w.heap.size ≤ k_)) WC r6 ∧ Below w.heap.size w w' := by
 have mJ := Tryz.underlying26
 have kG := zx.mk hr0
 have ZW := zx.mk hc0
 clear hr0 hc0
 have HB := zx.mk (Below.refl w.heap.size w)
 have H : (if (wrap64 (Int.tmod (IntKind.u64.wrap (a1)) 7)) < 5 then ((vG.f k).bind fun vv => (if 0 ≤ (wrap64 (Int.tmod (IntKind.u64.wrap (a1)) 7)) then (if (wrap64 (Int.tmod (IntKind.u64.wrap (a1)) 7)) < (vv.length : Int) then (some ((yQ vv (wrap64 (Int.tmod (IntKind.u64.wrap (a1)) 7))).f0, (yQ vv (wrap64 (Int.tmod (IntKind.u64.wrap (a1)) 7))).f1, (yQ vv (wrap64 (Int.tmod (IntKind.u64.wrap (a1)) 7))).f2, (yQ vv (wrap64 (Int.tmod (IntKind.u64.wrap (a1)) 7))).f3, (yQ vv (wrap64 (Int.tmod (IntKind.u64.wrap (a1)) 7))).f4, (yQ vv (wrap64 (Int.tmod (IntKind.u64.wrap (a1)) 7))).f5)) else (none)) else (none))) else ((zK.f k l0).bind fun Qi => (some (Qi.1, Qi.2.1, Qi.2.2.1, Qi.2.2.2.1, Qi.2.2.2.2.1, Qi.2.2.2.2.2)))) = some (r1, r2, r3, r4, r5, r6) := h
 clear h
 by_cases c3 : (wrap64 (Int.tmod (IntKind.u64.wrap (a1)) 7)) < 5
 ·rw [if_pos c3] at H
  have ZR : decide ((wrap64 (Int.tmod (IntKind.u64.wrap (a1)) 7)) < 5) = true := decide_eq_true c3
  clear c3
  replace H := Option.bind_eq_some_iff.mp H
  obtain ⟨vv, Jy, H⟩ := H
  replace H : (if 0 ≤ (wrap64 (Int.tmod (IntKind.u64.wrap (a1)) 7)) then (if (wrap64 (Int.tmod (IntKind.u64.wrap (a1)) 7)) < (vv.length : Int) then (some ((yQ vv (wrap64 (Int.tmod (IntKind.u64.wrap (a1)) 7))).f0, (yQ vv (wrap64 (Int.tmod (IntKind.u64.wrap (a1)) 7))).f1, (yQ vv (wrap64 (Int.tmod (IntKind.u64.wrap (a1)) 7))).f2, (yQ vv (wrap64 (Int.tmod (IntKind.u64.wrap (a1)) 7))).f3, (yQ vv (wrap64 (Int.tmod (IntKind.u64.wrap (a1)) 7))).f4, (yQ vv (wrap64 (Int.tmod (IntKind.u64.wrap (a1)) 7))).f5)) else (none)) else (none)) = some (r1, r2, r3, r4, r5, r6) := H
  have A4 := zx.mk Jy
  clear Jy
  obtain ⟨vD, Jl⟩ : ∃ j_ : Int, (wrap64 (Int.tmod (IntKind.u64.wrap (a1)) 7)) = j_ := ⟨_, rfl⟩
  replace H : (if 0 ≤ (vD) then (if (vD) < (vv.length : Int) then (some ((yQ vv (vD)).f0, (yQ vv (vD)).f1, (yQ vv (vD)).f2, (yQ vv (vD)).f3, (yQ vv (vD)).f4, (yQ vv (vD)).f5)) else (none)) else (none)) = some (r1, r2, r3, r4, r5, r6) := by first | (rw [Jl] at H; exact H) | (simp only [Jl] at H ⊢; exact H)
  (try rw [Jl] at ZR)
  (try rw [Jl] at A4)
  have za0 : (IntKind.i64.wrap (Int.tmod (IntKind.u64.wrap (a1)) 7)) = vD := (Xk _).trans Jl
  by_cases c6 : 0 ≤ (vD)
  ·rw [if_pos c6] at H
   have ZF : decide (0 ≤ (vD)) = true := decide_eq_true c6
   clear c6
   by_cases c7 : (vD) < (vv.length : Int)
   ·rw [if_pos c7] at H
    have ZT : decide ((vD) < (vv.length : Int)) = true := decide_eq_true c7
    clear c7
    simp only [Option.some.injEq, Prod.mk.injEq] at H
    obtain ⟨rfl, rfl, rfl, rfl, rfl, rfl⟩ := H
    go_enter Tryz.func21, Tryz.ntmps21
    go_wp2_with (first | ((with_reducible refine qx (N := 4) rfl ?_); refine ql ?hg (N := 4) ?hd (cs := #[.string (⟨#[]⟩ : BY), .bool false, .int .i64 0, .slice none 0 0, .slice none 0 0, .slice none 0 0]) (t := 26) ?hr ?_; (case hd => rfl); (case hg => rfl); (case hr => first | (go_simp; done) | (go_simp; rfl)); intro xU hg w8 qK hb; have zf := zx.mk (zI (zD HB.out) hb); have zh := zx.mk (qK); have zA := zx.mk ((by rw [hg]; exact (zV (zD HB.out)) : w.heap.size ≤ xU)); have zR := zx.mk ((by rw [hg]; exact (zV (zD HB.out)) : w.heap.size ≤ xU)); clear HB; have HB := zf; have jY := zh; have zdv := zA; have zZV := zR; clear zf zh zA zR; clear hb qK hg) | ((with_reducible refine yY (f := 10) rfl ?_); refine uN (some 12) Tryz.func10 #[] ?_; (with_reducible refine (vG.calls k  vv _ A4.out).mono ?_); rintro e w9 ⟨zmh, rfl, ho0, hb⟩; refine ⟨_, rfl, ?_⟩; have zf := zx.mk (Kd.oK (Kd.Xi (ok' := fun k_ => (w.heap.size ≤ k_) ∧ k_ ≠ xU) ho0 (fun k_ hk_ => ⟨(Nat.le_trans (zV (zD HB.out)) hk_), (Kd.kW (g := xU) (o := .cells #[.string (⟨#[]⟩ : BY), .bool false, .int .i64 0, .slice none 0 0, .slice none 0 0, .slice none 0 0] 26 (0, 0)) (yt jY.out) k_ hk_)⟩)) (zV (zD HB.out))); have zh := zx.mk (zl (g := xU) (o := .cells #[.string (⟨#[]⟩ : BY), .bool false, .int .i64 0, .slice none 0 0, .slice none 0 0, .slice none 0 0] 26 (0, 0)) (yt jY.out) hb); have zA := zx.mk (zI (zD HB.out) hb); clear jY; clear HB; have zxK := zf; have jY := zh; have HB := zA; clear zf zh zA; (try clear hb); (try clear hb2); (try clear hk); (try clear hi); (try clear ho0); obtain ⟨ay, aZ, zjx⟩ := Kd.oW zxK.out; subst zjx; have zZK : 0 ≤ ((vD) : Int) := of_decide_eq_true (by first | (with_reducible assumption) | assumption); have zZY : (vD) < (vv.length : Int) := of_decide_eq_true (by first | (with_reducible assumption) | assumption); obtain ⟨zlt, cZ, cK, nK, nY, lN, lS, zf7, zhs, zht, zhu, zYY, zYW, zYa, zyM, zyN, zyO, zyP, zyR, zyS⟩ := zxn (Kd.dZ zxK.out).2.2 (vD) zZK zZY; cases zf7; obtain ⟨zlu, zar, zas, lT⟩ := Kd.zJz zxK.out z26 (vD) zZK (by first | exact zZY | exact of_decide_eq_true (by first | (with_reducible assumption) | assumption) | (have e_ := (Kd.dZ zxK.out).1; omega)); obtain ⟨zhA, zhB, zhC, zhD, zhE, zhF, rfl, zqg, zqh, zqi, zql, zqm, zqn⟩ := zZD zas; have sj := lT 3 _ rfl; rw [vX _ _ 3 (by omega)] at sj; replace sj := Option.some.inj (sj.symm.trans zYY); injection sj with Qz K9 Qq; rw [Qz] at zqh; rw [Qq] at zqg; have zYb := zx.mk (show Kd.V uf 31 _ w.heap.size _ _ ((yQ vv (vD)).f3) from Kd.oh zqg zqh); clear Qz K9 Qq zqh zqg; have sw := lT 4 _ rfl; rw [vX _ _ 4 (by omega)] at sw; replace sw := Option.some.inj (sw.symm.trans zYW); injection sw with Qz K9 Qq; rw [Qz] at zql; rw [Qq] at zqi; have zYc := zx.mk (show Kd.V jd 86 _ w.heap.size _ _ ((yQ vv (vD)).f4) from Kd.oh zqi zql); clear Qz K9 Qq zql zqi; have sZ := lT 5 _ rfl; rw [vX _ _ 5 (by omega)] at sZ; replace sZ := Option.some.inj (sZ.symm.trans zYa); injection sZ with Qz K9 Qq; rw [Qz] at zqn; rw [Qq] at zqm; have zYd := zx.mk (show Kd.V jh 76 _ w.heap.size _ _ ((yQ vv (vD)).f5) from Kd.oh zqm zqn); clear Qz K9 Qq zqn zqm; clear lT zar; have zhG := zx.mk zyN; have zhH := zx.mk zyM; clear zyN zyM; have zhI := zx.mk zyP; have zhL := zx.mk zyO; clear zyP zyO; have zhM := zx.mk zyS; have zhN := zx.mk zyR; clear zyS zyR; replace zZK := eq_true zZK; replace zZY := eq_true zZY; have JL : w9.cell? ⟨xU, 0, none⟩ = some (.string (⟨#[]⟩ : BY)) := (zk jY.out 0).trans rfl; have JM : w9.cell? ⟨xU, 1, none⟩ = some (.bool false) := (zk jY.out 1).trans rfl; have JN : w9.cell? ⟨xU, 2, none⟩ = some (.int .i64 0) := (zk jY.out 2).trans rfl; have JO : w9.cell? ⟨xU, 3, none⟩ = some (.slice none 0 0) := (zk jY.out 3).trans rfl; have JR : w9.cell? ⟨xU, 4, none⟩ = some (.slice none 0 0) := (zk jY.out 4).trans rfl; have JU : w9.cell? ⟨xU, 5, none⟩ = some (.slice none 0 0) := (zk jY.out 5).trans rfl; have J2 := zw jY.out 0; have J3 := zw jY.out 1; have J4 := zw jY.out 2; have J5 := zw jY.out 3; have J6 := zw jY.out 4; have J7 := zw jY.out 5))
    refine bodyPost_ret (results_cell_row rfl _ _ xU 26 #[.string ((yQ vv (vD)).f0), .bool ((yQ vv (vD)).f1), .int .i64 ((yQ vv (vD)).f2), .slice cZ ((yQ vv (vD)).f3).length cK, .slice nK ((yQ vv (vD)).f4).length nY, .slice lN ((yQ vv (vD)).f5).length lS] (0, 0) _ rfl (by (with_reducible repeat (first | refine zJ ?_ _ | refine zX ?_ | refine zZ ?_ _)); refine yC (cs := #[.string ((yQ vv (vD)).f0), .bool ((yQ vv (vD)).f1), .int .i64 ((yQ vv (vD)).f2), .slice cZ ((yQ vv (vD)).f3).length cK, .slice nK ((yQ vv (vD)).f4).length nY, .slice none 0 0]) ?_ 5 _ rfl; (with_reducible repeat (first | refine zJ ?_ _ | refine zX ?_ | refine zZ ?_ _)); refine yC (cs := #[.string ((yQ vv (vD)).f0), .bool ((yQ vv (vD)).f1), .int .i64 ((yQ vv (vD)).f2), .slice cZ ((yQ vv (vD)).f3).length cK, .slice none 0 0, .slice none 0 0]) ?_ 4 _ rfl; (with_reducible repeat (first | refine zJ ?_ _ | refine zX ?_ | refine zZ ?_ _)); refine yC (cs := #[.string ((yQ vv (vD)).f0), .bool ((yQ vv (vD)).f1), .int .i64 ((yQ vv (vD)).f2), .slice none 0 0, .slice none 0 0, .slice none 0 0]) ?_ 3 _ rfl; (with_reducible repeat (first | refine zJ ?_ _ | refine zX ?_ | refine zZ ?_ _)); refine yC (cs := #[.string ((yQ vv (vD)).f0), .bool ((yQ vv (vD)).f1), .int .i64 0, .slice none 0 0, .slice none 0 0, .slice none 0 0]) ?_ 2 _ rfl; (with_reducible repeat (first | refine zJ ?_ _ | refine zX ?_ | refine zZ ?_ _)); refine yC (cs := #[.string ((yQ vv (vD)).f0), .bool false, .int .i64 0, .slice none 0 0, .slice none 0 0, .slice none 0 0]) ?_ 1 _ rfl; (with_reducible repeat (first | refine zJ ?_ _ | refine zX ?_ | refine zZ ?_ _)); refine yC (cs := #[.string (⟨#[]⟩ : BY), .bool false, .int .i64 0, .slice none 0 0, .slice none 0 0, .slice none 0 0]) ?_ 0 _ rfl; (with_reducible repeat (first | refine zJ ?_ _ | refine zX ?_ | refine zZ ?_ _)); exact jY.out) Tryz.underlying26 rfl (by kernel_rfl)) rfl ?_
    exact ⟨_, _, _, by first | rfl | (simp [zU, z8] <;> rfl) | (simp only [← Jl]; first | rfl | (simp [zU, z8] <;> rfl)) | (simp [*, zU, z8] <;> rfl), by (with_reducible repeat (first | apply Kd.QJ | apply Kd.QV | apply Kd.Vu)); exact Kd.Xl (Kd.YW (p := ⟨xU, 5, none⟩) (Kd.YW (p := ⟨xU, 4, none⟩) (Kd.YW (p := ⟨xU, 3, none⟩) (Kd.YW (p := ⟨xU, 2, none⟩) (Kd.YW (p := ⟨xU, 1, none⟩) (Kd.YW (p := ⟨xU, 0, none⟩) (Kd.Xl zYb.out (fun k_ hk => (⟨hk, hk.1.2⟩ : _ ∧ k_ ≠ xU))) (fun _ hk => hk.2) (.string ((yQ vv (vD)).f0))) (fun _ hk => hk.2) (.bool ((yQ vv (vD)).f1))) (fun _ hk => hk.2) (.int .i64 ((yQ vv (vD)).f2))) (fun _ hk => hk.2) (.slice cZ ((yQ vv (vD)).f3).length cK)) (fun _ hk => hk.2) (.slice nK ((yQ vv (vD)).f4).length nY)) (fun _ hk => hk.2) (.slice lN ((yQ vv (vD)).f5).length lS)) (fun _ hk => hk.1.1.1), by (with_reducible repeat (first | apply Kd.QJ | apply Kd.QV | apply Kd.Vu)); exact Kd.Xl (Kd.YW (p := ⟨xU, 5, none⟩) (Kd.YW (p := ⟨xU, 4, none⟩) (Kd.YW (p := ⟨xU, 3, none⟩) (Kd.YW (p := ⟨xU, 2, none⟩) (Kd.YW (p := ⟨xU, 1, none⟩) (Kd.YW (p := ⟨xU, 0, none⟩) (Kd.Xl zYc.out (fun k_ hk => (⟨hk, hk.1.2⟩ : _ ∧ k_ ≠ xU))) (fun _ hk => hk.2) (.string ((yQ vv (vD)).f0))) (fun _ hk => hk.2) (.bool ((yQ vv (vD)).f1))) (fun _ hk => hk.2) (.int .i64 ((yQ vv (vD)).f2))) (fun _ hk => hk.2) (.slice cZ ((yQ vv (vD)).f3).length cK)) (fun _ hk => hk.2) (.slice nK ((yQ vv (vD)).f4).length nY)) (fun _ hk => hk.2) (.slice lN ((yQ vv (vD)).f5).length lS)) (fun _ hk => hk.1.1.1), by (with_reducible repeat (first | apply Kd.QJ | apply Kd.QV | apply Kd.Vu)); exact Kd.Xl (Kd.YW (p := ⟨xU, 5, none⟩) (Kd.YW (p := ⟨xU, 4, none⟩) (Kd.YW (p := ⟨xU, 3, none⟩) (Kd.YW (p := ⟨xU, 2, none⟩) (Kd.YW (p := ⟨xU, 1, none⟩) (Kd.YW (p := ⟨xU, 0, none⟩) (Kd.Xl zYd.out (fun k_ hk => (⟨hk, hk.1.2⟩ : _ ∧ k_ ≠ xU))) (fun _ hk => hk.2) (.string ((yQ vv (vD)).f0))) (fun _ hk => hk.2) (.bool ((yQ vv (vD)).f1))) (fun _ hk => hk.2) (.int .i64 ((yQ vv (vD)).f2))) (fun _ hk => hk.2) (.slice cZ ((yQ vv (vD)).f3).length cK)) (fun _ hk => hk.2) (.slice nK ((yQ vv (vD)).f4).length nY)) (fun _ hk => hk.2) (.slice lN ((yQ vv (vD)).f5).length lS)) (fun _ hk => hk.1.1.1), by repeat (first | (with_reducible first | exact HB.out | apply yu | apply zP | apply yT | refine qB ?_ zZV.out) | exact HB.out)⟩
   ·rw [if_neg c7] at H
    exact absurd H (by simp)
  ·rw [if_neg c6] at H
   exact absurd H (by simp)
 ·rw [if_neg c3] at H
  have ZR : decide ((wrap64 (Int.tmod (IntKind.u64.wrap (a1)) 7)) < 5) = false := decide_eq_false c3
  clear c3
  replace H := Option.bind_eq_some_iff.mp H
  obtain ⟨⟨Wd, Pf, gJ, nW, aM, zqo⟩, zjf, H⟩ := H
  replace H : (some (Wd, Pf, gJ, nW, aM, zqo)) = some (r1, r2, r3, r4, r5, r6) := H
  have ny := zx.mk zjf
  clear zjf
  simp only [Option.some.injEq, Prod.mk.injEq] at H
  obtain ⟨rfl, rfl, rfl, rfl, rfl, rfl⟩ := H
  go_enter Tryz.func21, Tryz.ntmps21
  go_wp2_with (first | ((with_reducible refine qx (N := 4) rfl ?_); refine ql ?hg (N := 4) ?hd (cs := #[.string (⟨#[]⟩ : BY), .bool false, .int .i64 0, .slice none 0 0, .slice none 0 0, .slice none 0 0]) (t := 26) ?hr ?_; (case hd => rfl); (case hg => rfl); (case hr => first | (go_simp; done) | (go_simp; rfl)); intro xU hg w13 qK hb; have zf := zx.mk (zI (zD HB.out) hb); have zh := zx.mk (qK); have zA := zx.mk ((by rw [hg]; exact (zV (zD HB.out)) : w.heap.size ≤ xU)); have zR := zx.mk ((by rw [hg]; exact (zV (zD HB.out)) : w.heap.size ≤ xU)); clear HB; have HB := zf; have jY := zh; have zdv := zA; have zZV := zR; clear zf zh zA zR; clear hb qK hg) | ((with_reducible refine yY (f := 24) rfl ?_); refine uN (some 17) Tryz.func24 #[.slice A0 l0.length c0] ?_; (with_reducible refine (zK.calls k _ _ l0 Wd Pf gJ nW aM zqo _ ?y8 ?qy ny.out).mono ?_); (case y8 => repeat (first | exact (Kd.zY kG.out HB.out) | (with_reducible refine Kd.zS ?_ _) | (with_reducible refine Kd.zT ?_ _) | (with_reducible refine Kd.yc ?_))); (case qy => exact ZW.out); rintro e Ya ⟨zmi, zml, zmm, rfl, ho0, ho1, ho2, hb⟩; refine ⟨_, rfl, ?_⟩; have zf := zx.mk (Kd.xI (Kd.wM (M := fun k_ => (w.heap.size ≤ k_)) ho0 (zV (zD HB.out)) (fun k_ h_ => h_)) (zV (zD HB.out))); have zh := zx.mk (Kd.xI (Kd.wM (M := fun k_ => (w.heap.size ≤ k_)) ho1 (zV (zD HB.out)) (fun k_ h_ => h_)) (zV (zD HB.out))); have zA := zx.mk (Kd.xI (Kd.wM (M := fun k_ => (w.heap.size ≤ k_)) ho2 (zV (zD HB.out)) (fun k_ h_ => h_)) (zV (zD HB.out))); have zR := zx.mk (zl (g := xU) (o := .cells #[.string (⟨#[]⟩ : BY), .bool false, .int .i64 0, .slice none 0 0, .slice none 0 0, .slice none 0 0] 26 (0, 0)) (yt jY.out) hb); have qV := zx.mk (zI (zD HB.out) hb); clear jY; clear HB; have zJ4 := zf; have zJ5 := zh; have zJ6 := zA; have jY := zR; have HB := qV; clear zf zh zA zR qV; (try clear hb); (try clear hb2); (try clear hk); (try clear hi); (try clear ho0); (try clear ho1); (try clear ho2); have zyQ : Ya.cell? ⟨xU, 0, none⟩ = some (.string (⟨#[]⟩ : BY)) := (zk jY.out 0).trans rfl; have zyX : Ya.cell? ⟨xU, 1, none⟩ = some (.bool false) := (zk jY.out 1).trans rfl; have zyJ : Ya.cell? ⟨xU, 2, none⟩ = some (.int .i64 0) := (zk jY.out 2).trans rfl; have zyV : Ya.cell? ⟨xU, 3, none⟩ = some (.slice none 0 0) := (zk jY.out 3).trans rfl; have zyK : Ya.cell? ⟨xU, 4, none⟩ = some (.slice none 0 0) := (zk jY.out 4).trans rfl; have zyY : Ya.cell? ⟨xU, 5, none⟩ = some (.slice none 0 0) := (zk jY.out 5).trans rfl; have zyW := zw jY.out 0; have zya := zw jY.out 1; have zyb := zw jY.out 2; have zyc := zw jY.out 3; have zyd := zw jY.out 4; have zye := zw jY.out 5; obtain ⟨zqp, zqr, zf8⟩ := Kd.y9 zJ4.out; subst zf8; obtain ⟨zjA, zjB, zf9⟩ := Kd.y9 zJ5.out; subst zf9; obtain ⟨zZW, zZa, zgz⟩ := Kd.y9 zJ6.out; subst zgz))
  refine bodyPost_ret (results_cell_row rfl _ _ xU 26 #[.string Wd, .bool Pf, .int .i64 gJ, .slice zqp nW.length zqr, .slice zjA aM.length zjB, .slice zZW zqo.length zZa] (0, 0) _ rfl (by (with_reducible repeat (first | refine zJ ?_ _ | refine zX ?_ | refine zZ ?_ _)); refine yC (cs := #[.string Wd, .bool Pf, .int .i64 gJ, .slice zqp nW.length zqr, .slice zjA aM.length zjB, .slice none 0 0]) ?_ 5 _ rfl; (with_reducible repeat (first | refine zJ ?_ _ | refine zX ?_ | refine zZ ?_ _)); refine yC (cs := #[.string Wd, .bool Pf, .int .i64 gJ, .slice zqp nW.length zqr, .slice none 0 0, .slice none 0 0]) ?_ 4 _ rfl; (with_reducible repeat (first | refine zJ ?_ _ | refine zX ?_ | refine zZ ?_ _)); refine yC (cs := #[.string Wd, .bool Pf, .int .i64 gJ, .slice none 0 0, .slice none 0 0, .slice none 0 0]) ?_ 3 _ rfl; (with_reducible repeat (first | refine zJ ?_ _ | refine zX ?_ | refine zZ ?_ _)); refine yC (cs := #[.string Wd, .bool Pf, .int .i64 0, .slice none 0 0, .slice none 0 0, .slice none 0 0]) ?_ 2 _ rfl; (with_reducible repeat (first | refine zJ ?_ _ | refine zX ?_ | refine zZ ?_ _)); refine yC (cs := #[.string Wd, .bool false, .int .i64 0, .slice none 0 0, .slice none 0 0, .slice none 0 0]) ?_ 1 _ rfl; (with_reducible repeat (first | refine zJ ?_ _ | refine zX ?_ | refine zZ ?_ _)); refine yC (cs := #[.string (⟨#[]⟩ : BY), .bool false, .int .i64 0, .slice none 0 0, .slice none 0 0, .slice none 0 0]) ?_ 0 _ rfl; (with_reducible repeat (first | refine zJ ?_ _ | refine zX ?_ | refine zZ ?_ _)); exact jY.out) Tryz.underlying26 rfl (by kernel_rfl)) rfl ?_
  exact ⟨_, _, _, by first | rfl | (simp [zU, z8] <;> rfl) | (simp [*, zU, z8] <;> rfl), Kd.R_V (by (with_reducible repeat (first | apply Kd.q9 | apply Kd.qL | apply Kd.qw)); exact Kd.zL (Kd.yK (p := ⟨xU, 5, none⟩) (Kd.yK (p := ⟨xU, 4, none⟩) (Kd.yK (p := ⟨xU, 3, none⟩) (Kd.yK (p := ⟨xU, 2, none⟩) (Kd.yK (p := ⟨xU, 1, none⟩) (Kd.yK (p := ⟨xU, 0, none⟩) (Kd.zi zJ4.out jY.out (by decide)) (fun _ hk => hk.2) (.string Wd)) (fun _ hk => hk.2) (.bool Pf)) (fun _ hk => hk.2) (.int .i64 gJ)) (fun _ hk => hk.2) (.slice zqp nW.length zqr)) (fun _ hk => hk.2) (.slice zjA aM.length zjB)) (fun _ hk => hk.2) (.slice zZW zqo.length zZa)) (fun _ hk => hk.1.1)), Kd.R_V (by (with_reducible repeat (first | apply Kd.q9 | apply Kd.qL | apply Kd.qw)); exact Kd.zL (Kd.yK (p := ⟨xU, 5, none⟩) (Kd.yK (p := ⟨xU, 4, none⟩) (Kd.yK (p := ⟨xU, 3, none⟩) (Kd.yK (p := ⟨xU, 2, none⟩) (Kd.yK (p := ⟨xU, 1, none⟩) (Kd.yK (p := ⟨xU, 0, none⟩) (Kd.zi zJ5.out jY.out (by decide)) (fun _ hk => hk.2) (.string Wd)) (fun _ hk => hk.2) (.bool Pf)) (fun _ hk => hk.2) (.int .i64 gJ)) (fun _ hk => hk.2) (.slice zqp nW.length zqr)) (fun _ hk => hk.2) (.slice zjA aM.length zjB)) (fun _ hk => hk.2) (.slice zZW zqo.length zZa)) (fun _ hk => hk.1.1)), Kd.R_V (by (with_reducible repeat (first | apply Kd.q9 | apply Kd.qL | apply Kd.qw)); exact Kd.zL (Kd.yK (p := ⟨xU, 5, none⟩) (Kd.yK (p := ⟨xU, 4, none⟩) (Kd.yK (p := ⟨xU, 3, none⟩) (Kd.yK (p := ⟨xU, 2, none⟩) (Kd.yK (p := ⟨xU, 1, none⟩) (Kd.yK (p := ⟨xU, 0, none⟩) (Kd.zi zJ6.out jY.out (by decide)) (fun _ hk => hk.2) (.string Wd)) (fun _ hk => hk.2) (.bool Pf)) (fun _ hk => hk.2) (.int .i64 gJ)) (fun _ hk => hk.2) (.slice zqp nW.length zqr)) (fun _ hk => hk.2) (.slice zjA aM.length zjB)) (fun _ hk => hk.2) (.slice zZW zqo.length zZa)) (fun _ hk => hk.1.1)), by repeat (first | (with_reducible first | exact HB.out | apply yu | apply zP | apply yT | refine qB ?_ zZV.out) | exact HB.out)⟩
end Go.Proofs.YtaifemkokfoadaaGreatDoor.PX
namespace Go.Proofs.YtaifemkokfoadaaGreatDoor
open Go.RowKit Go.Proofs.zy.zu Go.Proofs.zy.yI Go.Proofs.zy.yD Go.Proofs.YtaifemkokfoadaaGreatDoor.PX
set_option maxRecDepth 100000 in
theorem zYe : (dn.all fun x => decide (x.f0.size ≤ 100) && (decide (0 < x.f3.length) && (decide (x.f3.length ≤ 1000) && (decide (x.f4.length ≤ 1000) && (decide (x.f5.length ≤ 1000) && x.f3.all fun y => decide (y.f0.size ≤ 100)))))) = true := by kernel_rfl
theorem zat (x : pq) (h : x ∈ dn) : OkF (x.f0, x.f1, x.f2, x.f3, x.f4, x.f5) := by
 have h1 := List.all_eq_true.1 zYe x h
 simp only [Bool.and_eq_true, decide_eq_true_eq] at h1
 exact ⟨h1.1, h1.2.1, h1.2.2.1, h1.2.2.2.1, h1.2.2.2.2.1, fun y hy => of_decide_eq_true (List.all_eq_true.1 h1.2.2.2.2.2 y hy)⟩
theorem zQr (l0 : List Int) (n : Int) : ∃ k a b c l3 l4 l5, pW.f k l0 n = some (a, b, c, l3, l4, l5) ∧ OkF (a, b, c, l3, l4, l5) := by
 obtain ⟨i, hi, e⟩ := rM n 7 (by decide) (by decide)
 by_cases h5 : (i : Int) < 5
 ·have hs := zat
  have h5' := zXr
  have hall := zKx
  generalize dn = L at hs h5' hall
  have hl : i < L.length := by omega
  have h2 : (i : Int) < (L.length : Int) := by omega
  have h3 : (0 : Int) ≤ (i : Int) := by omega
  have er : yQ L (i : Int) = L[i] := by simp [yQ, List.getD_eq_getElem?_getD, hl]
  refine ⟨1000, L[i].f0, L[i].f1, L[i].f2, L[i].f3, L[i].f4, L[i].f5, ?_, hs _ (List.getElem_mem hl)⟩
  rw [pW.f, e, if_pos h5, hall]
  simp only [Option.bind_some]
  rw [if_pos h3, if_pos h2, er]
 ·obtain ⟨k, ⟨a, b, c, l3, l4, l5⟩, hk, ok⟩ := zZJ l0
  refine ⟨k, a, b, c, l3, l4, l5, ?_, ok⟩
  rw [pW.f, e, if_neg h5, hk]
  rfl
def asks.T5 : Bool × List (List Nat × List Nat) := (true, [([], []), ([], []), ([1], [1]), ([], []), ([3], [3]), ([], []), ([5], [5]), ([6], [6]), ([7], [7]), ([4, 8], [4, 8]), ([9], [9]), ([2, 10], [2, 10]), ([11], [11]), ([12], [12]), ([], []), ([14], [14]), ([], []), ([16], [16]), ([], []), ([18], [18]), ([19], [19]), ([20], [20]), ([17, 21], [17, 21]), ([22], [22]), ([15, 23], [15, 23]), ([24], [24]), ([25], [25]), ([], []), ([], []), ([0, 13, 26, 27, 28], [0, 13, 26, 27, 28]), ([29, 29], [29]), ([30, 30], [30]), ([30, 31], [30, 31]), ([32, 31, 0, 1, 2, 3, 4, 5, 6, 7, 8, 9, 10, 11, 12, 13, 14, 15, 16, 17, 18, 19, 20, 21, 22, 23, 24, 25, 26, 27, 28, 29, 30, 31, 32], [32])])
def asks.B5 : List Nat := [0, 0, 2, 0, 8, 0, 32, 96, 224, 504, 1016, 2046, 4094, 8190, 0, 16384, 0, 65536, 0, 262144, 786432, 1835008, 4128768, 8323072, 16760832, 33538048, 67092480, 0, 0, 536870911, 1073741823, 2147483647, 4294967295, 8589934591]
theorem asks.dX : u6 .any (opsOf Tryz.f7 5) = asks.T5 := by kernel_rfl
theorem asks.dJ : jM asks.T5.2 asks.B5 = true := by kernel_rfl
set_option maxRecDepth 100000 in
set_option maxHeartbeats 8000000 in
theorem zZb (A0 : Option Addr) (c0 : Nat) (l0 : List Int) (n a b size : Int) (w : World) (hG : GW w) (h0 : Kd.C (Kd.int .i64) w A0 l0.length l0) (g0 : l0.length ≤ c0) :
  Calls Tryz.prog 7 #[.agg #[.slice A0 l0.length c0, .int .i64 n, .int .i64 a, .int .i64 b, .int .i64 size]] w fun e w' => e = .returned (.bool true) ∧ Below w.heap.size w w' := by
 have HG := zx.mk hG
 obtain ⟨k, na, nb, nc, l3, l4, l5, hk, ok⟩ := zQr l0 n
 have hpick := zx.mk (fun (W : World) (hb : Below w.heap.size w W) => pW.calls k A0 c0 l0 n na nb nc l3 l4 l5 W (Kd.zY h0 hb) g0 hk)
 have OK := zx.mk ok
 clear hG h0 g0 hk ok
 have hb0 : Below w.heap.size w (w.alloc (.cells #[.slice A0 l0.length c0, .int .i64 n, .int .i64 a, .int .i64 b, .int .i64 size] 55)) := (Below.refl _ w).alloc (Nat.le_refl _) _
 go_enter Tryz.func7, Tryz.ntmps7
 go_wp2_with fail
 have hbk := je w (.cells #[.slice A0 l0.length c0, .int .i64 n, .int .i64 a, .int .i64 b, .int .i64 size] 55)
 generalize hg : w.heap.size = g at hbk hb0 ⊢
 generalize w.alloc (.cells #[.slice A0 l0.length c0, .int .i64 n, .int .i64 a, .int .i64 b, .int .i64 size] 55) = w1 at hbk hb0 ⊢
 have q0 : w1.cell? ⟨g, 0, none⟩ = some (.slice A0 l0.length c0) := (zk hbk 0).trans rfl
 have q1 : w1.cell? ⟨g, 1, none⟩ = some (.int .i64 n) := (zk hbk 1).trans rfl
 have q2 : w1.cell? ⟨g, 2, none⟩ = some (.int .i64 a) := (zk hbk 2).trans rfl
 have q3 : w1.cell? ⟨g, 3, none⟩ = some (.int .i64 b) := (zk hbk 3).trans rfl
 have q4 : w1.cell? ⟨g, 4, none⟩ = some (.int .i64 size) := (zk hbk 4).trans rfl
 have HS := zx.mk (fun (W : World) (h : Below w1.heap.size w1 W) => (show W.cell? ⟨g, 0, none⟩ = some (.slice A0 l0.length c0) ∧ W.cell? ⟨g, 1, none⟩ = some (.int .i64 n) ∧ W.cell? ⟨g, 2, none⟩ = some (.int .i64 a) ∧ W.cell? ⟨g, 3, none⟩ = some (.int .i64 b) ∧ W.cell? ⟨g, 4, none⟩ = some (.int .i64 size) from ⟨(h.cell (World.block_lt_of_cell? w1 _ q0)).trans q0, (h.cell (World.block_lt_of_cell? w1 _ q1)).trans q1, (h.cell (World.block_lt_of_cell? w1 _ q2)).trans q2, (h.cell (World.block_lt_of_cell? w1 _ q3)).trans q3, (h.cell (World.block_lt_of_cell? w1 _ q4)).trans q4⟩))
 go_region_held3 (fun W => W.cell? ⟨g, 0, none⟩ = some (.slice A0 l0.length c0) ∧ W.cell? ⟨g, 1, none⟩ = some (.int .i64 n) ∧ W.cell? ⟨g, 2, none⟩ = some (.int .i64 a) ∧ W.cell? ⟨g, 3, none⟩ = some (.int .i64 b) ∧ W.cell? ⟨g, 4, none⟩ = some (.int .i64 size)) (first | go_keep | exact HS.out _ (Below.refl _ _).drew | exact HS.out _ (((Below.refl _ _).drew).alloc (Nat.le_refl _) _)) (fail)
 have hb2 : Below w.heap.size w w1.drew := by rw [hg]; exact hb0.drew
 subst hg
 clear HS q0 q1 q2 q3 q4 hbk hb0
 generalize w1.drew = w2 at hb2 ⊢
 have hp := hpick.out w2 hb2
 clear hpick
 go_wp2_with fail
 refine hp.mono ?_; rintro e w3 ⟨v3, v4, v5, rfl, o3, o4, o5, hb3⟩
 obtain ⟨A3, c3, rfl⟩ := Kd.om o3
 obtain ⟨A4, c4, rfl⟩ := Kd.om o4
 obtain ⟨A5, c5, rfl⟩ := Kd.om o5
 obtain ⟨_, g3, R3⟩ := Kd.sS o3
 obtain ⟨_, g4, R4⟩ := Kd.sS o4
 obtain ⟨_, g5, R5⟩ := Kd.sS o5
 clear o3 o4 o5 hp
 obtain ⟨k1, k2, k3, k4, k5, k6⟩ := OK.out
 replace k2 : 0 < l3.length := k2
 replace k3 : l3.length ≤ 1000 := k3
 replace k4 : l4.length ≤ 1000 := k4
 replace k5 : l5.length ≤ 1000 := k5
 have z1 : na.size ≤ 140737488355328 := Nat.le_trans k1 (by omega)
 have z2 : ∀ x ∈ l3, x.f0.size ≤ 140737488355328 := fun x hx => Nat.le_trans (k6 x hx) (by omega)
 have Z2 := zx.mk z2
 clear k1 k6 z2 OK
 have d0 : ((l3.length : Int) == 0) = false := beq_eq_false_iff_ne.2 (by omega)
 have d1 : decide ((l3.length : Int) = 0) = false := decide_eq_false (by omega)
 go_wp2_with fail
 have hbw : Below w.heap.size w w3 := hb2.trans (hb3.mono hb2.size)
 have hb4 : Below w.heap.size w (w3.alloc (.cells #[.string na, .bool nb, .int .i64 nc, .slice A3 l3.length c3, .slice A4 l4.length c4, .slice A5 l5.length c5] 26)) := hbw.alloc hbw.size _
 have hbk := je w3 (.cells #[.string na, .bool nb, .int .i64 nc, .slice A3 l3.length c3, .slice A4 l4.length c4, .slice A5 l5.length c5] 26)
 have hb1 : Below w3.heap.size w3 (w3.alloc (.cells #[.string na, .bool nb, .int .i64 nc, .slice A3 l3.length c3, .slice A4 l4.length c4, .slice A5 l5.length c5] 26)) := (Below.refl _ w3).alloc (Nat.le_refl _) _
 replace R3 := Kd.zY R3 hb1
 replace R4 := Kd.zY R4 hb1
 replace R5 := Kd.zY R5 hb1
 clear hb1 hbw hb3 hb2
 generalize w3.heap.size = g2 at hbk ⊢
 generalize w3.alloc (.cells #[.string na, .bool nb, .int .i64 nc, .slice A3 l3.length c3, .slice A4 l4.length c4, .slice A5 l5.length c5] 26) = w4 at hb4 hbk R3 R4 R5 ⊢
 obtain ⟨i, hi, hI⟩ := rM a (l3.length : Int) (by omega) (by omega)
 obtain ⟨j, hj, hJ⟩ := rM b (l3.length : Int) (by omega) (by omega)
 have hu : IntKind.u64.wrap (l3.length : Int) = (l3.length : Int) := by
  show (l3.length : Int) % 18446744073709551616 = _
  exact Int.emod_eq_of_lt (by omega) (by omega)
 obtain ⟨ad, e, y0, y1⟩ := VB R3 (i : Int) (by omega) (by omega)
 obtain ⟨fF, e2, x0, x1⟩ := VB R3 (j : Int) (by omega) (by omega)
 cases e
 cases e2
 rw [Int.toNat_natCast] at y0 y1 x0 x1
 generalize (xL l3 (i : Int)).f0 = s1 at y0
 generalize (xL l3 (j : Int)).f0 = s2 at x0
 clear x1 y1
 have HSM := zx.mk (fun (W : World) (h : Below w4.heap.size w4 W) => zQp na nb nc (some ad) c3 l3 A4 c4 l4 A5 c5 l5 s1 s2 size b W (HG.out.under (hb4.trans (h.mono hb4.size))) (Kd.zY R3 h) g3 (Kd.zY R4 h) g4 (Kd.zY R5 h) g5 (by omega) (by omega) (by omega) z1 Z2.out)
 have HSN := zx.mk (fun (W : World) (h : Below w4.heap.size w4 W) => YG.calls true W (HG.out.under (hb4.trans (h.mono hb4.size))) zKr)
 have u0 : w4.cell? ⟨g2, 0, none⟩ = some (.string na) := (zk hbk 0).trans rfl
 have u1 : w4.cell? ⟨g2, 1, none⟩ = some (.bool nb) := (zk hbk 1).trans rfl
 have u2 : w4.cell? ⟨g2, 2, none⟩ = some (.int .i64 nc) := (zk hbk 2).trans rfl
 have u3 : w4.cell? ⟨g2, 3, none⟩ = some (.slice (some ad) l3.length c3) := (zk hbk 3).trans rfl
 have u4 : w4.cell? ⟨g2, 4, none⟩ = some (.slice A4 l4.length c4) := (zk hbk 4).trans rfl
 have u5 : w4.cell? ⟨g2, 5, none⟩ = some (.slice A5 l5.length c5) := (zk hbk 5).trans rfl
 have HS2 := zx.mk (fun (W : World) (h : Below w4.heap.size w4 W) => (show W.cell? ⟨g2, 0, none⟩ = some (.string na) ∧ W.cell? ⟨g2, 1, none⟩ = some (.bool nb) ∧ W.cell? ⟨g2, 2, none⟩ = some (.int .i64 nc) ∧ W.cell? ⟨g2, 3, none⟩ = some (.slice (some ad) l3.length c3) ∧ W.cell? ⟨g2, 4, none⟩ = some (.slice A4 l4.length c4) ∧ W.cell? ⟨g2, 5, none⟩ = some (.slice A5 l5.length c5) ∧ W.cell? (ad.add (i * 2)) = some (.string s1) ∧ W.cell? (ad.add (j * 2)) = some (.string s2) from ⟨(h.cell (World.block_lt_of_cell? w4 _ u0)).trans u0, (h.cell (World.block_lt_of_cell? w4 _ u1)).trans u1, (h.cell (World.block_lt_of_cell? w4 _ u2)).trans u2, (h.cell (World.block_lt_of_cell? w4 _ u3)).trans u3, (h.cell (World.block_lt_of_cell? w4 _ u4)).trans u4, (h.cell (World.block_lt_of_cell? w4 _ u5)).trans u5, (h.cell (World.block_lt_of_cell? w4 _ y0)).trans y0, (h.cell (World.block_lt_of_cell? w4 _ x0)).trans x0⟩))
 have i1 : (0 : Int) ≤ (i : Int) := by omega
 have i2 : ((i : Int)).toNat = i := Int.toNat_natCast i
 have j1 : (0 : Int) ≤ (j : Int) := by omega
 have j2 : ((j : Int)).toNat = j := Int.toNat_natCast j
 have lz : ¬ (l3.length : Int) = 0 := by omega
 have lz2 : (l3 = []) = False := eq_false (fun e => by rw [e] at lz; exact lz rfl)
 clear u0 u1 u2 u3 u4 u5 y0 x0 R3 R4 R5 hbk g3 g4 g5 z1 Z2 k2 k3 k4 k5
 refine rS (n := 34) HS2 asks.dX asks.dJ (by kernel_rfl) rfl rfl (fun w5 H0 T U h => ?_)
 refine rT 0 (some 26) T U h ?_; refine rP 1 (some 27) T ?_; refine rT 2 (some 28) T U h ?_; refine rP 3 (some 29) T ?_; refine rP 4 (some 30) T ?_; refine rP 5 (some 31) T ?_
 refine rT 6 (some 32) T U h ?_; refine rP 7 (some 33) T ?_; refine rP 8 (some 34) T ?_; refine rP 9 (some 35) T ?_; refine rP 10 (some 36) T ?_; refine rP 11 (some 37) T ?_
 refine rP 12 (some 38) T ?_; refine rT 13 (some 39) T U h ?_; refine rP 14 (some 40) T ?_; refine rT 15 (some 41) T U h ?_; refine rP 16 (some 42) T ?_; refine rP 17 (some 43) T ?_
 refine rP 18 (some 44) T ?_; refine rT 19 (some 45) T U h ?_; refine rP 20 (some 46) T ?_; refine rP 21 (some 47) T ?_; refine rP 22 (some 48) T ?_; refine rP 23 (some 49) T ?_
 refine rP 24 (some 50) T ?_; refine rP 25 (some 51) T ?_; refine rT 26 (some 52) T U h ?_; refine rP 27 (some 53) T ?_; refine rP 28 (some 54) T ?_
 clear h; refine rC 29 (some 55) T HS2 H0 Tryz.func20 (HSM.out _ H0.out) (fun w6 H1 h => ?_) (by kernel_rfl)
 refine rP 30 (some 56) T ?_
 clear h; refine rC 31 (some 57) T HS2 H1 Tryz.func12 (HSN.out _ H1.out) (fun w7 H2 h => ?_) (by kernel_rfl)
 refine rP 32 (some 58) T ?_; refine rP 33 (some 2) T ?_
 refine uO (vW T.out (by kernel_rfl)) ?_
 have kg := hb4.trans (H2.out.mono hb4.size)
 clear h; try go_wp2
 go_ret
 exact ⟨rfl, kg⟩
end Go.Proofs.YtaifemkokfoadaaGreatDoor
namespace Go.Proofs.YtaifemkokfoadaaGreatDoor
open Go.ChangeShapes Go.WideShapes Go.RowKit Go.Deep Go.Proofs.zy.zu
section
variable {H : Type} {enc : TypeId × Value → H} {P : Program} {w : World} {sp : Nat → Bool} {held : Bool} {α : Type}
end
end Go.Proofs.YtaifemkokfoadaaGreatDoor
namespace Go.Proofs.YtaifemkokfoadaaGreatDoor
open Go.ChangeShapes Go.WideShapes Go.RowKit Go.Deep Go.Proofs.zy.zu Go.Proofs.YtaifemkokfoadaaGreatDoor.PX
section
variable {H : Type} {enc : TypeId × Value → H} {w : World} {sp : Nat → Bool} {held : Bool}
theorem zX5 {α : Type} [Inhabited α] (d : Kd α) {P : Program} {t e : TypeId} {fuel : Nat} {cs : List Value} {x : DataW H × List MemPlace} (ht : P.underlying t = some (.slice e)) (hc : P.cellsOf e = d.sz)
  (dec : ∀ n cs x, DataW.trod enc P w 0 sp held n e cs = some x → ∃ y : α, d.K w y cs) (h : DataW.trod enc P w 0 sp held fuel t cs = some x) :
  ∃ A c l, cs = [.slice A l.length c] ∧ l.length ≤ c ∧ Kd.C d w A l.length l ∧ (l.length = 0 ∨ ∃ elems spare, x.1 = .slice elems spare ∧ elems.length = l.length) := by
 rcases open_slice ht h with ⟨hcs, _⟩ | ⟨a, len, cap, m, n, D, Pl, hcs, _, hl, hm, hmm, hx, hel⟩
 ·exact ⟨none, 0, [], hcs, Nat.le_refl _, ⟨rfl, by simp, fun h => by simp at h⟩, .inl rfl⟩
 ·have hlm : len ≤ m := by rw [hmm]; split <;> omega
  obtain ⟨F, hF⟩ := choose_lt (α := α) (p := fun i y => ∃ cs', w.cells? 0 (a.add (i * d.sz)) d.sz = some cs' ∧ d.K w y cs') (n := m) (fun i hi => by
   obtain ⟨cs', h1, h2⟩ := hel i hi
   rw [hc] at h1
   obtain ⟨y, hy⟩ := dec _ _ _ h2
   exact ⟨y, cs', h1, hy⟩)
  refine ⟨some a, cap, (List.range len).map F, by simp [hcs], by simpa using hl, ⟨rfl, ?_, fun _ => ⟨a, rfl, fun j p hj => ?_⟩⟩, .inr ⟨_, _, by rw [hx], by simp⟩⟩
  ·have : maxLen = 9223372036854775807 := rfl
   simp; omega
  ·have hj2 : j < len := by
    rcases Nat.lt_or_ge j len with h1 | h1
    ·exact h1
    ·rw [List.getElem?_eq_none (by simpa using h1)] at hj; cases hj
   rw [List.getElem?_map, List.getElem?_range hj2] at hj
   cases hj
   obtain ⟨cs', h1, h2⟩ := hF j (by omega)
   obtain ⟨_, h3, h4⟩ := World.cells?_some h1
   refine ⟨cs', h3, h2, fun i u hu => ?_⟩
   have hi : i < d.sz := by
    rw [← h3]
    rcases Nat.lt_or_ge i cs'.length with h1 | h1
    ·exact h1
    ·rw [List.getElem?_eq_none h1] at hu; cases hu
   have := h4 i hi
   rw [Go.Deep.add_add] at this
   rw [this, hu]
end
end Go.Proofs.YtaifemkokfoadaaGreatDoor
namespace Go.Proofs.YtaifemkokfoadaaGreatDoor
open Go.ChangeShapes Go.WideShapes Go.RowKit Go.Deep Go.Proofs.zy.zu Go.Proofs.YtaifemkokfoadaaGreatDoor.PX
section
variable {H : Type} {enc : TypeId × Value → H} {w : World} {sp : Nat → Bool} {held : Bool}
theorem zgq (n : Nat) (cs : List Value) (x : DataW H × List MemPlace) (h : DataW.trod enc Tryz.prog w 0 sp held n 3 cs = some x) : ∃ y : Int, (Kd.int .i64).K w y cs := by
 obtain ⟨n0, e0, _⟩ := DataW.trod_int Tryz.underlying3 h
 exact ⟨n0, e0⟩
set_option maxRecDepth 100000 in
theorem zQs {r : Reach} {b0 : Nat} {v : Value} {d0 : DataW H} {ps : List MemPlace}
  (hval : Value.okWide Tryz.prog w r b0 55 v) (h : DataW.Trod enc Tryz.prog w 0 sp held 55 v d0 ps) :
  ∃ A c l n a b size, v = .agg #[.slice A l.length c, .int .i64 n, .int .i64 a, .int .i64 b, .int .i64 size] ∧ Kd.C (Kd.int .i64) w A l.length l ∧ l.length ≤ c := by
 obtain ⟨cs, rfl, hsz⟩ := okWide_struct Tryz.underlying55 hval
 obtain ⟨fuel, hf0⟩ := h
 obtain ⟨xs, k, hk, hxy, hcl, hxl, hf⟩ := DataW.trod_struct Tryz.underlying55 hf0
 have c50 : Tryz.prog.cellsOf 55 = 5 := by kernel_rfl
 have c3 : Tryz.prog.cellsOf 3 = 1 := by kernel_rfl
 have cG : Tryz.prog.cellsOf 53 = 1 := by kernel_rfl
 have hcs : (Value.agg cs).cells.toList = cs.toList := by simp [Value.cells]
 rw [hcs] at hf hcl
 rw [c50] at hcl
 have hcc : cs = ⟨cs.toList⟩ := rfl
 generalize cs.toList = L at hf hcl hcc
 subst hcc
 match xs, hxl, L, hcl with
 | [z0, z1, z2, z3, z4], _, [v0, v1, v2, v3, v4], _ =>
  have f0 := hf 0 _ rfl
  have f1 := hf 1 _ rfl
  have f2 := hf 2 _ rfl
  have f3 := hf 3 _ rfl
  have f4 := hf 4 _ rfl
  simp [c3, cG] at f0 f1 f2 f3 f4
  obtain ⟨n1, e1, _⟩ := DataW.trod_int Tryz.underlying3 f1
  obtain ⟨n2, e2, _⟩ := DataW.trod_int Tryz.underlying3 f2
  obtain ⟨n3, e3, _⟩ := DataW.trod_int Tryz.underlying3 f3
  obtain ⟨n4, e4, _⟩ := DataW.trod_int Tryz.underlying3 f4
  obtain ⟨A, c, l, e0, q0, r0, _⟩ := zX5 (Kd.int .i64) Tryz.underlying53 (by kernel_rfl) zgq f0
  cases e0; cases e1; cases e2; cases e3; cases e4
  exact ⟨A, c, l, n1, n2, n3, n4, rfl, r0, q0⟩
end
end Go.Proofs.YtaifemkokfoadaaGreatDoor
namespace Go.Proofs.YtaifemkokfoadaaGreatDoor
open Go.RowKit Go.ChangeShapes Go.WideShapes Go.Proofs.zy.zu
theorem gH {P : Program} {w : World} {l : List (String × DataW Unit)} {n nm : String} {d : DataW Unit} {g : Nat} {t : TypeId} {ms : Array (String × TypeId)} (h : laidMet P l w) (hm : (n, .iface nm d) ∈ l)
  (hg : P.globalNamed n = some g) (ht : (P.globals[g]?).map (·.type) = some t) (hu : P.underlying t = some (.interface ms)) : ∃ tp p, w.var? P n = some #[.iface tp p] := by
 obtain ⟨g', t', cs, fuel, p, e1, e2, e3, e4⟩ := Lib.laidMet.reads h hm
 obtain rfl : g' = g := Option.some.inj (e1.symm.trans hg)
 obtain rfl : t' = t := Option.some.inj (e2.symm.trans ht)
 cases fuel with
 | zero => simp [DataW.trod] at e4
 | succ k =>
  unfold DataW.trod at e4
  rw [hu] at e4
  obtain ⟨cl⟩ := cs
  rw [e3]
  match cl, e4 with
  | [], e4 => simp at e4
  | [v], e4 =>
   cases v <;> simp at e4
   exact ⟨_, _, rfl⟩
  | _ :: _ :: _, e4 => simp at e4
theorem zdk {W : World} {l : List (String × DataW Unit)} {ds : DataW Unit} {dr : DataW Unit} {n1 n2 : String} (h : laidMet Tryz.prog l W) (hsh : W.ShapedOpen Tryz.prog) (h1 : ("internal/strconv.uint64pow10", Lib.tabData .u64 Lib.pow10Tab) ∈ l) (h2 : ("strconv.ErrSyntax", .iface n1 ds) ∈ l) (h3 : ("strconv.ErrRange", .iface n2 dr) ∈ l) (h4 : ("strings.asciiSpace", Lib.tabData .u8 Lib.asciiSpaceTab) ∈ l) : GW W := by
 have htab : Lib.TabIs Tryz.prog W "internal/strconv.uint64pow10" .u64 Lib.pow10Tab := gY (g := 7) (t := 244) (e := 186) (n := 20) (by kernel_rfl) (by kernel_rfl) Tryz.underlying244 Tryz.underlying186 (by kernel_rfl) (by kernel_rfl) h h1
 have zgx : Lib.TabIs Tryz.prog W "strings.asciiSpace" .u8 Lib.asciiSpaceTab := gY (g := 0) (t := 140) (e := 5) (n := 256) (by kernel_rfl) (by kernel_rfl) Tryz.underlying140 Tryz.underlying5 (by kernel_rfl) (by kernel_rfl) h h4
 refine ⟨htab, gH (g := 3) h h2 (by kernel_rfl) (t := 131) (by kernel_rfl) Tryz.underlying131, gH (g := 4) h h3 (by kernel_rfl) (t := 131) (by kernel_rfl) Tryz.underlying131, zgx,
  cell_of_shapedOpen_int (t := 3) (zero := #[.int .i64 0]) hsh (of_decide_eq_true (by kernel_rfl)) (by kernel_rfl) rfl (by kernel_rfl) (by kernel_rfl) Tryz.underlying3, ?_⟩
 obtain ⟨o, _, h4, _⟩ := hsh.2 11 (of_decide_eq_true (by kernel_rfl)) (of_decide_eq_true (by kernel_rfl))
 rcases Nat.lt_or_ge 11 W.heap.size with h5 | h5
 ·omega
 ·rw [Array.getElem?_eq_none h5] at h4; cases h4
end Go.Proofs.YtaifemkokfoadaaGreatDoor
