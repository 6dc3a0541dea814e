/-
  Texts that lean on one another, laid in one file. No condition.
-/
import Derived.Test.YtaifemkokfoadaaGreatDoorGSB1
import Derived.Test.YtaifemkokfoadaaGreatDoorGSB3
import Derived.Test.YtaifemkokfoadaaGreatDoorGSB2
import Derived.Deep.QuietTactic
import Derived.BigQuiet
import Derived.Deep.RegionHeld3
import Derived.RangeFuncRecord
import Derived.Laws.IdiomStrings
import Derived.Lib.Split
import Derived.Lib.Strings
import Derived.Lib.IndexLaws
import Derived.Lib.Hide
import Derived.Lib.SplitLaws
import Derived.Lib.ItoaNum
import Derived.KernelRfl
import Derived.Outline
import Derived.WalkSpells
import Derived.WalkLawsBesides
namespace Go.Proofs.YtaifemkokfoadaaGreatDoor.PX
open Go.RowKit Go.Proofs.zx.zK Go.Proofs.zx.zU Go.Proofs.zx.zN
attribute [local go_sem] qF qG xC xD qY qW qH qI   -- for this text's walks alone
set_option linter.unusedVariables false
set_option linter.unusedSimpArgs false
def vX.l0 : Nat → ByteArray → Int → ByteArray → Bool → Int → List (qJ) → List (xK) → List (xY) → Option (Bool)
 | 0, _, _, _, _, _, _, _, _ => none
 | k + 1, x1, x5, zQa, zQb, zQc, aJ, zQd, zQe => if x5 < (aJ.length : Int) then (if 0 ≤ x5 then (if ((zS aJ x5).f0).toList = x1.toList then (some true) else (vX.l0 k x1 (wrap64 (x5 + 1)) zQa zQb zQc aJ zQd zQe)) else (none)) else (some false)
def vX.f (k : Nat) (yU : ByteArray) (yS : Bool) (y7 : Int) (yw : List (qJ)) (yA : List (xK)) (yu : List (xY)) (a1 : ByteArray) : Option (Bool) := vX.l0 k a1 0 yU yS y7 yw yA yu
set_option maxHeartbeats 8000000 in
set_option maxRecDepth 100000 in
theorem vX.calls (k : Nat) (yU : ByteArray) (yS : Bool) (y7 : Int) (qU : Option Addr) (q9 : Nat) (yw : List (qJ)) (xZ : Option Addr) (xQ : Nat) (yA : List (xK)) (xX : Option Addr) (xJ : Nat) (yu : List (xY)) (a1 : ByteArray) (r : Bool) (w : World) (wU : Kd.C jC w qU yw.length yw) (ZI : yw.length ≤ q9) (ZL : Kd.C kR w xZ yA.length yA) (ZM : yA.length ≤ xQ) (ZN : Kd.C kE w xX yu.length yu) (ZO : yu.length ≤ xJ) (h : vX.f k yU yS y7 yw yA yu a1 = some r) :
  Calls Tryz.prog 63 #[.agg #[.string yU, .bool yS, .int .i64 y7, .slice qU yw.length q9, .slice xZ yA.length xQ, .slice xX yu.length xJ], .string a1] w fun e w' => e = .returned (.bool r) ∧ Below w.heap.size w w' := by
 have zXJ := Tryz.underlying44
 have ZQ := zy.mk wU
 have Yb := zy.mk ZI
 clear wU ZI
 have YB := zy.mk ZL
 have YC := zy.mk ZM
 clear ZL ZM
 have Xx := zy.mk ZN
 have Xj := zy.mk ZO
 clear ZN ZO
 have HB := zy.mk (Below.refl w.heap.size w)
 have H : (vX.l0 k a1 0 yU yS y7 yw yA yu) = some r := h
 clear h
 have H' := zy.mk H
 clear H
 go_enter Tryz.func63, Tryz.ntmps63
 go_wp2_with (first | ((with_reducible refine xI (N := 2) rfl ?_); refine xR ?hg (N := 2) ?hd (cs := #[.string yU, .bool yS, .int .i64 y7, .slice qU yw.length q9, .slice xZ yA.length xQ, .slice xX yu.length xJ]) (t := 44) ?hr ?_; (case hd => rfl); (case hg => rfl); (case hr => first | (go_simp; done) | (go_simp; rfl)); intro wW hg w3 xS hb; have zn := zy.mk (yY (yX HB.out) hb); have zA := zy.mk (xS); have zH := zy.mk ((by rw [hg]; exact (zO (yX HB.out)) : w.heap.size ≤ wW)); have zP := zy.mk ((by rw [hg]; exact (zO (yX HB.out)) : w.heap.size ≤ wW)); clear HB; have HB := zn; have uY := zA; have zhH := zH; have zwy := zP; clear zn zA zH zP; clear hb xS hg))
 go_loopg [5] k (fun kq v5 w' => ∃ (kK : Int), v5 = .int .i64 kK ∧ zy (vX.l0 kq a1 kK yU yS y7 yw yA yu = some r) ∧ zy (kq ≤ k) ∧ zy (w'.heap[wW]? = some (.cells #[.string yU, .bool yS, .int .i64 y7, (.slice qU yw.length q9), (.slice xZ yA.length xQ), (.slice xX yu.length xJ)] 44 (0, 0))) ∧ zy (Below w.heap.size w w'))
 case atStart => exact ⟨(0), (by first | rfl | (simp; done) | (simp [*]; done)), H', ⟨Nat.le_refl _⟩, ⟨qX uY.out⟩, ⟨yX HB.out⟩⟩
 case round =>
  clear H'
  try clear p2
  obtain ⟨kK, rfl, HA, vT, uY, HB⟩ := hrel
  cases gk with
  | zero => exact absurd HA.out (by simp [vX.l0])
  | succ k1 =>
   have H := HA.out
   clear HA
   simp only [vX.l0] at H
   by_cases c4 : kK < (yw.length : Int)
   ·rw [if_pos c4] at H
    have ZC : decide (kK < (yw.length : Int)) = true := decide_eq_true c4
    clear c4
    by_cases c5 : 0 ≤ kK
    ·rw [if_pos c5] at H
     have Ya : decide (0 ≤ kK) = true := decide_eq_true c5
     clear c5
     by_cases c6 : ((zS yw kK).f0).toList = a1.toList
     ·rw [if_pos c6] at H
      have Xf : (((zS yw kK).f0).toList == a1.toList) = true := beq_iff_eq.mpr c6
      have dL : (((zS yw kK).f0).toList != a1.toList) = false := bne_eq_false_iff_eq.mpr c6
      clear c6
      obtain rfl := Option.some.inj H
      have zJJ : wr.cell? ⟨wW, 0, none⟩ = some (.string yU) := (zk uY.out 0).trans rfl
      have zJV : wr.cell? ⟨wW, 1, none⟩ = some (.bool yS) := (zk uY.out 1).trans rfl
      have zJK : wr.cell? ⟨wW, 2, none⟩ = some (.int .i64 y7) := (zk uY.out 2).trans rfl
      have zJY : wr.cell? ⟨wW, 3, none⟩ = some (.slice qU yw.length q9) := (zk uY.out 3).trans rfl
      have zJW : wr.cell? ⟨wW, 4, none⟩ = some (.slice xZ yA.length xQ) := (zk uY.out 4).trans rfl
      have zJa : wr.cell? ⟨wW, 5, none⟩ = some (.slice xX yu.length xJ) := (zk uY.out 5).trans rfl
      have zJb := zw uY.out 0
      have zJc := zw uY.out 1
      have zJd := zw uY.out 2
      have zJe := zw uY.out 3
      have zJf := zw uY.out 4
      have zJg := zw uY.out 5
      have dM : 0 ≤ (kK : Int) := of_decide_eq_true (by first | (with_reducible assumption) | assumption)
      have dN : kK < (yw.length : Int) := of_decide_eq_true (by first | (with_reducible assumption) | assumption)
      obtain ⟨zYY, zkM, Vy, Vw⟩ := YL ZQ.out kK dM dN
      cases zkM
      replace Vy := (HB.out.cell (World.block_lt_of_cell? w _ Vy)).trans Vy
      replace Vw := (HB.out.cell (World.block_lt_of_cell? w _ Vw)).trans Vw
      replace dM := eq_true dM
      replace dN := eq_true dN
      go_wp2
      go_ret
      exact ⟨by first | rfl | (simp [yZ, yQ] <;> rfl) | (simp [*, yZ, yQ] <;> rfl), by repeat (first | (with_reducible first | exact HB.out | apply yt | apply zM | apply yP | refine qo ?_ zwy.out) | exact HB.out)⟩
     ·rw [if_neg c6] at H
      have Xf : (((zS yw kK).f0).toList == a1.toList) = false := beq_eq_false_iff_ne.mpr c6
      have dL : (((zS yw kK).f0).toList != a1.toList) = true := bne_iff_ne.mpr c6
      have H' := zy.mk H
      clear H
      have zg0 : wr.cell? ⟨wW, 0, none⟩ = some (.string yU) := (zk uY.out 0).trans rfl
      have zg1 : wr.cell? ⟨wW, 1, none⟩ = some (.bool yS) := (zk uY.out 1).trans rfl
      have zg2 : wr.cell? ⟨wW, 2, none⟩ = some (.int .i64 y7) := (zk uY.out 2).trans rfl
      have zg3 : wr.cell? ⟨wW, 3, none⟩ = some (.slice qU yw.length q9) := (zk uY.out 3).trans rfl
      have zg4 : wr.cell? ⟨wW, 4, none⟩ = some (.slice xZ yA.length xQ) := (zk uY.out 4).trans rfl
      have zg5 : wr.cell? ⟨wW, 5, none⟩ = some (.slice xX yu.length xJ) := (zk uY.out 5).trans rfl
      have zg6 := zw uY.out 0
      have zg7 := zw uY.out 1
      have zg8 := zw uY.out 2
      have zg9 := zw uY.out 3
      have zhz := zw uY.out 4
      have zhq := zw uY.out 5
      have dM : 0 ≤ (kK : Int) := of_decide_eq_true (by first | (with_reducible assumption) | assumption)
      have dN : kK < (yw.length : Int) := of_decide_eq_true (by first | (with_reducible assumption) | assumption)
      obtain ⟨zYY, zkM, Vy, Vw⟩ := YL ZQ.out kK dM dN
      cases zkM
      replace Vy := (HB.out.cell (World.block_lt_of_cell? w _ Vy)).trans Vy
      replace Vw := (HB.out.cell (World.block_lt_of_cell? w _ Vw)).trans Vw
      replace dM := eq_true dM
      replace dN := eq_true dN
      go_wp2
      go_roundg k1
      case measure => have := vT.out; omega
      case rel => exact ⟨(wrap64 (kK + 1)), (by first | rfl | (simp; done) | (simp [*]; done)), H', ⟨by have := vT.out; omega⟩, ⟨qX uY.out⟩, ⟨yX HB.out⟩⟩
    ·rw [if_neg c5] at H
     exact absurd H (by simp)
   ·rw [if_neg c4] at H
    have ZC : decide (kK < (yw.length : Int)) = false := decide_eq_false c4
    clear c4
    obtain rfl := Option.some.inj H
    have zXN : wr.cell? ⟨wW, 0, none⟩ = some (.string yU) := (zk uY.out 0).trans rfl
    have zXO : wr.cell? ⟨wW, 1, none⟩ = some (.bool yS) := (zk uY.out 1).trans rfl
    have zXP : wr.cell? ⟨wW, 2, none⟩ = some (.int .i64 y7) := (zk uY.out 2).trans rfl
    have zXR : wr.cell? ⟨wW, 3, none⟩ = some (.slice qU yw.length q9) := (zk uY.out 3).trans rfl
    have zXS : wr.cell? ⟨wW, 4, none⟩ = some (.slice xZ yA.length xQ) := (zk uY.out 4).trans rfl
    have zXT : wr.cell? ⟨wW, 5, none⟩ = some (.slice xX yu.length xJ) := (zk uY.out 5).trans rfl
    have zXU := zw uY.out 0
    have zX0 := zw uY.out 1
    have zX1 := zw uY.out 2
    have zX2 := zw uY.out 3
    have zX3 := zw uY.out 4
    have zX4 := zw uY.out 5
    go_wp2
    go_ret
    exact ⟨by first | rfl | (simp [yZ, yQ] <;> rfl) | (simp [*, yZ, yQ] <;> rfl), by repeat (first | (with_reducible first | exact HB.out | apply yt | apply zM | apply yP | refine qo ?_ zwy.out) | exact HB.out)⟩
end Go.Proofs.YtaifemkokfoadaaGreatDoor.PX
namespace Go.Proofs.YtaifemkokfoadaaGreatDoor.PX
open Go.RowKit Go.Proofs.zx.zK Go.Proofs.zx.zU Go.Proofs.zx.zN
attribute [local go_sem] qF qG xC xD qY qW qH qI   -- for this text's walks alone
set_option linter.unusedVariables false
set_option linter.unusedSimpArgs false
def Zo.f (a0 : ByteArray) (a1 : ByteArray) (a2 : ByteArray) (a3 : ByteArray) : Option (Bool) := if (Op.bytesLess a0.toList a2.toList) = true then (some true) else (if a0.toList = a2.toList then (some (Op.bytesLess a1.toList a3.toList)) else (some false))
set_option maxHeartbeats 8000000 in
set_option maxRecDepth 100000 in
theorem Zo.calls (a0 : ByteArray) (a1 : ByteArray) (a2 : ByteArray) (a3 : ByteArray) (r : Bool) (w : World) (h : Zo.f a0 a1 a2 a3 = some r) :
  Calls Tryz.prog 106 #[.string a0, .string a1, .string a2, .string a3] w fun e w' => e = .returned (.bool r) ∧ z8 w w' := by
 have H : (if (Op.bytesLess a0.toList a2.toList) = true then (some true) else (if a0.toList = a2.toList then (some (Op.bytesLess a1.toList a3.toList)) else (some false))) = some r := h
 clear h
 by_cases c5 : (Op.bytesLess a0.toList a2.toList) = true
 ·rw [if_pos c5] at H
  have Ya : (Op.bytesLess a0.toList a2.toList) = true := c5
  have zaA : (!(Op.bytesLess a2.toList a0.toList || a2.toList == a0.toList)) = true := (Uz _ _).trans (c5)
  have zaB : (a0.toList == a2.toList) = false := zxQ (c5)
  have zaC : (a2.toList == a0.toList) = false := lM (c5)
  have ziT : Op.bytesLess a2.toList a0.toList = false := rR (c5)
  clear c5
  obtain rfl := Option.some.inj H
  go_enter Tryz.func106, Tryz.ntmps106
  go_wp2
  go_ret
  exact ⟨by first | rfl | (simp; done) | (simp [*]; done), by repeat (first | exact z8.refl _ | apply z8.step)⟩
 ·rw [if_neg c5] at H
  have Ya : (Op.bytesLess a0.toList a2.toList) = false := by simpa using c5
  have zaA : (!(Op.bytesLess a2.toList a0.toList || a2.toList == a0.toList)) = false := (Uz _ _).trans (by simpa using c5)
  try have zaB : (a0.toList == a2.toList) = true := Pf (x := a0.toList) (y := a2.toList) (by assumption) (by assumption)
  try have zaC : (a2.toList == a0.toList) = true := Pf (x := a2.toList) (y := a0.toList) (by assumption) (by assumption)
  clear c5
  by_cases c6 : a0.toList = a2.toList
  ·rw [if_pos c6] at H
   have Xf : (a0.toList == a2.toList) = true := beq_iff_eq.mpr c6
   have dL : (a0.toList != a2.toList) = false := bne_eq_false_iff_eq.mpr c6
   clear c6
   obtain rfl := Option.some.inj H
   go_enter Tryz.func106, Tryz.ntmps106
   go_wp2
   go_ret
   exact ⟨by first | rfl | (simp; done) | (simp [*]; done), by repeat (first | exact z8.refl _ | apply z8.step)⟩
  ·rw [if_neg c6] at H
   have Xf : (a0.toList == a2.toList) = false := beq_eq_false_iff_ne.mpr c6
   have dL : (a0.toList != a2.toList) = true := bne_iff_ne.mpr c6
   obtain rfl := Option.some.inj H
   go_enter Tryz.func106, Tryz.ntmps106
   go_wp2
   go_ret
   exact ⟨by first | rfl | (simp; done) | (simp [*]; done), by repeat (first | exact z8.refl _ | apply z8.step)⟩
end Go.Proofs.YtaifemkokfoadaaGreatDoor.PX
namespace Go.Proofs.YtaifemkokfoadaaGreatDoor
open Go.RowKit Go.Proofs.zx.zK Go.Proofs.zx.zU Go.Proofs.zx.zN Go.Proofs.YtaifemkokfoadaaGreatDoor.PX
set_option linter.unusedSimpArgs false
set_option linter.unusedVariables false
def jd (l : List qJ) (n : ByteArray) : Bool := l.any fun x => x.f0.toList == n.toList
def Xt (a b c d : ByteArray) : Bool := Op.bytesLess a.toList c.toList || (a.toList == c.toList && Op.bytesLess b.toList d.toList)
def ku (n : Int) : Bool := decide (n < 0) || decide (3000 < n)
def Xi (l : List qJ) (i : Nat) : Bool := kS (zS l (i : Int)).f0.data.toList && (!ku (zS l (i : Int)).f1 && (decide (i = 0) || Op.bytesLess (zS l ((i : Int) - 1)).f0.toList (zS l (i : Int)).f0.toList))
def Xl (l3 : List qJ) (l : List xK) (i : Nat) : Bool := jd l3 (vP l (i : Int)).f0 && (jd l3 (vP l (i : Int)).f1 && (jd l3 (vP l (i : Int)).f2 && (decide (i = 0) || Xt (vP l ((i : Int) - 1)).f0 (vP l ((i : Int) - 1)).f1 (vP l (i : Int)).f0 (vP l (i : Int)).f1)))
def Y2 (l3 : List qJ) (l : List xY) (i : Nat) : Bool := jd l3 (vJ l (i : Int)).f0 && (jd l3 (vJ l (i : Int)).f1 && (!decide ((vJ l (i : Int)).f2 = 0) && (!decide ((vJ l (i : Int)).f2 < -500) && (!decide (500 < (vJ l (i : Int)).f2) && (decide (i = 0) || Xt (vJ l ((i : Int) - 1)).f0 (vJ l ((i : Int) - 1)).f1 (vJ l (i : Int)).f0 (vJ l (i : Int)).f1)))))
def pG (a : ByteArray) (c : Int) (l3 : List qJ) (l4 : List xK) (l5 : List xY) : Bool :=
 (kT a.data.toList && (!ku c && (decide (l3.length ≤ 400) && (decide (l4.length ≤ 50) && decide (l5.length ≤ 500))))) && ((List.range l3.length).all (Xi l3) && ((List.range l4.length).all (Xl l3 l4) && (List.range l5.length).all (Y2 l3 l5)))
theorem dO {f : Nat → Bool} {n : Nat} (h : ∀ i, i < n → f i = true) : (List.range n).all f = true := List.all_eq_true.2 fun i hi => h i (List.mem_range.1 hi)
theorem uQ {f : Nat → Bool} {n i : Nat} (hi : i < n) (h : f i = false) : (List.range n).all f = false := by
 cases e : (List.range n).all f with
 | false => rfl
 | true => exact absurd (List.all_eq_true.1 e i (List.mem_range.2 hi)) (by rw [h]; simp)
theorem hasL (a : ByteArray) (b : Bool) (c : Int) (l : List qJ) (l4 : List xK) (l5 : List xY) (n : ByteArray) (hl : l.length ≤ 1000000000) : ∀ d i, l.length - i = d → i ≤ l.length → Ev (fun k => vX.l0 k n (i : Int) a b c l l4 l5) (jd (l.drop i) n) := by
 intro d
 induction d with
 | zero =>
  intro i hd hi
  rw [List.drop_eq_nil_of_le (by omega)]
  refine UZ (r := false) rfl (Ev.step (fun k => by rw [vX.l0]) (qN (by omega) (Ev.now _)))
 | succ d ih =>
  intro i hd hi
  have h1 : i < l.length := by omega
  have q0 : (0 : Int) ≤ (i : Int) := by omega
  have q1 : (i : Int) < (l.length : Int) := by omega
  have hw : wrap64 ((i : Int) + 1) = ((i + 1 : Nat) : Int) := (YA (by omega) (by omega)).trans (by omega)
  have hr := ih (i + 1) (by omega) (by omega)
  have e : zS l (i : Int) = l[i] := by simp [zS, List.getD_eq_getElem?_getD, h1]
  rw [List.drop_eq_getElem_cons h1]
  unfold jd
  rw [List.any_cons]
  refine Ev.step (fun k => by rw [vX.l0, hw, e]) (zL q1 (zL q0 ?_))
  by_cases hx : l[i].f0.toList = n.toList
  ·refine zL hx (UZ ?_ (Ev.now _))
   rw [beq_iff_eq.2 hx, Bool.true_or]
  ·refine qN hx (UZ ?_ hr)
   rw [beq_eq_false_iff_ne.2 hx, Bool.false_or]; rfl
theorem iL (a : ByteArray) (b : Bool) (c : Int) (A3 : Option Addr) (c3 : Nat) (l3 : List qJ) (A4 : Option Addr) (c4 : Nat) (l4 : List xK) (A5 : Option Addr) (c5 : Nat) (l5 : List xY) (n : ByteArray) (w : World) (h3 : Kd.C jC w A3 l3.length l3) (g3 : l3.length ≤ c3) (h4 : Kd.C kR w A4 l4.length l4) (g4 : l4.length ≤ c4) (h5 : Kd.C kE w A5 l5.length l5) (g5 : l5.length ≤ c5) (hl3 : l3.length ≤ 1000000000) :
  Calls Tryz.prog 63 #[.agg #[.string a, .bool b, .int .i64 c, .slice A3 l3.length c3, .slice A4 l4.length c4, .slice A5 l5.length c5], .string n] w fun e w' => e = .returned (.bool (jd l3 n)) ∧ Below w.heap.size w w' := by
 have h1 : Ev (fun k => vX.l0 k n 0 a b c l3 l4 l5) _ := hasL a b c l3 l4 l5 n hl3 _ 0 rfl (Nat.zero_le _)
 have h2 : Ev (fun k => vX.f k a b c l3 l4 l5 n) (jd l3 n) := Ev.congr (fun k => by rw [vX.f]) h1
 obtain ⟨k, hk⟩ := h2.rounds
 exact vX.calls k a b c A3 c3 l3 A4 c4 l4 A5 c5 l5 n _ w h3 g3 h4 g4 h5 g5 hk
theorem zz9 (a b c d : ByteArray) (w : World) : Calls Tryz.prog 106 #[.string a, .string b, .string c, .string d] w fun e w' => e = .returned (.bool (Xt a b c d)) ∧ z8 w w' := by
 refine Zo.calls a b c d _ w ?_
 unfold Zo.f Xt
 by_cases h1 : Op.bytesLess a.toList c.toList = true
 ·rw [if_pos h1, h1, Bool.true_or]
 ·rw [if_neg h1]
  by_cases h2 : a.toList = c.toList
  ·rw [if_pos h2, (by simpa using h1 : Op.bytesLess a.toList c.toList = false), beq_iff_eq.2 h2, Bool.false_or, Bool.true_and]
  ·rw [if_neg h2, (by simpa using h1 : Op.bytesLess a.toList c.toList = false), beq_eq_false_iff_ne.2 h2, Bool.false_or, Bool.false_and]
theorem ji {w w' : World} (h : z8 w w') : Below w.heap.size w w' := by
 obtain ⟨⟨n, rfl⟩⟩ := h
 exact zM (Below.refl _ _) n
end Go.Proofs.YtaifemkokfoadaaGreatDoor
namespace Go.Proofs.YtaifemkokfoadaaGreatDoor
open Go.RowKit Go.Proofs.zx.zK Go.Proofs.zx.zU Go.Proofs.zx.zN Go.Proofs.YtaifemkokfoadaaGreatDoor.PX
set_option linter.unusedSimpArgs false
set_option linter.unusedVariables false
def jG (x : qw) : qJ := ⟨x.f0, x.f1⟩
def Yk.T5 : Bool × List (List Nat × List Nat) := (true, [([], []), ([0], [0]), ([], []), ([2], [2]), ([], []), ([3, 4], [3, 4]), ([5], [5]), ([6], [6]), ([], []), ([8], [8]), ([], []), ([9, 10], [9, 10]), ([11], [11]), ([12], [12]), ([7, 13], [7, 13]), ([14], [14]), ([1, 15], [1, 15]), ([0, 1, 2, 3, 4, 5, 6, 7, 8, 9, 10, 11, 12, 13, 14, 15, 16], []), ([17, 16, 16, 0, 1, 2, 3, 4, 5, 6, 7, 8, 9, 10, 11, 12, 13, 14, 15, 16], [16, 17])])
def Yk.B5 : List Nat := [0, 1, 0, 4, 0, 28, 60, 124, 0, 256, 0, 1792, 3840, 7936, 16380, 32764, 65535, 131071, 262143]
theorem Yk.lN : vB .any (opsOf Tryz.f16 5) = Yk.T5 := by kernel_rfl
theorem Yk.zxV : vU Yk.T5.2 Yk.B5 = true := by kernel_rfl
def kL (x : qh) : xK := ⟨x.f0, x.f1, x.f2⟩
def Yk.T9 : Bool × List (List Nat × List Nat) := (true, [([], []), ([0], [0]), ([], []), ([2], [2]), ([], []), ([3, 4], [3, 4]), ([5], [5]), ([6], [6]), ([], []), ([8], [8]), ([], []), ([9, 10], [9, 10]), ([11], [11]), ([12], [12]), ([], []), ([14], [14]), ([], []), ([15, 16], [15, 16]), ([17], [17]), ([18], [18]), ([7, 13, 19], [7, 13, 19]), ([20], [20]), ([1, 21], [1, 21]), ([0, 1, 2, 3, 4, 5, 6, 7, 8, 9, 10, 11, 12, 13, 14, 15, 16, 17, 18, 19, 20, 21, 22], []), ([23, 22, 22, 0, 1, 2, 3, 4, 5, 6, 7, 8, 9, 10, 11, 12, 13, 14, 15, 16, 17, 18, 19, 20, 21, 22], [22, 23])])
def Yk.B9 : List Nat := [0, 1, 0, 4, 0, 28, 60, 124, 0, 256, 0, 1792, 3840, 7936, 0, 16384, 0, 114688, 245760, 507904, 1048572, 2097148, 4194303, 8388607, 16777215]
theorem Yk.zkx : vB .any (opsOf Tryz.f16 9) = Yk.T9 := by kernel_rfl
theorem Yk.zxK : vU Yk.T9.2 Yk.B9 = true := by kernel_rfl
def kM (x : xq) : xY := ⟨x.f0, x.f1, x.f2⟩
def Yk.WJ : Bool × List (List Nat × List Nat) := (true, [([], []), ([0], [0]), ([], []), ([2], [2]), ([], []), ([3, 4], [3, 4]), ([5], [5]), ([6], [6]), ([], []), ([8], [8]), ([], []), ([9, 10], [9, 10]), ([11], [11]), ([12], [12]), ([], []), ([14], [14]), ([], []), ([15, 16], [15, 16]), ([17], [17]), ([18], [18]), ([7, 13, 19], [7, 13, 19]), ([20], [20]), ([1, 21], [1, 21]), ([0, 1, 2, 3, 4, 5, 6, 7, 8, 9, 10, 11, 12, 13, 14, 15, 16, 17, 18, 19, 20, 21, 22], []), ([23, 22, 22, 0, 1, 2, 3, 4, 5, 6, 7, 8, 9, 10, 11, 12, 13, 14, 15, 16, 17, 18, 19, 20, 21, 22], [22, 23])])
def Yk.lS : List Nat := [0, 1, 0, 4, 0, 28, 60, 124, 0, 256, 0, 1792, 3840, 7936, 0, 16384, 0, 114688, 245760, 507904, 1048572, 2097148, 4194303, 8388607, 16777215]
theorem Yk.YJ : vB .any (opsOf Tryz.f16 13) = Yk.WJ := by kernel_rfl
theorem Yk.pR : vU Yk.WJ.2 Yk.lS = true := by kernel_rfl
set_option maxRecDepth 100000 in
set_option maxHeartbeats 8000000 in
theorem zQf (a : ByteArray) (b : Bool) (c : Int) (A3 : Option Addr) (c3 : Nat) (l3 : List qw) (A4 : Option Addr) (c4 : Nat) (l4 : List qh) (A5 : Option Addr) (c5 : Nat) (l5 : List xq) (w : World) (h3 : Kd.C uy w A3 l3.length l3) (h4 : Kd.C uU w A4 l4.length l4) (h5 : Kd.C jy w A5 l5.length l5) (hl3 : l3.length ≤ 1000000) (hl4 : l4.length ≤ 1000000) (hl5 : l5.length ≤ 1000000) :
  Calls Tryz.prog 16 #[.agg #[.string a, .bool b, .int .i64 c, .slice A3 l3.length c3, .slice A4 l4.length c4, .slice A5 l5.length c5]] w fun e w' => ∃ Vl Vm Vn : Value, e = .returned (.agg #[.string a, .bool b, .int .i64 c, Vl, Vm, Vn]) ∧ Kd.R jC 81 w' w.heap.size (fun _ => True) Vl (l3.map jG) ∧ Kd.R kR 83 w' w.heap.size (fun _ => True) Vm (l4.map kL) ∧ Kd.R kE 84 w' w.heap.size (fun _ => True) Vn (l5.map kM) ∧ Below w.heap.size w w' := by
 have hu1 := Tryz.underlying26
 have hu2 := Tryz.underlying44
 have H3 := zy.mk h3
 have H4 := zy.mk h4
 have H5 := zy.mk h5
 clear h3 h4 h5
 have X0 : XS jC 81 kR 83 kE 84 26 44 w w.heap.size (w.heap.size + 1) (w.heap.size + 2) #[.string a, .bool b, .int .i64 c, .slice A3 l3.length c3, .slice A4 l4.length c4, .slice A5 l5.length c5] a b c (.slice none 0 0) (.slice none 0 0) (.slice none 0 0) [] [] [] (((w.alloc (.cells #[.string a, .bool b, .int .i64 c, .slice A3 l3.length c3, .slice A4 l4.length c4, .slice A5 l5.length c5] 26)).alloc (.cells Jv 44)).alloc (.cells #[.string a, .bool b, .int .i64 c, .slice none 0 0, .slice none 0 0, .slice none 0 0] 44)) := by
  have e1 : (w.alloc (.cells #[.string a, .bool b, .int .i64 c, .slice A3 l3.length c3, .slice A4 l4.length c4, .slice A5 l5.length c5] 26)).heap.size = w.heap.size + 1 := by simp
  have e2 : ((w.alloc (.cells #[.string a, .bool b, .int .i64 c, .slice A3 l3.length c3, .slice A4 l4.length c4, .slice A5 l5.length c5] 26)).alloc (.cells Jv 44)).heap.size = w.heap.size + 2 := by simp
  refine ⟨zV (zV (vY _ _) _) _, ?_, ?_, Kd.xE _ _ _ _ _, Kd.xE _ _ _ _ _, Kd.xE _ _ _ _ _, (((Below.refl _ w).alloc (Nat.le_refl _) _).alloc (by simp) _).alloc (by rw [e2]; omega) _, by omega, by omega, by omega⟩
  ·have := zV (vY (w.alloc (.cells #[.string a, .bool b, .int .i64 c, .slice A3 l3.length c3, .slice A4 l4.length c4, .slice A5 l5.length c5] 26)) (.cells Jv 44)) (.cells #[.string a, .bool b, .int .i64 c, .slice none 0 0, .slice none 0 0, .slice none 0 0] 44)
   rwa [e1] at this
  ·have := vY ((w.alloc (.cells #[.string a, .bool b, .int .i64 c, .slice A3 l3.length c3, .slice A4 l4.length c4, .slice A5 l5.length c5] 26)).alloc (.cells Jv 44)) (.cells #[.string a, .bool b, .int .i64 c, .slice none 0 0, .slice none 0 0, .slice none 0 0] 44)
   rwa [e2] at this
 go_enter Tryz.func16, Tryz.ntmps16
 go_wp2
 go_loopw [4] (fun y W => ∃ (i : Nat) (u : Value), y = .int .i64 (i : Int) ∧ i ≤ l3.length ∧ zy (XS jC 81 kR 83 kE 84 26 44 w w.heap.size (w.heap.size + 1) (w.heap.size + 2) #[.string a, .bool b, .int .i64 c, .slice A3 l3.length c3, .slice A4 l4.length c4, .slice A5 l5.length c5] a b c u (.slice none 0 0) (.slice none 0 0) ((l3.take i).map jG) [] [] W)) (fun y _ => l3.length - (intOf y).toNat)
 case atStart => exact ⟨0, .slice none 0 0, rfl, Nat.zero_le _, ⟨X0⟩⟩
 case round =>
  obtain ⟨i, u, rfl, hi, HX⟩ := hrel
  have X := HX.out
  clear X0
  have hcf : wr.cell? ⟨w.heap.size, 3, none⟩ = some (.slice A3 l3.length c3) := (zk X.bf 3).trans rfl
  by_cases hlt : i < l3.length
  ·have hx := List.getElem?_eq_getElem hlt
   obtain ⟨ad, e, x0, x1⟩ := YM H3.out (i : Int) (by omega) (by omega)
   cases e
   have e : qV l3 (i : Int) = l3[i] := by simp [qV, List.getD_eq_getElem?_getD, hlt]
   rw [Int.toNat_natCast, e] at x0 x1
   clear e
   generalize l3[i] = x at hx x0 x1
   have k0 := fun (W : World) (h : Below w.heap.size w W) => (h.cell (World.block_lt_of_cell? w _ x0)).trans x0; have k1 := fun (W : World) (h : Below w.heap.size w W) => (h.cell (World.block_lt_of_cell? w _ x1)).trans x1
   have q1 : (i : Int) < (l3.length : Int) := by omega
   have q0 : (0 : Int) ≤ (i : Int) := by omega
   have q3 : ((i : Int)).toNat = i := Int.toNat_natCast i
   have q2 : decide ((i : Int) < (l3.length : Int)) = true := decide_eq_true q1
   try go_wp2
   have X1 := X.mv (wR (Below.refl _ wr))
   refine jU (n := 19) (S := fun W' => W'.cell? ⟨w.heap.size + 2, 3, none⟩ = some u ∧ W'.cell? ⟨w.heap.size, 3, none⟩ = some (.slice (some ad) l3.length c3) ∧ W'.cell? (ad.add (i * 2)) = some (.string x.f0) ∧ W'.cell? ⟨(ad.add (i * 2)).block, (ad.add (i * 2)).off + 1, none⟩ = some (.int .i64 x.f1)) (ds := [18]) #[false, false, false, false, false, false, false, false, false, false, false, false, false, false, false, false, false, false, false] (by kernel_rfl) rfl rfl ⟨(zk X1.bx 3).trans rfl, (zk X1.bf 3).trans rfl, k0 _ X1.hb, k1 _ X1.hb⟩ (fun hHeld => ?_); refine jN Yk.lN Yk.zxV (fun zi vR => ?_)
   clear X HX hcf
   generalize wr.drew = W at X1 hHeld ⊢
   refine qz 0 (some 21) zi ?_
   refine qz 2 (some 23) zi ?_
   refine qz 4 (some 25) zi ?_
   refine qz 8 (some 29) zi ?_
   refine qz 10 (some 31) zi ?_
   refine uG 1 (some 22) zi vR hHeld ?_
   refine uG 3 (some 24) zi vR hHeld ?_
   refine qz 5 (some 26) zi ?_
   refine qz 6 (some 27) zi ?_
   refine uG 7 (some 28) zi vR hHeld ?_
   refine uG 9 (some 30) zi vR hHeld ?_
   refine qz 11 (some 32) zi ?_
   refine qz 12 (some 33) zi ?_
   refine uG 13 (some 34) zi vR hHeld ?_
   refine qz 14 (some 35) zi ?_
   refine pO 15 (some 36) zi (fun K hK => ?_)
   refine QY ?_
   have X2 := X1.mv (yt (Below.refl _ W) (.cells #[.string x.f0, .int .i64 x.f1] 81))
   refine hK.out _ _ ⟨(zk X2.bx 3).trans rfl, (zk X2.bf 3).trans rfl, k0 _ X2.hb, k1 _ X2.hb⟩ (fun hHeld => ?_)
   clear hK K
   refine jO (some 36) ?_
   refine pO 16 (some 37) zi (fun K hK => ?_)
   refine Kd.vD jC (w0 := w) w.heap.size (by rfl) (.tmp 22) (.tmp 36) 40 81 (.agg #[(.string ⟨#[]⟩), (.int .i64 0)]) 24 rfl Tryz.underlying40 WQ rfl (by decide) (by omega) u ((l3.take i).map jG) (jG x) [.string x.f0, .int .i64 x.f1] (fun _ => True) (fun _ => False) rfl rfl ?aP (fun _ hk => hk.elim) ?aF ?aO ?aB ?aS ?aL ?_
   (case aP => exact Jh _ _ _ (jG x))
   (case aB => exact X1.hb)
   (case aF => exact (fun _ _ => trivial))
   (case aO => exact X1.r3)
   (case aS => exact X1.hb.size)
   (case aL => rw [List.length_map, List.length_take]; omega)
   intro v kW ho hb hg hat
   rw [← Qz jG l3 i x hx] at ho
   obtain ⟨Ao, co, eo⟩ := Kd.yx ho
   subst eo
   generalize ((l3.take (i + 1)).map jG).length = nn at ho ⊢
   have bx1 := qx X1.bx hg (Kd.uX X1.r3 X1.bx (by decide))
   have Vo := qx X1.bf hg (Kd.uX X1.r3 X1.bf (by decide))
   have X3 := zy.mk (X1.zXy hg ho hb (by decide) (by decide) (by decide) (by decide) (by decide) (by decide))
   refine hK.out _ _ ⟨(zk bx1 3).trans rfl, (zk Vo 3).trans rfl, k0 _ hb, k1 _ hb⟩ (fun hHeld => ?_)
   clear hK K
   refine jO (some 37) ?_
   refine qz 17 (some 38) zi ?_
   refine kD (i := 18) (N := none) #[true, true, true, true, true, true, true, true, true, true, true, true, true, true, true, true, true, true, true] rfl rfl (vG zi.out (by kernel_rfl)) (by decide) (fun K hK => ?_)
   have XM : kW.cell? ⟨w.heap.size + 2, 3, none⟩ = some u := (zk bx1 3).trans rfl
   have YV := zw bx1 3
   refine Zy (w1 := ?_) (by rfl) rfl ?_ ?_
   rotate_left
   ·go_simp
    rfl
   refine hK.out _ _ ?_
   clear hK K
   refine vO (xH zi.out (by kernel_rfl)) ?_
   clear X1 X2 hb hg ho hat XM YV bx1 Vo hHeld
   generalize kW.setCell ⟨w.heap.size + 2, 3, none⟩ (.slice Ao nn co : Value) = Yj at X3 ⊢
   try go_wp2
   go_roundw
   case rel => exact ⟨i + 1, (.slice Ao nn co : Value), by first | rfl | (simp; done) | go_num, by omega, X3⟩
   case measure => simp [intOf]; omega
  ·obtain rfl : i = l3.length := by omega
   have q2 : decide ((l3.length : Int) < (l3.length : Int)) = false := decide_eq_false (by omega)
   rw [List.take_length] at X
   clear HX
   obtain ⟨QW, Qa, eo3⟩ := Kd.yx X.r3
   subst eo3
   generalize HM3 : l3.map jG = m3 at X
   try go_wp2
   go_loopw [5] (fun y W => ∃ (i : Nat) (u : Value), y = .int .i64 (i : Int) ∧ i ≤ l4.length ∧ zy (XS jC 81 kR 83 kE 84 26 44 w w.heap.size (w.heap.size + 1) (w.heap.size + 2) #[.string a, .bool b, .int .i64 c, .slice A3 l3.length c3, .slice A4 l4.length c4, .slice A5 l5.length c5] a b c (.slice QW m3.length Qa) u (.slice none 0 0) m3 ((l4.take i).map kL) [] W)) (fun y _ => l4.length - (intOf y).toNat)
   case atStart => exact ⟨0, .slice none 0 0, rfl, Nat.zero_le _, ⟨X⟩⟩
   case round =>
    obtain ⟨i, u, rfl, hi, HX⟩ := hrel
    have X := HX.out
    skip
    have hcf : wr.cell? ⟨w.heap.size, 4, none⟩ = some (.slice A4 l4.length c4) := (zk X.bf 4).trans rfl
    by_cases hlt : i < l4.length
    ·have hx := List.getElem?_eq_getElem hlt
     obtain ⟨ad, e, x0, x1, x2⟩ := Vh H4.out (i : Int) (by omega) (by omega)
     cases e
     have e : qO l4 (i : Int) = l4[i] := by simp [qO, List.getD_eq_getElem?_getD, hlt]
     rw [Int.toNat_natCast, e] at x0 x1 x2
     clear e
     generalize l4[i] = x at hx x0 x1 x2
     have k0 := fun (W : World) (h : Below w.heap.size w W) => (h.cell (World.block_lt_of_cell? w _ x0)).trans x0; have k1 := fun (W : World) (h : Below w.heap.size w W) => (h.cell (World.block_lt_of_cell? w _ x1)).trans x1; have k2 := fun (W : World) (h : Below w.heap.size w W) => (h.cell (World.block_lt_of_cell? w _ x2)).trans x2
     have q1 : (i : Int) < (l4.length : Int) := by omega
     have q0 : (0 : Int) ≤ (i : Int) := by omega
     have q3 : ((i : Int)).toNat = i := Int.toNat_natCast i
     have q2 : decide ((i : Int) < (l4.length : Int)) = true := decide_eq_true q1
     try go_wp2
     have X1 := X.mv (wR (Below.refl _ wr))
     refine jU (n := 25) (S := fun W' => W'.cell? ⟨w.heap.size + 2, 4, none⟩ = some u ∧ W'.cell? ⟨w.heap.size, 4, none⟩ = some (.slice (some ad) l4.length c4) ∧ W'.cell? (ad.add (i * 3)) = some (.string x.f0) ∧ W'.cell? ⟨(ad.add (i * 3)).block, (ad.add (i * 3)).off + 1, none⟩ = some (.string x.f1) ∧ W'.cell? ⟨(ad.add (i * 3)).block, (ad.add (i * 3)).off + 2, none⟩ = some (.string x.f2)) (ds := [24]) #[false, false, false, false, false, false, false, false, false, false, false, false, false, false, false, false, false, false, false, false, false, false, false, false, false] (by kernel_rfl) rfl rfl ⟨(zk X1.bx 4).trans rfl, (zk X1.bf 4).trans rfl, k0 _ X1.hb, k1 _ X1.hb, k2 _ X1.hb⟩ (fun hHeld => ?_); refine jN Yk.zkx Yk.zxK (fun zi vR => ?_)
     clear X HX hcf
     generalize wr.drew = W at X1 hHeld ⊢
     refine qz 0 (some 46) zi ?_
     refine qz 2 (some 48) zi ?_
     refine qz 4 (some 50) zi ?_
     refine qz 8 (some 54) zi ?_
     refine qz 10 (some 56) zi ?_
     refine qz 14 (some 60) zi ?_
     refine qz 16 (some 62) zi ?_
     refine uG 1 (some 47) zi vR hHeld ?_
     refine uG 3 (some 49) zi vR hHeld ?_
     refine qz 5 (some 51) zi ?_
     refine qz 6 (some 52) zi ?_
     refine uG 7 (some 53) zi vR hHeld ?_
     refine uG 9 (some 55) zi vR hHeld ?_
     refine qz 11 (some 57) zi ?_
     refine qz 12 (some 58) zi ?_
     refine uG 13 (some 59) zi vR hHeld ?_
     refine uG 15 (some 61) zi vR hHeld ?_
     refine qz 17 (some 63) zi ?_
     refine qz 18 (some 64) zi ?_
     refine uG 19 (some 65) zi vR hHeld ?_
     refine qz 20 (some 66) zi ?_
     refine pO 21 (some 67) zi (fun K hK => ?_)
     refine QY ?_
     have X2 := X1.mv (yt (Below.refl _ W) (.cells #[.string x.f0, .string x.f1, .string x.f2] 83))
     refine hK.out _ _ ⟨(zk X2.bx 4).trans rfl, (zk X2.bf 4).trans rfl, k0 _ X2.hb, k1 _ X2.hb, k2 _ X2.hb⟩ (fun hHeld => ?_)
     clear hK K
     refine jO (some 67) ?_
     refine pO 22 (some 68) zi (fun K hK => ?_)
     refine Kd.vD kR (w0 := w) w.heap.size (by rfl) (.tmp 47) (.tmp 67) 41 83 (.agg #[(.string ⟨#[]⟩), (.string ⟨#[]⟩), (.string ⟨#[]⟩)]) 48 rfl Tryz.underlying41 lD rfl (by decide) (by omega) u ((l4.take i).map kL) (kL x) [.string x.f0, .string x.f1, .string x.f2] (fun _ => True) (fun _ => False) rfl rfl ?aP (fun _ hk => hk.elim) ?aF ?aO ?aB ?aS ?aL ?_
     (case aP => exact rO _ _ _ (kL x))
     (case aB => exact X1.hb)
     (case aF => exact (fun _ _ => trivial))
     (case aO => exact X1.r4)
     (case aS => exact X1.hb.size)
     (case aL => rw [List.length_map, List.length_take]; omega)
     intro v kW ho hb hg hat
     rw [← Qz kL l4 i x hx] at ho
     obtain ⟨Ao, co, eo⟩ := Kd.yx ho
     subst eo
     generalize ((l4.take (i + 1)).map kL).length = nn at ho ⊢
     have bx1 := qx X1.bx hg (Kd.uX X1.r4 X1.bx (by decide))
     have Vo := qx X1.bf hg (Kd.uX X1.r4 X1.bf (by decide))
     have X3 := zy.mk (X1.zXw hg ho hb (by decide) (by decide) (by decide) (by decide) (by decide) (by decide))
     refine hK.out _ _ ⟨(zk bx1 4).trans rfl, (zk Vo 4).trans rfl, k0 _ hb, k1 _ hb, k2 _ hb⟩ (fun hHeld => ?_)
     clear hK K
     refine jO (some 68) ?_
     refine qz 23 (some 69) zi ?_
     refine kD (i := 24) (N := none) #[true, true, true, true, true, true, true, true, true, true, true, true, true, true, true, true, true, true, true, true, true, true, true, true, true] rfl rfl (vG zi.out (by kernel_rfl)) (by decide) (fun K hK => ?_)
     have XM : kW.cell? ⟨w.heap.size + 2, 4, none⟩ = some u := (zk bx1 4).trans rfl
     have YV := zw bx1 4
     refine Zy (w1 := ?_) (by rfl) rfl ?_ ?_
     rotate_left
     ·go_simp
      rfl
     refine hK.out _ _ ?_
     clear hK K
     refine vO (xH zi.out (by kernel_rfl)) ?_
     clear X1 X2 hb hg ho hat XM YV bx1 Vo hHeld
     generalize kW.setCell ⟨w.heap.size + 2, 4, none⟩ (.slice Ao nn co : Value) = Yj at X3 ⊢
     try go_wp2
     go_roundw
     case rel => exact ⟨i + 1, (.slice Ao nn co : Value), by first | rfl | (simp; done) | go_num, by omega, X3⟩
     case measure => simp [intOf]; omega
    ·obtain rfl : i = l4.length := by omega
     have q2 : decide ((l4.length : Int) < (l4.length : Int)) = false := decide_eq_false (by omega)
     rw [List.take_length] at X
     clear HX
     obtain ⟨Vp, Vr, eo4⟩ := Kd.yx X.r4
     subst eo4
     generalize HM4 : l4.map kL = m4 at X
     try go_wp2
     go_loopw [6] (fun y W => ∃ (i : Nat) (u : Value), y = .int .i64 (i : Int) ∧ i ≤ l5.length ∧ zy (XS jC 81 kR 83 kE 84 26 44 w w.heap.size (w.heap.size + 1) (w.heap.size + 2) #[.string a, .bool b, .int .i64 c, .slice A3 l3.length c3, .slice A4 l4.length c4, .slice A5 l5.length c5] a b c (.slice QW m3.length Qa) (.slice Vp m4.length Vr) u m3 m4 ((l5.take i).map kM) W)) (fun y _ => l5.length - (intOf y).toNat)
     case atStart => exact ⟨0, .slice none 0 0, rfl, Nat.zero_le _, ⟨X⟩⟩
     case round =>
      obtain ⟨i, u, rfl, hi, HX⟩ := hrel
      have X := HX.out
      skip
      have hcf : wr.cell? ⟨w.heap.size, 5, none⟩ = some (.slice A5 l5.length c5) := (zk X.bf 5).trans rfl
      by_cases hlt : i < l5.length
      ·have hx := List.getElem?_eq_getElem hlt
       obtain ⟨ad, e, x0, x1, x2⟩ := Vi H5.out (i : Int) (by omega) (by omega)
       cases e
       have e : xk l5 (i : Int) = l5[i] := by simp [xk, List.getD_eq_getElem?_getD, hlt]
       rw [Int.toNat_natCast, e] at x0 x1 x2
       clear e
       generalize l5[i] = x at hx x0 x1 x2
       have k0 := fun (W : World) (h : Below w.heap.size w W) => (h.cell (World.block_lt_of_cell? w _ x0)).trans x0; have k1 := fun (W : World) (h : Below w.heap.size w W) => (h.cell (World.block_lt_of_cell? w _ x1)).trans x1; have k2 := fun (W : World) (h : Below w.heap.size w W) => (h.cell (World.block_lt_of_cell? w _ x2)).trans x2
       have q1 : (i : Int) < (l5.length : Int) := by omega
       have q0 : (0 : Int) ≤ (i : Int) := by omega
       have q3 : ((i : Int)).toNat = i := Int.toNat_natCast i
       have q2 : decide ((i : Int) < (l5.length : Int)) = true := decide_eq_true q1
       try go_wp2
       have X1 := X.mv (wR (Below.refl _ wr))
       refine jU (n := 25) (S := fun W' => W'.cell? ⟨w.heap.size + 2, 5, none⟩ = some u ∧ W'.cell? ⟨w.heap.size, 5, none⟩ = some (.slice (some ad) l5.length c5) ∧ W'.cell? (ad.add (i * 3)) = some (.string x.f0) ∧ W'.cell? ⟨(ad.add (i * 3)).block, (ad.add (i * 3)).off + 1, none⟩ = some (.string x.f1) ∧ W'.cell? ⟨(ad.add (i * 3)).block, (ad.add (i * 3)).off + 2, none⟩ = some (.int .i64 x.f2)) (ds := [24]) #[false, false, false, false, false, false, false, false, false, false, false, false, false, false, false, false, false, false, false, false, false, false, false, false, false] (by kernel_rfl) rfl rfl ⟨(zk X1.bx 5).trans rfl, (zk X1.bf 5).trans rfl, k0 _ X1.hb, k1 _ X1.hb, k2 _ X1.hb⟩ (fun hHeld => ?_); refine jN Yk.YJ Yk.pR (fun zi vR => ?_)
       clear X HX hcf
       generalize wr.drew = W at X1 hHeld ⊢
       refine qz 0 (some 77) zi ?_
       refine qz 2 (some 79) zi ?_
       refine qz 4 (some 81) zi ?_
       refine qz 8 (some 85) zi ?_
       refine qz 10 (some 87) zi ?_
       refine qz 14 (some 91) zi ?_
       refine qz 16 (some 93) zi ?_
       refine uG 1 (some 78) zi vR hHeld ?_
       refine uG 3 (some 80) zi vR hHeld ?_
       refine qz 5 (some 82) zi ?_
       refine qz 6 (some 83) zi ?_
       refine uG 7 (some 84) zi vR hHeld ?_
       refine uG 9 (some 86) zi vR hHeld ?_
       refine qz 11 (some 88) zi ?_
       refine qz 12 (some 89) zi ?_
       refine uG 13 (some 90) zi vR hHeld ?_
       refine uG 15 (some 92) zi vR hHeld ?_
       refine qz 17 (some 94) zi ?_
       refine qz 18 (some 95) zi ?_
       refine uG 19 (some 96) zi vR hHeld ?_
       refine qz 20 (some 97) zi ?_
       refine pO 21 (some 98) zi (fun K hK => ?_)
       refine QY ?_
       have X2 := X1.mv (yt (Below.refl _ W) (.cells #[.string x.f0, .string x.f1, .int .i64 x.f2] 84))
       refine hK.out _ _ ⟨(zk X2.bx 5).trans rfl, (zk X2.bf 5).trans rfl, k0 _ X2.hb, k1 _ X2.hb, k2 _ X2.hb⟩ (fun hHeld => ?_)
       clear hK K
       refine jO (some 98) ?_
       refine pO 22 (some 99) zi (fun K hK => ?_)
       refine Kd.vD kE (w0 := w) w.heap.size (by rfl) (.tmp 78) (.tmp 98) 42 84 (.agg #[(.string ⟨#[]⟩), (.string ⟨#[]⟩), (.int .i64 0)]) 40 rfl Tryz.underlying42 gT rfl (by decide) (by omega) u ((l5.take i).map kM) (kM x) [.string x.f0, .string x.f1, .int .i64 x.f2] (fun _ => True) (fun _ => False) rfl rfl ?aP (fun _ hk => hk.elim) ?aF ?aO ?aB ?aS ?aL ?_
       (case aP => exact Pb _ _ _ (kM x))
       (case aB => exact X1.hb)
       (case aF => exact (fun _ _ => trivial))
       (case aO => exact X1.r5)
       (case aS => exact X1.hb.size)
       (case aL => rw [List.length_map, List.length_take]; omega)
       intro v kW ho hb hg hat
       rw [← Qz kM l5 i x hx] at ho
       obtain ⟨Ao, co, eo⟩ := Kd.yx ho
       subst eo
       generalize ((l5.take (i + 1)).map kM).length = nn at ho ⊢
       have bx1 := qx X1.bx hg (Kd.uX X1.r5 X1.bx (by decide))
       have Vo := qx X1.bf hg (Kd.uX X1.r5 X1.bf (by decide))
       have X3 := zy.mk (X1.zXZ hg ho hb (by decide) (by decide) (by decide) (by decide) (by decide) (by decide))
       refine hK.out _ _ ⟨(zk bx1 5).trans rfl, (zk Vo 5).trans rfl, k0 _ hb, k1 _ hb, k2 _ hb⟩ (fun hHeld => ?_)
       clear hK K
       refine jO (some 99) ?_
       refine qz 23 (some 100) zi ?_
       refine kD (i := 24) (N := none) #[true, true, true, true, true, true, true, true, true, true, true, true, true, true, true, true, true, true, true, true, true, true, true, true, true] rfl rfl (vG zi.out (by kernel_rfl)) (by decide) (fun K hK => ?_)
       have XM : kW.cell? ⟨w.heap.size + 2, 5, none⟩ = some u := (zk bx1 5).trans rfl
       have YV := zw bx1 5
       refine Zy (w1 := ?_) (by rfl) rfl ?_ ?_
       rotate_left
       ·go_simp
        rfl
       refine hK.out _ _ ?_
       clear hK K
       refine vO (xH zi.out (by kernel_rfl)) ?_
       clear X1 X2 hb hg ho hat XM YV bx1 Vo hHeld
       generalize kW.setCell ⟨w.heap.size + 2, 5, none⟩ (.slice Ao nn co : Value) = Yj at X3 ⊢
       try go_wp2
       go_roundw
       case rel => exact ⟨i + 1, (.slice Ao nn co : Value), by first | rfl | (simp; done) | go_num, by omega, X3⟩
       case measure => simp [intOf]; omega
      ·obtain rfl : i = l5.length := by omega
       have q2 : decide ((l5.length : Int) < (l5.length : Int)) = false := decide_eq_false (by omega)
       rw [List.take_length] at X
       clear HX
       obtain ⟨UQ, UJ, eo5⟩ := Kd.yx X.r5
       subst eo5
       generalize HM5 : l5.map kM = m5 at X
       have y0 : wr.cell? ⟨w.heap.size + 2, 0, none⟩ = some (.string a) := (zk X.bx 0).trans rfl; have y1 : wr.cell? ⟨w.heap.size + 2, 1, none⟩ = some (.bool b) := (zk X.bx 1).trans rfl; have y2 : wr.cell? ⟨w.heap.size + 2, 2, none⟩ = some (.int .i64 c) := (zk X.bx 2).trans rfl; have y3 : wr.cell? ⟨w.heap.size + 2, 3, none⟩ = some (.slice QW m3.length Qa) := (zk X.bx 3).trans rfl; have y4 : wr.cell? ⟨w.heap.size + 2, 4, none⟩ = some (.slice Vp m4.length Vr) := (zk X.bx 4).trans rfl; have y5 : wr.cell? ⟨w.heap.size + 2, 5, none⟩ = some (.slice UQ m5.length UJ) := (zk X.bx 5).trans rfl
       have z0 : wr.cell? ⟨w.heap.size + 1, 0, none⟩ = some (.string (⟨#[]⟩ : ByteArray)) := (zk X.br 0).trans rfl; have zf0 := zw X.br 0; have z1 : wr.cell? ⟨w.heap.size + 1, 1, none⟩ = some (.bool false) := (zk X.br 1).trans rfl; have zf1 := zw X.br 1; have z2 : wr.cell? ⟨w.heap.size + 1, 2, none⟩ = some (.int .i64 0) := (zk X.br 2).trans rfl; have zf2 := zw X.br 2; have z3 : wr.cell? ⟨w.heap.size + 1, 3, none⟩ = some (.slice none 0 0) := (zk X.br 3).trans rfl; have zf3 := zw X.br 3; have z4 : wr.cell? ⟨w.heap.size + 1, 4, none⟩ = some (.slice none 0 0) := (zk X.br 4).trans rfl; have zf4 := zw X.br 4; have z5 : wr.cell? ⟨w.heap.size + 1, 5, none⟩ = some (.slice none 0 0) := (zk X.br 5).trans rfl; have zf5 := zw X.br 5
       have HX := zy.mk X
       clear X
       go_wp2
       refine bodyPost_ret (results_cell_row rfl _ _ (w.heap.size + 1) 44 #[.string a, .bool b, .int .i64 c, .slice QW m3.length Qa, .slice Vp m4.length Vr, .slice UQ m5.length UJ] (0, 0) _ rfl (zzT HX.out.br (.string a) (.bool b) (.int .i64 c) (.slice QW m3.length Qa) (.slice Vp m4.length Vr) (.slice UQ m5.length UJ)) Tryz.underlying44 rfl (by kernel_rfl)) rfl ?_
       rw [HM3, HM4, HM5]
       exact ⟨_, _, _, rfl, Ph HX.out.r3 HX.out.br (by decide) (.string a) (.bool b) (.int .i64 c) (.slice QW m3.length Qa) (.slice Vp m4.length Vr) (.slice UQ m5.length UJ), Ph HX.out.r4 HX.out.br (by decide) (.string a) (.bool b) (.int .i64 c) (.slice QW m3.length Qa) (.slice Vp m4.length Vr) (.slice UQ m5.length UJ), Ph HX.out.r5 HX.out.br (by decide) (.string a) (.bool b) (.int .i64 c) (.slice QW m3.length Qa) (.slice Vp m4.length Vr) (.slice UQ m5.length UJ), fD HX.out.hb (by omega) (.string a) (.bool b) (.int .i64 c) (.slice QW m3.length Qa) (.slice Vp m4.length Vr) (.slice UQ m5.length UJ)⟩
end Go.Proofs.YtaifemkokfoadaaGreatDoor
namespace Go.Proofs.YtaifemkokfoadaaGreatDoor
open Go.RowKit Go.Shelf Go.Proofs.zx.zK Go.Proofs.zx.zU Go.Proofs.zx.zN Go.Proofs.YtaifemkokfoadaaGreatDoor.PX
def QB (l : List qw) (n : ByteArray) : Bool := l.any fun x => x.f0.toList == n.toList
end Go.Proofs.YtaifemkokfoadaaGreatDoor
namespace Go.Proofs.YtaifemkokfoadaaGreatDoor
open Go.RowKit Go.Proofs.zx.zK Go.Proofs.zx.zN Go.Proofs.YtaifemkokfoadaaGreatDoor.PX
set_option linter.unusedSimpArgs false
set_option linter.unusedVariables false
theorem zzV (l : List qw) (i : Nat) (h : i < l.length) : zS (l.map jG) (i : Int) = jG l[i] := by simp [zS, List.getD_eq_getElem?_getD, h]
theorem zzK (l : List qh) (i : Nat) (h : i < l.length) : vP (l.map kL) (i : Int) = kL l[i] := by simp [vP, List.getD_eq_getElem?_getD, h]
theorem zzY (l : List xq) (i : Nat) (h : i < l.length) : vJ (l.map kM) (i : Int) = kM l[i] := by simp [vJ, List.getD_eq_getElem?_getD, h]
theorem zx0 (l : List qh) (i : Nat) (h : i < l.length) : qO l (i : Int) = l[i] := by simp [qO, List.getD_eq_getElem?_getD, h]
theorem zx1 (l : List xq) (i : Nat) (h : i < l.length) : xk l (i : Int) = l[i] := by simp [xk, List.getD_eq_getElem?_getD, h]
theorem VZ (l : List qw) (n : ByteArray) : jd (l.map jG) n = QB l n := by
 unfold jd QB
 rw [List.any_map]; rfl
theorem Ui (l : List qw) (ha : Asc l) (n : ByteArray) : QB l n = (Zw l n).2 := by
 rw [KX l ha n]
 unfold QB
 refine List.any_congr rfl (fun x => ?_)
 by_cases h : x.f0 = n
 ·rw [h]; simp
 ·rw [decide_eq_false h]
  exact beq_eq_false_iff_ne.2 (fun e => h (Jy.1 e))
theorem UN (a b c d : ByteArray) : Xt a b c d = true ↔ Jp (vL a c) (vL b d) < 0 := by
 unfold Xt Jp
 by_cases h0 : a = c
 ·subst h0
  have h1 : ¬ Op.bytesLess a.toList a.toList = true := by rw [Vu]; exact List.lt_irrefl _
  have h2 : Op.bytesLess a.toList a.toList = false := by simpa using h1
  rw [Wp, if_pos rfl, h2, Bool.false_or, beq_self_eq_true, Bool.true_and, ZE, Vu]
 ·rw [if_neg (fun e => h0 (eY.1 e)), ZE, ← Vu]
  have h1 : (a.toList == c.toList) = false := beq_eq_false_iff_ne.2 (fun e => h0 (Jy.1 e))
  rw [h1, Bool.false_and, Bool.or_false]
theorem WA {α : Type} (l : List α) (P : α → Prop) : (∀ x ∈ l, P x) ↔ ∀ (i : Nat) (h : i < l.length), P l[i] := by
 constructor
 ·intro h i hi; exact h _ (List.getElem_mem hi)
 ·intro h x hx
  obtain ⟨i, hi, rfl⟩ := List.getElem_of_mem hx
  exact h i hi
theorem QC {f : Nat → Bool} {n : Nat} : (List.range n).all f = true ↔ ∀ i, i < n → f i = true := by
 rw [List.all_eq_true]
 exact ⟨fun h i hi => h i (List.mem_range.2 hi), fun h i hi => h i (List.mem_range.1 hi)⟩
theorem Ux {c : Nat → Nat → Int} {n : Nat} : wZ c n = true ↔ ∀ i, i + 1 < n → c i (i + 1) < 0 := by
 unfold wZ
 rw [QC]
 exact ⟨fun h i hi => of_decide_eq_true (h i (by omega)), fun h i hi => decide_eq_true (h i (by omega))⟩
theorem zqz (l : List qw) : (List.range l.length).all (Xi (l.map jG)) = true ↔ l.any XP = false ∧ wZ (fun i j => Xe (qV l (i : Int)) (qV l (j : Int))) l.length = true := by
 rw [QC, Ux, List.any_eq_false, WA]
 constructor
 ·intro h
  refine ⟨fun i hi => ?_, fun i hi => ?_⟩
  ·have h1 := h i hi
   unfold Xi at h1
   rw [zzV l i hi] at h1
   simp only [Bool.and_eq_true, Bool.not_eq_true'] at h1
   unfold XP
   have e : ZP l[i].f1 = ku (jG l[i]).f1 := rfl
   rw [e, h1.2.1, Bool.or_false]
   have e2 : kS l[i].f0.data.toList = true := h1.1
   rw [e2]; simp
  ·have h1 := h (i + 1) hi
   unfold Xi at h1
   rw [zzV l (i + 1) hi, show (((i + 1 : Nat) : Int) - 1) = (i : Int) by omega, zzV l i (by omega), decide_eq_false (by omega : ¬ i + 1 = 0), Bool.false_or] at h1
   simp only [Bool.and_eq_true] at h1
   show vL _ _ < 0
   rw [Jw l i (by omega), Jw l (i + 1) hi, ZE, ← Vu]
   exact h1.2.2
 ·rintro ⟨h1, h2⟩ i hi
  unfold Xi
  have h3 := h1 i hi
  unfold XP at h3
  simp only [Bool.or_eq_true, not_or, Bool.not_eq_true, Bool.not_eq_false'] at h3
  rw [zzV l i hi]
  have e2 : kS (jG l[i]).f0.data.toList = true := h3.1
  have e3 : ku (jG l[i]).f1 = false := h3.2
  rw [e2, e3, Bool.true_and, Bool.not_false, Bool.true_and]
  cases i with
  | zero => rfl
  | succ m =>
   have h4 : vL _ _ < 0 := h2 m hi
   rw [Jw l m (by omega), Jw l (m + 1) hi, ZE, ← Vu] at h4
   rw [decide_eq_false (by omega : ¬ m + 1 = 0), Bool.false_or, show (((m + 1 : Nat) : Int) - 1) = (m : Int) by omega, zzV l m (by omega)]
   exact h4
theorem zqq (l3 : List qw) (ha : Asc l3) (l : List qh) : (List.range l.length).all (Xl (l3.map jG) (l.map kL)) = true ↔ l.any (Q0 l3) = false ∧ wZ (fun i j => cmpL (qO l (i : Int)) (qO l (j : Int))) l.length = true := by
 have hb : ∀ x : qh, Q0 l3 x = false ↔ QB l3 x.f0 = true ∧ QB l3 x.f1 = true ∧ QB l3 x.f2 = true := by
  intro x
  unfold Q0 XR
  rw [Ui l3 ha, Ui l3 ha, Ui l3 ha]
  simp
 rw [QC, Ux, List.any_eq_false, WA]
 constructor
 ·intro h
  refine ⟨fun i hi => ?_, fun i hi => ?_⟩
  ·have h1 := h i hi
   unfold Xl at h1
   rw [zzK l i hi] at h1
   simp only [Bool.and_eq_true, VZ] at h1
   rw [Bool.not_eq_true]
   exact (hb l[i]).2 ⟨h1.1, h1.2.1, h1.2.2.1⟩
  ·have h1 := h (i + 1) hi
   unfold Xl at h1
   rw [zzK l (i + 1) hi, show (((i + 1 : Nat) : Int) - 1) = (i : Int) by omega, zzK l i (by omega), decide_eq_false (by omega : ¬ i + 1 = 0), Bool.false_or] at h1
   simp only [Bool.and_eq_true] at h1
   have h2 := (UN _ _ _ _).1 h1.2.2.2
   rw [zx0 l i (by omega), zx0 l (i + 1) hi]
   exact h2
 ·rintro ⟨h1, h2⟩ i hi
  unfold Xl
  have h3 := (hb l[i]).1 (by simpa using h1 i hi)
  rw [zzK l i hi, VZ, VZ, VZ]
  have e0 : QB l3 (kL l[i]).f0 = true := h3.1
  have e1 : QB l3 (kL l[i]).f1 = true := h3.2.1
  have e2 : QB l3 (kL l[i]).f2 = true := h3.2.2
  rw [e0, e1, e2, Bool.true_and, Bool.true_and, Bool.true_and]
  cases i with
  | zero => rfl
  | succ m =>
   have h4 := h2 m hi
   rw [zx0 l m (by omega), zx0 l (m + 1) hi] at h4
   rw [decide_eq_false (by omega : ¬ m + 1 = 0), Bool.false_or, show (((m + 1 : Nat) : Int) - 1) = (m : Int) by omega, zzK l m (by omega)]
   exact (UN _ _ _ _).2 h4
theorem zQg (l3 : List qw) (ha : Asc l3) (l : List xq) : (List.range l.length).all (Y2 (l3.map jG) (l.map kM)) = true ↔ l.any (Yu l3) = false ∧ wZ (fun i j => QT (xk l (i : Int)) (xk l (j : Int))) l.length = true := by
 have hb : ∀ x : xq, Yu l3 x = false ↔ QB l3 x.f0 = true ∧ QB l3 x.f1 = true ∧ ¬ x.f2 = 0 ∧ ¬ x.f2 < -500 ∧ ¬ 500 < x.f2 := by
  intro x
  unfold Yu XR
  rw [Ui l3 ha, Ui l3 ha]
  simp only [Bool.or_eq_false_iff, decide_eq_false_iff_not, Bool.not_eq_false', List.all_cons, List.all_nil, Bool.and_true, Bool.and_eq_true]
  constructor
  ·rintro ⟨p1, p2, p3, p4, p5⟩; exact ⟨p4, p5, p1, p2, p3⟩
  ·rintro ⟨p4, p5, p1, p2, p3⟩; exact ⟨p1, p2, p3, p4, p5⟩
 rw [QC, Ux, List.any_eq_false, WA]
 constructor
 ·intro h
  refine ⟨fun i hi => ?_, fun i hi => ?_⟩
  ·have h1 := h i hi
   unfold Y2 at h1
   rw [zzY l i hi] at h1
   simp only [Bool.and_eq_true, VZ, Bool.not_eq_true', decide_eq_false_iff_not] at h1
   rw [Bool.not_eq_true]
   exact (hb l[i]).2 ⟨h1.1, h1.2.1, h1.2.2.1, h1.2.2.2.1, h1.2.2.2.2.1⟩
  ·have h1 := h (i + 1) hi
   unfold Y2 at h1
   rw [zzY l (i + 1) hi, show (((i + 1 : Nat) : Int) - 1) = (i : Int) by omega, zzY l i (by omega), decide_eq_false (by omega : ¬ i + 1 = 0), Bool.false_or] at h1
   simp only [Bool.and_eq_true] at h1
   have h2 := (UN _ _ _ _).1 h1.2.2.2.2.2
   rw [zx1 l i (by omega), zx1 l (i + 1) hi]
   exact h2
 ·rintro ⟨h1, h2⟩ i hi
  unfold Y2
  have h3 := (hb l[i]).1 (by simpa using h1 i hi)
  rw [zzY l i hi, VZ, VZ]
  have e0 : QB l3 (kM l[i]).f0 = true := h3.1
  have e1 : QB l3 (kM l[i]).f1 = true := h3.2.1
  have e2 : decide ((kM l[i]).f2 = 0) = false := decide_eq_false h3.2.2.1
  have e3 : decide ((kM l[i]).f2 < -500) = false := decide_eq_false h3.2.2.2.1
  have e4 : decide (500 < (kM l[i]).f2) = false := decide_eq_false h3.2.2.2.2
  rw [e0, e1, e2, e3, e4, Bool.true_and, Bool.true_and, Bool.not_false, Bool.true_and, Bool.true_and, Bool.true_and]
  cases i with
  | zero => rfl
  | succ m =>
   have h4 := h2 m hi
   rw [zx1 l m (by omega), zx1 l (m + 1) hi] at h4
   rw [decide_eq_false (by omega : ¬ m + 1 = 0), Bool.false_or, show (((m + 1 : Nat) : Int) - 1) = (m : Int) by omega, zzY l m (by omega)]
   exact (UN _ _ _ _).2 h4
theorem zx2 (a : ByteArray) (c : Int) (l3 : List qw) (l4 : List qh) (l5 : List xq) : pG a c (l3.map jG) (l4.map kL) (l5.map kM) = uw a c l3 l4 l5 := by
 unfold pG uw
 rw [List.length_map, List.length_map, List.length_map]
 have e0 : ku c = ZP c := rfl
 by_cases h0 : (!kT a.data.toList || (ZP c || (decide (400 < l3.length) || (decide (50 < l4.length) || decide (500 < l5.length))))) = true
 ·rw [if_pos h0, e0]
  simp only [Bool.or_eq_true, Bool.not_eq_true', decide_eq_true_eq] at h0
  rcases h0 with h | h | h | h | h
  ·rw [h]; rfl
  ·rw [h]; simp
  ·simp [show ¬ l3.length ≤ 400 by omega]
  ·simp [show ¬ l4.length ≤ 50 by omega]
  ·simp [show ¬ l5.length ≤ 500 by omega]
 ·rw [if_neg h0, e0]
  simp only [Bool.or_eq_true, Bool.not_eq_true', decide_eq_true_eq, not_or, Bool.not_eq_false, Bool.not_eq_true] at h0
  rw [h0.1, h0.2.1, decide_eq_true (by omega : l3.length ≤ 400), decide_eq_true (by omega : l4.length ≤ 50), decide_eq_true (by omega : l5.length ≤ 500), Bool.not_false, Bool.true_and, Bool.true_and, Bool.true_and, Bool.true_and, Bool.true_and]
  by_cases h1 : (l3.any XP || !wZ (fun i j => Xe (qV l3 (i : Int)) (qV l3 (j : Int))) l3.length) = true
  ·rw [if_pos h1]
   have : ¬ (List.range l3.length).all (Xi (l3.map jG)) = true := by
    rw [zqz]
    rintro ⟨p, q⟩
    rw [p, q] at h1; cases h1
   rw [Bool.not_eq_true] at this
   rw [this, Bool.false_and]
  ·rw [if_neg h1]
   simp only [Bool.or_eq_true, Bool.not_eq_true', not_or, Bool.not_eq_true, Bool.not_eq_false] at h1
   rw [(zqz l3).2 h1, Bool.true_and]
   have ha := zvg h1.2
   by_cases h2 : (l4.any (Q0 l3) || !wZ (fun i j => cmpL (qO l4 (i : Int)) (qO l4 (j : Int))) l4.length) = true
   ·rw [if_pos h2]
    have : ¬ (List.range l4.length).all (Xl (l3.map jG) (l4.map kL)) = true := by
     rw [zqq l3 ha]
     rintro ⟨p, q⟩
     rw [p, q] at h2; cases h2
    rw [Bool.not_eq_true] at this
    rw [this, Bool.false_and]
   ·rw [if_neg h2]
    simp only [Bool.or_eq_true, Bool.not_eq_true', not_or, Bool.not_eq_true, Bool.not_eq_false] at h2
    rw [(zqq l3 ha l4).2 h2, Bool.true_and, Bool.eq_iff_iff, zQg l3 ha l5, Bool.and_eq_true, Bool.not_eq_true']
end Go.Proofs.YtaifemkokfoadaaGreatDoor
namespace Go.Proofs.YtaifemkokfoadaaGreatDoor
open Go.RowKit Go.Proofs.zx.zK Go.Proofs.zx.zU Go.Proofs.zx.zN Go.Proofs.YtaifemkokfoadaaGreatDoor.PX
set_option linter.unusedSimpArgs false
set_option linter.unusedVariables false
def nmG (i : Nat) : ByteArray := bar [UInt8.ofNat (97 + i)]
theorem zvi (i : Nat) (h : i < 8) : strOfNums [wrap64 (97 + (i : Int)) % 256] = nmG i := by
 rw [YA (by omega) (by omega), X9, show (97 + (i : Int)) % 256 = ((97 + i : Nat) : Int) by omega, Int.toNat_natCast]; rfl
theorem zJn : ∀ i : Fin 8, ∀ j : Fin 8, j < i → [UInt8.ofNat (97 + j.val)] < [UInt8.ofNat (97 + i.val)] := by decide
theorem zkN {i j : Nat} (hi : i < 8) (h : j < i) : (nmG j).toList < (nmG i).toList := by
 unfold nmG
 rw [Zg, Zg]
 exact zJn ⟨i, hi⟩ ⟨j, by omega⟩ h
theorem zJo : ∀ i : Fin 8, kS [UInt8.ofNat (97 + i.val)] = true := by decide
def mU (i : Nat) (L : List qJ) : Prop := (∀ x ∈ L, ∃ j, j < i ∧ x.f0 = nmG j) ∧ L.Pairwise (fun x y => x.f0.toList < y.f0.toList) ∧ ∀ x ∈ L, 0 ≤ x.f1 ∧ x.f1 ≤ 3000
def bC (L : List qJ) (n : ByteArray) : Prop := ∃ y ∈ L, y.f0 = n
def nk (L : List qJ) (i : Nat) (n : ByteArray) : Prop := ∃ a, a < i ∧ ∃ h : a < L.length, L[a].f0 = n
def eO (L : List qJ) (i : Nat) (l : List xK) : Prop := (∀ x ∈ l, nk L i x.f0 ∧ bC L x.f1 ∧ bC L x.f2) ∧ l.Pairwise (fun x y => x.f0.toList < y.f0.toList)
def bD (L : List qJ) (i : Nat) (l : List xY) : Prop := (∀ x ∈ l, nk L i x.f0 ∧ bC L x.f1 ∧ x.f2 ≠ 0 ∧ -500 ≤ x.f2 ∧ x.f2 ≤ 500) ∧ l.Pairwise (fun x y => x.f0.toList < y.f0.toList)
theorem nk.more {L : List qJ} {i : Nat} {n : ByteArray} (h : nk L i n) : nk L (i + 1) n := by
 obtain ⟨a, h1, h2, h3⟩ := h
 exact ⟨a, by omega, h2, h3⟩
theorem nk.in {L : List qJ} {i : Nat} {n : ByteArray} (h : nk L i n) : bC L n := by
 obtain ⟨a, h1, h2, h3⟩ := h
 exact ⟨L[a], List.getElem_mem h2, h3⟩
theorem nk.less {L : List qJ} (hp : L.Pairwise (fun x y => x.f0.toList < y.f0.toList)) {i : Nat} (hi : i < L.length) {n : ByteArray} (h : nk L i n) : n.toList < L[i].f0.toList := by
 obtain ⟨a, h1, h2, h3⟩ := h
 rw [← h3]
 exact List.pairwise_iff_getElem.1 hp a i h2 hi h1
theorem WB {α : Type} {R : α → α → Prop} {l : List α} {x : α} (h : l.Pairwise R) (hx : ∀ y ∈ l, R y x) : (l ++ [x]).Pairwise R :=
 List.pairwise_append.2 ⟨h, List.pairwise_singleton _ _, fun y hy z hz => by rw [List.mem_singleton.1 hz]; exact hx y hy⟩
theorem zJp (L : List qJ) (i : Nat) (h : i < L.length) : zS L (i : Int) = L[i] := by simp [zS, List.getD_eq_getElem?_getD, h]
theorem zvl (L : List qJ) (q : Int) (h0 : 0 ≤ q) (h1 : q < (L.length : Int)) : bC L (zS L q).f0 := by
 obtain ⟨m, rfl⟩ := Int.eq_ofNat_of_zero_le h0
 rw [zJp L m (by omega)]
 exact ⟨L[m], List.getElem_mem _, rfl⟩
theorem eO.more {L : List qJ} {i : Nat} {l : List xK} (h : eO L i l) : eO L (i + 1) l := ⟨fun x hx => ⟨(h.1 x hx).1.more, (h.1 x hx).2⟩, h.2⟩
theorem bD.more {L : List qJ} {i : Nat} {l : List xY} (h : bD L i l) : bD L (i + 1) l := ⟨fun x hx => ⟨(h.1 x hx).1.more, (h.1 x hx).2⟩, h.2⟩
theorem eO.add {L : List qJ} (hp : L.Pairwise (fun x y => x.f0.toList < y.f0.toList)) {i : Nat} (hi : i < L.length) {l : List xK} (h : eO L i l) {x : xK} (h0 : x.f0 = L[i].f0) (h1 : bC L x.f1) (h2 : bC L x.f2) : eO L (i + 1) (l ++ [x]) := by
 refine ⟨fun y hy => ?_, WB h.2 (fun y hy => by rw [h0]; exact (h.1 y hy).1.less hp hi)⟩
 rcases List.mem_append.1 hy with q | q
 ·exact ⟨(h.1 y q).1.more, (h.1 y q).2⟩
 ·rw [List.mem_singleton.1 q]; exact ⟨⟨i, by omega, hi, h0.symm⟩, h1, h2⟩
theorem bD.add {L : List qJ} (hp : L.Pairwise (fun x y => x.f0.toList < y.f0.toList)) {i : Nat} (hi : i < L.length) {l : List xY} (h : bD L i l) {x : xY} (h0 : x.f0 = L[i].f0) (h1 : bC L x.f1) (h2 : x.f2 ≠ 0 ∧ -500 ≤ x.f2 ∧ x.f2 ≤ 500) : bD L (i + 1) (l ++ [x]) := by
 refine ⟨fun y hy => ?_, WB h.2 (fun y hy => by rw [h0]; exact (h.1 y hy).1.less hp hi)⟩
 rcases List.mem_append.1 hy with q | q
 ·exact ⟨(h.1 y q).1.more, (h.1 y q).2⟩
 ·rw [List.mem_singleton.1 q]; exact ⟨⟨i, by omega, hi, h0.symm⟩, h1, h2⟩
theorem zx3 {n : ByteArray} {c : Int} {L : List qJ} {l4 : List xK} {l5 : List xY} {i : Nat} (hn : kT n.data.toList = true) (hc : 0 ≤ c ∧ c ≤ 3000) (h3 : mU 8 L) (h4 : eO L i l4) (h5 : bD L i l5) (z3 : L.length ≤ 8) (z4 : l4.length ≤ 8) (z5 : l5.length ≤ 8) :
  uw n c (L.map wH) (l4.map YQ) (l5.map YX) = true := by
 have hasc : Asc (L.map wH) := fun i j hi hj hij => by
  rw [List.length_map] at hi hj
  simp only [List.getElem_map]
  exact List.pairwise_iff_getElem.1 h3.2.1 i j hi hj hij
 have hfind : ∀ m, bC L m → (Zw (L.map wH) m).2 = true := fun m hm => by
  obtain ⟨y, hy, rfl⟩ := hm
  rw [KX _ hasc, List.any_eq_true]
  exact ⟨wH y, List.mem_map_of_mem hy, decide_eq_true rfl⟩
 have a3 : (L.map wH).any XP = false := by
  rw [List.any_eq_false]
  intro x hx
  obtain ⟨y, hy, rfl⟩ := List.mem_map.1 hx
  obtain ⟨j, hj, e⟩ := h3.1 y hy
  have hw := h3.2.2 y hy
  have hnm : kS (wH y).f0.data.toList = true := by
   show kS y.f0.data.toList = true
   rw [e]; exact zJo ⟨j, hj⟩
  unfold XP ZP
  rw [hnm, decide_eq_false (by show ¬ y.f1 < 0; omega), decide_eq_false (by show ¬ 3000 < y.f1; omega)]; decide
 have b3 : wZ (fun i j => Xe (qV (L.map wH) (i : Int)) (qV (L.map wH) (j : Int))) (L.map wH).length = true := by
  rw [Ux]
  intro i hi
  rw [rdG _ i (by omega), rdG _ (i + 1) hi]
  exact ZE.2 (hasc i (i + 1) (by omega) hi (by omega))
 have a4 : (l4.map YQ).any (Q0 (L.map wH)) = false := by
  rw [List.any_eq_false]
  intro x hx
  obtain ⟨y, hy, rfl⟩ := List.mem_map.1 hx
  obtain ⟨p, q, r⟩ := h4.1 y hy
  unfold Q0 XR
  simp only [List.all_cons, List.all_nil, Bool.and_true, Bool.not_eq_true', Bool.not_eq_false, Bool.and_eq_true]
  exact ⟨hfind _ p.in, hfind _ q, hfind _ r⟩
 have b4 : wZ (fun i j => cmpL (qO (l4.map YQ) (i : Int)) (qO (l4.map YQ) (j : Int))) (l4.map YQ).length = true := by
  rw [Ux]
  intro i hi
  rw [rdL _ i (by omega), rdL _ (i + 1) hi]
  simp only [List.getElem_map]
  rw [List.length_map] at hi
  have h := ZE.2 (List.pairwise_iff_getElem.1 h4.2 i (i + 1) (by omega) hi (by omega))
  show Jp (vL l4[i].f0 l4[i + 1].f0) (vL l4[i].f1 l4[i + 1].f1) < 0
  unfold Jp
  rw [if_neg (by omega)]; exact h
 have a5 : (l5.map YX).any (Yu (L.map wH)) = false := by
  rw [List.any_eq_false]
  intro x hx
  obtain ⟨y, hy, rfl⟩ := List.mem_map.1 hx
  obtain ⟨p, q, r1, r2, r3⟩ := h5.1 y hy
  unfold Yu XR
  simp only [List.all_cons, List.all_nil, Bool.and_true, Bool.or_eq_true, not_or, Bool.not_eq_true', Bool.not_eq_false, Bool.and_eq_true, decide_eq_true_eq]
  exact ⟨r1, by show ¬ y.f2 < -500; omega, by show ¬ 500 < y.f2; omega, hfind _ p.in, hfind _ q⟩
 have b5 : wZ (fun i j => QT (xk (l5.map YX) (i : Int)) (xk (l5.map YX) (j : Int))) (l5.map YX).length = true := by
  rw [Ux]
  intro i hi
  rw [rdK _ i (by omega), rdK _ (i + 1) hi]
  simp only [List.getElem_map]
  rw [List.length_map] at hi
  have h := ZE.2 (List.pairwise_iff_getElem.1 h5.2 i (i + 1) (by omega) hi (by omega))
  show Jp (vL l5[i].f0 l5[i + 1].f0) (vL l5[i].f1 l5[i + 1].f1) < 0
  unfold Jp
  rw [if_neg (by omega)]; exact h
 unfold uw
 rw [if_neg (by
  rw [hn]
  unfold ZP
  rw [decide_eq_false (by omega : ¬ c < 0), decide_eq_false (by omega : ¬ 3000 < c), decide_eq_false (by rw [List.length_map]; omega), decide_eq_false (by rw [List.length_map]; omega), decide_eq_false (by rw [List.length_map]; omega)]; decide), a3, b3, if_neg (by decide), a4, b4, if_neg (by decide), a5, b5]
 rfl
def OkV (r : ByteArray × Bool × Int × (List qw) × (List qh) × (List xq)) : Prop := uw r.1 r.2.2.1 r.2.2.2.1 r.2.2.2.2.1 r.2.2.2.2.2 = true ∧ r.2.2.2.1.length ≤ 8 ∧ r.2.2.2.2.1.length ≤ 8 ∧ r.2.2.2.2.2.length ≤ 8
theorem zQh (v : Nat) : -500 ≤ wrap64 (Int.tmod (v : Int) 1001 - 500) ∧ wrap64 (Int.tmod (v : Int) 1001 - 500) ≤ 500 := by
 obtain ⟨a, b⟩ := P6 v 1001 (by decide)
 have a' : (0 : Int) ≤ Int.tmod (v : Int) 1001 := a
 have b' : Int.tmod (v : Int) 1001 < 1001 := b
 rw [YA (by omega) (by omega)]
 omega
theorem gv2 (l0 : List Int) (n : ByteArray) (b : Bool) (c : Int) (L : List qJ) (hp : L.Pairwise (fun x y => x.f0.toList < y.f0.toList)) (l4 : List xK) (l5 : List xY) (i : Nat) (hi : i < 8) (hiL : i < L.length) (x7 x9 : ByteArray) (h7 : x7 = L[i].f0) (h9 : bC L x9) (h5 : l5.length ≤ i) (g5 : bD L i l5)
  (ih : ∀ l : List xY, l.length ≤ i + 1 → bD L (i + 1) l → ∃ r, Ev (fun k => zJ.l1 k l0 (L.length : Int) ((i + 1 : Nat) : Int) n b c L l4 l) r ∧ OkV r) :
  ∃ r, Ev (fun k => zJ.j2 k l0 (L.length : Int) (i : Int) x7 x9 n b c L l4 l5) r ∧ OkV r := by
 obtain ⟨v, ev, _⟩ := Vk l0 (i + 16)
 obtain ⟨u, eu, _⟩ := Vk l0 (i + 24)
 have h1 := aw i 1 1 (by omega) rfl (by omega)
 have h16 := aw i 16 16 (by omega) rfl (by omega)
 have h24 := aw i 24 24 (by omega) rfl (by omega)
 by_cases c1 : wrap64 (Int.tmod (v : Int) 1001 - 500) = 0
 ·obtain ⟨r, hr, ok⟩ := ih l5 (by omega) g5.more
  refine ⟨r, Ev.step (fun k => by rw [zJ.j2, h1.out, h16.out, h24.out, ev]) ?_, ok⟩
  exact Zf (zL c1 hr)
 ·by_cases c2 : Int.tmod (u : Int) 2 = 0
  ·obtain ⟨r, hr, ok⟩ := ih (l5 ++ [⟨x7, x9, wrap64 (Int.tmod (v : Int) 1001 - 500)⟩]) (by rw [List.length_append]; simp; omega) (g5.add hp hiL h7 h9 ⟨c1, zQh v⟩)
   have hb : l5.length < 3518437208883 := by omega
   refine ⟨r, Ev.step (fun k => by rw [zJ.j2, h1.out, h16.out, h24.out, ev]) ?_, ok⟩
   exact Zf (qN c1 (mZ eu (zL c2 (zL hb hr))))
  ·obtain ⟨r, hr, ok⟩ := ih l5 (by omega) g5.more
   refine ⟨r, Ev.step (fun k => by rw [zJ.j2, h1.out, h16.out, h24.out, ev]) ?_, ok⟩
   exact Zf (qN c1 (mZ eu (qN c2 hr)))
theorem gv1 (l0 : List Int) (n : ByteArray) (b : Bool) (c : Int) (L : List qJ) (hn : kT n.data.toList = true) (hc : 0 ≤ c ∧ c ≤ 3000) (h3 : mU 8 L) (hL0 : 0 < L.length) (hL : L.length ≤ 8) :
  ∀ d i (l4 : List xK) (l5 : List xY), L.length - i = d → i ≤ L.length → l4.length ≤ i → l5.length ≤ i → eO L i l4 → bD L i l5 → ∃ r, Ev (fun k => zJ.l1 k l0 (L.length : Int) (i : Int) n b c L l4 l5) r ∧ OkV r := by
 intro d
 induction d with
 | zero =>
  intro i l4 l5 hd hi h4 h5 g4 g5
  have hlt : ¬ (i : Int) < (L.length : Int) := by omega
  have hb := fun k => zQK k n b c L l4 l5 hL (by omega) (by omega)
  refine ⟨(n, b, c, L.map wH, l4.map YQ, l5.map YX), Ev.step (fun k => by rw [zJ.l1]) ?_, ?_⟩
  ·exact qN hlt (Ev.congr (fun k => by rw [hb k]; rfl) (Ev.now _))
  ·exact ⟨zx3 hn hc h3 g4 g5 hL (by omega) (by omega), by show (L.map wH).length ≤ 8; rw [List.length_map]; exact hL, by show (l4.map YQ).length ≤ 8; rw [List.length_map]; omega, by show (l5.map YX).length ≤ 8; rw [List.length_map]; omega⟩
 | succ d ih =>
  intro i l4 l5 hd hi h4 h5 g4 g5
  have hlt : (i : Int) < (L.length : Int) := by omega
  have hiL : i < L.length := by omega
  have h0 : (0 : Int) ≤ (i : Int) := by omega
  have hz : ¬ (L.length : Int) = 0 := by omega
  obtain ⟨v, ev, _⟩ := Vk l0 (i + 8)
  obtain ⟨u, eu, _⟩ := Vk l0 (i + 16)
  obtain ⟨v0, v1⟩ := P6 v L.length hL0
  obtain ⟨u0, u1⟩ := P6 u L.length hL0
  have hb : l4.length < 2932031007402 := by omega
  have hl8 : i < 8 := by omega
  have a4 : ∀ x, (l4 ++ [x]).length ≤ i + 1 := fun x => by rw [List.length_append]; simp; omega
  have a4' : l4.length ≤ i + 1 := by omega
  have a1 : L.length - (i + 1) = d := by omega
  have a2 : i + 1 ≤ L.length := by omega
  have h8 := aw i 8 8 (by omega) rfl (by omega)
  have h16 := aw i 16 16 (by omega) rfl (by omega)
  have e0 : (zS L (i : Int)).f0 = L[i].f0 := by rw [zJp L i hiL]
  have nv := zvl L _ v0 v1
  have nu := zvl L _ u0 u1
  by_cases c1 : Int.tmod (v : Int) 4 = 1
  ·obtain ⟨r, hr, ok⟩ := gv2 l0 n b c L h3.2.1 (l4 ++ [⟨(zS L (i : Int)).f0, (zS L (Int.tmod (v : Int) (L.length : Int))).f0, (zS L (Int.tmod (u : Int) (L.length : Int))).f0⟩]) l5 i hl8 hiL (zS L (i : Int)).f0 (zS L (Int.tmod (u : Int) (L.length : Int))).f0 e0 nu h5 g5 (fun l hl gl => ih (i + 1) _ l a1 a2 (a4 _) hl (g4.add h3.2.1 hiL e0 nv nu) gl)
   refine ⟨r, Ev.step (fun k => by rw [zJ.l1, h8.out, h16.out, ev, eu]) ?_, ok⟩
   exact zL hlt (zL h0 (zL hlt (Zf (qN hz (zL v0 (zL v1 (Zf (zL u0 (zL u1 (Zf (zL c1 (zL hb hr))))))))))))
  ·obtain ⟨r, hr, ok⟩ := gv2 l0 n b c L h3.2.1 l4 l5 i hl8 hiL (zS L (i : Int)).f0 (zS L (Int.tmod (u : Int) (L.length : Int))).f0 e0 nu h5 g5 (fun l hl gl => ih (i + 1) _ l a1 a2 a4' hl g4.more gl)
   refine ⟨r, Ev.step (fun k => by rw [zJ.l1, h8.out, h16.out, ev, eu]) ?_, ok⟩
   exact zL hlt (zL h0 (zL hlt (Zf (qN hz (zL v0 (zL v1 (Zf (zL u0 (zL u1 (Zf (qN c1 hr)))))))))))
theorem mU.more {i : Nat} {L : List qJ} (h : mU i L) : mU (i + 1) L := ⟨fun x hx => by obtain ⟨j, a, b⟩ := h.1 x hx; exact ⟨j, by omega, b⟩, h.2⟩
theorem mU.add {i : Nat} {L : List qJ} (hi : i < 8) (h : mU i L) {y : Int} (hy : 0 ≤ y ∧ y ≤ 3000) : mU (i + 1) (L ++ [⟨strOfNums [wrap64 (97 + (i : Int)) % 256], y⟩]) := by
 refine ⟨fun x hx => ?_, WB h.2.1 (fun z hz => ?_), fun x hx => ?_⟩
 ·rcases List.mem_append.1 hx with q | q
  ·obtain ⟨j, a, b⟩ := h.1 x q; exact ⟨j, by omega, b⟩
  ·rw [List.mem_singleton.1 q]; exact ⟨i, by omega, zvi i hi⟩
 ·obtain ⟨j, a, b⟩ := h.1 z hz
  show z.f0.toList < (strOfNums [wrap64 (97 + (i : Int)) % 256]).toList
  rw [b, zvi i hi]; exact zkN hi a
 ·rcases List.mem_append.1 hx with q | q
  ·exact h.2.2 x q
  ·rw [List.mem_singleton.1 q]; exact hy
theorem zvm (v : Nat) : 0 ≤ Int.tmod (v : Int) 3001 ∧ Int.tmod (v : Int) 3001 ≤ 3000 := by
 obtain ⟨a, b⟩ := P6 v 3001 (by decide)
 have a' : (0 : Int) ≤ Int.tmod (v : Int) 3001 := a
 have b' : Int.tmod (v : Int) 3001 < 3001 := b
 omega
theorem gv0 (l0 : List Int) (n : ByteArray) (b : Bool) (c : Int) (hn : kT n.data.toList = true) (hc : 0 ≤ c ∧ c ≤ 3000) :
  ∀ d i (l3 : List qJ), 8 - i = d → i ≤ 8 → l3.length ≤ i → (0 < i → 0 < l3.length) → mU i l3 → ∃ r, Ev (fun k => zJ.l0 k l0 (i : Int) n b c l3) r ∧ OkV r := by
 intro d
 induction d with
 | zero =>
  intro i l3 hd hi h3 hp g3
  have hlt : ¬ (i : Int) < 8 := by omega
  obtain rfl : i = 8 := by omega
  obtain ⟨r, hr, ok⟩ := gv1 l0 n b c l3 hn hc g3 (hp (by omega)) (by omega) _ 0 [] [] rfl (by omega) (Nat.le_refl _) (Nat.le_refl _) ⟨fun x hx => (by cases hx), List.Pairwise.nil⟩ ⟨fun x hx => (by cases hx), List.Pairwise.nil⟩
  refine ⟨r, Ev.step (fun k => by rw [zJ.l0]) ?_, ok⟩
  exact qN hlt hr
 | succ d ih =>
  intro i l3 hd hi h3 hp g3
  have hlt : (i : Int) < 8 := by omega
  obtain ⟨v, ev, _⟩ := Vk l0 i
  have hb : l3.length < 5864062014805 := by omega
  have a3 : ∀ x, (l3 ++ [x]).length ≤ i + 1 := fun x => by rw [List.length_append]; simp; omega
  have a3' : l3.length ≤ i + 1 := by omega
  have a5 : ∀ x, 0 < i + 1 → 0 < (l3 ++ [x]).length := fun x _ => by rw [List.length_append]; simp
  have a6 : ¬ (i : Int) < 2 → 0 < i + 1 → 0 < l3.length := fun h _ => hp (by omega)
  have a1 : 8 - (i + 1) = d := by omega
  have a2 : i + 1 ≤ 8 := by omega
  have aN := fun (y : Int) (hy : 0 ≤ y ∧ y ≤ 3000) => g3.add (by omega : i < 8) hy
  have h1 := aw i 1 1 (by omega) rfl (by omega)
  by_cases c1 : Int.tmod (v : Int) 3 = 0
  ·by_cases c2 : (i : Int) < 2
   ·obtain ⟨r, hr, ok⟩ := ih (i + 1) (l3 ++ [⟨strOfNums [wrap64 (97 + (i : Int)) % 256], Int.tmod (v : Int) 3001⟩]) a1 a2 (a3 _) (a5 _) (aN _ (zvm v))
    refine ⟨r, Ev.step (fun k => by rw [zJ.l0, h1.out, ev]) ?_, ok⟩
    exact zL hlt (Zf (zL c1 (zL c2 (Zf (zL hb hr)))))
   ·obtain ⟨r, hr, ok⟩ := ih (i + 1) l3 a1 a2 a3' (a6 c2) g3.more
    refine ⟨r, Ev.step (fun k => by rw [zJ.l0, h1.out, ev]) ?_, ok⟩
    exact zL hlt (Zf (zL c1 (qN c2 hr)))
  ·obtain ⟨r, hr, ok⟩ := ih (i + 1) (l3 ++ [⟨strOfNums [wrap64 (97 + (i : Int)) % 256], Int.tmod (v : Int) 3001⟩]) a1 a2 (a3 _) (a5 _) (aN _ (zvm v))
   refine ⟨r, Ev.step (fun k => by rw [zJ.l0, h1.out, ev]) ?_, ok⟩
   exact zL hlt (Zf (qN c1 (Zf (zL hb hr))))
theorem zzF (l0 : List Int) : ∃ r, Ev (fun k => zJ.f k l0) r ∧ OkV r := by
 obtain ⟨v, ev, _⟩ := Vk l0 0
 obtain ⟨r, hr, ok⟩ := gv0 l0 (⟨#[71]⟩ : ByteArray) ((Int.tmod (v : Int) 2) == 1) 200 (by decide) ⟨by decide, by decide⟩ _ 0 [] rfl (by omega) (Nat.le_refl _) (fun h => absurd h (Nat.lt_irrefl _)) ⟨fun x hx => absurd hx (List.not_mem_nil), List.Pairwise.nil, fun x hx => absurd hx (List.not_mem_nil)⟩
 have e0 : yj.f l0 0 = some (v : Int) := ev
 refine ⟨r, ?_, ok⟩
 refine Ev.congr (fun k => by rw [zJ.f, e0]) ?_
 exact Zf hr
end Go.Proofs.YtaifemkokfoadaaGreatDoor
namespace Go.Proofs.YtaifemkokfoadaaGreatDoor
open Go.RowKit Go.Proofs.zx.zK Go.Proofs.zx.zU Go.Proofs.zx.zN
set_option linter.unusedSimpArgs false
set_option linter.unusedVariables false
namespace RW
section
variable {P : Program} {ops : Array Oper} {Q : Exit → Act → World → Prop} {md : Region.Mode} {S : World → Prop} {ds : List Nat} {T : Bool × List (List Nat × List Nat)} {oi : Oper} {v : Value} {fuel : Nat} {l : Array Bool} {a a' : Act} {w : World}
theorem rP (i : Nat) (N : Option Tmp) (HT : zy (vB md ops = T)) (h : yg P md ops Q S ds fuel (l.setIfInBounds i true) a' w)
  (hi : ops[i]? = some oi := by exact rfl) (hN : oi.dst = N := by exact rfl) (hc : bO T l.toList (l.setIfInBounds i true).toList i = true := by kernel_rfl) (hQ : ∀ c a w, Q (.panic c) (a.put oi.dst v) w → Q (.panic c) a w := by exact fun _ _ _ h => h)
  (hg : Region.wanted oi (yielded ops a.tmps) = true := by rfl) (hy : ∀ w, (execOp a.eval oi).run P w = .ok (.value v) w := by intro w'; go_simp; with_reducible rfl) (ha : a.put N v = a' := by simp only [Act.put, List.setIfInBounds_toArray, List.set_cons_zero, List.set_cons_succ, wJ, wV]; rfl) :
  yg P md ops Q S ds (fuel + 1) l a w := jh _ hi hN (uF HT.out hc) hQ (Or.inl ⟨hg, hy⟩) ha h
theorem rU (i : Nat) (N : Option Tmp) (HT : zy (vB md ops = T)) (h : yg P md ops Q S ds fuel (l.setIfInBounds i true) a' w)
  (hi : ops[i]? = some oi := by exact rfl) (hN : oi.dst = N := by exact rfl) (hc : bO T l.toList (l.setIfInBounds i true).toList i = true := by kernel_rfl) (hQ : ∀ c a w, Q (.panic c) (a.put oi.dst undef) w → Q (.panic c) a w := by exact fun _ _ _ h => h)
  (hg : Region.wanted oi (yielded ops a.tmps) = false := by rfl) (ha : a.put N undef = a' := by simp only [Act.put, List.setIfInBounds_toArray, List.set_cons_zero, List.set_cons_succ, wJ, wV]; rfl) :
  yg P md ops Q S ds (fuel + 1) l a w := jh _ hi hN (uF HT.out hc) hQ (Or.inr ⟨hg, rfl⟩) ha h
theorem rT {B : List Nat} (i : Nat) (N : Option Tmp) (HT : zy (vB md ops = T)) (HW : zy (vU T.2 B = true)) (hS : S w) (h : yg P md ops Q S ds fuel (l.setIfInBounds i true) a' w)
  (hi : ops[i]? = some oi := by exact rfl) (hN : oi.dst = N := by exact rfl) (hc : gI T B ds l.toList (l.setIfInBounds i true).toList i = true := by kernel_rfl) (hQ : ∀ c a w, Q (.panic c) (a.put oi.dst v) w → Q (.panic c) a w := by exact fun _ _ _ h => h)
  (hg : Region.wanted oi (yielded ops a.tmps) = true := by rfl) (hy : ∀ w, S w → (execOp a.eval oi).run P w = .ok (.value v) w := by intro w' hs_; go_simp; with_reducible rfl) (ha : a.put N v = a' := by simp only [Act.put, List.setIfInBounds_toArray, List.set_cons_zero, List.set_cons_succ, wJ, wV]; rfl) :
  yg P md ops Q S ds (fuel + 1) l a w := UC _ hi hN (bP HT.out HW.out hc) hQ (Or.inl ⟨hg, hy⟩) hS ha h
theorem rS {X : World} {B : List Nat} {n id : Nat} (HS : zy (∀ W, Below X.heap.size X W → S W)) (hT : vB .any ops = T) (hB : vU T.2 B = true) (hm : P.follows .mixedOrders = true) (hn : ops.size = n) (hl : Array.replicate n false = l)
  (h : ∀ w, zy (Below X.heap.size X w) → zy (vB .any ops = T) → zy (vU T.2 B = true) → S w → yg P .any ops Q S [] n l a w) : (Code.region id ops true).wp P Q a X :=
 jU _ hm hn hl (HS.out _ (Below.refl _ _).drew) fun hH => h _ ⟨(Below.refl _ _).drew⟩ ⟨hT⟩ ⟨hB⟩ hH
theorem rSD {X : World} {B : List Nat} {n id : Nat} (ds : List Nat) (HS : zy (∀ W, Below X.heap.size X W → S W)) (hT : vB .any ops = T) (hB : vU T.2 B = true) (hm : P.follows .mixedOrders = true) (hn : ops.size = n) (hl : Array.replicate n false = l)
  (h : ∀ w, zy (Below X.heap.size X w) → zy (vB .any ops = T) → zy (vU T.2 B = true) → S w → yg P .any ops Q S ds n l a w) : (Code.region id ops true).wp P Q a X :=
 jU _ hm hn hl (HS.out _ (Below.refl _ _).drew) fun hH => h _ ⟨(Below.refl _ _).drew⟩ ⟨hT⟩ ⟨hB⟩ hH
theorem rC {X : World} {f : FuncId} {fn : Func} {WX : Array Operand} {ts : Array TypeId} {args : Array Value} (i : Nat) (N : Option Tmp) (HT : zy (vB md ops = T)) (HS : zy (∀ W, Below X.heap.size X W → S W)) (HY : zy (Below X.heap.size X w)) (hf : P.funcs[f]? = some fn)
  (hcall : Calls P f args w fun e w' => e = .returned v ∧ Below w.heap.size w w') (h : ∀ w', zy (Below X.heap.size X w') → S w' → yg P md ops Q S ds fuel (l.setIfInBounds i true) a' w') (hname : (fn.name == "runtime.NumGoroutine") = false)
  (hi : ops[i]? = some oi := by exact rfl) (hN : oi.dst = N := by exact rfl) (hc : (Xm T.2 l.toList == [i] && l.toList.set i true == (l.setIfInBounds i true).toList) = true := by kernel_rfl) (hd : i ∉ ds := by decide) (hb : fn.body.isSome = true := by exact rfl) (hw : Region.wanted oi (yielded ops a.tmps) = true := by rfl)
  (hop : oi.op = .call { callee := .value (.func f), args := WX, argTypes := ts } := by exact rfl) (hargs : WX.map a.eval = args := by (try simp only [List.map_toArray, List.map_cons, List.map_nil]); first | done | rfl) (ha : a.put N v = a' := by simp only [Act.put, List.setIfInBounds_toArray, List.set_cons_zero, List.set_cons_succ, wJ, wV]; rfl) :
  yg P md ops Q S ds (fuel + 1) l a w := by
 refine XI _ hi hN (vG HT.out hc) hd fun K hK => ?_
 refine QV hf hname hb args hw hN hop hargs (hcall.mono ?_)
 rintro e w' ⟨rfl, hk⟩
 have h2 := HY.out.trans (hk.mono HY.out.size)
 refine ⟨_, rfl, hK.out _ _ (HS.out _ h2) fun hH => ?_⟩
 rw [ha]
 exact h _ ⟨h2⟩ hH
end
end RW
end Go.Proofs.YtaifemkokfoadaaGreatDoor
namespace Go.Proofs.YtaifemkokfoadaaGreatDoor
open Go.RowKit Go.Proofs.zx.zK Go.Proofs.zx.zU Go.Proofs.zx.zN Go.Proofs.YtaifemkokfoadaaGreatDoor.PX
set_option linter.unusedSimpArgs false
set_option linter.unusedVariables false
section
variable {P : Program} {ops : Array Oper} {Q : Exit → Act → World → Prop} {md : Region.Mode} {S : World → Prop} {ds : List Nat} {T : Bool × List (List Nat × List Nat)} {oi : Oper} {fuel : Nat} {l : Array Bool} {a : Act} {w : World}
theorem rCV {ι : Type} {vf : ι → Value} {Post : ι → World → Prop} {a' : ι → Act} {X : World} {f : FuncId} {fn : Func} {WX : Array Operand} {ts : Array TypeId} {args : Array Value} (i : Nat) (N : Option Tmp) (HT : zy (vB md ops = T)) (HS : zy (∀ W, Below X.heap.size X W → S W)) (HY : zy (Below X.heap.size X w)) (hf : P.funcs[f]? = some fn)
  (hcall : Calls P f args w fun e w' => ∃ x, e = .returned (vf x) ∧ Post x w' ∧ Below w.heap.size w w') (h : ∀ x w', zy (Below X.heap.size X w') → S w' → Post x w' → yg P md ops Q S ds fuel (l.setIfInBounds i true) (a' x) w') (hname : (fn.name == "runtime.NumGoroutine") = false)
  (hi : ops[i]? = some oi := by exact rfl) (hN : oi.dst = N := by exact rfl) (hc : (Xm T.2 l.toList == [i] && l.toList.set i true == (l.setIfInBounds i true).toList) = true := by kernel_rfl) (hd : i ∉ ds := by decide) (hb : fn.body.isSome = true := by exact rfl) (hw : Region.wanted oi (yielded ops a.tmps) = true := by rfl)
  (hop : oi.op = .call { callee := .value (.func f), args := WX, argTypes := ts } := by exact rfl) (hargs : WX.map a.eval = args := by (try simp only [List.map_toArray, List.map_cons, List.map_nil]); first | done | rfl) (ha : ∀ x, a.put N (vf x) = a' x := by intro x; simp only [Act.put, List.setIfInBounds_toArray, List.set_cons_zero, List.set_cons_succ, wJ, wV]; rfl) :
  yg P md ops Q S ds (fuel + 1) l a w := by
 refine XI _ hi hN (vG HT.out hc) hd fun K hK => ?_
 refine QV hf hname hb args hw hN hop hargs (hcall.mono ?_)
 rintro e w' ⟨x, rfl, hp, hk⟩
 have h2 := HY.out.trans (hk.mono HY.out.size)
 refine ⟨_, rfl, hK.out _ _ (HS.out _ h2) fun hH => ?_⟩
 rw [ha]
 exact h _ _ ⟨h2⟩ hH hp
end
theorem back.tab : vB .any (opsOf Tryz.f9 10) = ((true, [([], []), ([], []), ([0, 1], [0, 1]), ([2], [2]), ([3], [3]), ([4, 3, 3], [3, 4]), ([3], [3]), ([5, 6, 5, 3], [3, 5, 6]), ([3, 7], [3, 7]), ([8, 7], [8]), ([9, 9], [9]), ([9, 10], [9, 10]), ([11, 10, 0, 1, 2, 3, 4, 5, 6, 7, 8, 9, 10, 11], [11])])) := by kernel_rfl
theorem back.bits : vU ((true, [([], []), ([], []), ([0, 1], [0, 1]), ([2], [2]), ([3], [3]), ([4, 3, 3], [3, 4]), ([3], [3]), ([5, 6, 5, 3], [3, 5, 6]), ([3, 7], [3, 7]), ([8, 7], [8]), ([9, 9], [9]), ([9, 10], [9, 10]), ([11, 10, 0, 1, 2, 3, 4, 5, 6, 7, 8, 9, 10, 11], [11])]) : Bool × List (List Nat × List Nat)).2 [0, 0, 3, 7, 15, 31, 15, 127, 255, 511, 1023, 2047, 4095] = true := by kernel_rfl
def turned (s : ByteArray) (i : Nat) (u : UInt8) : ByteArray := ⟨(s.data.toList.set i u).toArray⟩
set_option maxRecDepth 100000 in
set_option maxHeartbeats 8000000 in
theorem zvn (A0 : Option Addr) (c0 : Nat) (l0 : List Int) (p q : Int) (na : ByteArray) (nb : Bool) (nc : Int) (l3 : List qw) (l4 : List qh) (l5 : List xq) (s : ByteArray) (i : Nat) (u : UInt8)
  (xa : ByteArray) (xb : Bool) (xc : Int) (x3 : List qw) (x4 : List qh) (x5 : List xq) (ya : ByteArray) (yb : Bool) (yc : Int) (y3 : List qJ) (y4 : List xK) (y5 : List xY) (za : ByteArray) (zb : Bool) (zc : Int) (z3 : List qJ) (z4 : List xK) (z5 : List xY) (er : Int)
  (hi : i < s.size) (hI : wrap64 ((IntKind.u64.wrap p).tmod (s.size : Int)) = (i : Int)) (hs : s.size ≤ 1000000000) (hu : IntKind.u8.wrap q = (u.toNat : Int))
  (hGr : ∀ W, Kd.C (Kd.int .i64) W A0 l0.length l0 → Calls Tryz.prog 24 #[.slice A0 l0.length c0] W fun e w' => ∃ v3 v4 v5, e = .returned (.agg #[.string na, .bool nb, .int .i64 nc, v3, v4, v5]) ∧ Kd.R uy 31 w' W.heap.size (fun _ => True) v3 l3 ∧ Kd.R uU 86 w' W.heap.size (fun _ => True) v4 l4 ∧ Kd.R jy 76 w' W.heap.size (fun _ => True) v5 l5 ∧ Below W.heap.size W w')
  (hWr : ∀ W A3 c3 A4 c4 A5 c5, GW W → Kd.C uy W A3 l3.length l3 → l3.length ≤ c3 → Kd.C uU W A4 l4.length l4 → l4.length ≤ c4 → Kd.C jy W A5 l5.length l5 → l5.length ≤ c5 → Calls Tryz.prog 25 #[.agg #[.string na, .bool nb, .int .i64 nc, .slice A3 l3.length c3, .slice A4 l4.length c4, .slice A5 l5.length c5]] W fun e w' => e = .returned (.tuple #[.string s, .int .i64 0]) ∧ Below W.heap.size W w')
  (hPa : ∀ W, GW W → Calls Tryz.prog 22 #[.string s] W fun e w' => ∃ v3 v4 v5, e = .returned (.tuple #[.agg #[.string na, .bool nb, .int .i64 nc, v3, v4, v5], .int .i64 0]) ∧ Kd.R uy 31 w' W.heap.size (fun _ => True) v3 l3 ∧ Kd.R uU 86 w' W.heap.size (fun _ => True) v4 l4 ∧ Kd.R jy 76 w' W.heap.size (fun _ => True) v5 l5 ∧ Below W.heap.size W w')
  (hSa : ∀ W A3 c3 A4 c4 A5 c5 B3 d3 B4 d4 B5 d5, Kd.C uy W A3 l3.length l3 → l3.length ≤ c3 → Kd.C uU W A4 l4.length l4 → l4.length ≤ c4 → Kd.C jy W A5 l5.length l5 → l5.length ≤ c5 → Kd.C uy W B3 l3.length l3 → l3.length ≤ d3 → Kd.C uU W B4 l4.length l4 → l4.length ≤ d4 → Kd.C jy W B5 l5.length l5 → l5.length ≤ d5 → Calls Tryz.prog 18 #[.agg #[.string na, .bool nb, .int .i64 nc, .slice A3 l3.length c3, .slice A4 l4.length c4, .slice A5 l5.length c5], .agg #[.string na, .bool nb, .int .i64 nc, .slice B3 l3.length d3, .slice B4 l4.length d4, .slice B5 l5.length d5]] W fun e w' => e = .returned (.bool true) ∧ Below W.heap.size W w')
  (hPb : ∀ W, GW W → Calls Tryz.prog 22 #[.string (turned s i u)] W fun e w' => ∃ v3 v4 v5, e = .returned (.tuple #[.agg #[.string xa, .bool xb, .int .i64 xc, v3, v4, v5], .int .i64 er]) ∧ Kd.R uy 31 w' W.heap.size (fun _ => True) v3 x3 ∧ Kd.R uU 86 w' W.heap.size (fun _ => True) v4 x4 ∧ Kd.R jy 76 w' W.heap.size (fun _ => True) v5 x5 ∧ Below W.heap.size W w')
  (hRb : ∀ W, Calls Tryz.prog 23 #[.string (turned s i u)] W fun e w' => ∃ v3 v4 v5, e = .returned (.tuple #[.agg #[.string ya, .bool yb, .int .i64 yc, v3, v4, v5], .int .i64 er]) ∧ Kd.R jC 81 w' W.heap.size (fun _ => True) v3 y3 ∧ Kd.R kR 83 w' W.heap.size (fun _ => True) v4 y4 ∧ Kd.R kE 84 w' W.heap.size (fun _ => True) v5 y5 ∧ Below W.heap.size W w')
  (hAs : ∀ W A3 c3 A4 c4 A5 c5, Kd.C uy W A3 x3.length x3 → x3.length ≤ c3 → Kd.C uU W A4 x4.length x4 → x4.length ≤ c4 → Kd.C jy W A5 x5.length x5 → x5.length ≤ c5 → Calls Tryz.prog 16 #[.agg #[.string xa, .bool xb, .int .i64 xc, .slice A3 x3.length c3, .slice A4 x4.length c4, .slice A5 x5.length c5]] W fun e w' => ∃ v3 v4 v5, e = .returned (.agg #[.string za, .bool zb, .int .i64 zc, v3, v4, v5]) ∧ Kd.R jC 81 w' W.heap.size (fun _ => True) v3 z3 ∧ Kd.R kR 83 w' W.heap.size (fun _ => True) v4 z4 ∧ Kd.R kE 84 w' W.heap.size (fun _ => True) v5 z5 ∧ Below W.heap.size W w')
  (hSb : ∀ W A3 c3 A4 c4 A5 c5 B3 d3 B4 d4 B5 d5, Kd.C jC W A3 z3.length z3 → z3.length ≤ c3 → Kd.C kR W A4 z4.length z4 → z4.length ≤ c4 → Kd.C kE W A5 z5.length z5 → z5.length ≤ c5 → Kd.C jC W B3 y3.length y3 → y3.length ≤ d3 → Kd.C kR W B4 y4.length y4 → y4.length ≤ d4 → Kd.C kE W B5 y5.length y5 → y5.length ≤ d5 → Calls Tryz.prog 15 #[.agg #[.string za, .bool zb, .int .i64 zc, .slice A3 z3.length c3, .slice A4 z4.length c4, .slice A5 z5.length c5], .agg #[.string ya, .bool yb, .int .i64 yc, .slice B3 y3.length d3, .slice B4 y4.length d4, .slice B5 y5.length d5]] W fun e w' => e = .returned (.bool true) ∧ Below W.heap.size W w')
  (hSn : ∀ W, GW W → Calls Tryz.prog 12 #[] W fun e w' => e = .returned (.bool true) ∧ Below W.heap.size W w')
  (w : World) (hG : GW w) (h0 : Kd.C (Kd.int .i64) w A0 l0.length l0) :
  Calls Tryz.prog 9 #[.slice A0 l0.length c0, .int .i64 p, .int .i64 q] w fun e w' => e = .returned (.bool true) ∧ Below w.heap.size w w' := by
 have hgr := hGr w h0
 have HWr := zy.mk hWr; have HPa := zy.mk hPa; have HSa := zy.mk hSa; have HPb := zy.mk hPb; have HRb := zy.mk hRb; have HAs := zy.mk hAs; have HSb := zy.mk hSb; have HSn := zy.mk hSn
 have HG := zy.mk hG
 clear hGr hWr hPa hSa hPb hRb hAs hSb hSn hG h0
 go_enter Tryz.func9, Tryz.ntmps9
 go_wp2_with fail
 refine hgr.mono ?_; rintro e w1 ⟨v3, v4, v5, rfl, R3, R4, R5, hb1⟩
 clear hgr
 obtain ⟨A3, c3, rfl⟩ := Kd.yx R3
 obtain ⟨A4, c4, rfl⟩ := Kd.yx R4
 obtain ⟨A5, c5, rfl⟩ := Kd.yx R5
 obtain ⟨_, g3, C3⟩ := Kd.yh R3
 obtain ⟨_, g4, C4⟩ := Kd.yh R4
 obtain ⟨_, g5, C5⟩ := Kd.yh R5
 clear R3 R4 R5
 go_upto_region 2 with (fail)
 have e2 : Below w1.heap.size w1 (w1.alloc (.cells #[.string na, .bool nb, .int .i64 nc, .slice A3 l3.length c3, .slice A4 l4.length c4, .slice A5 l5.length c5] 26)) := (Below.refl _ w1).alloc (Nat.le_refl _) _
 have hb2 : Below w.heap.size w (w1.alloc (.cells #[.string na, .bool nb, .int .i64 nc, .slice A3 l3.length c3, .slice A4 l4.length c4, .slice A5 l5.length c5] 26)) := hb1.alloc hb1.size _
 have K2 := vY w1 (.cells #[.string na, .bool nb, .int .i64 nc, .slice A3 l3.length c3, .slice A4 l4.length c4, .slice A5 l5.length c5] 26)
 replace C3 := Kd.zh C3 e2; replace C4 := Kd.zh C4 e2; replace C5 := Kd.zh C5 e2
 clear e2 hb1
 generalize w1.heap.size = g7 at K2 ⊢
 generalize w1.alloc (.cells #[.string na, .bool nb, .int .i64 nc, .slice A3 l3.length c3, .slice A4 l4.length c4, .slice A5 l5.length c5] 26) = w2 at K2 hb2 C3 C4 C5 ⊢
 have u0 : w2.cell? ⟨g7, 0, none⟩ = some (.string na) := (zk K2 0).trans rfl
 have u1 : w2.cell? ⟨g7, 1, none⟩ = some (.bool nb) := (zk K2 1).trans rfl
 have u2 : w2.cell? ⟨g7, 2, none⟩ = some (.int .i64 nc) := (zk K2 2).trans rfl
 have u3 : w2.cell? ⟨g7, 3, none⟩ = some (.slice A3 l3.length c3) := (zk K2 3).trans rfl
 have u4 : w2.cell? ⟨g7, 4, none⟩ = some (.slice A4 l4.length c4) := (zk K2 4).trans rfl
 have u5 : w2.cell? ⟨g7, 5, none⟩ = some (.slice A5 l5.length c5) := (zk K2 5).trans rfl
 go_wp2_with fail
 refine (HWr.out w2 A3 c3 A4 c4 A5 c5 (HG.out.under hb2) C3 g3 C4 g4 C5 g5).mono ?_; rintro e w3 ⟨rfl, b3⟩
 have hb3 : Below w.heap.size w w3 := hb2.trans (b3.mono hb2.size)
 replace K2 := zf K2 b3
 replace C3 := Kd.zh C3 b3; replace C4 := Kd.zh C4 b3; replace C5 := Kd.zh C5 b3
 clear u0 u1 u2 u3 u4 u5 b3 hb2 HWr
 go_wp2_with fail
 refine (HPa.out w3 (HG.out.under hb3)).mono ?_; rintro e w4 ⟨v3, v4, v5, rfl, R3, R4, R5, b4⟩
 obtain ⟨B3, d3, rfl⟩ := Kd.yx R3
 obtain ⟨B4, d4, rfl⟩ := Kd.yx R4
 obtain ⟨B5, d5, rfl⟩ := Kd.yx R5
 obtain ⟨_, f3, D3⟩ := Kd.yh R3
 obtain ⟨_, f4, D4⟩ := Kd.yh R4
 obtain ⟨_, f5, D5⟩ := Kd.yh R5
 have hb4 : Below w.heap.size w w4 := hb3.trans (b4.mono hb3.size)
 replace K2 := zf K2 b4
 replace C3 := Kd.zh C3 b4; replace C4 := Kd.zh C4 b4; replace C5 := Kd.zh C5 b4
 clear R3 R4 R5 b4 hb3 HPa
 go_upto_region 4 with (fail)
 have e5 : Below w4.heap.size w4 (w4.alloc (.cells #[.string na, .bool nb, .int .i64 nc, .slice B3 l3.length d3, .slice B4 l4.length d4, .slice B5 l5.length d5] 26)) := (Below.refl _ w4).alloc (Nat.le_refl _) _
 have hb5 : Below w.heap.size w (w4.alloc (.cells #[.string na, .bool nb, .int .i64 nc, .slice B3 l3.length d3, .slice B4 l4.length d4, .slice B5 l5.length d5] 26)) := hb4.alloc hb4.size _
 have K5 := vY w4 (.cells #[.string na, .bool nb, .int .i64 nc, .slice B3 l3.length d3, .slice B4 l4.length d4, .slice B5 l5.length d5] 26)
 replace C3 := Kd.zh C3 e5; replace C4 := Kd.zh C4 e5; replace C5 := Kd.zh C5 e5
 replace D3 := Kd.zh D3 e5; replace D4 := Kd.zh D4 e5; replace D5 := Kd.zh D5 e5
 replace K2 := zf K2 e5
 clear e5 hb4
 generalize w4.heap.size = g10 at K5 ⊢
 generalize w4.alloc (.cells #[.string na, .bool nb, .int .i64 nc, .slice B3 l3.length d3, .slice B4 l4.length d4, .slice B5 l5.length d5] 26) = w5 at K2 K5 hb5 C3 C4 C5 D3 D4 D5 ⊢
 have u0 : w5.cell? ⟨g7, 0, none⟩ = some (.string na) := (zk K2 0).trans rfl
 have u1 : w5.cell? ⟨g7, 1, none⟩ = some (.bool nb) := (zk K2 1).trans rfl
 have u2 : w5.cell? ⟨g7, 2, none⟩ = some (.int .i64 nc) := (zk K2 2).trans rfl
 have u3 : w5.cell? ⟨g7, 3, none⟩ = some (.slice A3 l3.length c3) := (zk K2 3).trans rfl
 have u4 : w5.cell? ⟨g7, 4, none⟩ = some (.slice A4 l4.length c4) := (zk K2 4).trans rfl
 have u5 : w5.cell? ⟨g7, 5, none⟩ = some (.slice A5 l5.length c5) := (zk K2 5).trans rfl
 have t0 : w5.cell? ⟨g10, 0, none⟩ = some (.string na) := (zk K5 0).trans rfl
 have t1 : w5.cell? ⟨g10, 1, none⟩ = some (.bool nb) := (zk K5 1).trans rfl
 have t2 : w5.cell? ⟨g10, 2, none⟩ = some (.int .i64 nc) := (zk K5 2).trans rfl
 have t3 : w5.cell? ⟨g10, 3, none⟩ = some (.slice B3 l3.length d3) := (zk K5 3).trans rfl
 have t4 : w5.cell? ⟨g10, 4, none⟩ = some (.slice B4 l4.length d4) := (zk K5 4).trans rfl
 have t5 : w5.cell? ⟨g10, 5, none⟩ = some (.slice B5 l5.length d5) := (zk K5 5).trans rfl
 have hsz : s.data.toList.length = s.size := Array.length_toList
 have s0 : (s.toList == ([] : List UInt8)) = false := beq_eq_false_iff_ne.2 (fun e => by have h := congrArg List.length e; rw [ByteArray.toList_eq, hsz] at h; simp only [List.length_nil] at h; omega)
 have s1 : s.toList.isEmpty = false := List.isEmpty_eq_false_iff.2 (fun e => by have h := congrArg List.length e; rw [ByteArray.toList_eq, hsz] at h; simp only [List.length_nil] at h; omega)
 go_wp2_with fail
 refine (HSa.out w5 A3 c3 A4 c4 A5 c5 B3 d3 B4 d4 B5 d5 C3 g3 C4 g4 C5 g5 D3 f3 D4 f4 D5 f5).mono ?_; rintro e w6 ⟨rfl, b6⟩
 have hb6 : Below w.heap.size w w6 := hb5.trans (b6.mono hb5.size)
 clear b6 hb5 HSa u0 u1 u2 u3 u4 u5 t0 t1 t2 t3 t4 t5 C3 C4 C5 D3 D4 D5 g3 g4 g5 f3 f4 f5 K2 K5
 go_upto_region 6 with (fail)
 clear s0 s1
 have hcv := run_bytes_of_string (P := Tryz.prog) w6 9 66 5 s Tryz.underlying9 Tryz.underlying66 Tryz.underlying5
 generalize grownCap w6 s.size 0 5 = cap at hcv
 have hcz : s.size ≤ (bytesRow s cap).size := by unfold bytesRow; simp
 go_upto_region 7 with (fail)
 have eX : Below w.heap.size w (w6.alloc (.cells (bytesRow s cap) 5 ((bytesRow s cap).size, (bytesRow s cap).size + 1))) := hb6.alloc hb6.size _
 have hcell : ∀ j, (w6.alloc (.cells (bytesRow s cap) 5 ((bytesRow s cap).size, (bytesRow s cap).size + 1))).cell? ⟨w6.heap.size, j, none⟩ = (bytesRow s cap)[j]? := fun j => World.cell?_alloc_mark w6 _ _ _ j
 have hfz : (w6.alloc (.cells (bytesRow s cap) 5 ((bytesRow s cap).size, (bytesRow s cap).size + 1))).frozen? ⟨w6.heap.size, i, none⟩ = false := (World.frozen?_alloc_mark w6 _ _ _ _ i).trans (by rw [decide_eq_false (by omega : ¬ (bytesRow s cap).size ≤ i)]; rfl)
 have hgg : w.heap.size ≤ w6.heap.size := hb6.size
 generalize w6.heap.size = gb at hcv hcell hfz hgg ⊢
 generalize w6.alloc (.cells (bytesRow s cap) 5 ((bytesRow s cap).size, (bytesRow s cap).size + 1)) = w7 at eX hcell hfz ⊢
 clear hcv hcz
 have hc0 : ∀ j (hj : j < s.data.toList.length), w7.cell? ⟨gb, j, none⟩ = some (.int .u8 ((s.data.toList[j]).toNat : Int)) := fun j hj => (hcell j).trans ((bytesRow_at s cap j (by rw [← Array.length_toList]; exact hj)).trans (by rw [Array.getElem_toList]))
 have hci := hc0 i (by omega)
 generalize ((s.data.toList[i]'(by omega)).toNat : Int) = old at hci
 have i0 : (0 : Int) ≤ (i : Int) := by omega
 have i1 : ((i : Int)).toNat = i := Int.toNat_natCast i
 have i2 : (i : Int) < (s.size : Int) := by omega
 have hu64 : IntKind.u64.wrap (s.size : Int) = (s.size : Int) := by
  show (s.size : Int) % 18446744073709551616 = _
  exact Int.emod_eq_of_lt (by omega) (by omega)
 have hz0 : ¬ (s.size : Int) = 0 := by omega
 clear hcell
 go_upto_region 8 with (fail)
 have hb8 : Below w.heap.size w (w7.setCell ⟨gb, i, none⟩ (.int .u8 (u.toNat : Int))) := eX.setCell (p := ⟨gb, i, none⟩) hgg _
 have hc8 : ∀ j (hj : j < (s.data.toList.set i u).length), (w7.setCell ⟨gb, i, none⟩ (.int .u8 (u.toNat : Int))).cell? ((⟨gb, 0, none⟩ : Addr).add j) = some (.int .u8 (((s.data.toList.set i u)[j]).toNat : Int)) := by
  intro j hj
  rw [Addr.add_lit, Nat.zero_add]
  by_cases e : j = i
  ·subst e; rw [World.cell?_setCell_same _ _ _ hci, List.getElem_set_self]
  ·rw [World.cell?_setCell_other _ _ _ _ (fun h => e (by injection h with _ h2 _; exact h2.symm)), hc0 j (by rw [List.length_set] at hj; exact hj), List.getElem_set_ne (fun h => e h.symm)]
 clear hc0 hci hfz i0 i1 i2 hz0 eX hb6
 generalize w7.setCell ⟨gb, i, none⟩ (.int .u8 (u.toNat : Int)) = w8 at hb8 hc8 ⊢
 have hbk : ∀ W, Below w8.heap.size w8 W → (convert 66 9 (.slice (some ⟨gb, 0, none⟩) s.size cap)).run Tryz.prog W = .ok (.string (turned s i u)) W := fun W hW => by
  have h := run_convert_bytes_back (P := Tryz.prog) W 66 9 5 ⟨gb, 0, none⟩ cap (s.data.toList.set i u) Tryz.underlying66 Tryz.underlying5 Tryz.underlying9 (fun j hj => (hW.cell (World.block_lt_of_cell? w8 _ (hc8 j hj))).trans (hc8 j hj))
  rw [List.length_set, hsz] at h
  exact h
 have Hbk := zy.mk hbk
 clear hbk hc8
 have hk8 := Hbk.out _ ((Below.refl _ w8).drew)
 go_wp2_with fail
 refine (HPb.out w8.drew (HG.out.under hb8.drew)).mono ?_; rintro e w9 ⟨v3, v4, v5, rfl, R3, R4, R5, b9⟩
 obtain ⟨X3, j3, rfl⟩ := Kd.yx R3
 obtain ⟨X4, j4, rfl⟩ := Kd.yx R4
 obtain ⟨X5, j5, rfl⟩ := Kd.yx R5
 obtain ⟨_, g3, C3⟩ := Kd.yh R3
 obtain ⟨_, g4, C4⟩ := Kd.yh R4
 obtain ⟨_, g5, C5⟩ := Kd.yh R5
 have UO : Below w.heap.size w w9 := hb8.drew.trans (b9.mono hb8.drew.size)
 have hbb : Below w8.heap.size w8 w9 := ((Below.refl _ w8).drew).trans b9
 clear R3 R4 R5 b9 hb8 HPb hk8
 go_upto_region 9 with (fail)
 have e10 : Below w9.heap.size w9 (w9.alloc (.cells #[.string xa, .bool xb, .int .i64 xc, .slice X3 x3.length j3, .slice X4 x4.length j4, .slice X5 x5.length j5] 26)) := (Below.refl _ w9).alloc (Nat.le_refl _) _
 have aV : Below w.heap.size w (w9.alloc (.cells #[.string xa, .bool xb, .int .i64 xc, .slice X3 x3.length j3, .slice X4 x4.length j4, .slice X5 x5.length j5] 26)) := UO.alloc UO.size _
 have UR := vY w9 (.cells #[.string xa, .bool xb, .int .i64 xc, .slice X3 x3.length j3, .slice X4 x4.length j4, .slice X5 x5.length j5] 26)
 replace C3 := Kd.zh C3 e10; replace C4 := Kd.zh C4 e10; replace C5 := Kd.zh C5 e10
 replace hbb := hbb.trans (e10.mono hbb.size)
 clear e10 UO
 generalize w9.heap.size = g13 at UR ⊢
 generalize w9.alloc (.cells #[.string xa, .bool xb, .int .i64 xc, .slice X3 x3.length j3, .slice X4 x4.length j4, .slice X5 x5.length j5] 26) = KO at UR aV hbb C3 C4 C5 ⊢
 have hk10 := Hbk.out KO hbb
 go_wp2_with fail
 refine (HRb.out KO).mono ?_; rintro e Xr ⟨v3, v4, v5, rfl, R3, R4, R5, b11⟩
 obtain ⟨Y3, m3, rfl⟩ := Kd.yx R3
 obtain ⟨Y4, m4, rfl⟩ := Kd.yx R4
 obtain ⟨Y5, m5, rfl⟩ := Kd.yx R5
 obtain ⟨_, f3, D3⟩ := Kd.yh R3
 obtain ⟨_, f4, D4⟩ := Kd.yh R4
 obtain ⟨_, f5, D5⟩ := Kd.yh R5
 have zkO : Below w.heap.size w Xr := aV.trans (b11.mono aV.size)
 replace UR := zf UR b11
 replace C3 := Kd.zh C3 b11; replace C4 := Kd.zh C4 b11; replace C5 := Kd.zh C5 b11
 clear R3 R4 R5 b11 aV hbb HRb hk10 Hbk
 go_upto_region 10 with (fail)
 have e12 : Below Xr.heap.size Xr (Xr.alloc (.cells #[.string ya, .bool yb, .int .i64 yc, .slice Y3 y3.length m3, .slice Y4 y4.length m4, .slice Y5 y5.length m5] 44)) := (Below.refl _ Xr).alloc (Nat.le_refl _) _
 have zzW : Below w.heap.size w (Xr.alloc (.cells #[.string ya, .bool yb, .int .i64 yc, .slice Y3 y3.length m3, .slice Y4 y4.length m4, .slice Y5 y5.length m5] 44)) := zkO.alloc zkO.size _
 have ny := vY Xr (.cells #[.string ya, .bool yb, .int .i64 yc, .slice Y3 y3.length m3, .slice Y4 y4.length m4, .slice Y5 y5.length m5] 44)
 replace C3 := Kd.zh C3 e12; replace C4 := Kd.zh C4 e12; replace C5 := Kd.zh C5 e12
 replace D3 := Kd.zh D3 e12; replace D4 := Kd.zh D4 e12; replace D5 := Kd.zh D5 e12
 replace UR := zf UR e12
 clear e12 zkO
 generalize Xr.heap.size = g14 at ny ⊢
 generalize Xr.alloc (.cells #[.string ya, .bool yb, .int .i64 yc, .slice Y3 y3.length m3, .slice Y4 y4.length m4, .slice Y5 y5.length m5] 44) = jm at UR ny zzW C3 C4 C5 D3 D4 D5 ⊢
 have u0 : jm.cell? ⟨g13, 0, none⟩ = some (.string xa) := (zk UR 0).trans rfl
 have u1 : jm.cell? ⟨g13, 1, none⟩ = some (.bool xb) := (zk UR 1).trans rfl
 have u2 : jm.cell? ⟨g13, 2, none⟩ = some (.int .i64 xc) := (zk UR 2).trans rfl
 have u3 : jm.cell? ⟨g13, 3, none⟩ = some (.slice X3 x3.length j3) := (zk UR 3).trans rfl
 have u4 : jm.cell? ⟨g13, 4, none⟩ = some (.slice X4 x4.length j4) := (zk UR 4).trans rfl
 have u5 : jm.cell? ⟨g13, 5, none⟩ = some (.slice X5 x5.length j5) := (zk UR 5).trans rfl
 have t0 : jm.cell? ⟨g14, 0, none⟩ = some (.string ya) := (zk ny 0).trans rfl
 have t1 : jm.cell? ⟨g14, 1, none⟩ = some (.bool yb) := (zk ny 1).trans rfl
 have t2 : jm.cell? ⟨g14, 2, none⟩ = some (.int .i64 yc) := (zk ny 2).trans rfl
 have t3 : jm.cell? ⟨g14, 3, none⟩ = some (.slice Y3 y3.length m3) := (zk ny 3).trans rfl
 have t4 : jm.cell? ⟨g14, 4, none⟩ = some (.slice Y4 y4.length m4) := (zk ny 4).trans rfl
 have t5 : jm.cell? ⟨g14, 5, none⟩ = some (.slice Y5 y5.length m5) := (zk ny 5).trans rfl
 have HS2 := zy.mk (fun (W : World) (h : Below jm.heap.size jm W) => (show W.cell? ⟨g13, 0, none⟩ = some (.string xa) ∧ W.cell? ⟨g13, 1, none⟩ = some (.bool xb) ∧ W.cell? ⟨g13, 2, none⟩ = some (.int .i64 xc) ∧ W.cell? ⟨g13, 3, none⟩ = some (.slice X3 x3.length j3) ∧ W.cell? ⟨g13, 4, none⟩ = some (.slice X4 x4.length j4) ∧ W.cell? ⟨g13, 5, none⟩ = some (.slice X5 x5.length j5) ∧ W.cell? ⟨g14, 0, none⟩ = some (.string ya) ∧ W.cell? ⟨g14, 1, none⟩ = some (.bool yb) ∧ W.cell? ⟨g14, 2, none⟩ = some (.int .i64 yc) ∧ W.cell? ⟨g14, 3, none⟩ = some (.slice Y3 y3.length m3) ∧ W.cell? ⟨g14, 4, none⟩ = some (.slice Y4 y4.length m4) ∧ W.cell? ⟨g14, 5, none⟩ = some (.slice Y5 y5.length m5) from ⟨(h.cell (World.block_lt_of_cell? jm _ u0)).trans u0, (h.cell (World.block_lt_of_cell? jm _ u1)).trans u1, (h.cell (World.block_lt_of_cell? jm _ u2)).trans u2, (h.cell (World.block_lt_of_cell? jm _ u3)).trans u3, (h.cell (World.block_lt_of_cell? jm _ u4)).trans u4, (h.cell (World.block_lt_of_cell? jm _ u5)).trans u5, (h.cell (World.block_lt_of_cell? jm _ t0)).trans t0, (h.cell (World.block_lt_of_cell? jm _ t1)).trans t1, (h.cell (World.block_lt_of_cell? jm _ t2)).trans t2, (h.cell (World.block_lt_of_cell? jm _ t3)).trans t3, (h.cell (World.block_lt_of_cell? jm _ t4)).trans t4, (h.cell (World.block_lt_of_cell? jm _ t5)).trans t5⟩))
 have HA := zy.mk (fun (W : World) (h : Below jm.heap.size jm W) => HAs.out W X3 j3 X4 j4 X5 j5 (Kd.zh C3 h) g3 (Kd.zh C4 h) g4 (Kd.zh C5 h) g5)
 have HB := zy.mk (fun (W : World) (Z3 : Option Addr) (n3 : Nat) (Z4 : Option Addr) (n4 : Nat) (Z5 : Option Addr) (n5 : Nat) (h : Below jm.heap.size jm W) (q3 : Kd.C jC W Z3 z3.length z3) (r3 : z3.length ≤ n3) (q4 : Kd.C kR W Z4 z4.length z4) (r4 : z4.length ≤ n4) (q5 : Kd.C kE W Z5 z5.length z5) (r5 : z5.length ≤ n5) => HSb.out W Z3 n3 Z4 n4 Z5 n5 Y3 m3 Y4 m4 Y5 m5 q3 r3 q4 r4 q5 r5 (Kd.zh D3 h) f3 (Kd.zh D4 h) f4 (Kd.zh D5 h) f5)
 have HN := zy.mk (fun (W : World) (h : Below jm.heap.size jm W) => HSn.out W (HG.out.under (zzW.trans (h.mono zzW.size))))
 clear u0 u1 u2 u3 u4 u5 t0 t1 t2 t3 t4 t5 C3 C4 C5 D3 D4 D5 g3 g4 g5 f3 f4 f5 UR ny HAs HSb HSn hsz hu64 hgg
 refine RW.rS (n := 13) HS2 back.tab back.bits (by kernel_rfl) rfl rfl (fun mF H0 T U h => ?_)
 refine RW.rP 0 (some 68) T ?_; refine RW.rP 1 (some 69) T ?_; refine RW.rP 2 (some 70) T ?_; refine RW.rP 3 (some 71) T ?_; refine RW.rT 4 (some 72) T U h ?_; refine RW.rT 6 (some 74) T U h ?_
 clear h; refine rCV (ι := Option Addr × Nat × Option Addr × Nat × Option Addr × Nat) (vf := fun z => .agg #[.string za, .bool zb, .int .i64 zc, .slice z.1 z3.length z.2.1, .slice z.2.2.1 z4.length z.2.2.2.1, .slice z.2.2.2.2.1 z5.length z.2.2.2.2.2])
  (Post := fun z W => (Kd.C jC W z.1 z3.length z3 ∧ z3.length ≤ z.2.1) ∧ (Kd.C kR W z.2.2.1 z4.length z4 ∧ z4.length ≤ z.2.2.2.1) ∧ (Kd.C kE W z.2.2.2.2.1 z5.length z5 ∧ z5.length ≤ z.2.2.2.2.2)) 5 (some 73) T HS2 H0 Tryz.func16 ((HA.out _ H0.out).mono ?_) (fun z mJ H1 h hz => ?_) (by kernel_rfl)
 ·rintro e w' ⟨v3, v4, v5, rfl, R3, R4, R5, k⟩
  obtain ⟨Z3, n3, rfl⟩ := Kd.yx R3
  obtain ⟨Z4, n4, rfl⟩ := Kd.yx R4
  obtain ⟨Z5, n5, rfl⟩ := Kd.yx R5
  obtain ⟨_, r3, S3⟩ := Kd.yh R3
  obtain ⟨_, r4, S4⟩ := Kd.yh R4
  obtain ⟨_, r5, S5⟩ := Kd.yh R5
  exact ⟨(Z3, n3, Z4, n4, Z5, n5), rfl, ⟨⟨S3, r3⟩, ⟨S4, r4⟩, ⟨S5, r5⟩⟩, k⟩
 obtain ⟨Z3, n3, Z4, n4, Z5, n5⟩ := z
 dsimp only at hz ⊢
 clear h; refine RW.rC 7 (some 75) T HS2 H1 Tryz.func15 (HB.out _ Z3 n3 Z4 n4 Z5 n5 H1.out hz.1.1 hz.1.2 hz.2.1.1 hz.2.1.2 hz.2.2.1 hz.2.2.2) (fun QF H2 h => ?_) (by kernel_rfl)
 refine RW.rP 8 (some 76) T ?_; refine RW.rP 9 (some 77) T ?_
 clear h; refine RW.rC 10 (some 78) T HS2 H2 Tryz.func12 (HN.out _ H2.out) (fun w16 H3 h => ?_) (by kernel_rfl)
 refine RW.rP 11 (some 79) T ?_; refine RW.rP 12 (some 6) T ?_
 refine vO (xH T.out (by kernel_rfl)) ?_
 have jA := zzW.trans (H3.out.mono zzW.size)
 clear h; try go_wp2
 go_ret
 exact ⟨rfl, jA⟩
end Go.Proofs.YtaifemkokfoadaaGreatDoor
namespace Go.Proofs.YtaifemkokfoadaaGreatDoor.PX
open Go.RowKit Go.Proofs.zx.zK Go.Proofs.zx.zU Go.Proofs.zx.zN
attribute [local go_sem] qF qG xC xD qY qW qH qI   -- for this text's walks alone
set_option linter.unusedVariables false
set_option linter.unusedSimpArgs false
def qc.l0 : Nat → Int → ByteArray → Option (ByteArray)
 | 0, _, _ => none
 | k + 1, x0, x3 => if x0 > 9 then ((some (([(wrap64 (48 + (Int.tmod (wrap64 (Int.tdiv x0 10)) 10))) % 256] : List Int) : List Int)).bind fun KY => (if (strOfNums KY).size + x3.size ≤ 9223372036854775807 then (qc.l0 k (wrap64 (Int.tdiv x0 10)) ((strOfNums KY) ++ x3)) else (none))) else (some x3)
def qc.f (k : Nat) (a0 : Int) : Option (ByteArray) := qc.l0 k a0 (strOfNums (([(wrap64 (48 + (Int.tmod a0 10))) % 256] : List Int)))
set_option maxHeartbeats 8000000 in
set_option maxRecDepth 100000 in
theorem qc.calls (k : Nat) (a0 : Int) (r : ByteArray) (w : World) (h : qc.f k a0 = some r) :
  Calls Tryz.prog 113 #[.int .i64 a0] w fun e w' => e = .returned (.string r) ∧ Below w.heap.size w w' := by
 have HB := zy.mk (Below.refl w.heap.size w)
 have H : (qc.l0 k a0 (strOfNums (([(wrap64 (48 + (Int.tmod a0 10))) % 256] : List Int)))) = some r := h
 clear h
 obtain ⟨zJr, nZ⟩ : ∃ y_ : List Int, y_ = (([(wrap64 (48 + (Int.tmod a0 10))) % 256] : List Int)) := ⟨_, rfl⟩
 replace H : (qc.l0 k a0 (strOfNums zJr)) = some r := by first | (rw [nZ]; with_reducible exact H) | (have uN := (Option.bind_some _ _).symm.trans H; rw [nZ]; with_reducible exact uN) | (have uN := (Option.bind_some _ _).symm.trans H; with_reducible exact uN) | with_reducible exact H | (rw [nZ]; exact H) | exact H
 have zww := zy.mk nZ
 clear nZ
 have H' := zy.mk H
 clear H
 go_enter Tryz.func113, Tryz.ntmps113
 go_wp2_with (first | ((with_reducible refine xI (N := 8) rfl ?_); refine Kd.J2 (Kd.int .u8) _ 5 ?hg (N := 8) ?hd (xs := ([(wrap64 (48 + (Int.tmod a0 10))) % 256] : List Int)) (inner := [.int .u8 ((wrap64 (48 + (Int.tmod a0 10))) % 256)]) (ok := fun _ => True) (pK := fun _ => True) ?hr ?hp (fun _ hk => hk) trivial (Below.refl _ _) (Nat.le_refl _) (by simp) ?_; (case hd => rfl); (case hg => rfl); (case hr => first | (go_simp; done) | (go_simp; rfl)); (case hp => exact (xA.one (show Kd.M (Kd.int .u8) _ _ _ ((wrap64 (48 + (Int.tmod a0 10))) % 256) [.int .u8 ((wrap64 (48 + (Int.tmod a0 10))) % 256)] from rfl) (xA.none _ _))); intro ziU w2 ho3 hb UW YK; clear UW YK; (first | rw [← zww.out] at ho3 | (simp only [Int.reduceToNat] at ho3; rw [← zww.out] at ho3)); have zn := zy.mk (Kd.jk ho3 (zO (yX HB.out))); have zA := zy.mk (yY (yX HB.out) hb); clear HB; have zYW := zn; have HB := zA; clear zn zA; clear hb ho3; have zaD := wS (P := Tryz.prog) Tryz.underlying66 Tryz.underlying5 Tryz.underlying9 (Kd.YZ zYW.out)))
 go_loopg [0, 3] k (fun kq v0 v3 w' => ∃ (wQ : Int) (uz : ByteArray), v0 = .int .i64 wQ ∧ v3 = .string uz ∧ zy (qc.l0 kq wQ uz = some r) ∧ zy (kq ≤ k) ∧ zy (Below w.heap.size w w'))
 case atStart => exact ⟨(a0), (strOfNums zJr), (by first | rfl | (simp; done) | (simp [*]; done)), (by first | rfl | (simp; done) | (simp [*]; done)), H', ⟨Nat.le_refl _⟩, ⟨yX HB.out⟩⟩
 case round =>
  clear H'
  try clear c1
  try clear p2
  try clear zaD
  obtain ⟨wQ, uz, rfl, rfl, HA, vT, HB⟩ := hrel
  cases gk with
  | zero => exact absurd HA.out (by simp [qc.l0])
  | succ k1 =>
   have H := HA.out
   clear HA
   simp only [qc.l0] at H
   by_cases c5 : wQ > 9
   ·rw [if_pos c5] at H
    have Ya : decide (9 < wQ) = true := decide_eq_true c5
    clear c5
    obtain ⟨KY, nQ⟩ : ∃ y_ : List Int, y_ = (([(wrap64 (48 + (Int.tmod (wrap64 (Int.tdiv wQ 10)) 10))) % 256] : List Int)) := ⟨_, rfl⟩
    replace H : (if (strOfNums KY).size + uz.size ≤ 9223372036854775807 then (qc.l0 k1 (wrap64 (Int.tdiv wQ 10)) ((strOfNums KY) ++ uz)) else (none)) = some r := by first | (rw [nQ]; with_reducible exact H) | (have uN := (Option.bind_some _ _).symm.trans H; rw [nQ]; with_reducible exact uN) | (have uN := (Option.bind_some _ _).symm.trans H; with_reducible exact uN) | with_reducible exact H | (rw [nQ]; exact H) | exact H
    have zwZ := zy.mk nQ
    clear nQ
    by_cases c6 : (strOfNums KY).size + uz.size ≤ 9223372036854775807
    ·rw [if_pos c6] at H
     have Xf := eq_true c6
     have dL : decide ((strOfNums KY).size + uz.size ≤ 9223372036854775807) = true := decide_eq_true c6
     try have zaE : (9223372036854775807 < (strOfNums KY).size + uz.size) = False := eq_false (Nat.not_lt.2 c6)
     have H' := zy.mk H
     clear H
     go_wp2_with (first | ((with_reducible refine xI (N := 18) rfl ?_); refine Kd.J2 (Kd.int .u8) _ 5 ?hg (N := 18) ?hd (xs := ([(wrap64 (48 + (Int.tmod (wrap64 (Int.tdiv wQ 10)) 10))) % 256] : List Int)) (inner := [.int .u8 ((wrap64 (48 + (Int.tmod (wrap64 (Int.tdiv wQ 10)) 10))) % 256)]) (ok := fun _ => True) (pK := fun _ => True) ?hr ?hp (fun _ hk => hk) trivial (Below.refl _ _) (Nat.le_refl _) (by simp) ?_; (case hd => rfl); (case hg => rfl); (case hr => first | (go_simp; done) | (go_simp; rfl)); (case hp => exact (xA.one (show Kd.M (Kd.int .u8) _ _ _ ((wrap64 (48 + (Int.tmod (wrap64 (Int.tdiv wQ 10)) 10))) % 256) [.int .u8 ((wrap64 (48 + (Int.tmod (wrap64 (Int.tdiv wQ 10)) 10))) % 256)] from rfl) (xA.none _ _))); intro zi0 w7 WC hb UW YK; clear UW YK; (first | rw [← zwZ.out] at WC | (simp only [Int.reduceToNat] at WC; rw [← zwZ.out] at WC)); have zn := zy.mk (Kd.jk WC (zO (yX HB.out))); have zA := zy.mk (yY (yX HB.out) hb); clear HB; have zYa := zn; have HB := zA; clear zn zA; clear hb WC; have zaF := wS (P := Tryz.prog) Tryz.underlying66 Tryz.underlying5 Tryz.underlying9 (Kd.YZ zYa.out)))
     go_roundg k1
     case measure => have := vT.out; omega
     case rel => exact ⟨(wrap64 (Int.tdiv wQ 10)), ((strOfNums KY) ++ uz), (by first | rfl | (simp; done) | (simp [*]; done)), (by first | rfl | (simp; done) | (simp [*]; done)), H', ⟨by have := vT.out; omega⟩, ⟨yX HB.out⟩⟩
    ·rw [if_neg c6] at H
     exact absurd H (by simp)
   ·rw [if_neg c5] at H
    have Ya : decide (9 < wQ) = false := decide_eq_false c5
    clear c5
    obtain rfl := Option.some.inj H
    go_wp2
    go_ret
    exact ⟨by first | rfl | (simp [yZ, yQ] <;> rfl) | (simp [*, yZ, yQ] <;> rfl), by repeat (first | (with_reducible first | exact HB.out | apply yt | apply zM | apply yP) | exact HB.out)⟩
end Go.Proofs.YtaifemkokfoadaaGreatDoor.PX
namespace Go.Proofs.YtaifemkokfoadaaGreatDoor.PX
open Go.RowKit Go.Proofs.zx.zK Go.Proofs.zx.zU Go.Proofs.zx.zN
attribute [local go_sem] qF qG xC xD qY qW qH qI   -- for this text's walks alone
set_option linter.unusedVariables false
set_option linter.unusedSimpArgs false
def qm.l0 : Nat → Int → ByteArray → Option (ByteArray)
 | 0, _, _ => none
 | k + 1, x0, x3 => if x0 < 0 then ((some (([(wrap64 (48 - (Int.tmod x0 10))) % 256] : List Int) : List Int)).bind fun KW => (if (strOfNums KW).size + x3.size ≤ 9223372036854775807 then (qm.l0 k (wrap64 (Int.tdiv x0 10)) ((strOfNums KW) ++ x3)) else (none))) else (if 1 + x3.size ≤ 9223372036854775807 then (some ((⟨#[45]⟩ : ByteArray) ++ x3)) else (none))
def qm.f (k : Nat) (a0 : Int) : Option (ByteArray) := if a0 ≥ 0 then ((qc.f k a0).bind fun aK => (some aK)) else (qm.l0 k a0 (⟨#[]⟩ : ByteArray))
set_option maxHeartbeats 8000000 in
set_option maxRecDepth 100000 in
theorem qm.calls (k : Nat) (a0 : Int) (r : ByteArray) (w : World) (h : qm.f k a0 = some r) :
  Calls Tryz.prog 114 #[.int .i64 a0] w fun e w' => e = .returned (.string r) ∧ Below w.heap.size w w' := by
 have HB := zy.mk (Below.refl w.heap.size w)
 have H : (if a0 ≥ 0 then ((qc.f k a0).bind fun aK => (some aK)) else (qm.l0 k a0 (⟨#[]⟩ : ByteArray))) = some r := h
 clear h
 by_cases c2 : a0 ≥ 0
 ·rw [if_pos c2] at H
  have Wh : decide (0 ≤ a0) = true := decide_eq_true c2
  clear c2
  replace H := Option.bind_eq_some_iff.mp H
  obtain ⟨aK, fI, H⟩ := H
  replace H : (some aK) = some r := H
  have A3 := zy.mk fI
  clear fI
  obtain rfl := Option.some.inj H
  go_enter Tryz.func114, Tryz.ntmps114
  go_wp2_with (first | ((with_reducible refine yI (f := 113) rfl ?_); refine je (some 7) Tryz.func113 #[.int .i64 a0] ?_; (with_reducible refine (qc.calls k a0 aK _ A3.out).mono ?_); rintro e w4 ⟨rfl, hb⟩; refine ⟨_, rfl, ?_⟩; have zn := zy.mk (yY (yX HB.out) hb); clear HB; have HB := zn; clear zn; (try clear hb); (try clear hb2); (try clear hk); (try clear hi)))
  go_ret
  exact ⟨by first | rfl | (simp [yZ, yQ] <;> rfl) | (simp [*, yZ, yQ] <;> rfl), by repeat (first | (with_reducible first | exact HB.out | apply yt | apply zM | apply yP) | exact HB.out)⟩
 ·rw [if_neg c2] at H
  have Wh : decide (0 ≤ a0) = false := decide_eq_false c2
  clear c2
  have H' := zy.mk H
  clear H
  go_enter Tryz.func114, Tryz.ntmps114
  go_wp2
  go_loopg [0, 3] k (fun kq v0 v3 w' => ∃ (wQ : Int) (uz : ByteArray), v0 = .int .i64 wQ ∧ v3 = .string uz ∧ zy (qm.l0 kq wQ uz = some r) ∧ zy (kq ≤ k) ∧ zy (Below w.heap.size w w'))
  case atStart => exact ⟨(a0), ((⟨#[]⟩ : ByteArray)), (by first | rfl | (simp; done) | (simp [*]; done)), (by first | rfl | (simp; done) | (simp [*]; done)), H', ⟨Nat.le_refl _⟩, ⟨yX HB.out⟩⟩
  case round =>
   clear H'
   try clear c1
   try clear c2
   try clear Wh
   try clear p2
   obtain ⟨wQ, uz, rfl, rfl, HA, vT, HB⟩ := hrel
   cases gk with
   | zero => exact absurd HA.out (by simp [qm.l0])
   | succ k1 =>
    have H := HA.out
    clear HA
    simp only [qm.l0] at H
    by_cases c5 : wQ < 0
    ·rw [if_pos c5] at H
     have Ya : decide (wQ < 0) = true := decide_eq_true c5
     clear c5
     obtain ⟨KW, nX⟩ : ∃ y_ : List Int, y_ = (([(wrap64 (48 - (Int.tmod wQ 10))) % 256] : List Int)) := ⟨_, rfl⟩
     replace H : (if (strOfNums KW).size + uz.size ≤ 9223372036854775807 then (qm.l0 k1 (wrap64 (Int.tdiv wQ 10)) ((strOfNums KW) ++ uz)) else (none)) = some r := by first | (rw [nX]; with_reducible exact H) | (have uN := (Option.bind_some _ _).symm.trans H; rw [nX]; with_reducible exact uN) | (have uN := (Option.bind_some _ _).symm.trans H; with_reducible exact uN) | with_reducible exact H | (rw [nX]; exact H) | exact H
     have zwQ := zy.mk nX
     clear nX
     by_cases c6 : (strOfNums KW).size + uz.size ≤ 9223372036854775807
     ·rw [if_pos c6] at H
      have Xf := eq_true c6
      have dL : decide ((strOfNums KW).size + uz.size ≤ 9223372036854775807) = true := decide_eq_true c6
      try have zaE : (9223372036854775807 < (strOfNums KW).size + uz.size) = False := eq_false (Nat.not_lt.2 c6)
      have H' := zy.mk H
      clear H
      go_wp2_with (first | ((with_reducible refine xI (N := 14) rfl ?_); refine Kd.J2 (Kd.int .u8) _ 5 ?hg (N := 14) ?hd (xs := ([(wrap64 (48 - (Int.tmod wQ 10))) % 256] : List Int)) (inner := [.int .u8 ((wrap64 (48 - (Int.tmod wQ 10))) % 256)]) (ok := fun _ => True) (pK := fun _ => True) ?hr ?hp (fun _ hk => hk) trivial (Below.refl _ _) (Nat.le_refl _) (by simp) ?_; (case hd => rfl); (case hg => rfl); (case hr => first | (go_simp; done) | (go_simp; rfl)); (case hp => exact (xA.one (show Kd.M (Kd.int .u8) _ _ _ ((wrap64 (48 - (Int.tmod wQ 10))) % 256) [.int .u8 ((wrap64 (48 - (Int.tmod wQ 10))) % 256)] from rfl) (xA.none _ _))); intro zi1 w7 WC hb UW YK; clear UW YK; (first | rw [← zwQ.out] at WC | (simp only [Int.reduceToNat] at WC; rw [← zwQ.out] at WC)); have zn := zy.mk (Kd.jk WC (zO (yX HB.out))); have zA := zy.mk (yY (yX HB.out) hb); clear HB; have zYb := zn; have HB := zA; clear zn zA; clear hb WC; have zaF := wS (P := Tryz.prog) Tryz.underlying66 Tryz.underlying5 Tryz.underlying9 (Kd.YZ zYb.out)))
      go_roundg k1
      case measure => have := vT.out; omega
      case rel => exact ⟨(wrap64 (Int.tdiv wQ 10)), ((strOfNums KW) ++ uz), (by first | rfl | (simp; done) | (simp [*]; done)), (by first | rfl | (simp; done) | (simp [*]; done)), H', ⟨by have := vT.out; omega⟩, ⟨yX HB.out⟩⟩
     ·rw [if_neg c6] at H
      exact absurd H (by simp)
    ·rw [if_neg c5] at H
     have Ya : decide (wQ < 0) = false := decide_eq_false c5
     clear c5
     by_cases c10 : 1 + uz.size ≤ 9223372036854775807
     ·rw [if_pos c10] at H
      have VU := eq_true c10
      have nJ : decide (1 + uz.size ≤ 9223372036854775807) = true := decide_eq_true c10
      try have zhI : (9223372036854775807 < 1 + uz.size) = False := eq_false (Nat.not_lt.2 c10)
      obtain rfl := Option.some.inj H
      go_wp2
      go_ret
      exact ⟨by first | rfl | (simp [yZ, yQ] <;> rfl) | (simp [*, yZ, yQ] <;> rfl), by repeat (first | (with_reducible first | exact HB.out | apply yt | apply zM | apply yP) | exact HB.out)⟩
     ·rw [if_neg c10] at H
      exact absurd H (by simp)
end Go.Proofs.YtaifemkokfoadaaGreatDoor.PX
namespace Go.Proofs.YtaifemkokfoadaaGreatDoor.PX
open Go.RowKit Go.Proofs.zx.zK Go.Proofs.zx.zU Go.Proofs.zx.zN
attribute [local go_sem] qF qG xC xD qY qW qH qI   -- for this text's walks alone
set_option linter.unusedVariables false
set_option linter.unusedSimpArgs false
def qg.l0 : Nat → ByteArray → Int → List ByteArray → Int → Int → Option (List ByteArray)
 | 0, _, _, _, _, _ => none
 | k + 1, x0, x1, x5, x6, x7 => if x7 < (x0.size : Int) then (if 0 ≤ x7 then (if (bt x0 x7) = x1 then (if 0 ≤ x6 then (if x6 ≤ x7 then (if x7 ≤ (x0.size : Int) then (if x5.length < 8796093022208 then (qg.l0 k x0 x1 (x5 ++ [x0.extract (x6 : Int).toNat (x7 : Int).toNat]) (wrap64 (x7 + 1)) (wrap64 (x7 + 1))) else (none)) else (none)) else (none)) else (none)) else (qg.l0 k x0 x1 x5 x6 (wrap64 (x7 + 1)))) else (none)) else (if 0 ≤ x6 then (if x6 ≤ (x0.size : Int) then (if x5.length < 8796093022208 then (some (x5 ++ [x0.extract (x6 : Int).toNat x0.size])) else (none)) else (none)) else (none))
def qg.f (k : Nat) (a0 : ByteArray) (a1 : Int) : Option (List ByteArray) := qg.l0 k a0 a1 ([] : List ByteArray) 0 0
set_option maxHeartbeats 8000000 in
set_option maxRecDepth 100000 in
theorem qg.calls (k : Nat) (a0 : ByteArray) (a1 : Int) (r : List ByteArray) (w : World) (h : qg.f k a0 a1 = some r) :
  Calls Tryz.prog 80 #[.string a0, .int .u8 a1] w fun e w' => ∃ fH : Value, e = .returned (fH) ∧ Kd.R Kd.string 9 w' w.heap.size (fun _ => True) fH r ∧ Below w.heap.size w w' := by
 have HB := zy.mk (Below.refl w.heap.size w)
 have H : (qg.l0 k a0 a1 ([] : List ByteArray) 0 0) = some r := h
 clear h
 have H' := zy.mk H
 clear H
 go_enter Tryz.func80, Tryz.ntmps80
 go_wp2
 go_loopg [5, 6, 7] k (fun kq v5 v6 v7 w' => ∃ (kK : List ByteArray) (qL : Int) (kY : Int), v6 = .int .i64 qL ∧ v7 = .int .i64 kY ∧ zy (qg.l0 kq a0 a1 kK qL kY = some r) ∧ zy (kq ≤ k) ∧ zy (Kd.R Kd.string 9 w' w.heap.size (fun _ => True) v5 kK) ∧ zy (Below w.heap.size w w'))
 case atStart => exact ⟨(([] : List ByteArray)), (0), (0), (by first | rfl | (simp; done) | (simp [*]; done)), (by first | rfl | (simp; done) | (simp [*]; done)), H', ⟨Nat.le_refl _⟩, ⟨by first | exact Kd.xE _ _ _ _ _ | exact Kd.jY _ _ _ _ _ | exact Kd.jW _ _ _ _ _ | exact Kd.jV _ _ _ _ _ | exact Kd.jK _ _ _ _ _⟩, ⟨yX HB.out⟩⟩
 case round =>
  clear H'
  try clear p2
  obtain ⟨kK, qL, kY, rfl, rfl, HA, vT, qQ, HB⟩ := hrel
  cases gk with
  | zero => exact absurd HA.out (by simp [qg.l0])
  | succ k1 =>
   have H := HA.out
   clear HA
   simp only [qg.l0] at H
   by_cases c3 : kY < (a0.size : Int)
   ·rw [if_pos c3] at H
    have kC : decide (kY < (a0.size : Int)) = true := decide_eq_true c3
    clear c3
    by_cases c4 : 0 ≤ kY
    ·rw [if_pos c4] at H
     have ZC : decide (0 ≤ kY) = true := decide_eq_true c4
     clear c4
     by_cases c6 : (bt a0 kY) = a1
     ·rw [if_pos c6] at H
      have Xf : ((bt a0 kY) == a1) = true := beq_iff_eq.mpr c6
      have dL : ((bt a0 kY) != a1) = false := bne_eq_false_iff_eq.mpr c6
      clear c6
      by_cases c7 : 0 ≤ qL
      ·rw [if_pos c7] at H
       have QN := eq_true c7
       have zi2 : decide (0 ≤ qL) = true := decide_eq_true c7
       clear c7
       by_cases c8 : qL ≤ kY
       ·rw [if_pos c8] at H
        have Y0 := eq_true c8
        have zJm : decide (qL ≤ kY) = true := decide_eq_true c8
        clear c8
        by_cases c9 : kY ≤ (a0.size : Int)
        ·rw [if_pos c9] at H
         have WV := eq_true c9
         have zxW : decide (kY ≤ (a0.size : Int)) = true := decide_eq_true c9
         clear c9
         by_cases c10 : kK.length < 8796093022208
         ·rw [if_pos c10] at H
          have zYc := zy.mk c10
          clear c10
          obtain ⟨zJs, nV⟩ : ∃ y_ : List ByteArray, y_ = (kK ++ [a0.extract (qL : Int).toNat (kY : Int).toNat]) := ⟨_, rfl⟩
          replace H : (qg.l0 k1 a0 a1 zJs (wrap64 (kY + 1)) (wrap64 (kY + 1))) = some r := by first | (rw [nV]; with_reducible exact H) | (have uN := (Option.bind_some _ _).symm.trans H; rw [nV]; with_reducible exact uN) | (have uN := (Option.bind_some _ _).symm.trans H; with_reducible exact uN) | with_reducible exact H | (rw [nV]; exact H) | exact H
          have zYd := zy.mk nV
          clear nV
          have H' := zy.mk H
          clear H
          have p5 : 0 ≤ (kY : Int) := of_decide_eq_true (by first | (with_reducible assumption) | assumption)
          have q5 : kY < (a0.size : Int) := of_decide_eq_true (by first | (with_reducible assumption) | assumption)
          have hx5 := Zd a0 kY
          replace p5 := eq_true p5
          replace q5 := eq_true q5
          go_wp2_with (first | ((with_reducible refine QK (b := .append) (xs := #[.tmp 19, .tmp 24]) rfl ?_); at_builtin; refine Kd.JU Kd.string (w0 := w) w.heap.size rfl (.tmp 19) (.tmp 24) 77 9 (.string ⟨#[]⟩) 16 rfl Tryz.underlying77 zyr rfl (by decide) (by omega) u5 kK (a0.extract (qL : Int).toNat (kY : Int).toNat) [.string (a0.extract (qL : Int).toNat (kY : Int).toNat)] (fun _ => True) (fun _ => False) rfl rfl ?aP (fun _ hk => hk.elim) ?aF ?aO ?aB ?aS ?aL ?_; (case aP => exact rfl); (case aB => exact (yX HB.out)); (case aF => exact (fun _ _ => trivial)); (case aO => exact (yK qQ.out)); (case aS => exact (zO (yX HB.out))); (case aL => have := zYc.out; omega); intro zi3 Xr ho hb hg hat; rw [← zYd.out] at ho; have zn := zy.mk (hb); have zA := zy.mk (ho); clear HB; clear qQ; have HB := zn; have zYe := zA; clear zn zA; clear ho hb hg hat))
          go_roundg k1
          case measure => have := vT.out; omega
          case rel => exact ⟨(zJs), (wrap64 (kY + 1)), (wrap64 (kY + 1)), (by first | rfl | (simp; done) | (simp [*]; done)), (by first | rfl | (simp; done) | (simp [*]; done)), H', ⟨by have := vT.out; omega⟩, ⟨yK zYe.out⟩, ⟨yX HB.out⟩⟩
         ·rw [if_neg c10] at H
          exact absurd H (by simp)
        ·rw [if_neg c9] at H
         exact absurd H (by simp)
       ·rw [if_neg c8] at H
        exact absurd H (by simp)
      ·rw [if_neg c7] at H
       exact absurd H (by simp)
     ·rw [if_neg c6] at H
      have Xf : ((bt a0 kY) == a1) = false := beq_eq_false_iff_ne.mpr c6
      have dL : ((bt a0 kY) != a1) = true := bne_iff_ne.mpr c6
      have H' := zy.mk H
      clear H
      have p5 : 0 ≤ (kY : Int) := of_decide_eq_true (by first | (with_reducible assumption) | assumption)
      have q5 : kY < (a0.size : Int) := of_decide_eq_true (by first | (with_reducible assumption) | assumption)
      have hx5 := Zd a0 kY
      replace p5 := eq_true p5
      replace q5 := eq_true q5
      go_wp2
      go_roundg k1
      case measure => have := vT.out; omega
      case rel => exact ⟨(kK), (qL), (wrap64 (kY + 1)), (by first | rfl | (simp; done) | (simp [*]; done)), (by first | rfl | (simp; done) | (simp [*]; done)), H', ⟨by have := vT.out; omega⟩, ⟨yK qQ.out⟩, ⟨yX HB.out⟩⟩
    ·rw [if_neg c4] at H
     exact absurd H (by simp)
   ·rw [if_neg c3] at H
    have kC : decide (kY < (a0.size : Int)) = false := decide_eq_false c3
    clear c3
    by_cases c12 : 0 ≤ qL
    ·rw [if_pos c12] at H
     have zhL := eq_true c12
     have zhM : decide (0 ≤ qL) = true := decide_eq_true c12
     clear c12
     by_cases c13 : qL ≤ (a0.size : Int)
     ·rw [if_pos c13] at H
      have zwX := eq_true c13
      have zhN : decide (qL ≤ (a0.size : Int)) = true := decide_eq_true c13
      clear c13
      by_cases c14 : kK.length < 8796093022208
      ·rw [if_pos c14] at H
       have zYf := zy.mk c14
       clear c14
       obtain ⟨zaG, nK⟩ : ∃ y_ : List ByteArray, y_ = (kK ++ [a0.extract (qL : Int).toNat a0.size]) := ⟨_, rfl⟩
       replace H : (some zaG) = some r := by first | (rw [nK]; with_reducible exact H) | (have uN := (Option.bind_some _ _).symm.trans H; rw [nK]; with_reducible exact uN) | (have uN := (Option.bind_some _ _).symm.trans H; with_reducible exact uN) | with_reducible exact H | (rw [nK]; exact H) | exact H
       have zYg := zy.mk nK
       clear nK
       obtain rfl := Option.some.inj H
       go_wp2_with (first | ((with_reducible refine QK (b := .append) (xs := #[.tmp 28, .tmp 32]) rfl ?_); at_builtin; refine Kd.JU Kd.string (w0 := w) w.heap.size rfl (.tmp 28) (.tmp 32) 77 9 (.string ⟨#[]⟩) 16 rfl Tryz.underlying77 zyr rfl (by decide) (by omega) u5 kK (a0.extract (qL : Int).toNat a0.size) [.string (a0.extract (qL : Int).toNat a0.size)] (fun _ => True) (fun _ => False) rfl rfl ?aP (fun _ hk => hk.elim) ?aF ?aO ?aB ?aS ?aL ?_; (case aP => exact rfl); (case aB => exact (yX HB.out)); (case aF => exact (fun _ _ => trivial)); (case aO => exact (yK qQ.out)); (case aS => exact (zO (yX HB.out))); (case aL => have := zYf.out; omega); intro zi4 QF ho hb hg hat; rw [← zYg.out] at ho; have zn := zy.mk (hb); have zA := zy.mk (ho); clear HB; clear qQ; have HB := zn; have zYh := zA; clear zn zA; clear ho hb hg hat))
       go_ret
       exact ⟨_, by first | rfl | (simp [yZ, yQ] <;> rfl) | (simp [*, yZ, yQ] <;> rfl), by (with_reducible repeat (first | apply Kd.qE | apply Kd.qp | apply Kd.yR)); exact zYh.out, by repeat (first | (with_reducible first | exact HB.out | apply yt | apply zM | apply yP) | exact HB.out)⟩
      ·rw [if_neg c14] at H
       exact absurd H (by simp)
     ·rw [if_neg c13] at H
      exact absurd H (by simp)
    ·rw [if_neg c12] at H
     exact absurd H (by simp)
end Go.Proofs.YtaifemkokfoadaaGreatDoor.PX
namespace Go.Proofs.YtaifemkokfoadaaGreatDoor
open Go.RowKit Go.Proofs.zx.zK Go.Proofs.YtaifemkokfoadaaGreatDoor.PX
def QD (n : Nat) : List UInt8 := if n < 10 then [] else Lib.decDigits (n / 10)
theorem VB (n : Nat) : Lib.decDigits n = QD n ++ [UInt8.ofNat (48 + n % 10)] := by
 rw [Lib.decDigits]
 unfold QD
 split
 ·rw [show n % 10 = n by omega]; rfl
 ·rfl
theorem nY (n : Nat) (h : 9 < n) : QD n = Lib.decDigits (n / 10) := by unfold QD; rw [if_neg (by omega)]
theorem Ul (n : Nat) (h : n ≤ 9) : QD n = [] := by unfold QD; rw [if_pos (by omega)]
theorem zvo (n : Nat) : Int.tdiv (n : Int) 10 = ((n / 10 : Nat) : Int) := by
 rw [Int.tdiv_eq_ediv_of_nonneg (by omega)]; rfl
theorem zvp (n : Nat) : Int.tmod (n : Int) 10 = ((n % 10 : Nat) : Int) := by
 rw [Int.tmod_eq_emod_of_nonneg (by omega)]; rfl
theorem zwJ (n : Nat) : (wrap64 (48 + Int.tmod (n : Int) 10)) % 256 = ((48 + n % 10 : Nat) : Int) := by
 rw [zvp, YA (by omega) (by omega)]; omega
theorem zkP (m : Nat) : ∀ (n : Nat) (s : List UInt8), n < 10 ^ m → n ≤ 9223372036854775807 → s.length + m ≤ 1000 →
  Ev (fun k => qc.l0 k (n : Int) (bar s)) (bar (QD n ++ s)) := by
 induction m with
 | zero =>
  intro n s h _ hs
  refine Ev.step (fun k => by rw [qc.l0]) ?_
  refine qN (by omega) ?_
  rw [Ul n (by omega)]
  exact Ev.now _
 | succ m ih =>
  intro n s h hn hs
  refine Ev.step (fun k => by rw [qc.l0]) ?_
  by_cases h9 : n ≤ 9
  ·refine qN (by omega) ?_
   rw [Ul n h9]
   exact Ev.now _
  ·have e : wrap64 (Int.tdiv (n : Int) 10) = ((n / 10 : Nat) : Int) := by rw [zvo, YA (by omega) (by omega)]
   rw [e, zwJ]
   refine zL (by omega) (Zf (zL ?_ ?_))
   ·rw [X9, vC, vC]; simp only [List.length_cons, List.length_nil]; omega
   ·rw [X9, Pg, nY n (by omega), VB (n / 10), List.append_assoc]
    refine ih (n / 10) _ (by rw [Nat.pow_succ] at h; omega) (by omega) ?_
    simp only [List.length_append, List.length_cons, List.length_nil]; omega
theorem eP (n : Nat) (h : n ≤ 9223372036854775807) : Ev (fun k => qc.f k (n : Int)) (bar (Lib.decDigits n)) := by
 unfold qc.f
 rw [zwJ, X9, VB n]
 exact zkP 19 n _ (by omega) h (by simp)
theorem zQi (n : Nat) : Int.tmod (-(n : Int)) 10 = -((n % 10 : Nat) : Int) := by
 rw [Int.neg_tmod, zvp]
theorem zQl (n : Nat) : Int.tdiv (-(n : Int)) 10 = -((n / 10 : Nat) : Int) := by
 rw [Int.neg_tdiv, zvo]
theorem zYi (n : Nat) : (wrap64 (48 - Int.tmod (-(n : Int)) 10)) % 256 = ((48 + n % 10 : Nat) : Int) := by
 rw [zQi, YA (by omega) (by omega)]; omega
theorem zkR (m : Nat) : ∀ (n : Nat) (s : List UInt8), n < 10 ^ m → n ≤ 9223372036854775808 → s.length + m ≤ 1000 → (n = 0 → s ≠ []) →
  Ev (fun k => qm.l0 k (-(n : Int)) (bar s)) (bar (45 :: (if n = 0 then s else Lib.decDigits n ++ s))) := by
 induction m with
 | zero =>
  intro n s h _ hs _
  obtain rfl : n = 0 := by omega
  refine Ev.step (fun k => by rw [qm.l0]) ?_
  refine qN (by omega) (zL (by rw [vC]; omega) ?_)
  exact zXv (congrArg some (Pg [45] s))
 | succ m ih =>
  intro n s h hn hs h0
  refine Ev.step (fun k => by rw [qm.l0]) ?_
  by_cases h9 : n = 0
  ·subst h9
   refine qN (by omega) (zL (by rw [vC]; omega) ?_)
   exact zXv (congrArg some (Pg [45] s))
  ·have e : wrap64 (Int.tdiv (-(n : Int)) 10) = -((n / 10 : Nat) : Int) := by rw [zQl, YA (by omega) (by omega)]
   rw [e, zYi]
   refine zL (by omega) (Zf (zL ?_ ?_))
   ·rw [X9, vC, vC]; simp only [List.length_cons, List.length_nil]; omega
   ·rw [X9, Pg, if_neg h9]
    refine UZ ?_ (ih (n / 10) _ (by rw [Nat.pow_succ] at h; omega) (by omega) ?_ ?_)
    ·congr 2
     rw [VB n]
     by_cases hz : n / 10 = 0
     ·rw [if_pos hz, Ul n (by omega)]; rfl
     ·rw [if_neg hz, nY n (by omega), List.append_assoc]; rfl
    ·simp only [List.length_append, List.length_cons, List.length_nil]; omega
    ·intro _ h; cases h
theorem WE (n : Int) (h0 : -9223372036854775808 ≤ n) (h1 : n ≤ 9223372036854775807) : Ev (fun k => qm.f k n) (bar (Lib.itoa n)) := by
 unfold qm.f Lib.itoa
 by_cases hn : n < 0
 ·refine qN (by omega) ?_
  rw [if_pos hn]
  have e : n = -(n.natAbs : Int) := by omega
  refine UZ ?_ (Ev.congr (fun k => ?_) (zkR 19 n.natAbs [] (by omega) (by omega) (by simp) (by omega)))
  ·rw [if_neg (by omega), List.append_nil]
  ·rw [← e]; rfl
 ·refine zL (by omega) ?_
  rw [if_neg hn]
  have e : n = (n.toNat : Int) := by omega
  refine Ev.bind (a := bar (Lib.decDigits n.toNat)) (Ev.congr (fun k => ?_) (eP n.toNat (by omega))) (Ev.now _)
  rw [← e]
end Go.Proofs.YtaifemkokfoadaaGreatDoor
namespace Go.Proofs.YtaifemkokfoadaaGreatDoor
def uW (c : UInt8) : List UInt8 → List (List UInt8)
 | [] => [[]]
 | x :: s => if x = c then [] :: uW c s else match uW c s with
  | [] => [[x]]
  | p :: ps => (x :: p) :: ps
theorem P7 (c : UInt8) : ∀ s, uW c s ≠ []
 | [] => by simp [uW]
 | x :: s => by
  unfold uW
  split
  ·simp
  ·split <;> simp
theorem Yd (c : UInt8) : ∀ (t r : List UInt8), (∀ x ∈ t, x ≠ c) → uW c (t ++ c :: r) = t :: uW c r
 | [], r, _ => by simp [uW]
 | x :: t, r, h => by
  have hx : x ≠ c := h x (List.mem_cons_self ..)
  have ih := Yd c t r (fun y hy => h y (List.mem_cons_of_mem _ hy))
  rw [List.cons_append, uW, if_neg hx, ih]
theorem Um (c : UInt8) : ∀ (t : List UInt8), (∀ x ∈ t, x ≠ c) → uW c t = [t]
 | [], _ => rfl
 | x :: t, h => by
  have hx : x ≠ c := h x (List.mem_cons_self ..)
  rw [uW, if_neg hx, Um c t (fun y hy => h y (List.mem_cons_of_mem _ hy))]
theorem eT (c : UInt8) : ∀ s : List UInt8, (∀ x ∈ s, x ≠ c) ∨ ∃ t r, s = t ++ c :: r ∧ ∀ x ∈ t, x ≠ c
 | [] => .inl (fun x h => by cases h)
 | x :: s => by
  by_cases hx : x = c
  ·exact .inr ⟨[], s, by rw [hx]; rfl, fun y h => by cases h⟩
  ·rcases eT c s with h | ⟨t, r, rfl, h⟩
   ·exact .inl (fun y hy => by rcases List.mem_cons.1 hy with rfl | hy; exact hx; exact h y hy)
   ·exact .inr ⟨x :: t, r, rfl, fun y hy => by rcases List.mem_cons.1 hy with rfl | hy; exact hx; exact h y hy⟩
theorem VI (c : UInt8) : ∀ (t r : List UInt8), (∀ x ∈ t, x ≠ c) → Lib.indexByte (t ++ c :: r) c = t.length
 | [], r, _ => by simp [Lib.indexByte]
 | x :: t, r, h => by
  have hx : x ≠ c := h x (List.mem_cons_self ..)
  have ih := VI c t r (fun y hy => h y (List.mem_cons_of_mem _ hy))
  rw [List.cons_append, Lib.indexByte, ih, if_neg (by simpa using hx), if_neg (by simp)]
  simp
theorem KS (c : UInt8) : ∀ (t : List UInt8), (∀ x ∈ t, x ≠ c) → Lib.indexByte t c = -1
 | [], _ => rfl
 | x :: t, h => by
  have hx : x ≠ c := h x (List.mem_cons_self ..)
  rw [Lib.indexByte, KS c t (fun y hy => h y (List.mem_cons_of_mem _ hy)), if_neg (by simpa using hx), if_pos (by simp)]
theorem index_one (c : UInt8) : ∀ s : List UInt8, Lib.index s [c] = Lib.indexByte s c
 | [] => rfl
 | x :: s => by
  rw [Lib.index, Lib.indexByte, index_one c s]
  by_cases hx : x = c
  ·subst hx; simp
  ·have h1 : ¬ [c].isPrefixOf (x :: s) = true := by simp [List.isPrefixOf]; exact fun e => hx e.symm
   rw [if_neg h1, if_neg (show ¬ (x == c) = true by simpa using hx)]
theorem bE (c : UInt8) : ∀ (n : Nat) (s : List UInt8), s.count c ≤ n → Lib.splitK [c] 0 n s = uW c s
 | 0, s, h => by
  have hs : ∀ x ∈ s, x ≠ c := fun x hx e => by
   subst e
   have := List.count_pos_iff.2 hx
   omega
  rw [Um c s hs]; rfl
 | n + 1, s, h => by
  rcases eT c s with hs | ⟨t, r, rfl, ht⟩
  ·rw [Lib.splitK, index_one, KS c s hs, if_pos (by simp), Um c s hs]
  ·have hc : r.count c ≤ n := by
    rw [List.count_append, List.count_cons_self] at h; omega
   have e1 : (((t.length : Nat) : Int).toNat + 0) = t.length := by simp
   have e2 : ((t.length : Nat) : Int).toNat + [c].length = t.length + 1 := by simp
   rw [Lib.splitK, index_one, VI c t r ht, if_neg (by simp), e1, e2, Yd c t r ht, List.take_left' rfl]
   congr 1
   rw [show (t ++ c :: r).drop (t.length + 1) = r by simp [List.drop_append]]
   exact bE c n r hc
theorem zQm (t : List UInt8) : Lib.trimSuffix (t ++ [10]) [10] = t := by
 unfold Lib.trimSuffix Lib.hasSuffix
 rw [if_pos]
 ·simp
 ·rw [List.isSuffixOf_iff_suffix]; exact ⟨t, rfl⟩
def kZ : Nat → List UInt8 → List (List UInt8)
 | 0, _ => []
 | n + 1, s => if s = [] then [] else if Lib.indexByte s 10 < 0 then [s] else s.take ((Lib.indexByte s 10).toNat + 1) :: kZ n (s.drop ((Lib.indexByte s 10).toNat + 1))
theorem bF : ∀ (n m : Nat) (s : List UInt8), s.length ≤ n → s.length ≤ m → kZ n s = kZ m s := by
 intro n
 induction n with
 | zero =>
  intro m s h1 _
  have : s = [] := List.eq_nil_of_length_eq_zero (by omega)
  subst this
  cases m <;> rfl
 | succ n ih =>
  intro m s h1 h2
  cases m with
  | zero =>
   have : s = [] := List.eq_nil_of_length_eq_zero (by omega)
   subst this; rfl
  | succ m =>
   simp only [kZ]
   split
   ·rfl
   ·split
    ·rfl
    ·rename_i h3 _
     have : 0 < s.length := List.length_pos_iff.2 h3
     rw [ih m _ (by rw [List.length_drop]; omega) (by rw [List.length_drop]; omega)]
def Zp (s : List UInt8) : List (List UInt8) := kZ s.length s
theorem zx4 : Zp [] = [] := rfl
theorem Ka (t r : List UInt8) (ht : ∀ x ∈ t, x ≠ 10) : Zp (t ++ 10 :: r) = (t ++ [10]) :: Zp r := by
 unfold Zp
 have hl : (t ++ 10 :: r).length = (t.length + r.length) + 1 := by simp; omega
 rw [hl, kZ, if_neg (by simp), VI 10 t r ht, if_neg (by simp), Int.toNat_natCast]
 have e1 : (t ++ 10 :: r).take (t.length + 1) = t ++ [10] := by simp [List.take_append, List.take_of_length_le]
 have e2 : (t ++ 10 :: r).drop (t.length + 1) = r := by simp [List.drop_append]
 rw [e1, e2]
 congr 1
 exact bF _ _ _ (by omega) (Nat.le_refl _)
theorem Vd {α : Type} (f : α → List UInt8) (g : α → List UInt8) (r : List UInt8) : ∀ l : List α, (∀ x ∈ l, f x = g x ++ [10] ∧ ∀ y ∈ g x, y ≠ 10) → Zp ((l.map f).flatten ++ r) = l.map f ++ Zp r
 | [], _ => rfl
 | x :: l, h => by
  obtain ⟨h1, h2⟩ := h x (List.mem_cons_self ..)
  rw [List.map_cons, List.flatten_cons, List.append_assoc, h1, List.append_assoc, List.singleton_append, Ka _ _ h2, Vd f g r l (fun y hy => h y (List.mem_cons_of_mem _ hy)), List.cons_append, ← h1]
end Go.Proofs.YtaifemkokfoadaaGreatDoor
namespace Go.Proofs.YtaifemkokfoadaaGreatDoor.PX
open Go.RowKit Go.Proofs.zx.zK Go.Proofs.zx.zU Go.Proofs.zx.zN
attribute [local go_sem] qF qG xC xD qY qW qH qI   -- for this text's walks alone
set_option linter.unusedVariables false
set_option linter.unusedSimpArgs false
mutual
def zB.j0 : Nat → ByteArray → Int → Int → Bool → Option (Int × Bool)
 | 0, _, _, _, _ => none
 | k + 1, x0, x4, x5, wo => if wo = true then (zB.j1 k x0 x4 1) else (zB.j1 k x0 x4 x5)
def zB.j1 : Nat → ByteArray → Int → Int → Option (Int × Bool)
 | 0, _, _, _ => none
 | k + 1, x0, x4, x5 => zB.l0 k x0 x4 x5 x5
def zB.l0 : Nat → ByteArray → Int → Int → Int → Option (Int × Bool)
 | 0, _, _, _, _ => none
 | k + 1, x0, x4, x5, x6 => if x6 < (x0.size : Int) then (if 0 ≤ x6 then (if (bt x0 x6) < 48 then (some (0, false)) else (if (bt x0 x6) > 57 then (some (0, false)) else (if (wrap64 (x6 - x5)) ≥ 9 then (some (0, false)) else (zB.l0 k x0 (wrap64 ((wrap64 (x4 * 10)) + (((bt x0 x6) - 48) % 256))) x5 (wrap64 (x6 + 1)))))) else (none)) else (if x5 = 1 then ((qm.f k (wrap64 (-x4))).bind fun zx5 => (some (wrap64 (-x4), (zx5.toList == x0.toList)))) else ((qm.f k x4).bind fun zx6 => (some (x4, (zx6.toList == x0.toList)))))
end
def zB.f (k : Nat) (a0 : ByteArray) : Option (Int × Bool) := if a0.toList = ([] : List UInt8) then (zB.j0 k a0 0 0 false) else (if 0 < (a0.size : Int) then (zB.j0 k a0 0 0 ((bt a0 0) == 45)) else (none))
set_option maxHeartbeats 8000000 in
set_option maxRecDepth 100000 in
theorem zB.calls (k : Nat) (a0 : ByteArray) (r1 : Int) (r2 : Bool) (w : World) (h : zB.f k a0 = some (r1, r2)) :
  Calls Tryz.prog 81 #[.string a0] w fun e w' => e = .returned (.tuple #[.int .i64 r1, .bool r2]) ∧ Below w.heap.size w w' := by
 have HB := zy.mk (Below.refl w.heap.size w)
 have H : (if a0.toList = ([] : List UInt8) then (zB.j0 k a0 0 0 false) else (if 0 < (a0.size : Int) then (zB.j0 k a0 0 0 ((bt a0 0) == 45)) else (none))) = some (r1, r2) := h
 clear h
 have HC2 := zy.mk H
 clear H
 go_enter Tryz.func81, Tryz.ntmps81
 go_upto_region 2 with (fail)
 go_cut [13] (fun v13 wc => ∃ (kq : Nat) (yJ : Bool), v13 = .bool yJ ∧ zy (zB.j0 kq a0 0 0 yJ = some (r1, r2)) ∧ zy (kq ≤ k) ∧ zy (Below w.heap.size w wc))
 case first =>
  have H := HC2.out
  clear HC2
  by_cases c3 : a0.toList = ([] : List UInt8)
  ·rw [if_pos c3] at H
   have kC : (a0.toList == ([] : List UInt8)) = true := beq_iff_eq.mpr c3
   have zkS : (!(a0).toList.isEmpty) = false := by rw [List.isEmpty_iff.mpr c3]; rfl
   have Xg : (a0.toList != ([] : List UInt8)) = false := bne_eq_false_iff_eq.mpr c3
   clear c3
   (first | rw [kC] | rw [zkS] | (simp only [wJ, wV]; rw [kC]) | skip)
   have H' := zy.mk H
   clear H
   go_wp2
   go_meet
   case rel => exact ⟨_, (false), (by first | rfl | (simp; done) | (simp [*]; done)), H', ⟨by first | omega | exact Nat.le_refl _⟩, ⟨yX HB.out⟩⟩
  ·rw [if_neg c3] at H
   have kC : (a0.toList == ([] : List UInt8)) = false := beq_eq_false_iff_ne.mpr c3
   have zkS : (!(a0).toList.isEmpty) = true := by rw [List.isEmpty_eq_false_iff.mpr c3]; rfl
   have Xg : (a0.toList != ([] : List UInt8)) = true := bne_iff_ne.mpr c3
   (first | rw [kC] | rw [zkS] | (simp only [wJ, wV]; rw [kC]) | skip)
   by_cases c4 : 0 < (a0.size : Int)
   ·rw [if_pos c4] at H
    have ZC : decide (0 < (a0.size : Int)) = true := decide_eq_true c4
    have tL : decide (0 < a0.size) = true := decide_eq_true (by omega)
    clear c4
    have H' := zy.mk H
    clear H
    have p5 : 0 ≤ (0 : Int) := (by omega)
    have q5 : 0 < a0.size := (by have : (0 : Int) < (a0.size : Int) := of_decide_eq_true (by first | (with_reducible assumption) | assumption); omega)
    have hx5 : ∀ h : 0 < a0.size, ((a0[0]'h).toNat : Int) = bt a0 0 := Zd a0 0
    clear p5
    have eU : (0 < (a0.size : Int)) = True := eq_true (of_decide_eq_true (by first | (with_reducible assumption) | assumption))
    replace q5 := eq_true q5
    go_wp2
    go_meet
    case rel => exact ⟨_, (((bt a0 0) == 45)), (by first | rfl | (simp; done) | (simp [*]; done)), H', ⟨by first | omega | exact Nat.le_refl _⟩, ⟨yX HB.out⟩⟩
   ·rw [if_neg c4] at H
    exact absurd H (by simp)
 case rest =>
  clear HC2
  try clear p2
  try clear c3
  try clear kC
  try clear Xg
  try clear c4
  try clear ZC
  try clear tL
  try clear p5
  try clear q5
  try clear hx5
  try clear eU
  try clear p5
  try clear q5
  obtain ⟨kq, yJ, rfl, HA, HJ1, HB⟩ := hcut
  cases kq with
  | zero => exact absurd HA.out (by simp [zB.j0])
  | succ kj1 =>
   have H := HA.out
   clear HA
   simp only [zB.j0] at H
   have HC6 := zy.mk H
   clear H
   go_upto_if 13 with (fail)
   go_cut [5] (fun v5 wc => ∃ (kq : Nat) (VQ : Int), v5 = .int .i64 VQ ∧ zy (zB.j1 kq a0 0 VQ = some (r1, r2)) ∧ zy (kq ≤ kj1) ∧ zy (Below w.heap.size w wc))
   case first =>
    have H := HC6.out
    clear HC6
    by_cases c7 : yJ = true
    ·subst c7
     have H1 : (zB.j1 kj1 a0 0 1) = some (r1, r2) := by rw [if_pos rfl] at H; exact H
     clear H
     have H := H1
     clear H1
     have H' := zy.mk H
     clear H
     go_wp2
     go_meet
     case rel => exact ⟨_, (1), (by first | rfl | (simp; done) | (simp [*]; done)), H', ⟨by have := HJ1.out; first | omega | exact Nat.le_refl _⟩, ⟨yX HB.out⟩⟩
    ·replace c7 := Bool.eq_false_iff.mpr c7
     subst c7
     have H1 : (zB.j1 kj1 a0 0 0) = some (r1, r2) := by rw [if_neg (show ¬ (false = true) by decide)] at H; exact H
     clear H
     have H := H1
     clear H1
     have H' := zy.mk H
     clear H
     go_wp2
     go_meet
     case rel => exact ⟨_, (0), (by first | rfl | (simp; done) | (simp [*]; done)), H', ⟨by have := HJ1.out; first | omega | exact Nat.le_refl _⟩, ⟨yX HB.out⟩⟩
   case rest =>
    clear HC6
    try clear p2
    try clear c3
    try clear kC
    try clear Xg
    try clear c4
    try clear ZC
    try clear tL
    try clear p5
    try clear q5
    try clear hx5
    try clear eU
    try clear c7
    try clear p2
    try clear p5
    try clear q5
    obtain ⟨kq, VQ, rfl, HA, HJ5, HB⟩ := hcut
    cases kq with
    | zero => exact absurd HA.out (by simp [zB.j1])
    | succ kj5 =>
     have H := HA.out
     clear HA
     simp only [zB.j1] at H
     have H' := zy.mk H
     clear H
     go_wp2
     go_loopg [4, 6] kj5 (fun kq v4 v6 w' => ∃ (JZ : Int) (uR : Int), v4 = .int .i64 JZ ∧ v6 = .int .i64 uR ∧ zy (zB.l0 kq a0 JZ VQ uR = some (r1, r2)) ∧ zy (kq ≤ kj5) ∧ zy (Below w.heap.size w w'))
     case atStart => exact ⟨(0), (VQ), (by first | rfl | (simp; done) | (simp [*]; done)), (by first | rfl | (simp; done) | (simp [*]; done)), H', ⟨Nat.le_refl _⟩, ⟨yX HB.out⟩⟩
     case round =>
      clear H'
      try clear p2
      try clear c3
      try clear kC
      try clear Xg
      try clear c4
      try clear ZC
      try clear tL
      try clear p5
      try clear q5
      try clear hx5
      try clear eU
      try clear c7
      try clear p2
      try clear p5
      try clear q5
      obtain ⟨JZ, uR, rfl, rfl, HA, HK3, HB⟩ := hrel
      cases gk with
      | zero => exact absurd HA.out (by simp [zB.l0])
      | succ k3 =>
       have H := HA.out
       clear HA
       simp only [zB.l0] at H
       by_cases c8 : uR < (a0.size : Int)
       ·rw [if_pos c8] at H
        have Y0 : decide (uR < (a0.size : Int)) = true := decide_eq_true c8
        clear c8
        by_cases c9 : 0 ≤ uR
        ·rw [if_pos c9] at H
         have WV : decide (0 ≤ uR) = true := decide_eq_true c9
         clear c9
         by_cases c11 : (bt a0 uR) < 48
         ·rw [if_pos c11] at H
          have zYl : decide ((bt a0 uR) < 48) = true := decide_eq_true c11
          clear c11
          simp only [Option.some.injEq, Prod.mk.injEq] at H
          obtain ⟨rfl, rfl⟩ := H
          have WG : 0 ≤ (uR : Int) := of_decide_eq_true (by first | (with_reducible assumption) | assumption)
          have WH : uR < (a0.size : Int) := of_decide_eq_true (by first | (with_reducible assumption) | assumption)
          have zzq := Zd a0 uR
          replace WG := eq_true WG
          replace WH := eq_true WH
          go_wp2
          go_ret2
          exact ⟨by first | rfl | (simp [yZ, yQ] <;> rfl) | (simp [*, yZ, yQ] <;> rfl), by repeat (first | (with_reducible first | exact HB.out | apply yt | apply zM | apply yP) | exact HB.out)⟩
         ·rw [if_neg c11] at H
          have zYl : decide ((bt a0 uR) < 48) = false := decide_eq_false c11
          clear c11
          by_cases c13 : (bt a0 uR) > 57
          ·rw [if_pos c13] at H
           have zwX : decide (57 < (bt a0 uR)) = true := decide_eq_true c13
           clear c13
           simp only [Option.some.injEq, Prod.mk.injEq] at H
           obtain ⟨rfl, rfl⟩ := H
           have WG : 0 ≤ (uR : Int) := of_decide_eq_true (by first | (with_reducible assumption) | assumption)
           have WH : uR < (a0.size : Int) := of_decide_eq_true (by first | (with_reducible assumption) | assumption)
           have zzq := Zd a0 uR
           replace WG := eq_true WG
           replace WH := eq_true WH
           have iq : 0 ≤ (uR : Int) := of_decide_eq_true (by first | (with_reducible assumption) | assumption)
           have iy : uR < (a0.size : Int) := of_decide_eq_true (by first | (with_reducible assumption) | assumption)
           have zxS := Zd a0 uR
           replace iq := eq_true iq
           replace iy := eq_true iy
           go_wp2
           go_ret2
           exact ⟨by first | rfl | (simp [yZ, yQ] <;> rfl) | (simp [*, yZ, yQ] <;> rfl), by repeat (first | (with_reducible first | exact HB.out | apply yt | apply zM | apply yP) | exact HB.out)⟩
          ·rw [if_neg c13] at H
           have zwX : decide (57 < (bt a0 uR)) = false := decide_eq_false c13
           clear c13
           by_cases c14 : (wrap64 (uR - VQ)) ≥ 9
           ·rw [if_pos c14] at H
            have Ke : decide (9 ≤ (wrap64 (uR - VQ))) = true := decide_eq_true c14
            clear c14
            simp only [Option.some.injEq, Prod.mk.injEq] at H
            obtain ⟨rfl, rfl⟩ := H
            have WG : 0 ≤ (uR : Int) := of_decide_eq_true (by first | (with_reducible assumption) | assumption)
            have WH : uR < (a0.size : Int) := of_decide_eq_true (by first | (with_reducible assumption) | assumption)
            have zzq := Zd a0 uR
            replace WG := eq_true WG
            replace WH := eq_true WH
            have iq : 0 ≤ (uR : Int) := of_decide_eq_true (by first | (with_reducible assumption) | assumption)
            have iy : uR < (a0.size : Int) := of_decide_eq_true (by first | (with_reducible assumption) | assumption)
            have zxS := Zd a0 uR
            replace iq := eq_true iq
            replace iy := eq_true iy
            go_wp2
            go_ret2
            exact ⟨by first | rfl | (simp [yZ, yQ] <;> rfl) | (simp [*, yZ, yQ] <;> rfl), by repeat (first | (with_reducible first | exact HB.out | apply yt | apply zM | apply yP) | exact HB.out)⟩
           ·rw [if_neg c14] at H
            have Ke : decide (9 ≤ (wrap64 (uR - VQ))) = false := decide_eq_false c14
            clear c14
            have H' := zy.mk H
            clear H
            have WG : 0 ≤ (uR : Int) := of_decide_eq_true (by first | (with_reducible assumption) | assumption)
            have WH : uR < (a0.size : Int) := of_decide_eq_true (by first | (with_reducible assumption) | assumption)
            have zzq := Zd a0 uR
            replace WG := eq_true WG
            replace WH := eq_true WH
            have iq : 0 ≤ (uR : Int) := of_decide_eq_true (by first | (with_reducible assumption) | assumption)
            have iy : uR < (a0.size : Int) := of_decide_eq_true (by first | (with_reducible assumption) | assumption)
            have zxS := Zd a0 uR
            replace iq := eq_true iq
            replace iy := eq_true iy
            have p15 : 0 ≤ (uR : Int) := of_decide_eq_true (by first | (with_reducible assumption) | assumption)
            have q15 : uR < (a0.size : Int) := of_decide_eq_true (by first | (with_reducible assumption) | assumption)
            have zJX := Zd a0 uR
            replace p15 := eq_true p15
            replace q15 := eq_true q15
            go_wp2
            go_roundg k3
            case measure => have := HJ1.out; have := HJ5.out; have := HK3.out; omega
            case rel => exact ⟨(wrap64 ((wrap64 (JZ * 10)) + (((bt a0 uR) - 48) % 256))), (wrap64 (uR + 1)), (by first | rfl | (simp; done) | (simp [*]; done)), (by first | rfl | (simp; done) | (simp [*]; done)), H', ⟨by have := HJ1.out; have := HJ5.out; have := HK3.out; omega⟩, ⟨yX HB.out⟩⟩
        ·rw [if_neg c9] at H
         exact absurd H (by simp)
       ·rw [if_neg c8] at H
        have Y0 : decide (uR < (a0.size : Int)) = false := decide_eq_false c8
        clear c8
        by_cases c16 : VQ = 1
        ·rw [if_pos c16] at H
         have P8 : (VQ == 1) = true := beq_iff_eq.mpr c16
         have P9 : (VQ != 1) = false := bne_eq_false_iff_eq.mpr c16
         clear c16
         replace H := Option.bind_eq_some_iff.mp H
         obtain ⟨zx5, zJt, H⟩ := H
         replace H : (some (wrap64 (-JZ), (zx5.toList == a0.toList))) = some (r1, r2) := H
         have A17 := zy.mk zJt
         clear zJt
         simp only [Option.some.injEq, Prod.mk.injEq] at H
         obtain ⟨rfl, rfl⟩ := H
         go_wp2_with (first | ((with_reducible refine yI (f := 114) rfl ?_); refine je (some 51) Tryz.func114 #[.int .i64 (wrap64 (-JZ))] ?_; (with_reducible refine (qm.calls k3 (wrap64 (-JZ)) zx5 _ A17.out).mono ?_); rintro e Yj ⟨rfl, hb⟩; refine ⟨_, rfl, ?_⟩; have zn := zy.mk (yY (yX HB.out) hb); clear HB; have HB := zn; clear zn; (try clear hb); (try clear hb2); (try clear hk); (try clear hi)))
         go_ret2
         exact ⟨by first | rfl | (simp [yZ, yQ] <;> rfl) | (simp [*, yZ, yQ] <;> rfl), by repeat (first | (with_reducible first | exact HB.out | apply yt | apply zM | apply yP) | exact HB.out)⟩
        ·rw [if_neg c16] at H
         have P8 : (VQ == 1) = false := beq_eq_false_iff_ne.mpr c16
         have P9 : (VQ != 1) = true := bne_iff_ne.mpr c16
         replace H := Option.bind_eq_some_iff.mp H
         obtain ⟨zx6, zJu, H⟩ := H
         replace H : (some (JZ, (zx6.toList == a0.toList))) = some (r1, r2) := H
         have A19 := zy.mk zJu
         clear zJu
         simp only [Option.some.injEq, Prod.mk.injEq] at H
         obtain ⟨rfl, rfl⟩ := H
         go_wp2_with (first | ((with_reducible refine yI (f := 114) rfl ?_); refine je (some 51) Tryz.func114 #[.int .i64 JZ] ?_; (with_reducible refine (qm.calls k3 JZ zx6 _ A19.out).mono ?_); rintro e w20 ⟨rfl, hb⟩; refine ⟨_, rfl, ?_⟩; have zn := zy.mk (yY (yX HB.out) hb); clear HB; have HB := zn; clear zn; (try clear hb); (try clear hb2); (try clear hk); (try clear hi)))
         go_ret2
         exact ⟨by first | rfl | (simp [yZ, yQ] <;> rfl) | (simp [*, yZ, yQ] <;> rfl), by repeat (first | (with_reducible first | exact HB.out | apply yt | apply zM | apply yP) | exact HB.out)⟩
end Go.Proofs.YtaifemkokfoadaaGreatDoor.PX
namespace Go.Proofs.YtaifemkokfoadaaGreatDoor
open Go.RowKit Go.Proofs.zx.zK Go.Proofs.zx.zN Go.Proofs.YtaifemkokfoadaaGreatDoor.PX
def Zq (b : UInt8) : List UInt8 → List (List UInt8)
 | [] => [[]]
 | c :: r => if c = b then [] :: Zq b r else (c :: (Zq b r).headD []) :: (Zq b r).tail
def UU (p : List UInt8) (S : List (List UInt8)) : List (List UInt8) := (p ++ S.headD []) :: S.tail
theorem aY (b : UInt8) (l : List UInt8) : Zq b l ≠ [] := by
 cases l with
 | nil => simp [Zq]
 | cons c r => unfold Zq; split <;> simp
theorem iw {S : List (List UInt8)} (h : S ≠ []) : UU [] S = S := by
 cases S with
 | nil => exact (h rfl).elim
 | cons a r => rfl
theorem zqx (b : UInt8) (r : List UInt8) : Zq b (b :: r) = [] :: Zq b r := by simp [Zq]
theorem zza (b c : UInt8) (r : List UInt8) (h : c ≠ b) : Zq b (c :: r) = UU [c] (Zq b r) := by simp [Zq, h, UU]
theorem zzb (b : UInt8) (l : List UInt8) : (Zq b l).length ≤ l.length + 1 := by
 induction l with
 | nil => simp [Zq]
 | cons c r ih => unfold Zq; split <;> simp <;> omega
theorem zzc (b : UInt8) (l : List UInt8) : ∀ p ∈ Zq b l, p.length ≤ l.length := by
 induction l with
 | nil => intro p h; simp [Zq] at h; simp [h]
 | cons c r ih =>
  intro p h
  by_cases hc : c = b
  ·subst hc
   rw [zqx] at h
   rcases List.mem_cons.1 h with rfl | h
   ·simp
   ·have := ih p h; simp; omega
  ·rw [zza b c r hc] at h
   have hne := aY b r
   generalize Zq b r = S at h ih hne
   cases S with
   | nil => exact (hne rfl).elim
   | cons a S =>
    simp [UU] at h
    rcases h with rfl | h
    ·have := ih a (by simp); simp; omega
    ·have := ih p (by simp [h]); simp; omega
theorem zYm (s : List UInt8) (b : UInt8) (hs : s.length ≤ 1000000) : ∀ (d i fr : Nat) (acc : List ByteArray), i + d = s.length → fr ≤ i → acc.length ≤ i →
  Ev (fun k => qg.l0 k (bar s) (b.toNat : Int) acc (fr : Int) (i : Int)) (acc ++ (UU ((s.take i).drop fr) (Zq b (s.drop i))).map bar) := by
 intro d
 induction d with
 | zero =>
  intro i fr acc h hf ha
  obtain rfl : i = s.length := by omega
  have h1 : ¬ ((s.length : Int) < ((bar s).size : Int)) := by rw [vC]; omega
  have h2 : (0 : Int) ≤ (fr : Int) := by omega
  have h3 : (fr : Int) ≤ ((bar s).size : Int) := by rw [vC]; omega
  have h4 : acc.length < 8796093022208 := by omega
  refine Ev.step (fun k => by rw [qg.l0]) (qN h1 (zL h2 (zL h3 (zL h4 ?_))))
  rw [vC, Int.toNat_natCast, bW, List.drop_length]
  simp only [Zq, UU, List.headD_cons, List.append_nil, List.tail_cons, List.map_cons, List.map_nil]
  exact Ev.now _
 | succ d ih =>
  intro i fr acc h hf ha
  have hi : i < s.length := by omega
  have h1 : (i : Int) < ((bar s).size : Int) := by rw [vC]; omega
  have h2 : (0 : Int) ≤ (i : Int) := by omega
  have h3 : (0 : Int) ≤ (fr : Int) := by omega
  have h4 : (fr : Int) ≤ (i : Int) := by omega
  have h5 : (i : Int) ≤ ((bar s).size : Int) := by omega
  have h6 : acc.length < 8796093022208 := by omega
  have e1 : wrap64 ((i : Int) + 1) = ((i + 1 : Nat) : Int) := by rw [YA (by omega) (by omega)]; rfl
  have hd : s.drop i = s[i] :: s.drop (i + 1) := List.drop_eq_getElem_cons hi
  have i1 : i + 1 + d = s.length := by omega
  by_cases hb : s[i] = b
  ·have k1 := ih (i + 1) (i + 1) (acc ++ [bar ((s.take i).drop fr)]) i1 (Nat.le_refl _) (by simp; omega)
   rw [show (s.take (i + 1)).drop (i + 1) = [] from List.drop_eq_nil_of_le (by rw [List.length_take]; omega), iw (aY _ _)] at k1
   have hbt : ((s[i]).toNat : Int) = (b.toNat : Int) := by rw [hb]
   refine Ev.step (fun k => by rw [qg.l0]) ?_
   rw [Y9 s i hi, e1, Int.toNat_natCast, Int.toNat_natCast, bW]
   refine zL h1 (zL h2 (zL hbt (zL h3 (zL h4 (zL h5 (zL h6 ?_))))))
   rw [hd, hb, zqx]
   rw [List.append_assoc] at k1
   simpa [UU] using k1
  ·have k1 := ih (i + 1) fr acc i1 (by omega) (by omega)
   have hbt : ¬ ((s[i]).toNat : Int) = (b.toNat : Int) := fun e => hb (UInt8.toNat_inj.1 (by omega))
   refine Ev.step (fun k => by rw [qg.l0]) ?_
   rw [Y9 s i hi, e1]
   refine zL h1 (zL h2 (qN hbt ?_))
   rw [hd, zza b _ _ hb]
   have e2 : (s.take (i + 1)).drop fr = (s.take i).drop fr ++ [s[i]] := by
    rw [List.take_succ_eq_append_getElem hi, List.drop_append_of_le_length (by simp; omega)]
   rw [e2] at k1
   simpa [UU] using k1
theorem zJA (s : List UInt8) (b : UInt8) (hs : s.length ≤ 1000000) : Ev (fun k => qg.f k (bar s) (b.toNat : Int)) ((Zq b s).map bar) := by
 have := zYm s b hs s.length 0 0 [] (by omega) (Nat.le_refl _) (Nat.le_refl _)
 simp only [List.take_zero, List.drop_nil, List.nil_append, List.drop_zero, iw (aY _ _)] at this
 exact this
def wl : List UInt8 → Nat → Int → Option Int
 | [], _, n => some n
 | c :: r, j, n => if c.toNat < 48 ∨ 57 < c.toNat ∨ 9 ≤ j then none else wl r (j + 1) (n * 10 + ((c.toNat : Int) - 48))
theorem zQn (c : UInt8) (r : List UInt8) (j : Nat) (n : Int) : wl (c :: r) j n = if c.toNat < 48 ∨ 57 < c.toNat ∨ 9 ≤ j then none else wl r (j + 1) (n * 10 + ((c.toNat : Int) - 48)) := rfl
def um (s : List UInt8) : Int × Bool :=
 if s.head? = some 45 then
  match wl s.tail 0 0 with
  | none => (0, false)
  | some m => (-m, Lib.itoa (-m) == s)
 else
  match wl s 0 0 with
  | none => (0, false)
  | some m => (m, Lib.itoa m == s)
theorem zJB {k : Nat} (h : k ≤ 9) : (10 : Int) ^ k ≤ 1000000000 := by
 match k, h with
 | 0, _ => decide
 | 1, _ => decide
 | 2, _ => decide
 | 3, _ => decide
 | 4, _ => decide
 | 5, _ => decide
 | 6, _ => decide
 | 7, _ => decide
 | 8, _ => decide
 | 9, _ => decide
 | k + 10, h => omega
theorem aW (s : List UInt8) (at_ : Nat) (hat : at_ ≤ 1) : ∀ (d i : Nat) (n : Int), i + d = s.length → at_ ≤ i → i ≤ at_ + 9 → 0 ≤ n → n < 10 ^ (i - at_) →
  Ev (fun k => zB.l0 k (bar s) n (at_ : Int) (i : Int)) (match wl (s.drop i) (i - at_) n with
   | none => (0, false)
   | some m => if at_ = 1 then (-m, Lib.itoa (-m) == s) else (m, Lib.itoa m == s)) := by
 intro d
 induction d with
 | zero =>
  intro i n h hi h9 h0 h1
  obtain rfl : i = s.length := by omega
  have hp : (10 : Int) ^ (s.length - at_) ≤ 1000000000 := zJB (by omega)
  have k1 : ¬ ((s.length : Int) < ((bar s).size : Int)) := by rw [vC]; omega
  have e1 : wrap64 (-n) = -n := YA (by omega) (by omega)
  have g1 := WE n (by omega) (by omega)
  have g2 := WE (-n) (by omega) (by omega)
  have hw : wl (s.drop s.length) (s.length - at_) n = some n := by rw [List.drop_length]; rfl
  rw [hw]
  clear hw
  by_cases ha : at_ = 1
  ·have k2 : (at_ : Int) = 1 := by omega
   have hm : (match some n with | none => ((0 : Int), false) | some m => if at_ = 1 then (-m, Lib.itoa (-m) == s) else (m, Lib.itoa m == s)) = (-n, Lib.itoa (-n) == s) := by simp only; rw [if_pos ha]
   rw [hm]
   clear hm hp h1
   refine Ev.step (fun k => by rw [zB.l0]) (qN k1 ?_)
   rw [e1]
   refine zL k2 (Ev.bind g2 ?_)
   rw [Zg, Zg]
   exact Ev.now _
  ·have k2 : ¬ (at_ : Int) = 1 := by omega
   have hm : (match some n with | none => ((0 : Int), false) | some m => if at_ = 1 then (-m, Lib.itoa (-m) == s) else (m, Lib.itoa m == s)) = (n, Lib.itoa n == s) := by simp only; rw [if_neg ha]
   rw [hm]
   clear hm hp h1
   refine Ev.step (fun k => by rw [zB.l0]) (qN k1 ?_)
   refine qN k2 (Ev.bind g1 ?_)
   rw [Zg, Zg]
   exact Ev.now _
 | succ d ih =>
  intro i n h hi h9 h0 h1
  have hi2 : i < s.length := by omega
  have hb := (s[i]).toNat_lt
  have hpw : ∀ x : Int, x < (10 : Int) ^ (i - at_) * 10 → x < (10 : Int) ^ (i + 1 - at_) := fun x hx => by
   have e : i + 1 - at_ = (i - at_) + 1 := by omega
   rw [e, Int.pow_succ]
   exact hx
  have hp : (10 : Int) ^ (i - at_) ≤ 1000000000 := zJB (by omega)
  generalize (10 : Int) ^ (i - at_) = B at h1 hp hpw
  have k1 : (i : Int) < ((bar s).size : Int) := by rw [vC]; omega
  have k2 : (0 : Int) ≤ (i : Int) := by omega
  have E1 := Lib.hid (show wrap64 ((i : Int) - (at_ : Int)) = ((i - at_ : Nat) : Int) from by rw [YA (by omega) (by omega)]; omega)
  have E2 := Lib.hid (show wrap64 ((i : Int) + 1) = ((i + 1 : Nat) : Int) from by rw [YA (by omega) (by omega)]; rfl)
  have E3 := Lib.hid (show wrap64 ((wrap64 (n * 10)) + (((s[i].toNat : Int) - 48) % 256)) = n * 10 + ((s[i].toNat : Int) - 48) % 256 from by rw [YA (x := n * 10) (by omega) (by omega), YA (by omega) (by omega)])
  have hd : s.drop i = s[i] :: s.drop (i + 1) := List.drop_eq_getElem_cons hi2
  have k4 : (48 : Int) ≤ s[i].toNat → (s[i].toNat : Int) ≤ 57 → ((s[i].toNat : Int) - 48) % 256 = (s[i].toNat : Int) - 48 := fun _ _ => by omega
  have i1 : i + 1 + d = s.length := by omega
  have i2 : i + 1 - at_ = i - at_ + 1 := by omega
  have WI := zQn s[i] (s.drop (i + 1)) (i - at_) n
  rw [hd]
  by_cases a1 : (s[i].toNat : Int) < 48
  ·have hw : wl (s[i] :: s.drop (i + 1)) (i - at_) n = none := by rw [WI, if_pos (.inl (by omega))]
   rw [hw]
   clear hw WI ih hpw hp h1 k4 hd
   refine Ev.step (fun k => by rw [zB.l0]) ?_
   rw [Y9 s i hi2]
   exact zL k1 (zL k2 (zL a1 (Ev.now _)))
  ·by_cases a2 : (s[i].toNat : Int) > 57
   ·have hw : wl (s[i] :: s.drop (i + 1)) (i - at_) n = none := by rw [WI, if_pos (.inr (.inl (by omega)))]
    rw [hw]
    clear hw WI ih hpw hp h1 k4 hd
    refine Ev.step (fun k => by rw [zB.l0]) ?_
    rw [Y9 s i hi2]
    exact zL k1 (zL k2 (qN a1 (zL a2 (Ev.now _))))
   ·by_cases a3 : ((i - at_ : Nat) : Int) ≥ 9
    ·have hw : wl (s[i] :: s.drop (i + 1)) (i - at_) n = none := by rw [WI, if_pos (.inr (.inr (by omega)))]
     rw [hw]
     clear hw WI ih hpw hp h1 k4 hd
     refine Ev.step (fun k => by rw [zB.l0]) ?_
     rw [Y9 s i hi2, E1.out]
     exact zL k1 (zL k2 (qN a1 (qN a2 (zL a3 (Ev.now _)))))
    ·have hw : wl (s[i] :: s.drop (i + 1)) (i - at_) n = wl (s.drop (i + 1)) (i + 1 - at_) (n * 10 + ((s[i].toNat : Int) - 48)) := by rw [WI, if_neg (by omega), i2]
     have e4 := k4 (by omega) (by omega)
     have b1 : 0 ≤ n * 10 + ((s[i].toNat : Int) - 48) := by omega
     have b2 : n * 10 + ((s[i].toNat : Int) - 48) < 10 ^ (i + 1 - at_) := hpw _ (by omega)
     have H := ih (i + 1) _ i1 (by omega) (by omega) b1 b2
     rw [hw]
     have e6 : n * 10 + ((s[i].toNat : Int) - 48) % 256 = n * 10 + ((s[i].toNat : Int) - 48) := by rw [e4]
     have e5 := E3.out
     rw [e6] at e5
     clear hw WI ih hpw hp h1 k4 hd e4 b1 b2
     refine Ev.step (fun k => by rw [zB.l0]) ?_
     rw [Y9 s i hi2, E1.out, E2.out, e5]
     exact zL k1 (zL k2 (qN a1 (qN a2 (qN a3 H))))
theorem zkT (s : List UInt8) : Ev (fun k => zB.f k (bar s)) (um s) := by
 unfold zB.f um
 rw [Zg, vC]
 cases s with
 | nil =>
  refine zL rfl (Ev.step (fun k => by rw [zB.j0]) (qN (by simp) (Ev.step (fun k => by rw [zB.j1]) ?_)))
  exact aW [] 0 (by omega) 0 0 0 rfl (Nat.le_refl _) (by omega) (by omega) (by decide)
 | cons c r =>
  have k1 : (0 : Int) < ((c :: r).length : Int) := by rw [List.length_cons]; omega
  have hbt : bt (bar (c :: r)) 0 = (c.toNat : Int) := Y9 (c :: r) 0 (by simp)
  refine qN (by simp) (zL k1 (Ev.step (fun k => by rw [zB.j0]) ?_))
  rw [hbt]
  by_cases hc : c = 45
  ·subst hc
   refine zL (by decide) (Ev.step (fun k => by rw [zB.j1]) ?_)
   have := aW (45 :: r) 1 (by omega) r.length 1 0 (by simp; omega) (Nat.le_refl _) (by omega) (by omega) (by decide)
   simpa using this
  ·have k2 : ¬ ((c.toNat : Int) == 45) = true := by
    simp only [beq_iff_eq]
    intro e
    exact hc (UInt8.toNat_inj.1 (show c.toNat = (45 : UInt8).toNat from by have : (45 : UInt8).toNat = 45 := rfl; omega))
   refine qN k2 (Ev.step (fun k => by rw [zB.j1]) ?_)
   have := aW (c :: r) 0 (by omega) (c :: r).length 0 0 (by simp) (Nat.le_refl _) (by omega) (by omega) (by decide)
   simpa [hc] using this
theorem Qw (b : UInt8) : ∀ s : List UInt8, Zq b s = uW b s
 | [] => rfl
 | c :: r => by
  unfold Zq uW
  rw [Qw b r]
  split
  ·rfl
  ·cases h : uW b r with
   | nil => exact absurd h (P7 b r)
   | cons p ps => rfl
theorem ah (s : ByteArray) (b : UInt8) (hs : s.size ≤ 1000000) : Ev (fun k => qg.f k s (b.toNat : Int)) ((uW b s.data.toList).map bar) := by
 have h := zJA s.data.toList b (by rw [Array.length_toList]; exact hs)
 rwa [YN, Qw] at h
theorem WL (x : ByteArray) : Ev (fun k => zB.f k x) (um x.data.toList) := by
 have h := zkT x.data.toList
 rwa [YN] at h
end Go.Proofs.YtaifemkokfoadaaGreatDoor
namespace Go.Proofs.YtaifemkokfoadaaGreatDoor
open Go.RowKit Go.Proofs.zx.zK Go.Proofs.YtaifemkokfoadaaGreatDoor.PX
set_option linter.unusedSimpArgs false
set_option linter.unusedVariables false
theorem Kg (l : List UInt8) : (bar l).data.toList = l := rfl
theorem zQo {ws : List ByteArray} {L : List (List UInt8)} (h : ws.map (·.data.toList) = L) : ws = L.map bar := by
 subst h
 rw [List.map_map]
 exact (List.map_id _).symm
def kU (t : ByteArray) : List ByteArray := Lib.splitB ⟨#[32]⟩ 0 (Lib.countB t ⟨#[32]⟩) t
def wh (line : ByteArray) : ByteArray := bar (Lib.trimSuffix line.data.toList [10])
theorem WM (t : ByteArray) : kU t = (uW 32 t.data.toList).map bar := by
 refine zQo ?_
 unfold kU
 rw [Lib.splitB_data]
 refine bE 32 _ _ ?_
 show _ ≤ Lib.count t.data.toList [32]
 rw [Lib.count_one]; exact Nat.le_refl _
theorem zkU (t : List UInt8) : kU (wh (bar (t ++ [10]))) = (uW 32 t).map bar := by
 rw [WM]
 unfold wh
 rw [Kg, Kg, zQm]
structure vZ where
 a : ByteArray
 b : Bool
 c : Int
 l3 : List qw
 l4 : List qh
 l5 : List xq
def vZ.zero : vZ := ⟨⟨#[]⟩, false, 0, [], [], []⟩
def uo (f : vZ) : List ByteArray → Bool × vZ
 | w0 :: w1 :: ws =>
  if w0 = ⟨#[102, 111, 110, 116]⟩ ∧ ws.length ≤ 1 then (true, { f with a := w1, b := decide (ws.length = 1) })
  else if w0 = ⟨#[115, 112, 97, 99, 101]⟩ then ((kV w1).2, { f with c := (kV w1).1 })
  else if w0 = ⟨#[103]⟩ ∧ ws.length = 1 then ((kV (ws.getD 0 ⟨#[]⟩)).2, { f with l3 := f.l3 ++ [⟨w1, (kV (ws.getD 0 ⟨#[]⟩)).1⟩] })
  else if w0 = ⟨#[108]⟩ ∧ ws.length = 2 then (true, { f with l4 := f.l4 ++ [⟨w1, ws.getD 0 ⟨#[]⟩, ws.getD 1 ⟨#[]⟩⟩] })
  else if w0 = ⟨#[107]⟩ ∧ ws.length = 2 then ((kV (ws.getD 1 ⟨#[]⟩)).2, { f with l5 := f.l5 ++ [⟨w1, ws.getD 0 ⟨#[]⟩, (kV (ws.getD 1 ⟨#[]⟩)).1⟩] })
  else (false, f)
 | _ => (false, f)
def kN (f : vZ) (line : ByteArray) : Option vZ :=
 if (kU (wh line)).length < 2 ∨ 400 < f.l3.length ∨ 50 < f.l4.length ∨ 500 < f.l5.length then none
 else if (uo f (kU (wh line))).1 = true then some (uo f (kU (wh line))).2 else none
def uE : vZ → List ByteArray → Option vZ
 | f, [] => some f
 | f, x :: xs => (kN f x).bind fun g => uE g xs
theorem Xu : ∀ (xs ys : List ByteArray) (f : vZ), uE f (xs ++ ys) = (uE f xs).bind fun g => uE g ys
 | [], _, _ => rfl
 | x :: xs, ys, f => by
  simp only [List.cons_append, uE]
  cases kN f x with
  | none => rfl
  | some g => exact Xu xs ys g
def zwV : List Int := (List.range 3501).map fun (n : Nat) => (n : Int) - 500
def zvr (n : Int) : Bool := decide ((Lib.itoa n).length ≤ 6) && ((Lib.itoa n).all (fun b => b != 32 && b != 10) && (Kv (Lib.itoa n) && Po (Lib.itoa n) == n))
set_option maxRecDepth 100000 in
theorem zk0 : zwV.all zvr = true := by kernel_rfl
theorem JC (n : Int) (h0 : -500 ≤ n) (h1 : n ≤ 3000) : (Lib.itoa n).length ≤ 6 ∧ (∀ x ∈ Lib.itoa n, x ≠ 32 ∧ x ≠ 10) ∧ Kv (Lib.itoa n) = true ∧ Po (Lib.itoa n) = n := by
 have h := List.all_eq_true.1 zk0 n (List.mem_map.2 ⟨(n + 500).toNat, List.mem_range.2 (by omega), by omega⟩)
 unfold zvr at h
 simp only [Bool.and_eq_true, decide_eq_true_eq, List.all_eq_true, bne_iff_ne, ne_eq, beq_iff_eq] at h
 exact ⟨h.1, h.2.1, h.2.2.1, h.2.2.2⟩
theorem WO (n : Int) (h0 : -500 ≤ n) (h1 : n ≤ 3000) : kV (bar (Lib.itoa n)) = (n, true) := by
 obtain ⟨a, _, b, c⟩ := JC n h0 h1
 unfold kV
 rw [if_neg (by rw [show (bar (Lib.itoa n)).size = (Lib.itoa n).length by simp [bar, ByteArray.size]]; omega), Kg, b, c]
def PlainT (l : List UInt8) : Prop := ∀ x ∈ l, x ≠ 32 ∧ x ≠ 10
theorem zzd (w0 w1 w2 : List UInt8) (h0 : PlainT w0) (h1 : PlainT w1) (h2 : PlainT w2) : uW 32 (w0 ++ 32 :: (w1 ++ 32 :: w2)) = [w0, w1, w2] := by
 rw [Yd _ _ _ (fun x hx => (h0 x hx).1), Yd _ _ _ (fun x hx => (h1 x hx).1), Um _ _ (fun x hx => (h2 x hx).1)]
theorem zx7 (w0 w1 : List UInt8) (h0 : PlainT w0) (h1 : PlainT w1) : uW 32 (w0 ++ 32 :: w1) = [w0, w1] := by
 rw [Yd _ _ _ (fun x hx => (h0 x hx).1), Um _ _ (fun x hx => (h1 x hx).1)]
theorem zx8 (w0 w1 w2 w3 : List UInt8) (h0 : PlainT w0) (h1 : PlainT w1) (h2 : PlainT w2) (h3 : PlainT w3) : uW 32 (w0 ++ 32 :: (w1 ++ 32 :: (w2 ++ 32 :: w3))) = [w0, w1, w2, w3] := by
 rw [Yd _ _ _ (fun x hx => (h0 x hx).1), zzd _ _ _ h1 h2 h3]
theorem Un {l : List UInt8} (h : PlainT l) : ∀ x ∈ l, x ≠ 10 := fun x hx => (h x hx).2
theorem Zx {a b : List UInt8} (h : ∀ x ∈ a, x ≠ (10 : UInt8)) (k : ∀ x ∈ b, x ≠ (10 : UInt8)) : ∀ x ∈ a ++ 32 :: b, x ≠ (10 : UInt8) := fun x hx => by
 rcases List.mem_append.1 hx with q | q
 ·exact h x q
 ·rcases List.mem_cons.1 q with rfl | q
  ·decide
  ·exact k x q
def nW (f : vZ) : Prop := f.l3.length ≤ 400 ∧ f.l4.length ≤ 50 ∧ f.l5.length ≤ 500
theorem QZ (f g : vZ) (t : List UInt8) (ws : List ByteArray) (hr : nW f) (hw : (uW 32 t).map bar = ws) (h2 : 2 ≤ ws.length) (hg : uo f ws = (true, g)) : kN f (bar (t ++ [10])) = some g := by
 obtain ⟨r1, r2, r3⟩ := hr
 unfold kN
 rw [zkU, hw, if_neg (by omega), hg, if_pos rfl]
def Zr (x : qw) : List UInt8 := [103] ++ 32 :: (x.f0.data.toList ++ 32 :: Lib.itoa x.f1)
def Yy (x : qh) : List UInt8 := [108] ++ 32 :: (x.f0.data.toList ++ 32 :: (x.f1.data.toList ++ 32 :: x.f2.data.toList))
def Yw (x : xq) : List UInt8 := [107] ++ 32 :: (x.f0.data.toList ++ 32 :: (x.f1.data.toList ++ 32 :: Lib.itoa x.f2))
theorem JD (c : UInt8) (h : c ≠ 32 ∧ c ≠ 10) : PlainT [c] := fun x hx => by rw [List.mem_singleton.1 hx]; exact h
theorem Zt (n : Int) (h0 : -500 ≤ n) (h1 : n ≤ 3000) : PlainT (Lib.itoa n) := (JC n h0 h1).2.1
theorem goG (f : vZ) (x : qw) (hr : nW f) (hn : PlainT x.f0.data.toList) (h0 : 0 ≤ x.f1) (h1 : x.f1 ≤ 3000) : kN f (bar (Zr x ++ [10])) = some { f with l3 := f.l3 ++ [x] } := by
 refine QZ f _ (Zr x) [⟨#[103]⟩, x.f0, bar (Lib.itoa x.f1)] hr ?_ (by simp) ?_
 ·unfold Zr
  rw [zzd _ _ _ (JD 103 (by decide)) hn (Zt _ (by omega) h1)]; rfl
 ·rw [uo]
  rw [if_neg (by intro h; exact absurd h.1 (by decide)), if_neg (by decide), if_pos (by refine ⟨rfl, rfl⟩)]
  rw [show ([bar (Lib.itoa x.f1)] : List ByteArray).getD 0 ⟨#[]⟩ = bar (Lib.itoa x.f1) from rfl, WO _ (by omega) h1]
theorem goL (f : vZ) (x : qh) (hr : nW f) (h0 : PlainT x.f0.data.toList) (h1 : PlainT x.f1.data.toList) (h2 : PlainT x.f2.data.toList) : kN f (bar (Yy x ++ [10])) = some { f with l4 := f.l4 ++ [x] } := by
 refine QZ f _ (Yy x) [⟨#[108]⟩, x.f0, x.f1, x.f2] hr ?_ (by simp) ?_
 ·unfold Yy
  rw [zx8 _ _ _ _ (JD 108 (by decide)) h0 h1 h2]; rfl
 ·rw [uo]
  rw [if_neg (by intro h; exact absurd h.1 (by decide)), if_neg (by decide), if_neg (by intro h; exact absurd h.1 (by decide)), if_pos (by refine ⟨rfl, rfl⟩)]
  rfl
theorem goK (f : vZ) (x : xq) (hr : nW f) (h0 : PlainT x.f0.data.toList) (h1 : PlainT x.f1.data.toList) (h2 : -500 ≤ x.f2) (h3 : x.f2 ≤ 500) : kN f (bar (Yw x ++ [10])) = some { f with l5 := f.l5 ++ [x] } := by
 refine QZ f _ (Yw x) [⟨#[107]⟩, x.f0, x.f1, bar (Lib.itoa x.f2)] hr ?_ (by simp) ?_
 ·unfold Yw
  rw [zx8 _ _ _ _ (JD 107 (by decide)) h0 h1 (Zt _ h2 (by omega))]; rfl
 ·rw [uo]
  rw [if_neg (by intro h; exact absurd h.1 (by decide)), if_neg (by decide), if_neg (by intro h; exact absurd h.1 (by decide)), if_neg (by intro h; exact absurd h.1 (by decide)), if_pos (by refine ⟨rfl, rfl⟩)]
  rw [show ([x.f1, bar (Lib.itoa x.f2)] : List ByteArray).getD 1 ⟨#[]⟩ = bar (Lib.itoa x.f2) from rfl, WO _ h2 (by omega)]
  rfl
theorem zJC : ∀ (l : List qw) (f : vZ), f.l3.length + l.length ≤ 400 → f.l4.length ≤ 50 → f.l5.length ≤ 500 → (∀ x ∈ l, PlainT x.f0.data.toList ∧ 0 ≤ x.f1 ∧ x.f1 ≤ 3000) →
  uE f (l.map fun x => bar (Zr x ++ [10])) = some { f with l3 := f.l3 ++ l }
 | [], f, _, _, _, _ => by simp [uE]
 | x :: l, f, h3, h4, h5, hx => by
  obtain ⟨p, q, r⟩ := hx x (List.mem_cons_self ..)
  rw [List.length_cons] at h3
  have ih := zJC l { f with l3 := f.l3 ++ [x] } (by simp; omega) h4 h5 (fun y hy => hx y (List.mem_cons_of_mem _ hy))
  rw [List.map_cons, uE, goG f x ⟨by omega, h4, h5⟩ p q r, Option.bind_some, ih]
  simp
theorem zJD : ∀ (l : List qh) (f : vZ), f.l3.length ≤ 400 → f.l4.length + l.length ≤ 50 → f.l5.length ≤ 500 → (∀ x ∈ l, PlainT x.f0.data.toList ∧ PlainT x.f1.data.toList ∧ PlainT x.f2.data.toList) →
  uE f (l.map fun x => bar (Yy x ++ [10])) = some { f with l4 := f.l4 ++ l }
 | [], f, _, _, _, _ => by simp [uE]
 | x :: l, f, h3, h4, h5, hx => by
  obtain ⟨p, q, r⟩ := hx x (List.mem_cons_self ..)
  rw [List.length_cons] at h4
  have ih := zJD l { f with l4 := f.l4 ++ [x] } h3 (by simp; omega) h5 (fun y hy => hx y (List.mem_cons_of_mem _ hy))
  rw [List.map_cons, uE, goL f x ⟨h3, by omega, h5⟩ p q r, Option.bind_some, ih]
  simp
theorem zJE : ∀ (l : List xq) (f : vZ), f.l3.length ≤ 400 → f.l4.length ≤ 50 → f.l5.length + l.length ≤ 500 → (∀ x ∈ l, PlainT x.f0.data.toList ∧ PlainT x.f1.data.toList ∧ -500 ≤ x.f2 ∧ x.f2 ≤ 500) →
  uE f (l.map fun x => bar (Yw x ++ [10])) = some { f with l5 := f.l5 ++ l }
 | [], f, _, _, _, _ => by simp [uE]
 | x :: l, f, h3, h4, h5, hx => by
  obtain ⟨p, q, r, s⟩ := hx x (List.mem_cons_self ..)
  rw [List.length_cons] at h5
  have ih := zJE l { f with l5 := f.l5 ++ [x] } h3 h4 (by simp; omega) (fun y hy => hx y (List.mem_cons_of_mem _ hy))
  rw [List.map_cons, uE, goK f x ⟨h3, h4, by omega⟩ p q r s, Option.bind_some, ih]
  simp
def ZF (a : ByteArray) (b : Bool) : List UInt8 := [102, 111, 110, 116] ++ 32 :: (a.data.toList ++ (if b = true then 32 :: [115, 112, 101, 99, 105, 97, 108] else []))
def XW (c : Int) : List UInt8 := [115, 112, 97, 99, 101] ++ 32 :: Lib.itoa c
theorem goH (a : ByteArray) (b : Bool) (ha : PlainT a.data.toList) : kN vZ.zero (bar (ZF a b ++ [10])) = some { vZ.zero with a := a, b := b } := by
 have p1 : PlainT [102, 111, 110, 116] := by unfold PlainT; decide
 have p2 : PlainT [115, 112, 101, 99, 105, 97, 108] := by unfold PlainT; decide
 cases b with
 | true =>
  refine QZ _ _ (ZF a true) [⟨#[102, 111, 110, 116]⟩, a, ⟨#[115, 112, 101, 99, 105, 97, 108]⟩] ⟨by decide, by decide, by decide⟩ ?_ (by simp) ?_
  ·unfold ZF
   rw [if_pos rfl, zzd _ _ _ p1 ha p2]; rfl
  ·rw [uo]
   rw [if_pos (by refine ⟨rfl, ?_⟩; simp)]; rfl
 | false =>
  refine QZ _ _ (ZF a false) [⟨#[102, 111, 110, 116]⟩, a] ⟨by decide, by decide, by decide⟩ ?_ (by simp) ?_
  ·unfold ZF
   rw [if_neg (by decide), List.append_nil, zx7 _ _ p1 ha]; rfl
  ·rw [uo]
   rw [if_pos (by refine ⟨rfl, ?_⟩; simp)]; rfl
theorem goS (f : vZ) (c : Int) (hr : nW f) (h0 : 0 ≤ c) (h1 : c ≤ 3000) : kN f (bar (XW c ++ [10])) = some { f with c := c } := by
 have p1 : PlainT [115, 112, 97, 99, 101] := by unfold PlainT; decide
 refine QZ f _ (XW c) [⟨#[115, 112, 97, 99, 101]⟩, bar (Lib.itoa c)] hr ?_ (by simp) ?_
 ·unfold XW
  rw [zx7 _ _ p1 (Zt _ (by omega) h1)]; rfl
 ·rw [uo]
  rw [if_neg (by intro h; exact absurd h.1 (by decide)), if_pos rfl, WO _ (by omega) h1]
def Ve (f : vZ) : List UInt8 := (ZF f.a f.b ++ [10]) ++ ((XW f.c ++ [10]) ++ ((f.l3.map fun x => Zr x ++ [10]).flatten ++ ((f.l4.map fun x => Yy x ++ [10]).flatten ++ (f.l5.map fun x => Yw x ++ [10]).flatten)))
structure ni (f : vZ) : Prop where
 na : PlainT f.a.data.toList
 nc : 0 ≤ f.c ∧ f.c ≤ 3000
 n3 : f.l3.length ≤ 400
 n4 : f.l4.length ≤ 50
 n5 : f.l5.length ≤ 500
 g : ∀ x ∈ f.l3, PlainT x.f0.data.toList ∧ 0 ≤ x.f1 ∧ x.f1 ≤ 3000
 l : ∀ x ∈ f.l4, PlainT x.f0.data.toList ∧ PlainT x.f1.data.toList ∧ PlainT x.f2.data.toList
 k : ∀ x ∈ f.l5, PlainT x.f0.data.toList ∧ PlainT x.f1.data.toList ∧ -500 ≤ x.f2 ∧ x.f2 ≤ 500
theorem zwK (a : ByteArray) (b : Bool) (ha : PlainT a.data.toList) : ∀ x ∈ ZF a b, x ≠ 10 := by
 unfold ZF
 refine Zx (by decide) ?_
 cases b with
 | true => rw [if_pos rfl]; exact Zx (Un ha) (by decide)
 | false => rw [if_neg (by decide), List.append_nil]; exact Un ha
theorem zwY (c : Int) (h0 : 0 ≤ c) (h1 : c ≤ 3000) : ∀ x ∈ XW c, x ≠ 10 := by
 unfold XW
 exact Zx (by decide) (Un (Zt _ (by omega) h1))
theorem zwW (x : qw) (hn : PlainT x.f0.data.toList) (h0 : 0 ≤ x.f1) (h1 : x.f1 ≤ 3000) : ∀ y ∈ Zr x, y ≠ 10 := by
 unfold Zr
 exact Zx (by decide) (Zx (Un hn) (Un (Zt _ (by omega) h1)))
theorem zwa (x : qh) (h0 : PlainT x.f0.data.toList) (h1 : PlainT x.f1.data.toList) (h2 : PlainT x.f2.data.toList) : ∀ y ∈ Yy x, y ≠ 10 := by
 unfold Yy
 exact Zx (by decide) (Zx (Un h0) (Zx (Un h1) (Un h2)))
theorem zwb (x : xq) (h0 : PlainT x.f0.data.toList) (h1 : PlainT x.f1.data.toList) (h2 : -500 ≤ x.f2) (h3 : x.f2 ≤ 500) : ∀ y ∈ Yw x, y ≠ 10 := by
 unfold Yw
 exact Zx (by decide) (Zx (Un h0) (Zx (Un h1) (Un (Zt _ h2 (by omega)))))
theorem zx9 (f : vZ) (h : ni f) : Zp (Ve f) = (ZF f.a f.b ++ [10]) :: (XW f.c ++ [10]) :: ((f.l3.map fun x => Zr x ++ [10]) ++ ((f.l4.map fun x => Yy x ++ [10]) ++ f.l5.map fun x => Yw x ++ [10])) := by
 unfold Ve
 rw [List.append_assoc, List.singleton_append, Ka _ _ (zwK _ _ h.na), List.append_assoc, List.singleton_append, Ka _ _ (zwY _ h.nc.1 h.nc.2)]
 rw [Vd _ Zr _ _ (fun x hx => ⟨rfl, zwW x (h.g x hx).1 (h.g x hx).2.1 (h.g x hx).2.2⟩)]
 rw [Vd _ Yy _ _ (fun x hx => ⟨rfl, zwa x (h.l x hx).1 (h.l x hx).2.1 (h.l x hx).2.2⟩)]
 have := Vd (fun x : xq => Yw x ++ [10]) Yw [] f.l5 (fun x hx => ⟨rfl, zwb x (h.k x hx).1 (h.k x hx).2.1 (h.k x hx).2.2.1 (h.k x hx).2.2.2⟩)
 rw [List.append_nil, zx4, List.append_nil] at this
 rw [this]
theorem go_back (f : vZ) (h : ni f) : uE vZ.zero ((Zp (Ve f)).map bar) = some f := by
 rw [zx9 f h, List.map_cons, List.map_cons, uE, goH _ _ h.na, Option.bind_some, uE, goS _ _ ⟨by simp [vZ.zero], by simp [vZ.zero], by simp [vZ.zero]⟩ h.nc.1 h.nc.2, Option.bind_some]
 rw [List.map_append, List.map_append, List.map_map, List.map_map, List.map_map, Xu]
 have e1 := zJC f.l3 { vZ.zero with a := f.a, b := f.b, c := f.c } (by simpa [vZ.zero] using h.n3) (by simp [vZ.zero]) (by simp [vZ.zero]) h.g
 have e2 := zJD f.l4 { vZ.zero with a := f.a, b := f.b, c := f.c, l3 := f.l3 } h.n3 (by simpa [vZ.zero] using h.n4) (by simp [vZ.zero]) h.l
 have e3 := zJE f.l5 { vZ.zero with a := f.a, b := f.b, c := f.c, l3 := f.l3, l4 := f.l4 } h.n3 h.n4 (by simpa [vZ.zero] using h.n5) h.k
 simp only [vZ.zero, List.nil_append] at e1 e2 e3
 simp only [Function.comp_def, vZ.zero]
 rw [e1, Option.bind_some, Xu, e2, Option.bind_some, e3]
end Go.Proofs.YtaifemkokfoadaaGreatDoor
namespace Go.Proofs.YtaifemkokfoadaaGreatDoor
open Go.RowKit Go.Proofs.zx.zK
def au : ByteArray ⊕ Int → Value
 | .inl s => .iface 9 (.string s)
 | .inr n => .iface 3 (.int .i64 n)
def Zj : ByteArray ⊕ Int → List UInt8
 | .inl s => s.data.toList
 | .inr n => Lib.itoa n
def uq (ps : List (ByteArray ⊕ Int)) : List UInt8 := (ps.map Zj).flatten
theorem zvs (ps : List (ByteArray ⊕ Int)) (k : Nat) (x : ByteArray ⊕ Int) (h : ps[k]? = some x) : uq (ps.take (k + 1)) = uq (ps.take k) ++ Zj x := by
 unfold uq
 rw [List.take_add_one, h]; simp
theorem zQp (ps : List (ByteArray ⊕ Int)) (k : Nat) : (uq (ps.take k)).length ≤ (uq ps).length := by
 have : uq ps = uq (ps.take k) ++ uq (ps.drop k) := by
  unfold uq; rw [← List.flatten_append, ← List.map_append, List.take_append_drop]
 rw [this, List.length_append]; omega
theorem zk1 (s : ByteArray) : (Zj (.inl s)).length = s.size := Array.length_toList
theorem VL (l : List UInt8) : (Lib.byteCells l).length = l.length := by simp [Lib.byteCells]
theorem Yn {T e : TypeId} {B b : Nat} {bs : List Value} {w w' : World} (h : Lib.IsBuilder T e B b bs w) (hb : Below w.heap.size w w') : Lib.IsBuilder T e B b bs w' := by
 have key : ∀ p, Lib.BuilderAt T e B b p bs w → Lib.BuilderAt T e B b p bs w' := fun p ⟨h1, v, h2, h3, h4⟩ => ⟨h1, v, (hb.block b (Array.getElem?_eq_some_iff.1 h2).1).trans h2, Wv h3 hb, h4⟩
 exact h.imp (key _) (key _)
set_option maxRecDepth 100000 in
set_option maxHeartbeats 2000000 in
theorem zze (ps : List (ByteArray ⊕ Int)) (g off c : Nat) (w : World) (hG : GW w) (hn : ∀ n, .inr n ∈ ps → -9223372036854775808 ≤ n ∧ n ≤ 9223372036854775807)
  (hc : ∀ j x, ps[j]? = some x → w.cell? ⟨g, off + j, none⟩ = some (au x)) (hg : g < w.heap.size) (hp : ps.length ≤ 1000000) (hlen : (uq ps).length ≤ 140737488355328) :
  Calls Tryz.prog 84 #[.slice (some ⟨g, off, none⟩) ps.length c] w fun e w' => e = .returned (.string (bar (uq ps))) ∧ Below w.heap.size w w' := by
 have ta1 : ∀ (s : ByteArray) (W : World), (Instr.typeAssert (.iface 9 (.string s)) 20 9 true).run Tryz.prog W = .ok (.tuple #[.string s, .bool true]) W := fun _ _ => by rfl
 have ta2 : ∀ (n : Int) (W : World), (Instr.typeAssert (.iface 3 (.int .i64 n)) 20 9 true).run Tryz.prog W = .ok (.tuple #[.string ⟨#[]⟩, .bool false]) W := fun _ _ => by rfl
 have ta3 : ∀ (n : Int) (W : World), (Instr.typeAssert (.iface 3 (.int .i64 n)) 20 3 true).run Tryz.prog W = .ok (.tuple #[.int .i64 n, .bool true]) W := fun _ _ => by rfl
 go_enter Tryz.func84, Tryz.ntmps84
 go_wp2_with fail
 go_loopw [10] (fun i wr => ∃ k : Nat, k ≤ ps.length ∧ i = .int .i64 k ∧ Lib.IsBuilder 129 5 w.heap.size w.heap.size (Lib.byteCells (uq (ps.take k))) wr ∧ Below w.heap.size w wr) (fun i _ => ps.length - (intOf i).toNat)
 case atStart =>
  refine ⟨0, Nat.zero_le _, rfl, .inl ?_, (Below.refl _ _).alloc (Nat.le_refl _) _⟩
  exact ⟨Nat.le_refl _, .slice none 0 0, World.alloc_heap_new w _, World.ownsRow_nil _ _ _ _, by simp [Value.ownBlock]⟩
 case round =>
  obtain ⟨k, hk, rfl, hB, hb⟩ := hrel
  have HB := Lib.hid hB
  clear hB
  by_cases hlt : k < ps.length
  ·have hx := List.getElem?_eq_getElem hlt
   have hcell : wr.cell? ⟨g, off + k, none⟩ = some (au ps[k]) := (hb.cell (p := ⟨g, off + k, none⟩) hg).trans (hc k _ hx)
   have zjz := zvs ps k _ hx
   have hle := zQp ps (k + 1)
   rw [zjz, List.length_append] at hle
   have HS := Lib.hid zjz
   clear zjz
   have hmem : ps[k] ∈ ps := List.getElem_mem hlt
   have hz := hb.size
   have hG2 := hG.under hb
   generalize ps[k] = x at hx hcell HS hle hmem
   clear hx
   cases x with
   | inl s =>
    have e1 := zk1 s
    have hw := Tryz.Builder_WriteString w.heap.size w.heap.size _ s wr HB.out (by rw [VL]; omega) hz
    clear e1
    simp only [au] at hcell
    clear hle hmem HB
    go_wp2_with fail
    refine hw.mono ?_; rintro e w2 ⟨rfl, hB2, hb2⟩
    go_wp2_with fail
    go_roundw
    case rel => exact ⟨k + 1, by omega, by go_num, by rw [HS.out]; exact .inr (by simpa [Lib.byteCells, Lib.strCells, Zj] using hB2), hb.trans hb2⟩
    case measure => simp [intOf]; omega
   | inr n =>
    obtain ⟨n0, n1⟩ := hn n hmem
    have hi := zkY n wr n0 n1 hG2
    simp only [au] at hcell
    have hl1 : (uq (ps.take k)).length + (Lib.itoa n).length ≤ 140737488355328 := Nat.le_trans hle hlen
    clear hle hmem
    go_wp2_with fail
    refine hi.mono ?_; rintro e w2 ⟨rfl, hb2⟩
    have hB2 : Lib.IsBuilder 129 5 w.heap.size w.heap.size (Lib.byteCells (uq (ps.take k))) w2 := Yn HB.out hb2
    have hw := Tryz.Builder_WriteString w.heap.size w.heap.size _ (bar (Lib.itoa n)) w2 hB2 (by rw [VL, vC]; exact hl1) (Nat.le_trans hz hb2.size)
    clear hB2
    go_wp2_with fail
    refine hw.mono ?_; rintro e w3 ⟨rfl, hB3, hb3⟩
    go_wp2_with fail
    go_roundw
    case rel => exact ⟨k + 1, by omega, by go_num, by rw [HS.out]; exact .inr (by simpa [Lib.byteCells, Lib.strCells, Zj, wz] using hB3), (hb.trans (hb2.mono hz)).trans hb3⟩
    case measure => simp [intOf]; omega
  ·obtain rfl : k = ps.length := by omega
   rw [List.take_length] at HB
   have hs := Tryz.Builder_String_any w.heap.size w.heap.size _ wr HB.out hb.size
   clear HB
   go_wp2_with fail
   refine hs.mono ?_; rintro e w2 ⟨rfl, hb2⟩
   go_wp2_with fail
   go_ret
   exact ⟨rfl, hb.trans hb2⟩
end Go.Proofs.YtaifemkokfoadaaGreatDoor
namespace Go.Proofs.YtaifemkokfoadaaGreatDoor
open Go.RowKit Go.Shelf Go.Proofs.zx.zK Go.Proofs.zx.zU Go.Proofs.zx.zN Go.Proofs.YtaifemkokfoadaaGreatDoor.PX
set_option linter.unusedSimpArgs false
set_option linter.unusedVariables false
def qD {α : Type} (f : α → List UInt8) (l : List α) (k : Nat) : List UInt8 := ((l.take k).map f).flatten
theorem Ye {α : Type} (f : α → List UInt8) (l : List α) : qD f l 0 = [] := rfl
theorem Xw {α : Type} (f : α → List UInt8) (l : List α) (k : Nat) (x : α) (h : l[k]? = some x) : qD f l (k + 1) = qD f l k ++ f x := by
 unfold qD
 rw [List.take_add_one, h]; simp
theorem VX {α : Type} (f : α → List UInt8) (l : List α) (k : Nat) : (qD f l k).length ≤ (qD f l l.length).length := by
 unfold qD
 rw [List.take_length]
 have h : (l.map f).flatten = ((l.take k).map f).flatten ++ ((l.drop k).map f).flatten := by rw [← List.flatten_append, ← List.map_append, List.take_append_drop]
 rw [h, List.length_append]; omega
def XA (x : qw) : List (ByteArray ⊕ Int) := [.inl ⟨#[103, 32]⟩, .inl x.f0, .inl ⟨#[32]⟩, .inr x.f1, .inl ⟨#[10]⟩]
def jB (x : qw) : List UInt8 := uq (XA x)
def XB (x : qh) : List (ByteArray ⊕ Int) := [.inl ⟨#[108, 32]⟩, .inl x.f0, .inl ⟨#[32]⟩, .inl x.f1, .inl ⟨#[32]⟩, .inl x.f2, .inl ⟨#[10]⟩]
def kP (x : qh) : List UInt8 := uq (XB x)
def XC (x : xq) : List (ByteArray ⊕ Int) := [.inl ⟨#[107, 32]⟩, .inl x.f0, .inl ⟨#[32]⟩, .inl x.f1, .inl ⟨#[32]⟩, .inr x.f2, .inl ⟨#[10]⟩]
def ZX (x : xq) : List UInt8 := uq (XC x)
def Zv (c : Int) : List (ByteArray ⊕ Int) := [.inl ⟨#[10, 115, 112, 97, 99, 101, 32]⟩, .inr c, .inl ⟨#[10]⟩]
def Zu (a : ByteArray) : List UInt8 := [102, 111, 110, 116, 32] ++ a.data.toList
def wm (a : ByteArray) (b : Bool) : List UInt8 := Zu a ++ (if b = true then [32, 115, 112, 101, 99, 105, 97, 108] else [])
def uZ (a : ByteArray) (b : Bool) (c : Int) : List UInt8 := wm a b ++ uq (Zv c)
def jf (a : ByteArray) (b : Bool) (c : Int) (l3 : List qw) (l4 : List qh) (l5 : List xq) : List UInt8 := ((uZ a b c ++ qD jB l3 l3.length) ++ qD kP l4 l4.length) ++ qD ZX l5 l5.length
theorem JE (B b : Nat) (l : List UInt8) (s : ByteArray) (w : World) (h : Lib.IsBuilder 129 5 B b (Lib.byteCells l) w) (hlen : l.length + s.size ≤ 140737488355328) (hz : B ≤ w.heap.size) :
  Calls Tryz.prog 83 #[.pointer (some ⟨b, 0, none⟩), .string s] w fun e w' => e = .returned (.tuple #[.int .i64 s.size, .nilIface]) ∧ Lib.IsBuilder 129 5 B b (Lib.byteCells (l ++ s.data.toList)) w' ∧ Below B w w' :=
 (Tryz.Builder_WriteString B b _ s w h (by rw [VL]; exact hlen) hz).mono fun e w' ⟨h1, h2, h3⟩ => ⟨h1, .inr (by simpa [Lib.byteCells, Lib.strCells] using h2), h3⟩
theorem U0 (ps : List (ByteArray ⊕ Int)) (cs : Array Value) (t : TypeId) (n g : Nat) (W : World) (hg : g = W.heap.size) (hcs : cs = (ps.map au).toArray) (hps : n = ps.length) (hG : GW W) (hn : ∀ n, .inr n ∈ ps → -9223372036854775808 ≤ n ∧ n ≤ 9223372036854775807) (hp : ps.length ≤ 1000000) (hlen : (uq ps).length ≤ 140737488355328) :
  Calls Tryz.prog 84 #[.slice (some ⟨g, 0, none⟩) n n] (W.alloc (.cells cs t)) fun e w' => e = .returned (.string (bar (uq ps))) ∧ Below W.heap.size W w' := by
 subst hg hcs hps
 have hb : Below W.heap.size W (W.alloc (.cells (ps.map au).toArray t)) := (Below.refl _ W).alloc (Nat.le_refl _) _
 refine (zze ps W.heap.size 0 ps.length _ (hG.under hb) hn ?_ (by simp) hp hlen).mono ?_
 ·intro j x hx
  rw [Nat.zero_add]
  refine xV (World.alloc_heap_new W _) j _ ?_
  simp [hx]
 ·rintro e w' ⟨rfl, h⟩
  exact ⟨rfl, hb.trans (h.mono (by simp))⟩
theorem nA (a : ByteArray) (c : Int) (l3 : List qw) (l4 : List qh) (l5 : List xq) (h : uw a c l3 l4 l5 = true) :
  (0 ≤ c ∧ c ≤ 3000) ∧ (∀ x ∈ l3, 0 ≤ x.f1 ∧ x.f1 ≤ 3000) ∧ (∀ x ∈ l5, -500 ≤ x.f2 ∧ x.f2 ≤ 500) := by
 unfold uw at h
 split at h
 ·cases h
 ·rename_i q1
  split at h
  ·cases h
  ·rename_i q2
   split at h
   ·cases h
   ·rename_i q3
    simp only [Bool.or_eq_true, not_or, decide_eq_true_eq, ZP] at q1
    simp only [Bool.or_eq_true, not_or, Bool.not_eq_true, Bool.not_eq_false'] at q2
    rw [Bool.and_eq_true] at h
    refine ⟨by omega, fun x hx => ?_, fun x hx => ?_⟩
    ·have h1 := List.any_eq_false.1 q2.1 x hx
     unfold XP ZP at h1
     simp only [Bool.or_eq_true, not_or, decide_eq_true_eq] at h1
     omega
    ·have h2 : l5.any (Yu l3) = false := by simpa using h.1
     have h1 := List.any_eq_false.1 h2 x hx
     unfold Yu at h1
     simp only [Bool.or_eq_true, not_or, decide_eq_true_eq] at h1
     omega
theorem Yf (a b : ByteArray) : (a ++ b).data.toList = a.data.toList ++ b.data.toList := by simp
set_option maxRecDepth 100000 in
set_option maxHeartbeats 8000000 in
theorem zzf (a : ByteArray) (b : Bool) (c : Int) (A3 : Option Addr) (c3 : Nat) (l3 : List qw) (A4 : Option Addr) (c4 : Nat) (l4 : List qh) (A5 : Option Addr) (c5 : Nat) (l5 : List xq) (g3 : l3.length ≤ c3) (g4 : l4.length ≤ c4) (g5 : l5.length ≤ c5) (w : World) (hG : GW w) (h3 : Kd.C uy w A3 l3.length l3) (h4 : Kd.C uU w A4 l4.length l4) (h5 : Kd.C jy w A5 l5.length l5) (hl3 : l3.length ≤ 1000000000) (hl4 : l4.length ≤ 1000000000) (hl5 : l5.length ≤ 1000000000) (hv : uw a c l3 l4 l5 = true) (hlen : (jf a b c l3 l4 l5).length ≤ 1000000000) :
  Calls Tryz.prog 25 #[.agg #[.string a, .bool b, .int .i64 c, .slice A3 l3.length c3, .slice A4 l4.length c4, .slice A5 l5.length c5]] w fun e w' => e = .returned (.tuple #[.string (bar (jf a b c l3 l4 l5)), .int .i64 0]) ∧ Below w.heap.size w w' := by
 have hbx : Below w.heap.size w (w.alloc (.cells #[.string a, .bool b, .int .i64 c, .slice A3 l3.length c3, .slice A4 l4.length c4, .slice A5 l5.length c5] 26)) := (Below.refl _ w).alloc (Nat.le_refl _) _
 have hval := kX.calls a b c A3 c3 l3 A4 c4 l4 A5 c5 l5 true (w.alloc (.cells #[.string a, .bool b, .int .i64 c, .slice A3 l3.length c3, .slice A4 l4.length c4, .slice A5 l5.length c5] 26)) (Kd.zh h3 hbx) g3 (Kd.zh h4 hbx) g4 (Kd.zh h5 hbx) g5 (hG.under hbx) (by unfold kX.f; rw [if_pos ⟨hl3, hl4, hl5⟩, hv])
 obtain ⟨nc, n3, n5⟩ := nA a c l3 l4 l5 hv
 have hT : (uZ a b c).length + (qD jB l3 l3.length).length + (qD kP l4 l4.length).length + (qD ZX l5 l5.length).length ≤ 1000000000 := by
  have := hlen
  unfold jf at this
  simp only [List.length_append] at this
  omega
 have hT2 : (wm a b).length + (uq (Zv c)).length = (uZ a b c).length := by unfold uZ; rw [List.length_append]
 have hT1 : (Zu a).length ≤ (wm a b).length := by unfold wm; rw [List.length_append]; omega
 have hT3 : (Zu a).length = 5 + a.size := by unfold Zu; rw [List.length_append]; rfl
 have hT4 : b = true → (Zu a).length + 8 = (wm a b).length := by intro h; unfold wm; rw [List.length_append, if_pos h]; rfl
 generalize hwv : jf a b c l3 l4 l5 = V
 have HV := Lib.hid hwv
 clear hwv hlen hv
 go_enter Tryz.func25, Tryz.ntmps25
 go_wp2_with fail
 refine hval.mono ?_; rintro e w1 ⟨rfl, hb1⟩
 have hbw : Below w.heap.size w w1 := hbx.trans (hb1.mono hbx.size)
 have BX : w1.heap[w.heap.size]? = some (.cells #[.string a, .bool b, .int .i64 c, .slice A3 l3.length c3, .slice A4 l4.length c4, .slice A5 l5.length c5] 26 (0, 0)) := zf (vY w _) hb1
 have hG1 := hG.under hbw
 have k3 := Kd.zh h3 hbw
 have k4 := Kd.zh h4 hbw
 have k5 := Kd.zh h5 hbw
 have hlt : w.heap.size < w1.heap.size := uS BX
 have hf : ∀ W, Below w1.heap.size w1 W → W.heap[w.heap.size]? = some (.cells #[.string a, .bool b, .int .i64 c, .slice A3 l3.length c3, .slice A4 l4.length c4, .slice A5 l5.length c5] 26 (0, 0)) := fun W h => zf BX h
 have HF := Lib.hid hf
 have q0 : (w1.alloc (.cells #[.pointer none, .slice none 0 0] 129)).cell? ⟨w.heap.size, 0, none⟩ = some (.string a) := (zk (hf _ ((Below.refl _ _).alloc (Nat.le_refl _) _)) 0).trans rfl
 clear hval hb1 hbx hG h3 h4 h5 hf
 go_wp2_with fail
 refine (JE w1.heap.size w1.heap.size [] ((⟨#[102, 111, 110, 116, 32]⟩ : ByteArray) ++ a) _ (.inl ⟨Nat.le_refl _, .slice none 0 0, World.alloc_heap_new w1 _, World.ownsRow_nil _ _ _ _, by simp [Value.ownBlock]⟩) (by rw [ByteArray.size_append]; show 0 + (5 + a.size) ≤ _; omega) (by simp)).mono ?_
 rintro e w2 ⟨rfl, hB, hbb⟩
 have hb2 : Below w1.heap.size w1 w2 := ((Below.refl _ w1).alloc (Nat.le_refl _) _).trans hbb
 have hB : Lib.IsBuilder 129 5 w1.heap.size w1.heap.size (Lib.byteCells (Zu a)) w2 := by rw [List.nil_append, Yf] at hB; exact hB
 clear hbb
 have ZG := zy.mk hB
 clear hB
 have HT := zy.mk (And.intro hT (And.intro hT2 (And.intro hT1 (And.intro hT3 hT4))))
 clear hT hT2 hT1 hT3 hT4
 cases hbv : b
 case' true =>
  have hcb : w2.cell? ⟨w.heap.size, 1, none⟩ = some (.bool true) := by rw [← hbv]; exact (zk (HF.out w2 hb2) 1).trans rfl
  go_wp2_with fail
  refine (JE w1.heap.size w1.heap.size (Zu a) (⟨#[32, 115, 112, 101, 99, 105, 97, 108]⟩ : ByteArray) w2 ZG.out (by obtain ⟨p1, p2, p3, p4, p5⟩ := HT.out; have := p5 hbv; show (Zu a).length + 8 ≤ _; omega) hb2.size).mono ?_
  rintro e w2 ⟨rfl, hB, hbb⟩
  have hb2 : Below w1.heap.size w1 w2 := hb2.trans hbb
  clear hcb ZG
  have ZG : zy (Lib.IsBuilder 129 5 w1.heap.size w1.heap.size (Lib.byteCells (wm a b)) w2) := ⟨by unfold wm; rw [if_pos hbv]; exact hB⟩
  clear hB hbb
 case' false =>
  have hcb : w2.cell? ⟨w.heap.size, 1, none⟩ = some (.bool false) := by rw [← hbv]; exact (zk (HF.out w2 hb2) 1).trans rfl
  have ZG : zy (Lib.IsBuilder 129 5 w1.heap.size w1.heap.size (Lib.byteCells (wm a b)) w2) := ⟨by unfold wm; rw [if_neg (by rw [hbv]; simp), List.append_nil]; exact ZG.out⟩
 all_goals
  have hc2 : w2.cell? ⟨w.heap.size, 2, none⟩ = some (.int .i64 c) := (zk (HF.out w2 hb2) 2).trans rfl
  go_wp2_with fail
  refine (U0 (Zv c) _ _ 3 w2.heap.size w2 rfl (by rfl) (by rfl) (hG1.under hb2) (by intro n hn; simp [Zv] at hn; omega) (by show 3 ≤ 1000000; decide) (by obtain ⟨p1, p2, p3, p4, p5⟩ := HT.out; omega)).mono ?_
  rintro e w3 ⟨rfl, hb3⟩
  clear hc2
  go_wp2_with fail
  refine (JE w1.heap.size w1.heap.size (wm a b) (bar (uq (Zv c))) w3 (Yn ZG.out hb3) (by obtain ⟨p1, p2, p3, p4, p5⟩ := HT.out; rw [vC]; omega) (Nat.le_trans hb2.size hb3.size)).mono ?_
  rintro e w4 ⟨rfl, hB, hbb⟩
  have hb4 : Below w1.heap.size w1 w4 := (hb2.trans (hb3.mono hb2.size)).trans hbb
  have ZG : zy (Lib.IsBuilder 129 5 w1.heap.size w1.heap.size (Lib.byteCells (uZ a b c ++ qD jB l3 0)) w4) := ⟨by rw [wz] at hB; rw [Ye, List.append_nil]; exact hB⟩
  clear hB hbb hb3 hb2
  have hc3 : w4.cell? ⟨w.heap.size, 3, none⟩ = some (.slice A3 l3.length c3) := (zk (HF.out w4 hb4) 3).trans rfl
  go_wp2_with fail
  go_loopw [32] (fun y W => ∃ k : Nat, y = .int .i64 (k : Int) ∧ k ≤ l3.length ∧ zy (Lib.IsBuilder 129 5 w1.heap.size w1.heap.size (Lib.byteCells (uZ a b c ++ qD jB l3 k)) W) ∧ zy (Below w1.heap.size w1 W)) (fun y _ => l3.length - (intOf y).toNat)
  case atStart => exact ⟨0, rfl, Nat.zero_le _, ZG, ⟨hb4⟩⟩
  case round =>
   clear ZG hb4 hc3
   obtain ⟨k, rfl, hk, ZG, HB⟩ := hrel
   by_cases hlt : k < l3.length
   ·have hx := List.getElem?_eq_getElem hlt
    obtain ⟨ad, e, x0, x1⟩ := YM (Kd.zh k3 HB.out) (k : Int) (by omega) (by omega)
    cases e
    have e : qV l3 (k : Int) = l3[k] := by simp [qV, List.getD_eq_getElem?_getD, hlt]
    rw [Int.toNat_natCast, e] at x0 x1
    clear e
    generalize l3[k] = x at hx x0 x1
    have HS := zy.mk (Xw jB l3 k x hx)
    have hle := VX jB l3 (k + 1)
    rw [HS.out, List.length_append] at hle
    have hL : (uZ a b c ++ qD jB l3 k).length + (uq (XA x)).length ≤ 1000000000 := by obtain ⟨p1, p2, p3, p4, p5⟩ := HT.out; have e : jB x = uq (XA x) := rfl; rw [e] at hle; simp only [List.length_append] at hle ⊢; omega
    have HL := zy.mk hL
    have q1 : (k : Int) < (l3.length : Int) := by omega
    have q0 : (0 : Int) ≤ (k : Int) := by omega
    have q3 : ((k : Int)).toNat = k := Int.toNat_natCast k
    clear hle hL
    go_wp2_with fail
    have hbX : Below wr.heap.size wr (wr.alloc (.cells #[.string x.f0, .int .i64 x.f1] 31)) := (Below.refl _ wr).alloc (Nat.le_refl _) _
    have iZ : (wr.alloc (.cells #[.string x.f0, .int .i64 x.f1] 31)).heap.size = wr.heap.size + 1 := by simp
    refine (U0 (XA x) _ _ 5 (wr.heap.size + 1) (wr.alloc (.cells #[.string x.f0, .int .i64 x.f1] 31)) iZ.symm (by rfl) (by rfl) ((hG1.under HB.out).under hbX) (by have := n3 x (List.mem_of_getElem? hx); intro n hn; simp [XA] at hn; omega) (by show 5 ≤ 1000000; decide) (by have := HL.out; omega)).mono ?_
    rintro e w5 ⟨rfl, hb5⟩
    have hb6 : Below wr.heap.size wr w5 := hbX.trans (hb5.mono hbX.size)
    clear hbX iZ hb5
    go_wp2_with fail
    refine (JE w1.heap.size w1.heap.size (uZ a b c ++ qD jB l3 k) (bar (uq (XA x))) w5 (Yn ZG.out hb6) (by have := HL.out; rw [vC]; omega) (Nat.le_trans HB.out.size hb6.size)).mono ?_
    rintro e w7 ⟨rfl, hB, hbb⟩
    have HB2 : zy (Below w1.heap.size w1 w7) := ⟨(HB.out.trans (hb6.mono HB.out.size)).trans hbb⟩
    have zzg : zy (Lib.IsBuilder 129 5 w1.heap.size w1.heap.size (Lib.byteCells (uZ a b c ++ qD jB l3 (k + 1))) w7) := ⟨by rw [wz, List.append_assoc] at hB; rw [HS.out]; exact hB⟩
    clear hB hbb hb6 ZG HB
    go_wp2_with fail
    go_roundw
    case rel => exact ⟨k + 1, by first | rfl | (simp; done) | go_num, by omega, zzg, HB2⟩
    case measure => simp [intOf]; omega
   ·obtain rfl : k = l3.length := by omega
    have UO := HB.out
    have ZG : zy (Lib.IsBuilder 129 5 w1.heap.size w1.heap.size (Lib.byteCells ((uZ a b c ++ qD jB l3 l3.length) ++ qD kP l4 0)) wr) := ⟨by rw [Ye, List.append_nil]; exact ZG.out⟩
    clear HB
    have hc4 : wr.cell? ⟨w.heap.size, 4, none⟩ = some (.slice A4 l4.length c4) := (zk (HF.out wr UO) 4).trans rfl
    go_wp2_with fail
    go_loopw [52] (fun y W => ∃ k : Nat, y = .int .i64 (k : Int) ∧ k ≤ l4.length ∧ zy (Lib.IsBuilder 129 5 w1.heap.size w1.heap.size (Lib.byteCells ((uZ a b c ++ qD jB l3 l3.length) ++ qD kP l4 k)) W) ∧ zy (Below w1.heap.size w1 W)) (fun y _ => l4.length - (intOf y).toNat)
    case atStart => exact ⟨0, rfl, Nat.zero_le _, ZG, ⟨UO⟩⟩
    case round =>
     clear ZG UO hc4
     obtain ⟨k, rfl, hk, ZG, HB⟩ := hrel
     by_cases hlt : k < l4.length
     ·have hx := List.getElem?_eq_getElem hlt
      obtain ⟨ad, e, x0, x1, x2⟩ := Vh (Kd.zh k4 HB.out) (k : Int) (by omega) (by omega)
      cases e
      have e : qO l4 (k : Int) = l4[k] := by simp [qO, List.getD_eq_getElem?_getD, hlt]
      rw [Int.toNat_natCast, e] at x0 x1 x2
      clear e
      generalize l4[k] = x at hx x0 x1 x2
      have HS := zy.mk (Xw kP l4 k x hx)
      have hle := VX kP l4 (k + 1)
      rw [HS.out, List.length_append] at hle
      have hL : ((uZ a b c ++ qD jB l3 l3.length) ++ qD kP l4 k).length + (uq (XB x)).length ≤ 1000000000 := by obtain ⟨p1, p2, p3, p4, p5⟩ := HT.out; have e : kP x = uq (XB x) := rfl; rw [e] at hle; simp only [List.length_append] at hle ⊢; omega
      have HL := zy.mk hL
      have q1 : (k : Int) < (l4.length : Int) := by omega
      have q0 : (0 : Int) ≤ (k : Int) := by omega
      have q3 : ((k : Int)).toNat = k := Int.toNat_natCast k
      clear hle hL
      go_wp2_with fail
      have hbX : Below wr.heap.size wr (wr.alloc (.cells #[.string x.f0, .string x.f1, .string x.f2] 86)) := (Below.refl _ wr).alloc (Nat.le_refl _) _
      have iZ : (wr.alloc (.cells #[.string x.f0, .string x.f1, .string x.f2] 86)).heap.size = wr.heap.size + 1 := by simp
      refine (U0 (XB x) _ _ 7 (wr.heap.size + 1) (wr.alloc (.cells #[.string x.f0, .string x.f1, .string x.f2] 86)) iZ.symm (by rfl) (by rfl) ((hG1.under HB.out).under hbX) (by intro n hn; simp [XB] at hn) (by show 7 ≤ 1000000; decide) (by have := HL.out; omega)).mono ?_
      rintro e w5 ⟨rfl, hb5⟩
      have hb6 : Below wr.heap.size wr w5 := hbX.trans (hb5.mono hbX.size)
      clear hbX iZ hb5
      go_wp2_with fail
      refine (JE w1.heap.size w1.heap.size ((uZ a b c ++ qD jB l3 l3.length) ++ qD kP l4 k) (bar (uq (XB x))) w5 (Yn ZG.out hb6) (by have := HL.out; rw [vC]; omega) (Nat.le_trans HB.out.size hb6.size)).mono ?_
      rintro e w7 ⟨rfl, hB, hbb⟩
      have HB2 : zy (Below w1.heap.size w1 w7) := ⟨(HB.out.trans (hb6.mono HB.out.size)).trans hbb⟩
      have zzg : zy (Lib.IsBuilder 129 5 w1.heap.size w1.heap.size (Lib.byteCells ((uZ a b c ++ qD jB l3 l3.length) ++ qD kP l4 (k + 1))) w7) := ⟨by rw [wz, List.append_assoc] at hB; rw [HS.out]; exact hB⟩
      clear hB hbb hb6 ZG HB
      go_wp2_with fail
      go_roundw
      case rel => exact ⟨k + 1, by first | rfl | (simp; done) | go_num, by omega, zzg, HB2⟩
      case measure => simp [intOf]; omega
     ·obtain rfl : k = l4.length := by omega
      have UO := HB.out
      have ZG : zy (Lib.IsBuilder 129 5 w1.heap.size w1.heap.size (Lib.byteCells (((uZ a b c ++ qD jB l3 l3.length) ++ qD kP l4 l4.length) ++ qD ZX l5 0)) wr) := ⟨by rw [Ye, List.append_nil]; exact ZG.out⟩
      clear HB
      have hc5 : wr.cell? ⟨w.heap.size, 5, none⟩ = some (.slice A5 l5.length c5) := (zk (HF.out wr UO) 5).trans rfl
      go_wp2_with fail
      go_loopw [76] (fun y W => ∃ k : Nat, y = .int .i64 (k : Int) ∧ k ≤ l5.length ∧ zy (Lib.IsBuilder 129 5 w1.heap.size w1.heap.size (Lib.byteCells (((uZ a b c ++ qD jB l3 l3.length) ++ qD kP l4 l4.length) ++ qD ZX l5 k)) W) ∧ zy (Below w1.heap.size w1 W)) (fun y _ => l5.length - (intOf y).toNat)
      case atStart => exact ⟨0, rfl, Nat.zero_le _, ZG, ⟨UO⟩⟩
      case round =>
       clear ZG UO hc5
       obtain ⟨k, rfl, hk, ZG, HB⟩ := hrel
       by_cases hlt : k < l5.length
       ·have hx := List.getElem?_eq_getElem hlt
        obtain ⟨ad, e, x0, x1, x2⟩ := Vi (Kd.zh k5 HB.out) (k : Int) (by omega) (by omega)
        cases e
        have e : xk l5 (k : Int) = l5[k] := by simp [xk, List.getD_eq_getElem?_getD, hlt]
        rw [Int.toNat_natCast, e] at x0 x1 x2
        clear e
        generalize l5[k] = x at hx x0 x1 x2
        have HS := zy.mk (Xw ZX l5 k x hx)
        have hle := VX ZX l5 (k + 1)
        rw [HS.out, List.length_append] at hle
        have hL : (((uZ a b c ++ qD jB l3 l3.length) ++ qD kP l4 l4.length) ++ qD ZX l5 k).length + (uq (XC x)).length ≤ 1000000000 := by obtain ⟨p1, p2, p3, p4, p5⟩ := HT.out; have e : ZX x = uq (XC x) := rfl; rw [e] at hle; simp only [List.length_append] at hle ⊢; omega
        have HL := zy.mk hL
        have q1 : (k : Int) < (l5.length : Int) := by omega
        have q0 : (0 : Int) ≤ (k : Int) := by omega
        have q3 : ((k : Int)).toNat = k := Int.toNat_natCast k
        clear hle hL
        go_wp2_with fail
        have hbX : Below wr.heap.size wr (wr.alloc (.cells #[.string x.f0, .string x.f1, .int .i64 x.f2] 76)) := (Below.refl _ wr).alloc (Nat.le_refl _) _
        have iZ : (wr.alloc (.cells #[.string x.f0, .string x.f1, .int .i64 x.f2] 76)).heap.size = wr.heap.size + 1 := by simp
        refine (U0 (XC x) _ _ 7 (wr.heap.size + 1) (wr.alloc (.cells #[.string x.f0, .string x.f1, .int .i64 x.f2] 76)) iZ.symm (by rfl) (by rfl) ((hG1.under HB.out).under hbX) (by have := n5 x (List.mem_of_getElem? hx); intro n hn; simp [XC] at hn; omega) (by show 7 ≤ 1000000; decide) (by have := HL.out; omega)).mono ?_
        rintro e w5 ⟨rfl, hb5⟩
        have hb6 : Below wr.heap.size wr w5 := hbX.trans (hb5.mono hbX.size)
        clear hbX iZ hb5
        go_wp2_with fail
        refine (JE w1.heap.size w1.heap.size (((uZ a b c ++ qD jB l3 l3.length) ++ qD kP l4 l4.length) ++ qD ZX l5 k) (bar (uq (XC x))) w5 (Yn ZG.out hb6) (by have := HL.out; rw [vC]; omega) (Nat.le_trans HB.out.size hb6.size)).mono ?_
        rintro e w7 ⟨rfl, hB, hbb⟩
        have HB2 : zy (Below w1.heap.size w1 w7) := ⟨(HB.out.trans (hb6.mono HB.out.size)).trans hbb⟩
        have zzg : zy (Lib.IsBuilder 129 5 w1.heap.size w1.heap.size (Lib.byteCells (((uZ a b c ++ qD jB l3 l3.length) ++ qD kP l4 l4.length) ++ qD ZX l5 (k + 1))) w7) := ⟨by rw [wz, List.append_assoc] at hB; rw [HS.out]; exact hB⟩
        clear hB hbb hb6 ZG HB
        go_wp2_with fail
        go_roundw
        case rel => exact ⟨k + 1, by first | rfl | (simp; done) | go_num, by omega, zzg, HB2⟩
        case measure => simp [intOf]; omega
       ·obtain rfl : k = l5.length := by omega
        have UO := HB.out
        have HBe : Lib.IsBuilder 129 5 w1.heap.size w1.heap.size (Lib.byteCells V) wr := by rw [← HV.out]; exact ZG.out
        have hs := Tryz.Builder_String_any w1.heap.size w1.heap.size _ wr HBe UO.size
        clear ZG HB HBe
        go_wp2_with fail
        refine hs.mono ?_; rintro e w2 ⟨rfl, aV⟩
        go_wp2_with fail
        go_ret2
        exact ⟨rfl, (hbw.trans (UO.mono hbw.size)).trans (aV.mono hbw.size)⟩
set_option maxRecDepth 100000 in
theorem zvt (a : ByteArray) (b : Bool) (c : Int) (A3 : Option Addr) (c3 : Nat) (l3 : List qw) (A4 : Option Addr) (c4 : Nat) (l4 : List qh) (A5 : Option Addr) (c5 : Nat) (l5 : List xq) (g3 : l3.length ≤ c3) (g4 : l4.length ≤ c4) (g5 : l5.length ≤ c5) (w : World) (hG : GW w) (h3 : Kd.C uy w A3 l3.length l3) (h4 : Kd.C uU w A4 l4.length l4) (h5 : Kd.C jy w A5 l5.length l5) (hl3 : l3.length ≤ 1000000000) (hl4 : l4.length ≤ 1000000000) (hl5 : l5.length ≤ 1000000000) (hv : uw a c l3 l4 l5 = false) :
  Calls Tryz.prog 25 #[.agg #[.string a, .bool b, .int .i64 c, .slice A3 l3.length c3, .slice A4 l4.length c4, .slice A5 l5.length c5]] w fun e w' => e = .returned (.tuple #[.string (⟨#[]⟩ : ByteArray), .int .i64 1]) ∧ Below w.heap.size w w' := by
 have hbx : Below w.heap.size w (w.alloc (.cells #[.string a, .bool b, .int .i64 c, .slice A3 l3.length c3, .slice A4 l4.length c4, .slice A5 l5.length c5] 26)) := (Below.refl _ w).alloc (Nat.le_refl _) _
 have hval := kX.calls a b c A3 c3 l3 A4 c4 l4 A5 c5 l5 false (w.alloc (.cells #[.string a, .bool b, .int .i64 c, .slice A3 l3.length c3, .slice A4 l4.length c4, .slice A5 l5.length c5] 26)) (Kd.zh h3 hbx) g3 (Kd.zh h4 hbx) g4 (Kd.zh h5 hbx) g5 (hG.under hbx) (by unfold kX.f; rw [if_pos ⟨hl3, hl4, hl5⟩, hv])
 clear hG h3 h4 h5
 go_enter Tryz.func25, Tryz.ntmps25
 go_wp2_with fail
 refine hval.mono ?_; rintro e w1 ⟨rfl, hb1⟩
 go_wp2
 go_ret2
 exact ⟨rfl, hbx.trans (hb1.mono hbx.size)⟩
end Go.Proofs.YtaifemkokfoadaaGreatDoor
namespace Go.Proofs.YtaifemkokfoadaaGreatDoor.PX
open Go.RowKit Go.Proofs.zx.zK Go.Proofs.zx.zU Go.Proofs.zx.zN
attribute [local go_sem] qF qG xC xD qY qW qH qI   -- for this text's walks alone
set_option linter.unusedVariables false
set_option linter.unusedSimpArgs false
end Go.Proofs.YtaifemkokfoadaaGreatDoor.PX
namespace Go.Proofs.YtaifemkokfoadaaGreatDoor.PX
open Go.RowKit Go.Proofs.zx.zK Go.Proofs.zx.zU Go.Proofs.zx.zN
attribute [local go_sem] qF qG xC xD qY qW qH qI   -- for this text's walks alone
set_option linter.unusedVariables false
set_option linter.unusedSimpArgs false
end Go.Proofs.YtaifemkokfoadaaGreatDoor.PX
namespace Go.Proofs.YtaifemkokfoadaaGreatDoor.PX
open Go.RowKit Go.Proofs.zx.zK Go.Proofs.zx.zU Go.Proofs.zx.zN
attribute [local go_sem] qF qG xC xD qY qW qH qI   -- for this text's walks alone
set_option linter.unusedVariables false
set_option linter.unusedSimpArgs false
end Go.Proofs.YtaifemkokfoadaaGreatDoor.PX
