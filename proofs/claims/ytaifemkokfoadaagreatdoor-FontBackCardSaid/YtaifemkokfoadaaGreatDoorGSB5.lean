/-
  Texts that lean on one another, laid in one file. No condition.
-/
import Derived.Test.YtaifemkokfoadaaGreatDoorGSB4
import Derived.Test.YtaifemkokfoadaaGreatDoorGSB1
import Derived.Deep.QuietTactic
import Derived.BigQuiet
import Derived.Deep.RegionHeld3
import Derived.Test.YtaifemkokfoadaaGreatDoorGSB3
import Derived.Test.YtaifemkokfoadaaGreatDoorGSB2
import Derived.RangeFuncRecord
namespace Go.Proofs.YtaifemkokfoadaaGreatDoor
open Go.RowKit Go.Proofs.zx.zK Go.Proofs.zx.zU Go.Proofs.zx.zN Go.Proofs.YtaifemkokfoadaaGreatDoor.PX
set_option linter.unusedSimpArgs false
set_option linter.unusedVariables false
section
variable {P : Program} {ops : Array Oper} {Q : Exit → Act → World → Prop} {md : Region.Mode} {S : World → Prop} {ds : List Nat} {T : Bool × List (List Nat × List Nat)} {oi : Oper} {v : Value} {fuel : Nat} {l : Array Bool} {a a' : Act} {w : World}
theorem rP (i : Nat) (N : Option Tmp) (HT : zy (vB md ops = T)) (h : yg P md ops Q S ds fuel (l.setIfInBounds i true) a' w)
    (hi : ops[i]? = some oi := by exact rfl) (hN : oi.dst = N := by exact rfl) (hc : bO T l.toList (l.setIfInBounds i true).toList i = true := by kernel_rfl) (hQ : ∀ c a w, Q (.panic c) (a.put oi.dst v) w → Q (.panic c) a w := by exact fun _ _ _ h => h)
    (hg : Region.wanted oi (yielded ops a.tmps) = true := by rfl) (hy : ∀ w, (execOp a.eval oi).run P w = .ok (.value v) w := by intro w'; go_simp; with_reducible rfl) (ha : a.put N v = a' := by simp only [Act.put, List.setIfInBounds_toArray, List.set_cons_zero, List.set_cons_succ, wJ, wV]; rfl) :
    yg P md ops Q S ds (fuel + 1) l a w := jh _ hi hN (uF HT.out hc) hQ (Or.inl ⟨hg, hy⟩) ha h
theorem rU (i : Nat) (N : Option Tmp) (HT : zy (vB md ops = T)) (h : yg P md ops Q S ds fuel (l.setIfInBounds i true) a' w)
    (hi : ops[i]? = some oi := by exact rfl) (hN : oi.dst = N := by exact rfl) (hc : bO T l.toList (l.setIfInBounds i true).toList i = true := by kernel_rfl) (hQ : ∀ c a w, Q (.panic c) (a.put oi.dst undef) w → Q (.panic c) a w := by exact fun _ _ _ h => h)
    (hg : Region.wanted oi (yielded ops a.tmps) = false := by rfl) (ha : a.put N undef = a' := by simp only [Act.put, List.setIfInBounds_toArray, List.set_cons_zero, List.set_cons_succ, wJ, wV]; rfl) :
    yg P md ops Q S ds (fuel + 1) l a w := jh _ hi hN (uF HT.out hc) hQ (Or.inr ⟨hg, rfl⟩) ha h
theorem rT {B : List Nat} (i : Nat) (N : Option Tmp) (HT : zy (vB md ops = T)) (HW : zy (vU T.2 B = true)) (hS : S w) (h : yg P md ops Q S ds fuel (l.setIfInBounds i true) a' w)
    (hi : ops[i]? = some oi := by exact rfl) (hN : oi.dst = N := by exact rfl) (hc : gI T B ds l.toList (l.setIfInBounds i true).toList i = true := by kernel_rfl) (hQ : ∀ c a w, Q (.panic c) (a.put oi.dst v) w → Q (.panic c) a w := by exact fun _ _ _ h => h)
    (hg : Region.wanted oi (yielded ops a.tmps) = true := by rfl) (hy : ∀ w, S w → (execOp a.eval oi).run P w = .ok (.value v) w := by intro w' hs_; go_simp; with_reducible rfl) (ha : a.put N v = a' := by simp only [Act.put, List.setIfInBounds_toArray, List.set_cons_zero, List.set_cons_succ, wJ, wV]; rfl) :
    yg P md ops Q S ds (fuel + 1) l a w := UC _ hi hN (bP HT.out HW.out hc) hQ (Or.inl ⟨hg, hy⟩) hS ha h
theorem rS {X : World} {B : List Nat} {n id : Nat} (HS : zy (∀ W, Below X.heap.size X W → S W)) (hT : vB .any ops = T) (hB : vU T.2 B = true) (hm : P.follows .mixedOrders = true) (hn : ops.size = n) (hl : Array.replicate n false = l)
    (h : ∀ w, zy (Below X.heap.size X w) → zy (vB .any ops = T) → zy (vU T.2 B = true) → S w → yg P .any ops Q S [] n l a w) : (Code.region id ops true).wp P Q a X :=
  jU _ hm hn hl (HS.out _ (Below.refl _ _).drew) fun hH => h _ ⟨(Below.refl _ _).drew⟩ ⟨hT⟩ ⟨hB⟩ hH
theorem rC {X : World} {f : FuncId} {fn : Func} {WX : Array Operand} {ts : Array TypeId} {args : Array Value} (i : Nat) (N : Option Tmp) (HT : zy (vB md ops = T)) (HS : zy (∀ W, Below X.heap.size X W → S W)) (HY : zy (Below X.heap.size X w)) (hf : P.funcs[f]? = some fn)
    (hcall : Calls P f args w fun e w' => e = .returned v ∧ Below w.heap.size w w') (h : ∀ w', zy (Below X.heap.size X w') → S w' → yg P md ops Q S ds fuel (l.setIfInBounds i true) a' w') (hname : (fn.name == "runtime.NumGoroutine") = false)
    (hi : ops[i]? = some oi := by exact rfl) (hN : oi.dst = N := by exact rfl) (hc : (Xm T.2 l.toList == [i] && l.toList.set i true == (l.setIfInBounds i true).toList) = true := by kernel_rfl) (hd : i ∉ ds := by decide) (hb : fn.body.isSome = true := by exact rfl) (hw : Region.wanted oi (yielded ops a.tmps) = true := by rfl)
    (hop : oi.op = .call { callee := .value (.func f), args := WX, argTypes := ts } := by exact rfl) (hargs : WX.map a.eval = args := by (try simp only [List.map_toArray, List.map_cons, List.map_nil]); first | done | rfl) (ha : a.put N v = a' := by simp only [Act.put, List.setIfInBounds_toArray, List.set_cons_zero, List.set_cons_succ, wJ, wV]; rfl) :
    yg P md ops Q S ds (fuel + 1) l a w := by
  refine XI _ hi hN (vG HT.out hc) hd fun K hK => ?_
  refine QV hf hname hb args hw hN hop hargs (hcall.mono ?_)
  rintro e w' ⟨rfl, hk⟩
  have h2 := HY.out.trans (hk.mono HY.out.size)
  refine ⟨_, rfl, hK.out _ _ (HS.out _ h2) fun hH => ?_⟩
  rw [ha]
  exact h _ ⟨h2⟩ hH
end
def rval.WJ : Bool × List (List Nat × List Nat) := (true, [([], []), ([], []), ([1], [1]), ([0, 2], [0, 2]), ([3], [3]), ([4, 3], [4]), ([5], [5]), ([5], [5]), ([7, 5], [5, 7]), ([6, 8, 5, 5], [5, 6, 8]), ([9, 5], [5, 9]), ([5, 10], [5, 10]), ([11, 9], [11]), ([12], [12]), ([12], [12]), ([14, 12], [12, 14]), ([13, 15, 12, 12], [12, 13, 15]), ([16, 12], [12, 16]), ([12, 17], [12, 17]), ([18, 16], [18]), ([19], [19]), ([20, 19], [19, 20]), ([21, 19, 19], [19, 21]), ([22], [22]), ([23, 22], [22, 23]), ([22], [22]), ([25, 22], [22, 25]), ([24, 26, 22], [22, 24, 26]), ([27, 22], [22, 27]), ([28, 22], [22, 28]), ([22], [22]), ([30, 22], [22, 30]), ([22], [22]), ([32, 22], [22, 32]), ([31, 33, 22], [22, 31, 33]), ([34, 22], [22, 34]), ([35, 22], [22, 35]), ([22], [22]), ([37, 22], [22, 37]), ([22], [22]), ([39, 22], [22, 39]), ([29, 36, 38, 40, 22, 22], [22, 29, 36, 38, 40]), ([41, 22], [22, 41]), ([22, 42, 19], [19, 22, 42]), ([19, 43], [19, 43])])
def rval.lS : List Nat := [0, 0, 2, 7, 15, 31, 63, 63, 191, 511, 1023, 2047, 4095, 8191, 8191, 24575, 65535, 131071, 262143, 524287, 1048575, 2097151, 4194303, 8388607, 16777215, 8388607, 41943039, 134217727, 268435455, 536870911, 8388607, 1082130431, 8388607, 4303355903, 16114515967, 33294385151, 67654123519, 8388607, 137447342079, 8388607, 549764202495, 2199023255551, 4398046511103, 8796093022207, 17592186044415]
theorem rval.YJ : vB .any (opsOf Tryz.f61 13) = rval.WJ := by kernel_rfl
theorem rval.pR : vU rval.WJ.2 rval.lS = true := by kernel_rfl
def rval.T19 : Bool × List (List Nat × List Nat) := (true, [([], []), ([], []), ([1], [1]), ([0, 2], [0, 2]), ([3], [3]), ([4, 3], [4]), ([5], [5]), ([5], [5]), ([7, 5], [5, 7]), ([6, 8, 5, 5], [5, 6, 8]), ([9, 5], [5, 9]), ([5, 10], [5, 10]), ([11, 9], [11]), ([12], [12]), ([13, 12], [12, 13]), ([14, 12], [12, 14]), ([12, 15], [12, 15]), ([16, 12], [16]), ([17], [17]), ([18, 17], [17, 18]), ([19, 17], [17, 19]), ([17, 20], [17, 20]), ([21, 17], [21]), ([22], [22]), ([23, 22], [22, 23]), ([24, 22], [22, 24]), ([22, 25], [22, 25]), ([26, 22], [26]), ([27], [27]), ([28, 27], [27, 28]), ([29, 27, 27], [27, 29]), ([30], [30]), ([31, 30], [30, 31]), ([30], [30]), ([33, 30], [30, 33]), ([32, 34, 30], [30, 32, 34]), ([35, 30], [30, 35]), ([36, 30], [30, 36]), ([30], [30]), ([38, 30], [30, 38]), ([30], [30]), ([40, 30], [30, 40]), ([39, 41, 30], [30, 39, 41]), ([42, 30], [30, 42]), ([43, 30], [30, 43]), ([30], [30]), ([45, 30], [30, 45]), ([30], [30]), ([47, 30], [30, 47]), ([37, 44, 46, 48, 30, 30], [30, 37, 44, 46, 48]), ([49, 30], [30, 49]), ([30, 50, 27], [27, 30, 50]), ([27, 51], [27, 51])])
def rval.B19 : List Nat := [0, 0, 2, 7, 15, 31, 63, 63, 191, 511, 1023, 2047, 4095, 8191, 16383, 32767, 65535, 131071, 262143, 524287, 1048575, 2097151, 4194303, 8388607, 16777215, 33554431, 67108863, 134217727, 268435455, 536870911, 1073741823, 2147483647, 4294967295, 2147483647, 10737418239, 34359738367, 68719476735, 137438953471, 2147483647, 277025390591, 2147483647, 1101659111423, 4125316087807, 8523362598911, 17319455621119, 2147483647, 35186519572479, 2147483647, 140739635838975, 562949953421311, 1125899906842623, 2251799813685247, 4503599627370495]
theorem rval.XZ : vB .any (opsOf Tryz.f61 19) = rval.T19 := by kernel_rfl
theorem rval.Z9 : vU rval.T19.2 rval.B19 = true := by kernel_rfl
set_option maxRecDepth 100000 in
set_option maxHeartbeats 16000000 in
theorem nC (a : ByteArray) (b : Bool) (c : Int) (A3 : Option Addr) (c3 : Nat) (l3 : List qJ) (A4 : Option Addr) (c4 : Nat) (l4 : List xK) (A5 : Option Addr) (c5 : Nat) (l5 : List xY) (w : World) (h3 : Kd.C jC w A3 l3.length l3) (g3 : l3.length ≤ c3) (h4 : Kd.C kR w A4 l4.length l4) (g4 : l4.length ≤ c4) (h5 : Kd.C kE w A5 l5.length l5) (g5 : l5.length ≤ c5) (hl3 : l3.length ≤ 1000000000) (hl4 : l4.length ≤ 1000000000) (hl5 : l5.length ≤ 1000000000) (ha : a.size ≤ 140737488355328) (hz : ∀ x ∈ l3, x.f0.size ≤ 140737488355328) :
    Calls Tryz.prog 61 #[.agg #[.string a, .bool b, .int .i64 c, .slice A3 l3.length c3, .slice A4 l4.length c4, .slice A5 l5.length c5]] w fun e w' => e = .returned (.bool (pG a c l3 l4 l5)) ∧ Below w.heap.size w w' := by
  have hV0 : pG a c l3 l4 l5 = ((kT a.data.toList && (!ku c && (decide (l3.length ≤ 400) && (decide (l4.length ≤ 50) && decide (l5.length ≤ 500))))) && ((List.range l3.length).all (Xi l3) && ((List.range l4.length).all (Xl l3 l4) && (List.range l5.length).all (Y2 l3 l5)))) := rfl
  generalize pG a c l3 l4 l5 = V at hV0 ⊢
  have HV := zy.mk hV0
  clear hV0
  have hbf : (w.alloc (.cells #[.string a, .bool b, .int .i64 c, .slice A3 l3.length c3, .slice A4 l4.length c4, .slice A5 l5.length c5] 44)).heap[w.heap.size]? = some (.cells #[.string a, .bool b, .int .i64 c, .slice A3 l3.length c3, .slice A4 l4.length c4, .slice A5 l5.length c5] 44 (0, 0)) := vY _ _
  have hb0 : Below w.heap.size w (w.alloc (.cells #[.string a, .bool b, .int .i64 c, .slice A3 l3.length c3, .slice A4 l4.length c4, .slice A5 l5.length c5] 44)) := (Below.refl _ w).alloc (Nat.le_refl _) _
  have HF := zy.mk (fun (W : World) (h : Below (w.alloc (.cells #[.string a, .bool b, .int .i64 c, .slice A3 l3.length c3, .slice A4 l4.length c4, .slice A5 l5.length c5] 44)).heap.size (w.alloc (.cells #[.string a, .bool b, .int .i64 c, .slice A3 l3.length c3, .slice A4 l4.length c4, .slice A5 l5.length c5] 44)) W) => zf hbf h)
  have HW := zy.mk (fun (W : World) (h : Below (w.alloc (.cells #[.string a, .bool b, .int .i64 c, .slice A3 l3.length c3, .slice A4 l4.length c4, .slice A5 l5.length c5] 44)).heap.size (w.alloc (.cells #[.string a, .bool b, .int .i64 c, .slice A3 l3.length c3, .slice A4 l4.length c4, .slice A5 l5.length c5] 44)) W) => hb0.trans (h.mono hb0.size))
  have H3 := zy.mk h3; have H4 := zy.mk h4; have H5 := zy.mk h5; have G3 := zy.mk g3; have G4 := zy.mk g4; have G5 := zy.mk g5
  have HZ := zy.mk hz
  clear h3 h4 h5 g3 g4 g5 hbf hb0 hz
  have hfn := zy.mk (fun W => zQY a ha W)
  cases hf : kT a.data.toList with
  | false =>
    have hv : V = false := by rw [HV.out, hf]; rfl
    subst hv
    rw [hf] at hfn
    go_enter Tryz.func61, Tryz.ntmps61
    go_wp2_with (go_at_call 104; refine (hfn.out _).mono ?_; rintro e w1 ⟨rfl, hd1⟩)
    go_ret
    exact ⟨rfl, HW.out _ (ji hd1)⟩
  | true =>
  rw [hf] at hfn
  by_cases hbad : c < 0 ∨ 3000 < c ∨ 400 < l3.length ∨ 50 < l4.length ∨ 500 < l5.length
  · have hv : V = false := by
      rw [HV.out]
      unfold ku
      rcases hbad with h | h | h | h | h
      · simp [h]
      · simp [h]
      · simp [show ¬ l3.length ≤ 400 by omega]
      · simp [show ¬ l4.length ≤ 50 by omega]
      · simp [show ¬ l5.length ≤ 500 by omega]
    subst hv
    by_cases b1 : c < 0
    case' neg =>
      by_cases b2 : 3000 < c
      case' neg =>
        by_cases b3 : 400 < l3.length
        case' neg =>
          by_cases b4 : 50 < l4.length
          case' neg => have b5 : 500 < l5.length := by omega
    all_goals
      clear hbad HV HZ
      go_enter Tryz.func61, Tryz.ntmps61
      go_wp2_with (go_at_call 104; refine (hfn.out _).mono ?_; rintro e w1 ⟨rfl, hd1⟩; have hc2 := (zk (HF.out _ (ji hd1)) 2).trans rfl; have hc3 := (zk (HF.out _ (ji hd1)) 3).trans rfl; have hc4 := (zk (HF.out _ (ji hd1)) 4).trans rfl; have hc5 := (zk (HF.out _ (ji hd1)) 5).trans rfl)
      go_ret
      exact ⟨rfl, HW.out _ (ji hd1)⟩
  · have hc0 : 0 ≤ c ∧ c ≤ 3000 := by omega
    have hn : l3.length ≤ 400 ∧ l4.length ≤ 50 ∧ l5.length ≤ 500 := by omega
    have uT : zy (V = ((List.range l3.length).all (Xi l3) && ((List.range l4.length).all (Xl l3 l4) && (List.range l5.length).all (Y2 l3 l5)))) := ⟨by
      rw [HV.out, hf]
      unfold ku
      rw [decide_eq_false (by omega : ¬ c < 0), decide_eq_false (by omega : ¬ 3000 < c), decide_eq_true hn.1, decide_eq_true hn.2.1, decide_eq_true hn.2.2]
      rfl⟩
    obtain ⟨b1, b2⟩ := hc0
    obtain ⟨b3, b4, b5⟩ := hn
    clear HV hbad
    go_enter Tryz.func61, Tryz.ntmps61
    go_wp2_with (go_at_call 104; refine (hfn.out _).mono ?_; rintro e w1 ⟨rfl, hd1⟩; have hc2 := (zk (HF.out _ (ji hd1)) 2).trans rfl; have hc3 := (zk (HF.out _ (ji hd1)) 3).trans rfl; have hc4 := (zk (HF.out _ (ji hd1)) 4).trans rfl; have hc5 := (zk (HF.out _ (ji hd1)) 5).trans rfl)
    clear hfn
    go_loopw [3] (fun y W => ∃ i : Nat, y = .int .i64 (i : Int) ∧ i ≤ l3.length ∧ zy (Below (w.alloc (.cells #[.string a, .bool b, .int .i64 c, .slice A3 l3.length c3, .slice A4 l4.length c4, .slice A5 l5.length c5] 44)).heap.size (w.alloc (.cells #[.string a, .bool b, .int .i64 c, .slice A3 l3.length c3, .slice A4 l4.length c4, .slice A5 l5.length c5] 44)) W) ∧ zy (∀ j, j < i → Xi l3 j = true)) (fun y _ => l3.length - (intOf y).toNat)
    case atStart => exact ⟨0, rfl, Nat.zero_le _, ⟨ji hd1⟩, ⟨fun _ h => absurd h (Nat.not_lt_zero _)⟩⟩
    case round =>
      clear hc2 hc3 hc4 hc5 hd1
      obtain ⟨i, rfl, hi, HB3, HK3⟩ := hrel
      have hcf := (zk (HF.out _ HB3.out) 3).trans rfl
      by_cases hlt : i < l3.length
      · have hC := Kd.zh H3.out (HW.out _ HB3.out)
        have hbX : Below wr.heap.size wr (wr.alloc (.cells #[] 0)) := (Below.refl _ wr).alloc (Nat.le_refl _) _
        clear hbX
        obtain ⟨ad, e, x0, x1⟩ := YL hC (i : Int) (by omega) (by omega)
        have hA := e
        rw [Int.toNat_natCast] at x0 x1
        have hlA : w.heap.size < wr.heap.size := uS (HF.out _ HB3.out)
        rcases Nat.eq_zero_or_pos i with hi0 | hi0
        · subst hi0
          simp only [Nat.zero_mul, Addr.add_zero'] at x0 x1
          have hok : Xi l3 0 = (kS (zS l3 ((0 : Nat) : Int)).f0.data.toList && (!ku (zS l3 ((0 : Nat) : Int)).f1 && true)) := by
            unfold Xi
            rw [decide_eq_true rfl, Bool.true_or]
          have hzx : (zS l3 ((0 : Nat) : Int)) ∈ l3 := by
            have e9 : zS l3 ((0 : Nat) : Int) = l3[0] := by simp only [zS, Int.toNat_natCast, List.getD_eq_getElem?_getD, List.getElem?_eq_getElem hlt, Option.getD_some]
            rw [e9]; exact List.getElem_mem hlt
          generalize zS l3 ((0 : Nat) : Int) = x at x0 x1 hok hzx
          have hnq := fun W => (zvh x.f0 (HZ.out x hzx) W).mono fun e w' h => And.intro h.1 h.2.out
          have q1 : (0 : Int) < (l3.length : Int) := by omega
          have q6 : decide ((0 : Int) < (l3.length : Int)) = true := decide_eq_true q1
          rw [hA] at hcf
          clear hzx
          go_wp2_with fail
          have hbX : Below wr.heap.size wr (wr.alloc (.cells #[.string x.f0, .int .i64 x.f1] 81)) := (Below.refl _ wr).alloc (Nat.le_refl _) _
          have xu := zy.mk (HB3.out.trans (hbX.mono HB3.out.size))
          have hbk := vY wr (.cells #[.string x.f0, .int .i64 x.f1] 81)
          have hX0 : (wr.alloc (.cells #[.string x.f0, .int .i64 x.f1] 81)).cell? ⟨wr.heap.size, 0, none⟩ = some (.string x.f0) := (zk hbk 0).trans rfl
          have hX1 : (wr.alloc (.cells #[.string x.f0, .int .i64 x.f1] 81)).cell? ⟨wr.heap.size, 1, none⟩ = some (.int .i64 x.f1) := (zk hbk 1).trans rfl
          clear hbk hbX x0 x1  hC hcf
          generalize wr.heap.size = g4 at hX0 hlA hX1 ⊢
          generalize (wr.alloc (.cells #[.string x.f0, .int .i64 x.f1] 81)) = X at xu hX0 hX1  ⊢
          cases hnm : kS x.f0.data.toList with
          | false =>
            simp only [hnm] at hnq
            have hv : V = false := by
              rw [uT.out, uQ (i := 0) hlt (by rw [hok, hnm]; simp)]
              rfl
            subst hv
            go_quiet ((go_at_call 105; exact Calls.quiet_of (hnq _)))
            go_wp2
            go_ret
            exact ⟨rfl, HW.out _ (zM xu.out nq)⟩
          | true =>
            simp only [hnm] at hnq
            by_cases d1 : x.f1 < 0
            · have dd1 : decide (x.f1 < 0) = true := decide_eq_true d1
              have hv : V = false := by
                rw [uT.out, uQ (i := 0) hlt (by rw [hok, hnm, (by unfold ku; rw [dd1]; rfl : ku x.f1 = true)]; simp)]
                rfl
              subst hv
              go_quiet ((go_at_call 105; exact Calls.quiet_of (hnq _)))
              go_wp2
              go_ret
              exact ⟨rfl, HW.out _ (zM xu.out nq)⟩
            have dd1 : decide (x.f1 < 0) = false := decide_eq_false d1
            by_cases d2 : 3000 < x.f1
            · have dd2 : decide (3000 < x.f1) = true := decide_eq_true d2
              have hv : V = false := by
                rw [uT.out, uQ (i := 0) hlt (by rw [hok, hnm, (by unfold ku; rw [dd2, Bool.or_true] : ku x.f1 = true)]; simp)]
                rfl
              subst hv
              go_quiet ((go_at_call 105; exact Calls.quiet_of (hnq _)))
              go_wp2
              go_ret
              exact ⟨rfl, HW.out _ (zM xu.out nq)⟩
            have dd2 : decide (3000 < x.f1) = false := decide_eq_false d2
            have hwd : ku x.f1 = false := by unfold ku; rw [dd1, dd2]; rfl
            have hok2 : Xi l3 0 = true := by rw [hok, hnm, hwd]; rfl
            go_quiet ((go_at_call 105; exact Calls.quiet_of (hnq _)))
            have jA := zM xu.out nq
            go_wp2
            go_roundw
            case rel => exact ⟨0 + 1, by first | rfl | (simp; done) | go_num, by omega, ⟨jA⟩, ⟨fun j hj => (Nat.lt_succ_iff_lt_or_eq.1 hj).elim (HK3.out j) (fun e => by rw [e]; exact hok2)⟩⟩
            case measure => simp [intOf]; omega
        · obtain ⟨m, rfl⟩ : ∃ m, i = m + 1 := ⟨i - 1, by omega⟩
          obtain ⟨fM, e2, y0, y1⟩ := YL hC (m : Int) (by omega) (by omega)
          have e3 : ad = fM := by rw [hA] at e2; injection e2 with e2
          subst e3
          rw [Int.toNat_natCast] at y0 y1
          have hpr : (((m + 1 : Nat) : Int) - 1) = (m : Int) := by omega
          have hok : Xi l3 (m + 1) = (kS (zS l3 (((m + 1) : Nat) : Int)).f0.data.toList && (!ku (zS l3 (((m + 1) : Nat) : Int)).f1 && Op.bytesLess (zS l3 (m : Int)).f0.toList (zS l3 (((m + 1) : Nat) : Int)).f0.toList)) := by
            unfold Xi
            rw [decide_eq_false (by omega : ¬ m + 1 = 0), Bool.false_or, hpr]
          have hzx : (zS l3 (((m + 1) : Nat) : Int)) ∈ l3 := by
            have e9 : zS l3 (((m + 1) : Nat) : Int) = l3[(m + 1)] := by simp only [zS, Int.toNat_natCast, List.getD_eq_getElem?_getD, List.getElem?_eq_getElem hlt, Option.getD_some]
            rw [e9]; exact List.getElem_mem hlt
          generalize zS l3 (((m + 1) : Nat) : Int) = x at x0 x1 hok hzx
          generalize zS l3 (m : Int) = p at y0 y1 hok
          have hnq := fun W => (zvh x.f0 (HZ.out x hzx) W).mono fun e w' h => And.intro h.1 h.2.out
          have e1 : IntKind.i64.wrap (((m : Int) + 1) - 1) = (m : Int) := by rw [Int.add_sub_cancel]; exact IntWalk.i64_in _ (by omega)
          have q1 : (m : Int) < (l3.length : Int) := by omega
          have q2 : (m : Int) + 1 < (l3.length : Int) := by omega
          have q3 : ((m : Int) + 1).toNat = m + 1 := by omega
          have q4 : (0 : Int) ≤ (m : Int) + 1 := by omega
          have e0 : IntKind.i64.wrap (m : Int) = (m : Int) := IntWalk.i64_in _ (by omega)
          have q5 : (0 : Int) ≤ (m : Int) := by omega
          have q7 : decide (0 < (m : Int) + 1) = true := decide_eq_true (by omega)
          have q8 : decide ((m : Int) + 1 < (l3.length : Int)) = true := decide_eq_true q2
          rw [hA] at hcf
          clear hzx
          go_wp2_with fail
          have hbX : Below wr.heap.size wr (wr.alloc (.cells #[.string x.f0, .int .i64 x.f1] 81)) := (Below.refl _ wr).alloc (Nat.le_refl _) _
          have xu := zy.mk (HB3.out.trans (hbX.mono HB3.out.size))
          have hbk := vY wr (.cells #[.string x.f0, .int .i64 x.f1] 81)
          have hX0 : (wr.alloc (.cells #[.string x.f0, .int .i64 x.f1] 81)).cell? ⟨wr.heap.size, 0, none⟩ = some (.string x.f0) := (zk hbk 0).trans rfl
          have hX1 : (wr.alloc (.cells #[.string x.f0, .int .i64 x.f1] 81)).cell? ⟨wr.heap.size, 1, none⟩ = some (.int .i64 x.f1) := (zk hbk 1).trans rfl
          have VD : (wr.alloc (.cells #[.string x.f0, .int .i64 x.f1] 81)).cell? ⟨w.heap.size, 3, none⟩ = some (.slice (some ad) l3.length c3) := (zk (HF.out _ xu.out) 3).trans (by rw [hA]; rfl)
          have nD := (hbX.cell (World.block_lt_of_cell? wr _ y0)).trans y0
          clear hbk hbX x0 x1 y0 y1 hC hcf
          generalize wr.heap.size = g4 at hX0 hlA hX1 ⊢
          generalize (wr.alloc (.cells #[.string x.f0, .int .i64 x.f1] 81)) = X at xu hX0 hX1 VD nD  ⊢
          cases hnm : kS x.f0.data.toList with
          | false =>
            simp only [hnm] at hnq
            have hv : V = false := by
              rw [uT.out, uQ (i := (m + 1)) hlt (by rw [hok, hnm]; simp)]
              rfl
            subst hv
            go_quiet ((go_at_call 105; exact Calls.quiet_of (hnq _)))
            go_wp2
            go_ret
            exact ⟨rfl, HW.out _ (zM xu.out nq)⟩
          | true =>
            simp only [hnm] at hnq
            by_cases d1 : x.f1 < 0
            · have dd1 : decide (x.f1 < 0) = true := decide_eq_true d1
              have hv : V = false := by
                rw [uT.out, uQ (i := (m + 1)) hlt (by rw [hok, hnm, (by unfold ku; rw [dd1]; rfl : ku x.f1 = true)]; simp)]
                rfl
              subst hv
              go_quiet ((go_at_call 105; exact Calls.quiet_of (hnq _)))
              go_wp2
              go_ret
              exact ⟨rfl, HW.out _ (zM xu.out nq)⟩
            have dd1 : decide (x.f1 < 0) = false := decide_eq_false d1
            by_cases d2 : 3000 < x.f1
            · have dd2 : decide (3000 < x.f1) = true := decide_eq_true d2
              have hv : V = false := by
                rw [uT.out, uQ (i := (m + 1)) hlt (by rw [hok, hnm, (by unfold ku; rw [dd2, Bool.or_true] : ku x.f1 = true)]; simp)]
                rfl
              subst hv
              go_quiet ((go_at_call 105; exact Calls.quiet_of (hnq _)))
              go_wp2
              go_ret
              exact ⟨rfl, HW.out _ (zM xu.out nq)⟩
            have dd2 : decide (3000 < x.f1) = false := decide_eq_false d2
            have hwd : ku x.f1 = false := by unfold ku; rw [dd1, dd2]; rfl
            cases hls : Op.bytesLess p.f0.toList x.f0.toList with
            | false =>
              have hv : V = false := by
                rw [uT.out, uQ (i := (m + 1)) hlt (by rw [hok, hnm, hwd, hls]; simp)]
                rfl
              subst hv
              go_quiet ((go_at_call 105; exact Calls.quiet_of (hnq _)))
              go_wp2
              go_ret
              exact ⟨rfl, HW.out _ (zM xu.out nq)⟩
            | true =>
              have hok2 : Xi l3 (m + 1) = true := by rw [hok, hnm, hwd, hls]; rfl
              go_quiet ((go_at_call 105; exact Calls.quiet_of (hnq _)))
              have jA := zM xu.out nq
              clear e0 e1
              go_wp2
              go_roundw
              case rel => exact ⟨m + 1 + 1, by first | rfl | (simp; done) | go_num, by omega, ⟨jA⟩, ⟨fun j hj => (Nat.lt_succ_iff_lt_or_eq.1 hj).elim (HK3.out j) (fun e => by rw [e]; exact hok2)⟩⟩
              case measure => simp [intOf]; omega
      · obtain rfl : i = l3.length := by omega
        have q2 : decide ((l3.length : Int) < (l3.length : Int)) = false := decide_eq_false (by omega)
        have q1 : ¬ (l3.length : Int) < (l3.length : Int) := by omega
        have uT : zy (V = ((List.range l4.length).all (Xl l3 l4) && (List.range l5.length).all (Y2 l3 l5))) := ⟨by rw [uT.out, dO HK3.out, Bool.true_and]⟩
        go_wp2
        go_loopw [5] (fun y W => ∃ i : Nat, y = .int .i64 (i : Int) ∧ i ≤ l4.length ∧ zy (Below (w.alloc (.cells #[.string a, .bool b, .int .i64 c, .slice A3 l3.length c3, .slice A4 l4.length c4, .slice A5 l5.length c5] 44)).heap.size (w.alloc (.cells #[.string a, .bool b, .int .i64 c, .slice A3 l3.length c3, .slice A4 l4.length c4, .slice A5 l5.length c5] 44)) W) ∧ zy (∀ j, j < i → Xl l3 l4 j = true)) (fun y _ => l4.length - (intOf y).toNat)
        case atStart => exact ⟨0, rfl, Nat.zero_le _, HB3, ⟨fun _ h => absurd h (Nat.not_lt_zero _)⟩⟩
        case round =>
          skip
          obtain ⟨i, rfl, hi, kI, HK4⟩ := hrel
          have hcf := (zk (HF.out _ kI.out) 4).trans rfl
          by_cases hlt : i < l4.length
          · have hC := Kd.zh H4.out (HW.out _ kI.out)
            have hbX : Below wr.heap.size wr (wr.alloc (.cells #[] 0)) := (Below.refl _ wr).alloc (Nat.le_refl _) _
            clear hbX
            obtain ⟨ad, e, x0, x1, x2⟩ := Ji hC (i : Int) (by omega) (by omega)
            have hA := e
            rw [Int.toNat_natCast] at x0 x1 x2
            have hlA : w.heap.size < wr.heap.size := uS (HF.out _ kI.out)
            rcases Nat.eq_zero_or_pos i with hi0 | hi0
            · subst hi0
              simp only [Nat.zero_mul, Addr.add_zero'] at x0 x1 x2
              have hok : Xl l3 l4 0 = (jd l3 (vP l4 ((0 : Nat) : Int)).f0 && (jd l3 (vP l4 ((0 : Nat) : Int)).f1 && (jd l3 (vP l4 ((0 : Nat) : Int)).f2 && true))) := by
                unfold Xl
                rw [decide_eq_true rfl, Bool.true_or]
              have hzx : (vP l4 ((0 : Nat) : Int)) ∈ l4 := by
                have e9 : vP l4 ((0 : Nat) : Int) = l4[0] := by simp only [vP, Int.toNat_natCast, List.getD_eq_getElem?_getD, List.getElem?_eq_getElem hlt, Option.getD_some]
                rw [e9]; exact List.getElem_mem hlt
              generalize vP l4 ((0 : Nat) : Int) = x at x0 x1 x2 hok hzx
              have q1 : (0 : Int) < (l4.length : Int) := by omega
              have q6 : decide ((0 : Int) < (l4.length : Int)) = true := decide_eq_true q1
              rw [hA] at hcf
              clear hzx
              go_wp2_with fail
              have hbX : Below wr.heap.size wr (wr.alloc (.cells #[.string x.f0, .string x.f1, .string x.f2] 83)) := (Below.refl _ wr).alloc (Nat.le_refl _) _
              have xu := zy.mk (kI.out.trans (hbX.mono kI.out.size))
              have hbk := vY wr (.cells #[.string x.f0, .string x.f1, .string x.f2] 83)
              have hX0 : (wr.alloc (.cells #[.string x.f0, .string x.f1, .string x.f2] 83)).cell? ⟨wr.heap.size, 0, none⟩ = some (.string x.f0) := (zk hbk 0).trans rfl
              have hX1 : (wr.alloc (.cells #[.string x.f0, .string x.f1, .string x.f2] 83)).cell? ⟨wr.heap.size, 1, none⟩ = some (.string x.f1) := (zk hbk 1).trans rfl
              have hX2 : (wr.alloc (.cells #[.string x.f0, .string x.f1, .string x.f2] 83)).cell? ⟨wr.heap.size, 2, none⟩ = some (.string x.f2) := (zk hbk 2).trans rfl
              have QH : (wr.alloc (.cells #[.string x.f0, .string x.f1, .string x.f2] 83)).cell? ⟨w.heap.size, 0, none⟩ = some (.string a) := (zk (HF.out _ xu.out) 0).trans rfl
              have hF1 : (wr.alloc (.cells #[.string x.f0, .string x.f1, .string x.f2] 83)).cell? ⟨w.heap.size, 1, none⟩ = some (.bool b) := (zk (HF.out _ xu.out) 1).trans rfl
              have hF2 : (wr.alloc (.cells #[.string x.f0, .string x.f1, .string x.f2] 83)).cell? ⟨w.heap.size, 2, none⟩ = some (.int .i64 c) := (zk (HF.out _ xu.out) 2).trans rfl
              have VD : (wr.alloc (.cells #[.string x.f0, .string x.f1, .string x.f2] 83)).cell? ⟨w.heap.size, 3, none⟩ = some (.slice A3 l3.length c3) := (zk (HF.out _ xu.out) 3).trans rfl
              have Uo : (wr.alloc (.cells #[.string x.f0, .string x.f1, .string x.f2] 83)).cell? ⟨w.heap.size, 4, none⟩ = some (.slice (some ad) l4.length c4) := (zk (HF.out _ xu.out) 4).trans (by rw [hA]; rfl)
              have Ur : (wr.alloc (.cells #[.string x.f0, .string x.f1, .string x.f2] 83)).cell? ⟨w.heap.size, 5, none⟩ = some (.slice A5 l5.length c5) := (zk (HF.out _ xu.out) 5).trans rfl
              have hq := fun (W : World) (n : ByteArray) (h : Below (wr.alloc (.cells #[.string x.f0, .string x.f1, .string x.f2] 83)).heap.size (wr.alloc (.cells #[.string x.f0, .string x.f1, .string x.f2] 83)) W) => iL a b c A3 c3 l3 A4 c4 l4 A5 c5 l5 n W (Kd.zh H3.out ((HW.out _ xu.out).trans (h.mono (HW.out _ xu.out).size))) G3.out (Kd.zh H4.out ((HW.out _ xu.out).trans (h.mono (HW.out _ xu.out).size))) G4.out (Kd.zh H5.out ((HW.out _ xu.out).trans (h.mono (HW.out _ xu.out).size))) G5.out hl3
              rw [hA] at hq
              clear hbk hbX x0 x1 x2  hC hcf
              generalize wr.heap.size = g4 at hX0 hlA hX1 hX2 ⊢
              generalize (wr.alloc (.cells #[.string x.f0, .string x.f1, .string x.f2] 83)) = X at xu hX0 hX1 hX2 QH hF1 hF2 VD Uo Ur hq ⊢
              have HS := zy.mk (fun (W : World) (h : Below X.heap.size X W) => (show W.cell? ⟨g4, 0, none⟩ = some (.string x.f0) ∧ W.cell? ⟨g4, 1, none⟩ = some (.string x.f1) ∧ W.cell? ⟨g4, 2, none⟩ = some (.string x.f2) ∧ W.cell? ⟨w.heap.size, 0, none⟩ = some (.string a) ∧ W.cell? ⟨w.heap.size, 1, none⟩ = some (.bool b) ∧ W.cell? ⟨w.heap.size, 2, none⟩ = some (.int .i64 c) ∧ W.cell? ⟨w.heap.size, 3, none⟩ = some (.slice A3 l3.length c3) ∧ W.cell? ⟨w.heap.size, 4, none⟩ = some (.slice (some ad) l4.length c4) ∧ W.cell? ⟨w.heap.size, 5, none⟩ = some (.slice A5 l5.length c5) from ⟨(h.cell (World.block_lt_of_cell? X _ hX0)).trans hX0, (h.cell (World.block_lt_of_cell? X _ hX1)).trans hX1, (h.cell (World.block_lt_of_cell? X _ hX2)).trans hX2, (h.cell (World.block_lt_of_cell? X _ QH)).trans QH, (h.cell (World.block_lt_of_cell? X _ hF1)).trans hF1, (h.cell (World.block_lt_of_cell? X _ hF2)).trans hF2, (h.cell (World.block_lt_of_cell? X _ VD)).trans VD, (h.cell (World.block_lt_of_cell? X _ Uo)).trans Uo, (h.cell (World.block_lt_of_cell? X _ Ur)).trans Ur⟩))
              cases r0 : jd l3 x.f0 with
              | false =>
                have h0 := fun (W : World) (h : Below X.heap.size X W) => hq W x.f0 h
                simp only [r0] at h0
                as_aux_lemma =>
                 have hv : V = false := by
                   rw [uT.out, uQ (i := 0) hlt (by rw [hok, r0]; simp)]
                   simp
                 subst hv
                 refine rS (n := 45) HS rval.YJ rval.pR (by kernel_rfl) rfl rfl (fun w0 H0 T U h => ?_)
                 refine rP 1 (some 96) T ?_; refine rT 0 (some 95) T U h ?_; refine rT 2 (some 97) T U h ?_
                 clear h; refine rC 3 (some 98) T HS H0 Tryz.func63 (h0 _ H0.out) (fun w1 H1 h => ?_) (by kernel_rfl)
                 refine rP 4 (some 99) T ?_; refine rP 5 (some 100) T ?_; refine rU 6 (some 101) T ?_; refine rU 7 (some 102) T ?_; refine rU 8 (some 103) T ?_; refine rU 9 (some 104) T ?_; refine rU 10 (some 105) T ?_; refine rP 11 (some 106) T ?_; refine rP 12 (some 107) T ?_; refine rU 13 (some 108) T ?_; refine rU 14 (some 109) T ?_; refine rU 15 (some 110) T ?_; refine rU 16 (some 111) T ?_; refine rU 17 (some 112) T ?_; refine rP 18 (some 113) T ?_; refine rP 19 (some 114) T ?_; refine rU 20 (some 115) T ?_; refine rU 21 (some 116) T ?_; refine rU 22 (some 117) T ?_; refine rU 23 (some 118) T ?_; refine rU 24 (some 119) T ?_; refine rU 25 (some 120) T ?_; refine rU 26 (some 121) T ?_; refine rU 27 (some 122) T ?_; refine rU 28 (some 123) T ?_; refine rU 29 (some 124) T ?_; refine rU 30 (some 125) T ?_; refine rU 31 (some 126) T ?_; refine rU 32 (some 127) T ?_; refine rU 33 (some 128) T ?_; refine rU 34 (some 129) T ?_; refine rU 35 (some 130) T ?_; refine rU 36 (some 131) T ?_; refine rU 37 (some 132) T ?_; refine rU 38 (some 133) T ?_; refine rU 39 (some 134) T ?_; refine rU 40 (some 135) T ?_; refine rU 41 (some 136) T ?_; refine rU 42 (some 137) T ?_; refine rU 43 (some 138) T ?_; refine rP 44 (some 139) T ?_
                 refine vO (xH T.out (by kernel_rfl)) ?_; have jA := xu.out.trans (H1.out.mono xu.out.size); clear h; try go_wp2
                 go_ret
                 exact ⟨rfl, HW.out _ jA⟩
              | true =>
              have h0 := fun (W : World) (h : Below X.heap.size X W) => hq W x.f0 h
              simp only [r0] at h0
              cases r1 : jd l3 x.f1 with
              | false =>
                have h1 := fun (W : World) (h : Below X.heap.size X W) => hq W x.f1 h
                simp only [r1] at h1
                as_aux_lemma =>
                 have hv : V = false := by
                   rw [uT.out, uQ (i := 0) hlt (by rw [hok, r0, r1]; simp)]
                   simp
                 subst hv
                 refine rS (n := 45) HS rval.YJ rval.pR (by kernel_rfl) rfl rfl (fun w0 H0 T U h => ?_)
                 refine rP 1 (some 96) T ?_; refine rT 0 (some 95) T U h ?_; refine rT 2 (some 97) T U h ?_
                 clear h; refine rC 3 (some 98) T HS H0 Tryz.func63 (h0 _ H0.out) (fun w1 H1 h => ?_) (by kernel_rfl)
                 refine rP 4 (some 99) T ?_; refine rP 5 (some 100) T ?_; refine rP 7 (some 102) T ?_; refine rT 6 (some 101) T U h ?_; refine rT 8 (some 103) T U h ?_
                 clear h; refine rC 9 (some 104) T HS H1 Tryz.func63 (h1 _ H1.out) (fun w2 H2 h => ?_) (by kernel_rfl)
                 refine rP 10 (some 105) T ?_; refine rP 11 (some 106) T ?_; refine rP 12 (some 107) T ?_; refine rU 13 (some 108) T ?_; refine rU 14 (some 109) T ?_; refine rU 15 (some 110) T ?_; refine rU 16 (some 111) T ?_; refine rU 17 (some 112) T ?_; refine rP 18 (some 113) T ?_; refine rP 19 (some 114) T ?_; refine rU 20 (some 115) T ?_; refine rU 21 (some 116) T ?_; refine rU 22 (some 117) T ?_; refine rU 23 (some 118) T ?_; refine rU 24 (some 119) T ?_; refine rU 25 (some 120) T ?_; refine rU 26 (some 121) T ?_; refine rU 27 (some 122) T ?_; refine rU 28 (some 123) T ?_; refine rU 29 (some 124) T ?_; refine rU 30 (some 125) T ?_; refine rU 31 (some 126) T ?_; refine rU 32 (some 127) T ?_; refine rU 33 (some 128) T ?_; refine rU 34 (some 129) T ?_; refine rU 35 (some 130) T ?_; refine rU 36 (some 131) T ?_; refine rU 37 (some 132) T ?_; refine rU 38 (some 133) T ?_; refine rU 39 (some 134) T ?_; refine rU 40 (some 135) T ?_; refine rU 41 (some 136) T ?_; refine rU 42 (some 137) T ?_; refine rU 43 (some 138) T ?_; refine rP 44 (some 139) T ?_
                 refine vO (xH T.out (by kernel_rfl)) ?_; have jA := xu.out.trans (H2.out.mono xu.out.size); clear h; try go_wp2
                 go_ret
                 exact ⟨rfl, HW.out _ jA⟩
              | true =>
              have h1 := fun (W : World) (h : Below X.heap.size X W) => hq W x.f1 h
              simp only [r1] at h1
              cases r2 : jd l3 x.f2 with
              | false =>
                have h2 := fun (W : World) (h : Below X.heap.size X W) => hq W x.f2 h
                simp only [r2] at h2
                as_aux_lemma =>
                 have hv : V = false := by
                   rw [uT.out, uQ (i := 0) hlt (by rw [hok, r0, r1, r2]; simp)]
                   simp
                 subst hv
                 refine rS (n := 45) HS rval.YJ rval.pR (by kernel_rfl) rfl rfl (fun w0 H0 T U h => ?_)
                 refine rP 1 (some 96) T ?_; refine rT 0 (some 95) T U h ?_; refine rT 2 (some 97) T U h ?_
                 clear h; refine rC 3 (some 98) T HS H0 Tryz.func63 (h0 _ H0.out) (fun w1 H1 h => ?_) (by kernel_rfl)
                 refine rP 4 (some 99) T ?_; refine rP 5 (some 100) T ?_; refine rP 7 (some 102) T ?_; refine rT 6 (some 101) T U h ?_; refine rT 8 (some 103) T U h ?_
                 clear h; refine rC 9 (some 104) T HS H1 Tryz.func63 (h1 _ H1.out) (fun w2 H2 h => ?_) (by kernel_rfl)
                 refine rP 10 (some 105) T ?_; refine rP 11 (some 106) T ?_; refine rP 12 (some 107) T ?_; refine rP 14 (some 109) T ?_; refine rT 13 (some 108) T U h ?_; refine rT 15 (some 110) T U h ?_
                 clear h; refine rC 16 (some 111) T HS H2 Tryz.func63 (h2 _ H2.out) (fun w3 H3 h => ?_) (by kernel_rfl)
                 refine rP 17 (some 112) T ?_; refine rP 18 (some 113) T ?_; refine rP 19 (some 114) T ?_; refine rU 20 (some 115) T ?_; refine rU 21 (some 116) T ?_; refine rU 22 (some 117) T ?_; refine rU 23 (some 118) T ?_; refine rU 24 (some 119) T ?_; refine rU 25 (some 120) T ?_; refine rU 26 (some 121) T ?_; refine rU 27 (some 122) T ?_; refine rU 28 (some 123) T ?_; refine rU 29 (some 124) T ?_; refine rU 30 (some 125) T ?_; refine rU 31 (some 126) T ?_; refine rU 32 (some 127) T ?_; refine rU 33 (some 128) T ?_; refine rU 34 (some 129) T ?_; refine rU 35 (some 130) T ?_; refine rU 36 (some 131) T ?_; refine rU 37 (some 132) T ?_; refine rU 38 (some 133) T ?_; refine rU 39 (some 134) T ?_; refine rU 40 (some 135) T ?_; refine rU 41 (some 136) T ?_; refine rU 42 (some 137) T ?_; refine rU 43 (some 138) T ?_; refine rP 44 (some 139) T ?_
                 refine vO (xH T.out (by kernel_rfl)) ?_; have jA := xu.out.trans (H3.out.mono xu.out.size); clear h; try go_wp2
                 go_ret
                 exact ⟨rfl, HW.out _ jA⟩
              | true =>
              have h2 := fun (W : World) (h : Below X.heap.size X W) => hq W x.f2 h
              simp only [r2] at h2
              as_aux_lemma =>
              have hok2 : Xl l3 l4 0 = true := by rw [hok, r0, r1, r2]; rfl
              refine rS (n := 45) HS rval.YJ rval.pR (by kernel_rfl) rfl rfl (fun w0 H0 T U h => ?_)
              refine rP 1 (some 96) T ?_; refine rT 0 (some 95) T U h ?_; refine rT 2 (some 97) T U h ?_
              clear h; refine rC 3 (some 98) T HS H0 Tryz.func63 (h0 _ H0.out) (fun w1 H1 h => ?_) (by kernel_rfl)
              refine rP 4 (some 99) T ?_; refine rP 5 (some 100) T ?_; refine rP 7 (some 102) T ?_; refine rT 6 (some 101) T U h ?_; refine rT 8 (some 103) T U h ?_
              clear h; refine rC 9 (some 104) T HS H1 Tryz.func63 (h1 _ H1.out) (fun w2 H2 h => ?_) (by kernel_rfl)
              refine rP 10 (some 105) T ?_; refine rP 11 (some 106) T ?_; refine rP 12 (some 107) T ?_; refine rP 14 (some 109) T ?_; refine rT 13 (some 108) T U h ?_; refine rT 15 (some 110) T U h ?_
              clear h; refine rC 16 (some 111) T HS H2 Tryz.func63 (h2 _ H2.out) (fun w3 H3 h => ?_) (by kernel_rfl)
              refine rP 17 (some 112) T ?_; refine rP 18 (some 113) T ?_; refine rP 19 (some 114) T ?_; refine rP 20 (some 115) T ?_; refine rP 21 (some 116) T ?_; refine rP 22 (some 117) T ?_; refine rU 23 (some 118) T ?_; refine rU 24 (some 119) T ?_; refine rU 25 (some 120) T ?_; refine rU 26 (some 121) T ?_; refine rU 27 (some 122) T ?_; refine rU 28 (some 123) T ?_; refine rU 29 (some 124) T ?_; refine rU 30 (some 125) T ?_; refine rU 31 (some 126) T ?_; refine rU 32 (some 127) T ?_; refine rU 33 (some 128) T ?_; refine rU 34 (some 129) T ?_; refine rU 35 (some 130) T ?_; refine rU 36 (some 131) T ?_; refine rU 37 (some 132) T ?_; refine rU 38 (some 133) T ?_; refine rU 39 (some 134) T ?_; refine rU 40 (some 135) T ?_; refine rU 41 (some 136) T ?_; refine rU 42 (some 137) T ?_; refine rP 43 (some 138) T ?_; refine rP 44 (some 139) T ?_
              refine vO (xH T.out (by kernel_rfl)) ?_; have jA := xu.out.trans (H3.out.mono xu.out.size); clear h; try go_wp2
              go_roundw
              case rel => exact ⟨0 + 1, by first | rfl | (simp; done) | go_num, by omega, ⟨jA⟩, ⟨fun j hj => (Nat.lt_succ_iff_lt_or_eq.1 hj).elim (HK4.out j) (fun e => by rw [e]; exact hok2)⟩⟩
              case measure => simp [intOf]; omega
            · obtain ⟨m, rfl⟩ : ∃ m, i = m + 1 := ⟨i - 1, by omega⟩
              obtain ⟨fM, e2, y0, y1, y2⟩ := Ji hC (m : Int) (by omega) (by omega)
              have e3 : ad = fM := by rw [hA] at e2; injection e2 with e2
              subst e3
              rw [Int.toNat_natCast] at y0 y1 y2
              have hpr : (((m + 1 : Nat) : Int) - 1) = (m : Int) := by omega
              have hok : Xl l3 l4 (m + 1) = (jd l3 (vP l4 (((m + 1) : Nat) : Int)).f0 && (jd l3 (vP l4 (((m + 1) : Nat) : Int)).f1 && (jd l3 (vP l4 (((m + 1) : Nat) : Int)).f2 && Xt (vP l4 (m : Int)).f0 (vP l4 (m : Int)).f1 (vP l4 (((m + 1) : Nat) : Int)).f0 (vP l4 (((m + 1) : Nat) : Int)).f1))) := by
                unfold Xl
                rw [decide_eq_false (by omega : ¬ m + 1 = 0), Bool.false_or, hpr]
              have hzx : (vP l4 (((m + 1) : Nat) : Int)) ∈ l4 := by
                have e9 : vP l4 (((m + 1) : Nat) : Int) = l4[(m + 1)] := by simp only [vP, Int.toNat_natCast, List.getD_eq_getElem?_getD, List.getElem?_eq_getElem hlt, Option.getD_some]
                rw [e9]; exact List.getElem_mem hlt
              generalize vP l4 (((m + 1) : Nat) : Int) = x at x0 x1 x2 hok hzx
              generalize vP l4 (m : Int) = p at y0 y1 y2 hok
              have e1 : IntKind.i64.wrap (((m : Int) + 1) - 1) = (m : Int) := by rw [Int.add_sub_cancel]; exact IntWalk.i64_in _ (by omega)
              have q1 : (m : Int) < (l4.length : Int) := by omega
              have q2 : (m : Int) + 1 < (l4.length : Int) := by omega
              have q3 : ((m : Int) + 1).toNat = m + 1 := by omega
              have q4 : (0 : Int) ≤ (m : Int) + 1 := by omega
              have e0 : IntKind.i64.wrap (m : Int) = (m : Int) := IntWalk.i64_in _ (by omega)
              have q5 : (0 : Int) ≤ (m : Int) := by omega
              have q7 : decide (0 < (m : Int) + 1) = true := decide_eq_true (by omega)
              have q8 : decide ((m : Int) + 1 < (l4.length : Int)) = true := decide_eq_true q2
              rw [hA] at hcf
              clear hzx
              go_wp2_with fail
              have hbX : Below wr.heap.size wr (wr.alloc (.cells #[.string x.f0, .string x.f1, .string x.f2] 83)) := (Below.refl _ wr).alloc (Nat.le_refl _) _
              have xu := zy.mk (kI.out.trans (hbX.mono kI.out.size))
              have hbk := vY wr (.cells #[.string x.f0, .string x.f1, .string x.f2] 83)
              have hX0 : (wr.alloc (.cells #[.string x.f0, .string x.f1, .string x.f2] 83)).cell? ⟨wr.heap.size, 0, none⟩ = some (.string x.f0) := (zk hbk 0).trans rfl
              have hX1 : (wr.alloc (.cells #[.string x.f0, .string x.f1, .string x.f2] 83)).cell? ⟨wr.heap.size, 1, none⟩ = some (.string x.f1) := (zk hbk 1).trans rfl
              have hX2 : (wr.alloc (.cells #[.string x.f0, .string x.f1, .string x.f2] 83)).cell? ⟨wr.heap.size, 2, none⟩ = some (.string x.f2) := (zk hbk 2).trans rfl
              have QH : (wr.alloc (.cells #[.string x.f0, .string x.f1, .string x.f2] 83)).cell? ⟨w.heap.size, 0, none⟩ = some (.string a) := (zk (HF.out _ xu.out) 0).trans rfl
              have hF1 : (wr.alloc (.cells #[.string x.f0, .string x.f1, .string x.f2] 83)).cell? ⟨w.heap.size, 1, none⟩ = some (.bool b) := (zk (HF.out _ xu.out) 1).trans rfl
              have hF2 : (wr.alloc (.cells #[.string x.f0, .string x.f1, .string x.f2] 83)).cell? ⟨w.heap.size, 2, none⟩ = some (.int .i64 c) := (zk (HF.out _ xu.out) 2).trans rfl
              have VD : (wr.alloc (.cells #[.string x.f0, .string x.f1, .string x.f2] 83)).cell? ⟨w.heap.size, 3, none⟩ = some (.slice A3 l3.length c3) := (zk (HF.out _ xu.out) 3).trans rfl
              have Uo : (wr.alloc (.cells #[.string x.f0, .string x.f1, .string x.f2] 83)).cell? ⟨w.heap.size, 4, none⟩ = some (.slice (some ad) l4.length c4) := (zk (HF.out _ xu.out) 4).trans (by rw [hA]; rfl)
              have Ur : (wr.alloc (.cells #[.string x.f0, .string x.f1, .string x.f2] 83)).cell? ⟨w.heap.size, 5, none⟩ = some (.slice A5 l5.length c5) := (zk (HF.out _ xu.out) 5).trans rfl
              have nD := (hbX.cell (World.block_lt_of_cell? wr _ y0)).trans y0
              have hP1 := (hbX.cell (World.block_lt_of_cell? wr _ y1)).trans y1
              have hq := fun (W : World) (n : ByteArray) (h : Below (wr.alloc (.cells #[.string x.f0, .string x.f1, .string x.f2] 83)).heap.size (wr.alloc (.cells #[.string x.f0, .string x.f1, .string x.f2] 83)) W) => iL a b c A3 c3 l3 A4 c4 l4 A5 c5 l5 n W (Kd.zh H3.out ((HW.out _ xu.out).trans (h.mono (HW.out _ xu.out).size))) G3.out (Kd.zh H4.out ((HW.out _ xu.out).trans (h.mono (HW.out _ xu.out).size))) G4.out (Kd.zh H5.out ((HW.out _ xu.out).trans (h.mono (HW.out _ xu.out).size))) G5.out hl3
              rw [hA] at hq
              clear hbk hbX x0 x1 x2 y0 y1 y2 hC hcf
              generalize wr.heap.size = g4 at hX0 hlA hX1 hX2 ⊢
              generalize (wr.alloc (.cells #[.string x.f0, .string x.f1, .string x.f2] 83)) = X at xu hX0 hX1 hX2 QH hF1 hF2 VD Uo Ur nD hP1 hq ⊢
              have HS := zy.mk (fun (W : World) (h : Below X.heap.size X W) => (show W.cell? ⟨g4, 0, none⟩ = some (.string x.f0) ∧ W.cell? ⟨g4, 1, none⟩ = some (.string x.f1) ∧ W.cell? ⟨g4, 2, none⟩ = some (.string x.f2) ∧ W.cell? ⟨w.heap.size, 0, none⟩ = some (.string a) ∧ W.cell? ⟨w.heap.size, 1, none⟩ = some (.bool b) ∧ W.cell? ⟨w.heap.size, 2, none⟩ = some (.int .i64 c) ∧ W.cell? ⟨w.heap.size, 3, none⟩ = some (.slice A3 l3.length c3) ∧ W.cell? ⟨w.heap.size, 4, none⟩ = some (.slice (some ad) l4.length c4) ∧ W.cell? ⟨w.heap.size, 5, none⟩ = some (.slice A5 l5.length c5) ∧ W.cell? (ad.add (m * 3)) = some (.string p.f0) ∧ W.cell? ⟨(ad.add (m * 3)).block, (ad.add (m * 3)).off + 1, none⟩ = some (.string p.f1) from ⟨(h.cell (World.block_lt_of_cell? X _ hX0)).trans hX0, (h.cell (World.block_lt_of_cell? X _ hX1)).trans hX1, (h.cell (World.block_lt_of_cell? X _ hX2)).trans hX2, (h.cell (World.block_lt_of_cell? X _ QH)).trans QH, (h.cell (World.block_lt_of_cell? X _ hF1)).trans hF1, (h.cell (World.block_lt_of_cell? X _ hF2)).trans hF2, (h.cell (World.block_lt_of_cell? X _ VD)).trans VD, (h.cell (World.block_lt_of_cell? X _ Uo)).trans Uo, (h.cell (World.block_lt_of_cell? X _ Ur)).trans Ur, (h.cell (World.block_lt_of_cell? X _ nD)).trans nD, (h.cell (World.block_lt_of_cell? X _ hP1)).trans hP1⟩))
              cases r0 : jd l3 x.f0 with
              | false =>
                have h0 := fun (W : World) (h : Below X.heap.size X W) => hq W x.f0 h
                simp only [r0] at h0
                as_aux_lemma =>
                 have hv : V = false := by
                   rw [uT.out, uQ (i := (m + 1)) hlt (by rw [hok, r0]; simp)]
                   simp
                 subst hv
                 refine rS (n := 45) HS rval.YJ rval.pR (by kernel_rfl) rfl rfl (fun w0 H0 T U h => ?_)
                 refine rP 1 (some 96) T ?_; refine rT 0 (some 95) T U h ?_; refine rT 2 (some 97) T U h ?_
                 clear h; refine rC 3 (some 98) T HS H0 Tryz.func63 (h0 _ H0.out) (fun w1 H1 h => ?_) (by kernel_rfl)
                 refine rP 4 (some 99) T ?_; refine rP 5 (some 100) T ?_; refine rU 6 (some 101) T ?_; refine rU 7 (some 102) T ?_; refine rU 8 (some 103) T ?_; refine rU 9 (some 104) T ?_; refine rU 10 (some 105) T ?_; refine rP 11 (some 106) T ?_; refine rP 12 (some 107) T ?_; refine rU 13 (some 108) T ?_; refine rU 14 (some 109) T ?_; refine rU 15 (some 110) T ?_; refine rU 16 (some 111) T ?_; refine rU 17 (some 112) T ?_; refine rP 18 (some 113) T ?_; refine rP 19 (some 114) T ?_; refine rU 20 (some 115) T ?_; refine rU 21 (some 116) T ?_; refine rU 22 (some 117) T ?_; refine rU 23 (some 118) T ?_; refine rU 24 (some 119) T ?_; refine rU 25 (some 120) T ?_; refine rU 26 (some 121) T ?_; refine rU 27 (some 122) T ?_; refine rU 28 (some 123) T ?_; refine rU 29 (some 124) T ?_; refine rU 30 (some 125) T ?_; refine rU 31 (some 126) T ?_; refine rU 32 (some 127) T ?_; refine rU 33 (some 128) T ?_; refine rU 34 (some 129) T ?_; refine rU 35 (some 130) T ?_; refine rU 36 (some 131) T ?_; refine rU 37 (some 132) T ?_; refine rU 38 (some 133) T ?_; refine rU 39 (some 134) T ?_; refine rU 40 (some 135) T ?_; refine rU 41 (some 136) T ?_; refine rU 42 (some 137) T ?_; refine rU 43 (some 138) T ?_; refine rP 44 (some 139) T ?_
                 refine vO (xH T.out (by kernel_rfl)) ?_; have jA := xu.out.trans (H1.out.mono xu.out.size); clear h; try go_wp2
                 go_ret
                 exact ⟨rfl, HW.out _ jA⟩
              | true =>
              have h0 := fun (W : World) (h : Below X.heap.size X W) => hq W x.f0 h
              simp only [r0] at h0
              cases r1 : jd l3 x.f1 with
              | false =>
                have h1 := fun (W : World) (h : Below X.heap.size X W) => hq W x.f1 h
                simp only [r1] at h1
                as_aux_lemma =>
                 have hv : V = false := by
                   rw [uT.out, uQ (i := (m + 1)) hlt (by rw [hok, r0, r1]; simp)]
                   simp
                 subst hv
                 refine rS (n := 45) HS rval.YJ rval.pR (by kernel_rfl) rfl rfl (fun w0 H0 T U h => ?_)
                 refine rP 1 (some 96) T ?_; refine rT 0 (some 95) T U h ?_; refine rT 2 (some 97) T U h ?_
                 clear h; refine rC 3 (some 98) T HS H0 Tryz.func63 (h0 _ H0.out) (fun w1 H1 h => ?_) (by kernel_rfl)
                 refine rP 4 (some 99) T ?_; refine rP 5 (some 100) T ?_; refine rP 7 (some 102) T ?_; refine rT 6 (some 101) T U h ?_; refine rT 8 (some 103) T U h ?_
                 clear h; refine rC 9 (some 104) T HS H1 Tryz.func63 (h1 _ H1.out) (fun w2 H2 h => ?_) (by kernel_rfl)
                 refine rP 10 (some 105) T ?_; refine rP 11 (some 106) T ?_; refine rP 12 (some 107) T ?_; refine rU 13 (some 108) T ?_; refine rU 14 (some 109) T ?_; refine rU 15 (some 110) T ?_; refine rU 16 (some 111) T ?_; refine rU 17 (some 112) T ?_; refine rP 18 (some 113) T ?_; refine rP 19 (some 114) T ?_; refine rU 20 (some 115) T ?_; refine rU 21 (some 116) T ?_; refine rU 22 (some 117) T ?_; refine rU 23 (some 118) T ?_; refine rU 24 (some 119) T ?_; refine rU 25 (some 120) T ?_; refine rU 26 (some 121) T ?_; refine rU 27 (some 122) T ?_; refine rU 28 (some 123) T ?_; refine rU 29 (some 124) T ?_; refine rU 30 (some 125) T ?_; refine rU 31 (some 126) T ?_; refine rU 32 (some 127) T ?_; refine rU 33 (some 128) T ?_; refine rU 34 (some 129) T ?_; refine rU 35 (some 130) T ?_; refine rU 36 (some 131) T ?_; refine rU 37 (some 132) T ?_; refine rU 38 (some 133) T ?_; refine rU 39 (some 134) T ?_; refine rU 40 (some 135) T ?_; refine rU 41 (some 136) T ?_; refine rU 42 (some 137) T ?_; refine rU 43 (some 138) T ?_; refine rP 44 (some 139) T ?_
                 refine vO (xH T.out (by kernel_rfl)) ?_; have jA := xu.out.trans (H2.out.mono xu.out.size); clear h; try go_wp2
                 go_ret
                 exact ⟨rfl, HW.out _ jA⟩
              | true =>
              have h1 := fun (W : World) (h : Below X.heap.size X W) => hq W x.f1 h
              simp only [r1] at h1
              cases r2 : jd l3 x.f2 with
              | false =>
                have h2 := fun (W : World) (h : Below X.heap.size X W) => hq W x.f2 h
                simp only [r2] at h2
                as_aux_lemma =>
                 have hv : V = false := by
                   rw [uT.out, uQ (i := (m + 1)) hlt (by rw [hok, r0, r1, r2]; simp)]
                   simp
                 subst hv
                 refine rS (n := 45) HS rval.YJ rval.pR (by kernel_rfl) rfl rfl (fun w0 H0 T U h => ?_)
                 refine rP 1 (some 96) T ?_; refine rT 0 (some 95) T U h ?_; refine rT 2 (some 97) T U h ?_
                 clear h; refine rC 3 (some 98) T HS H0 Tryz.func63 (h0 _ H0.out) (fun w1 H1 h => ?_) (by kernel_rfl)
                 refine rP 4 (some 99) T ?_; refine rP 5 (some 100) T ?_; refine rP 7 (some 102) T ?_; refine rT 6 (some 101) T U h ?_; refine rT 8 (some 103) T U h ?_
                 clear h; refine rC 9 (some 104) T HS H1 Tryz.func63 (h1 _ H1.out) (fun w2 H2 h => ?_) (by kernel_rfl)
                 refine rP 10 (some 105) T ?_; refine rP 11 (some 106) T ?_; refine rP 12 (some 107) T ?_; refine rP 14 (some 109) T ?_; refine rT 13 (some 108) T U h ?_; refine rT 15 (some 110) T U h ?_
                 clear h; refine rC 16 (some 111) T HS H2 Tryz.func63 (h2 _ H2.out) (fun w3 H3 h => ?_) (by kernel_rfl)
                 refine rP 17 (some 112) T ?_; refine rP 18 (some 113) T ?_; refine rP 19 (some 114) T ?_; refine rU 20 (some 115) T ?_; refine rU 21 (some 116) T ?_; refine rU 22 (some 117) T ?_; refine rU 23 (some 118) T ?_; refine rU 24 (some 119) T ?_; refine rU 25 (some 120) T ?_; refine rU 26 (some 121) T ?_; refine rU 27 (some 122) T ?_; refine rU 28 (some 123) T ?_; refine rU 29 (some 124) T ?_; refine rU 30 (some 125) T ?_; refine rU 31 (some 126) T ?_; refine rU 32 (some 127) T ?_; refine rU 33 (some 128) T ?_; refine rU 34 (some 129) T ?_; refine rU 35 (some 130) T ?_; refine rU 36 (some 131) T ?_; refine rU 37 (some 132) T ?_; refine rU 38 (some 133) T ?_; refine rU 39 (some 134) T ?_; refine rU 40 (some 135) T ?_; refine rU 41 (some 136) T ?_; refine rU 42 (some 137) T ?_; refine rU 43 (some 138) T ?_; refine rP 44 (some 139) T ?_
                 refine vO (xH T.out (by kernel_rfl)) ?_; have jA := xu.out.trans (H3.out.mono xu.out.size); clear h; try go_wp2
                 go_ret
                 exact ⟨rfl, HW.out _ jA⟩
              | true =>
              have h2 := fun (W : World) (h : Below X.heap.size X W) => hq W x.f2 h
              simp only [r2] at h2
              have hah := fun W => (zz9 p.f0 p.f1 x.f0 x.f1 W).mono fun e w' k => And.intro k.1 (ji k.2)
              cases ra : Xt p.f0 p.f1 x.f0 x.f1 with
              | false =>
                simp only [ra] at hah
                as_aux_lemma =>
                 have hv : V = false := by
                   rw [uT.out, uQ (i := (m + 1)) hlt (by rw [hok, r0, r1, r2, ra]; simp)]
                   simp
                 subst hv
                 refine rS (n := 45) HS rval.YJ rval.pR (by kernel_rfl) rfl rfl (fun w0 H0 T U h => ?_)
                 refine rP 1 (some 96) T ?_; refine rT 0 (some 95) T U h ?_; refine rT 2 (some 97) T U h ?_
                 clear h; refine rC 3 (some 98) T HS H0 Tryz.func63 (h0 _ H0.out) (fun w1 H1 h => ?_) (by kernel_rfl)
                 refine rP 4 (some 99) T ?_; refine rP 5 (some 100) T ?_; refine rP 7 (some 102) T ?_; refine rT 6 (some 101) T U h ?_; refine rT 8 (some 103) T U h ?_
                 clear h; refine rC 9 (some 104) T HS H1 Tryz.func63 (h1 _ H1.out) (fun w2 H2 h => ?_) (by kernel_rfl)
                 refine rP 10 (some 105) T ?_; refine rP 11 (some 106) T ?_; refine rP 12 (some 107) T ?_; refine rP 14 (some 109) T ?_; refine rT 13 (some 108) T U h ?_; refine rT 15 (some 110) T U h ?_
                 clear h; refine rC 16 (some 111) T HS H2 Tryz.func63 (h2 _ H2.out) (fun w3 H3 h => ?_) (by kernel_rfl)
                 refine rP 17 (some 112) T ?_; refine rP 18 (some 113) T ?_; refine rP 19 (some 114) T ?_; refine rP 20 (some 115) T ?_; refine rP 21 (some 116) T ?_; refine rP 22 (some 117) T ?_; refine rP 23 (some 118) T ?_; refine rP 25 (some 120) T ?_; refine rP 26 (some 121) T ?_; refine rP 30 (some 125) T ?_; refine rP 32 (some 127) T ?_; refine rP 33 (some 128) T ?_; refine rP 37 (some 132) T ?_; refine rP 39 (some 134) T ?_; refine rT 24 (some 119) T U h ?_; refine rP 27 (some 122) T ?_; refine rP 28 (some 123) T ?_; refine rT 29 (some 124) T U h ?_; refine rT 31 (some 126) T U h ?_; refine rP 34 (some 129) T ?_; refine rP 35 (some 130) T ?_; refine rT 36 (some 131) T U h ?_; refine rT 38 (some 133) T U h ?_; refine rT 40 (some 135) T U h ?_
                 clear h; refine rC 41 (some 136) T HS H3 Tryz.func106 (hah _) (fun w4 H4 h => ?_) (by kernel_rfl)
                 refine rP 42 (some 137) T ?_; refine rP 43 (some 138) T ?_; refine rP 44 (some 139) T ?_
                 refine vO (xH T.out (by kernel_rfl)) ?_; have jA := xu.out.trans (H4.out.mono xu.out.size); clear h; try go_wp2
                 go_ret
                 exact ⟨rfl, HW.out _ jA⟩
              | true =>
              simp only [ra] at hah
              as_aux_lemma =>
              have hok2 : Xl l3 l4 (m + 1) = true := by rw [hok, r0, r1, r2, ra]; rfl
              refine rS (n := 45) HS rval.YJ rval.pR (by kernel_rfl) rfl rfl (fun w0 H0 T U h => ?_)
              refine rP 1 (some 96) T ?_; refine rT 0 (some 95) T U h ?_; refine rT 2 (some 97) T U h ?_
              clear h; refine rC 3 (some 98) T HS H0 Tryz.func63 (h0 _ H0.out) (fun w1 H1 h => ?_) (by kernel_rfl)
              refine rP 4 (some 99) T ?_; refine rP 5 (some 100) T ?_; refine rP 7 (some 102) T ?_; refine rT 6 (some 101) T U h ?_; refine rT 8 (some 103) T U h ?_
              clear h; refine rC 9 (some 104) T HS H1 Tryz.func63 (h1 _ H1.out) (fun w2 H2 h => ?_) (by kernel_rfl)
              refine rP 10 (some 105) T ?_; refine rP 11 (some 106) T ?_; refine rP 12 (some 107) T ?_; refine rP 14 (some 109) T ?_; refine rT 13 (some 108) T U h ?_; refine rT 15 (some 110) T U h ?_
              clear h; refine rC 16 (some 111) T HS H2 Tryz.func63 (h2 _ H2.out) (fun w3 H3 h => ?_) (by kernel_rfl)
              refine rP 17 (some 112) T ?_; refine rP 18 (some 113) T ?_; refine rP 19 (some 114) T ?_; refine rP 20 (some 115) T ?_; refine rP 21 (some 116) T ?_; refine rP 22 (some 117) T ?_; refine rP 23 (some 118) T ?_; refine rP 25 (some 120) T ?_; refine rP 26 (some 121) T ?_; refine rP 30 (some 125) T ?_; refine rP 32 (some 127) T ?_; refine rP 33 (some 128) T ?_; refine rP 37 (some 132) T ?_; refine rP 39 (some 134) T ?_; refine rT 24 (some 119) T U h ?_; refine rP 27 (some 122) T ?_; refine rP 28 (some 123) T ?_; refine rT 29 (some 124) T U h ?_; refine rT 31 (some 126) T U h ?_; refine rP 34 (some 129) T ?_; refine rP 35 (some 130) T ?_; refine rT 36 (some 131) T U h ?_; refine rT 38 (some 133) T U h ?_; refine rT 40 (some 135) T U h ?_
              clear h; refine rC 41 (some 136) T HS H3 Tryz.func106 (hah _) (fun w4 H4 h => ?_) (by kernel_rfl)
              refine rP 42 (some 137) T ?_; refine rP 43 (some 138) T ?_; refine rP 44 (some 139) T ?_
              refine vO (xH T.out (by kernel_rfl)) ?_; have jA := xu.out.trans (H4.out.mono xu.out.size); clear h; try go_wp2
              go_roundw
              case rel => exact ⟨m + 1 + 1, by first | rfl | (simp; done) | go_num, by omega, ⟨jA⟩, ⟨fun j hj => (Nat.lt_succ_iff_lt_or_eq.1 hj).elim (HK4.out j) (fun e => by rw [e]; exact hok2)⟩⟩
              case measure => simp [intOf]; omega
          · obtain rfl : i = l4.length := by omega
            have q2 : decide ((l4.length : Int) < (l4.length : Int)) = false := decide_eq_false (by omega)
            have q1 : ¬ (l4.length : Int) < (l4.length : Int) := by omega
            have uT : zy (V = ((List.range l5.length).all (Y2 l3 l5))) := ⟨by rw [uT.out, dO HK4.out, Bool.true_and]⟩
            go_wp2
            go_loopw [7] (fun y W => ∃ i : Nat, y = .int .i64 (i : Int) ∧ i ≤ l5.length ∧ zy (Below (w.alloc (.cells #[.string a, .bool b, .int .i64 c, .slice A3 l3.length c3, .slice A4 l4.length c4, .slice A5 l5.length c5] 44)).heap.size (w.alloc (.cells #[.string a, .bool b, .int .i64 c, .slice A3 l3.length c3, .slice A4 l4.length c4, .slice A5 l5.length c5] 44)) W) ∧ zy (∀ j, j < i → Y2 l3 l5 j = true)) (fun y _ => l5.length - (intOf y).toNat)
            case atStart => exact ⟨0, rfl, Nat.zero_le _, kI, ⟨fun _ h => absurd h (Nat.not_lt_zero _)⟩⟩
            case round =>
              skip
              obtain ⟨i, rfl, hi, Zi, HK5⟩ := hrel
              have hcf := (zk (HF.out _ Zi.out) 5).trans rfl
              by_cases hlt : i < l5.length
              · have hC := Kd.zh H5.out (HW.out _ Zi.out)
                have hbX : Below wr.heap.size wr (wr.alloc (.cells #[] 0)) := (Below.refl _ wr).alloc (Nat.le_refl _) _
                clear hbX
                obtain ⟨ad, e, x0, x1, x2⟩ := Jl hC (i : Int) (by omega) (by omega)
                have hA := e
                rw [Int.toNat_natCast] at x0 x1 x2
                have hlA : w.heap.size < wr.heap.size := uS (HF.out _ Zi.out)
                rcases Nat.eq_zero_or_pos i with hi0 | hi0
                · subst hi0
                  simp only [Nat.zero_mul, Addr.add_zero'] at x0 x1 x2
                  have hok : Y2 l3 l5 0 = (jd l3 (vJ l5 ((0 : Nat) : Int)).f0 && (jd l3 (vJ l5 ((0 : Nat) : Int)).f1 && (!decide ((vJ l5 ((0 : Nat) : Int)).f2 = 0) && (!decide ((vJ l5 ((0 : Nat) : Int)).f2 < -500) && (!decide (500 < (vJ l5 ((0 : Nat) : Int)).f2) && true))))) := by
                    unfold Y2
                    rw [decide_eq_true rfl, Bool.true_or]
                  have hzx : (vJ l5 ((0 : Nat) : Int)) ∈ l5 := by
                    have e9 : vJ l5 ((0 : Nat) : Int) = l5[0] := by simp only [vJ, Int.toNat_natCast, List.getD_eq_getElem?_getD, List.getElem?_eq_getElem hlt, Option.getD_some]
                    rw [e9]; exact List.getElem_mem hlt
                  generalize vJ l5 ((0 : Nat) : Int) = x at x0 x1 x2 hok hzx
                  have q1 : (0 : Int) < (l5.length : Int) := by omega
                  have q6 : decide ((0 : Int) < (l5.length : Int)) = true := decide_eq_true q1
                  rw [hA] at hcf
                  clear hzx
                  go_wp2_with fail
                  have hbX : Below wr.heap.size wr (wr.alloc (.cells #[.string x.f0, .string x.f1, .int .i64 x.f2] 84)) := (Below.refl _ wr).alloc (Nat.le_refl _) _
                  have xu := zy.mk (Zi.out.trans (hbX.mono Zi.out.size))
                  have hbk := vY wr (.cells #[.string x.f0, .string x.f1, .int .i64 x.f2] 84)
                  have hX0 : (wr.alloc (.cells #[.string x.f0, .string x.f1, .int .i64 x.f2] 84)).cell? ⟨wr.heap.size, 0, none⟩ = some (.string x.f0) := (zk hbk 0).trans rfl
                  have hX1 : (wr.alloc (.cells #[.string x.f0, .string x.f1, .int .i64 x.f2] 84)).cell? ⟨wr.heap.size, 1, none⟩ = some (.string x.f1) := (zk hbk 1).trans rfl
                  have hX2 : (wr.alloc (.cells #[.string x.f0, .string x.f1, .int .i64 x.f2] 84)).cell? ⟨wr.heap.size, 2, none⟩ = some (.int .i64 x.f2) := (zk hbk 2).trans rfl
                  have QH : (wr.alloc (.cells #[.string x.f0, .string x.f1, .int .i64 x.f2] 84)).cell? ⟨w.heap.size, 0, none⟩ = some (.string a) := (zk (HF.out _ xu.out) 0).trans rfl
                  have hF1 : (wr.alloc (.cells #[.string x.f0, .string x.f1, .int .i64 x.f2] 84)).cell? ⟨w.heap.size, 1, none⟩ = some (.bool b) := (zk (HF.out _ xu.out) 1).trans rfl
                  have hF2 : (wr.alloc (.cells #[.string x.f0, .string x.f1, .int .i64 x.f2] 84)).cell? ⟨w.heap.size, 2, none⟩ = some (.int .i64 c) := (zk (HF.out _ xu.out) 2).trans rfl
                  have VD : (wr.alloc (.cells #[.string x.f0, .string x.f1, .int .i64 x.f2] 84)).cell? ⟨w.heap.size, 3, none⟩ = some (.slice A3 l3.length c3) := (zk (HF.out _ xu.out) 3).trans rfl
                  have Uo : (wr.alloc (.cells #[.string x.f0, .string x.f1, .int .i64 x.f2] 84)).cell? ⟨w.heap.size, 4, none⟩ = some (.slice A4 l4.length c4) := (zk (HF.out _ xu.out) 4).trans rfl
                  have Ur : (wr.alloc (.cells #[.string x.f0, .string x.f1, .int .i64 x.f2] 84)).cell? ⟨w.heap.size, 5, none⟩ = some (.slice (some ad) l5.length c5) := (zk (HF.out _ xu.out) 5).trans (by rw [hA]; rfl)
                  have hq := fun (W : World) (n : ByteArray) (h : Below (wr.alloc (.cells #[.string x.f0, .string x.f1, .int .i64 x.f2] 84)).heap.size (wr.alloc (.cells #[.string x.f0, .string x.f1, .int .i64 x.f2] 84)) W) => iL a b c A3 c3 l3 A4 c4 l4 A5 c5 l5 n W (Kd.zh H3.out ((HW.out _ xu.out).trans (h.mono (HW.out _ xu.out).size))) G3.out (Kd.zh H4.out ((HW.out _ xu.out).trans (h.mono (HW.out _ xu.out).size))) G4.out (Kd.zh H5.out ((HW.out _ xu.out).trans (h.mono (HW.out _ xu.out).size))) G5.out hl3
                  rw [hA] at hq
                  clear hbk hbX x0 x1 x2  hC hcf
                  generalize wr.heap.size = g4 at hX0 hlA hX1 hX2 ⊢
                  generalize (wr.alloc (.cells #[.string x.f0, .string x.f1, .int .i64 x.f2] 84)) = X at xu hX0 hX1 hX2 QH hF1 hF2 VD Uo Ur hq ⊢
                  have HS := zy.mk (fun (W : World) (h : Below X.heap.size X W) => (show W.cell? ⟨g4, 0, none⟩ = some (.string x.f0) ∧ W.cell? ⟨g4, 1, none⟩ = some (.string x.f1) ∧ W.cell? ⟨g4, 2, none⟩ = some (.int .i64 x.f2) ∧ W.cell? ⟨w.heap.size, 0, none⟩ = some (.string a) ∧ W.cell? ⟨w.heap.size, 1, none⟩ = some (.bool b) ∧ W.cell? ⟨w.heap.size, 2, none⟩ = some (.int .i64 c) ∧ W.cell? ⟨w.heap.size, 3, none⟩ = some (.slice A3 l3.length c3) ∧ W.cell? ⟨w.heap.size, 4, none⟩ = some (.slice A4 l4.length c4) ∧ W.cell? ⟨w.heap.size, 5, none⟩ = some (.slice (some ad) l5.length c5) from ⟨(h.cell (World.block_lt_of_cell? X _ hX0)).trans hX0, (h.cell (World.block_lt_of_cell? X _ hX1)).trans hX1, (h.cell (World.block_lt_of_cell? X _ hX2)).trans hX2, (h.cell (World.block_lt_of_cell? X _ QH)).trans QH, (h.cell (World.block_lt_of_cell? X _ hF1)).trans hF1, (h.cell (World.block_lt_of_cell? X _ hF2)).trans hF2, (h.cell (World.block_lt_of_cell? X _ VD)).trans VD, (h.cell (World.block_lt_of_cell? X _ Uo)).trans Uo, (h.cell (World.block_lt_of_cell? X _ Ur)).trans Ur⟩))
                  cases r0 : jd l3 x.f0 with
                  | false =>
                    have h0 := fun (W : World) (h : Below X.heap.size X W) => hq W x.f0 h
                    simp only [r0] at h0
                    as_aux_lemma =>
                     have hv : V = false := by
                       rw [uT.out, uQ (i := 0) hlt (by rw [hok, r0]; simp)]
                       done
                     subst hv
                     refine rS (n := 53) HS rval.XZ rval.Z9 (by kernel_rfl) rfl rfl (fun w0 H0 T U h => ?_)
                     refine rP 1 (some 153) T ?_; refine rT 0 (some 152) T U h ?_; refine rT 2 (some 154) T U h ?_
                     clear h; refine rC 3 (some 155) T HS H0 Tryz.func63 (h0 _ H0.out) (fun w1 H1 h => ?_) (by kernel_rfl)
                     refine rP 4 (some 156) T ?_; refine rP 5 (some 157) T ?_; refine rU 6 (some 158) T ?_; refine rU 7 (some 159) T ?_; refine rU 8 (some 160) T ?_; refine rU 9 (some 161) T ?_; refine rU 10 (some 162) T ?_; refine rP 11 (some 163) T ?_; refine rP 12 (some 164) T ?_; refine rU 13 (some 165) T ?_; refine rU 14 (some 166) T ?_; refine rU 15 (some 167) T ?_; refine rP 16 (some 168) T ?_; refine rP 17 (some 169) T ?_; refine rU 18 (some 170) T ?_; refine rU 19 (some 171) T ?_; refine rU 20 (some 172) T ?_; refine rP 21 (some 173) T ?_; refine rP 22 (some 174) T ?_; refine rU 23 (some 175) T ?_; refine rU 24 (some 176) T ?_; refine rU 25 (some 177) T ?_; refine rP 26 (some 178) T ?_; refine rP 27 (some 179) T ?_; refine rU 28 (some 180) T ?_; refine rU 29 (some 181) T ?_; refine rU 30 (some 182) T ?_; refine rU 31 (some 183) T ?_; refine rU 32 (some 184) T ?_; refine rU 33 (some 185) T ?_; refine rU 34 (some 186) T ?_; refine rU 35 (some 187) T ?_; refine rU 36 (some 188) T ?_; refine rU 37 (some 189) T ?_; refine rU 38 (some 190) T ?_; refine rU 39 (some 191) T ?_; refine rU 40 (some 192) T ?_; refine rU 41 (some 193) T ?_; refine rU 42 (some 194) T ?_; refine rU 43 (some 195) T ?_; refine rU 44 (some 196) T ?_; refine rU 45 (some 197) T ?_; refine rU 46 (some 198) T ?_; refine rU 47 (some 199) T ?_; refine rU 48 (some 200) T ?_; refine rU 49 (some 201) T ?_; refine rU 50 (some 202) T ?_; refine rU 51 (some 203) T ?_; refine rP 52 (some 204) T ?_
                     refine vO (xH T.out (by kernel_rfl)) ?_; have jA := xu.out.trans (H1.out.mono xu.out.size); clear h; try go_wp2
                     go_ret
                     exact ⟨rfl, HW.out _ jA⟩
                  | true =>
                  have h0 := fun (W : World) (h : Below X.heap.size X W) => hq W x.f0 h
                  simp only [r0] at h0
                  cases r1 : jd l3 x.f1 with
                  | false =>
                    have h1 := fun (W : World) (h : Below X.heap.size X W) => hq W x.f1 h
                    simp only [r1] at h1
                    as_aux_lemma =>
                     have hv : V = false := by
                       rw [uT.out, uQ (i := 0) hlt (by rw [hok, r0, r1]; simp)]
                       done
                     subst hv
                     refine rS (n := 53) HS rval.XZ rval.Z9 (by kernel_rfl) rfl rfl (fun w0 H0 T U h => ?_)
                     refine rP 1 (some 153) T ?_; refine rT 0 (some 152) T U h ?_; refine rT 2 (some 154) T U h ?_
                     clear h; refine rC 3 (some 155) T HS H0 Tryz.func63 (h0 _ H0.out) (fun w1 H1 h => ?_) (by kernel_rfl)
                     refine rP 4 (some 156) T ?_; refine rP 5 (some 157) T ?_; refine rP 7 (some 159) T ?_; refine rT 6 (some 158) T U h ?_; refine rT 8 (some 160) T U h ?_
                     clear h; refine rC 9 (some 161) T HS H1 Tryz.func63 (h1 _ H1.out) (fun w2 H2 h => ?_) (by kernel_rfl)
                     refine rP 10 (some 162) T ?_; refine rP 11 (some 163) T ?_; refine rP 12 (some 164) T ?_; refine rU 13 (some 165) T ?_; refine rU 14 (some 166) T ?_; refine rU 15 (some 167) T ?_; refine rP 16 (some 168) T ?_; refine rP 17 (some 169) T ?_; refine rU 18 (some 170) T ?_; refine rU 19 (some 171) T ?_; refine rU 20 (some 172) T ?_; refine rP 21 (some 173) T ?_; refine rP 22 (some 174) T ?_; refine rU 23 (some 175) T ?_; refine rU 24 (some 176) T ?_; refine rU 25 (some 177) T ?_; refine rP 26 (some 178) T ?_; refine rP 27 (some 179) T ?_; refine rU 28 (some 180) T ?_; refine rU 29 (some 181) T ?_; refine rU 30 (some 182) T ?_; refine rU 31 (some 183) T ?_; refine rU 32 (some 184) T ?_; refine rU 33 (some 185) T ?_; refine rU 34 (some 186) T ?_; refine rU 35 (some 187) T ?_; refine rU 36 (some 188) T ?_; refine rU 37 (some 189) T ?_; refine rU 38 (some 190) T ?_; refine rU 39 (some 191) T ?_; refine rU 40 (some 192) T ?_; refine rU 41 (some 193) T ?_; refine rU 42 (some 194) T ?_; refine rU 43 (some 195) T ?_; refine rU 44 (some 196) T ?_; refine rU 45 (some 197) T ?_; refine rU 46 (some 198) T ?_; refine rU 47 (some 199) T ?_; refine rU 48 (some 200) T ?_; refine rU 49 (some 201) T ?_; refine rU 50 (some 202) T ?_; refine rU 51 (some 203) T ?_; refine rP 52 (some 204) T ?_
                     refine vO (xH T.out (by kernel_rfl)) ?_; have jA := xu.out.trans (H2.out.mono xu.out.size); clear h; try go_wp2
                     go_ret
                     exact ⟨rfl, HW.out _ jA⟩
                  | true =>
                  have h1 := fun (W : World) (h : Below X.heap.size X W) => hq W x.f1 h
                  simp only [r1] at h1
                  by_cases tz : x.f2 = 0
                  · have dz : decide (x.f2 = 0) = true := decide_eq_true tz
                    have dz2 : (x.f2 == 0) = true := beq_iff_eq.2 tz
                    as_aux_lemma =>
                     have hv : V = false := by
                       rw [uT.out, uQ (i := 0) hlt (by rw [hok, r0, r1, dz]; simp)]
                       done
                     subst hv
                     refine rS (n := 53) HS rval.XZ rval.Z9 (by kernel_rfl) rfl rfl (fun w0 H0 T U h => ?_)
                     refine rP 1 (some 153) T ?_; refine rT 0 (some 152) T U h ?_; refine rT 2 (some 154) T U h ?_
                     clear h; refine rC 3 (some 155) T HS H0 Tryz.func63 (h0 _ H0.out) (fun w1 H1 h => ?_) (by kernel_rfl)
                     refine rP 4 (some 156) T ?_; refine rP 5 (some 157) T ?_; refine rP 7 (some 159) T ?_; refine rT 6 (some 158) T U h ?_; refine rT 8 (some 160) T U h ?_
                     clear h; refine rC 9 (some 161) T HS H1 Tryz.func63 (h1 _ H1.out) (fun w2 H2 h => ?_) (by kernel_rfl)
                     refine rP 10 (some 162) T ?_; refine rP 11 (some 163) T ?_; refine rP 12 (some 164) T ?_; refine rP 13 (some 165) T ?_; refine rT 14 (some 166) T U h ?_; refine rP 15 (some 167) T ?_; refine rP 16 (some 168) T ?_; refine rP 17 (some 169) T ?_; refine rU 18 (some 170) T ?_; refine rU 19 (some 171) T ?_; refine rU 20 (some 172) T ?_; refine rP 21 (some 173) T ?_; refine rP 22 (some 174) T ?_; refine rU 23 (some 175) T ?_; refine rU 24 (some 176) T ?_; refine rU 25 (some 177) T ?_; refine rP 26 (some 178) T ?_; refine rP 27 (some 179) T ?_; refine rU 28 (some 180) T ?_; refine rU 29 (some 181) T ?_; refine rU 30 (some 182) T ?_; refine rU 31 (some 183) T ?_; refine rU 32 (some 184) T ?_; refine rU 33 (some 185) T ?_; refine rU 34 (some 186) T ?_; refine rU 35 (some 187) T ?_; refine rU 36 (some 188) T ?_; refine rU 37 (some 189) T ?_; refine rU 38 (some 190) T ?_; refine rU 39 (some 191) T ?_; refine rU 40 (some 192) T ?_; refine rU 41 (some 193) T ?_; refine rU 42 (some 194) T ?_; refine rU 43 (some 195) T ?_; refine rU 44 (some 196) T ?_; refine rU 45 (some 197) T ?_; refine rU 46 (some 198) T ?_; refine rU 47 (some 199) T ?_; refine rU 48 (some 200) T ?_; refine rU 49 (some 201) T ?_; refine rU 50 (some 202) T ?_; refine rU 51 (some 203) T ?_; refine rP 52 (some 204) T ?_
                     refine vO (xH T.out (by kernel_rfl)) ?_; have jA := xu.out.trans (H2.out.mono xu.out.size); clear h; try go_wp2
                     go_ret
                     exact ⟨rfl, HW.out _ jA⟩
                  have dz : decide (x.f2 = 0) = false := decide_eq_false tz
                  have dz2 : (x.f2 == 0) = false := beq_eq_false_iff_ne.2 tz
                  by_cases tlt : x.f2 < -500
                  · have bG : decide (x.f2 < -500) = true := decide_eq_true tlt
                    skip
                    as_aux_lemma =>
                     have hv : V = false := by
                       rw [uT.out, uQ (i := 0) hlt (by rw [hok, r0, r1, dz, bG]; simp)]
                       done
                     subst hv
                     refine rS (n := 53) HS rval.XZ rval.Z9 (by kernel_rfl) rfl rfl (fun w0 H0 T U h => ?_)
                     refine rP 1 (some 153) T ?_; refine rT 0 (some 152) T U h ?_; refine rT 2 (some 154) T U h ?_
                     clear h; refine rC 3 (some 155) T HS H0 Tryz.func63 (h0 _ H0.out) (fun w1 H1 h => ?_) (by kernel_rfl)
                     refine rP 4 (some 156) T ?_; refine rP 5 (some 157) T ?_; refine rP 7 (some 159) T ?_; refine rT 6 (some 158) T U h ?_; refine rT 8 (some 160) T U h ?_
                     clear h; refine rC 9 (some 161) T HS H1 Tryz.func63 (h1 _ H1.out) (fun w2 H2 h => ?_) (by kernel_rfl)
                     refine rP 10 (some 162) T ?_; refine rP 11 (some 163) T ?_; refine rP 12 (some 164) T ?_; refine rP 13 (some 165) T ?_; refine rT 14 (some 166) T U h ?_; refine rP 15 (some 167) T ?_; refine rP 16 (some 168) T ?_; refine rP 17 (some 169) T ?_; refine rP 18 (some 170) T ?_; refine rT 19 (some 171) T U h ?_; refine rP 20 (some 172) T ?_; refine rP 21 (some 173) T ?_; refine rP 22 (some 174) T ?_; refine rU 23 (some 175) T ?_; refine rU 24 (some 176) T ?_; refine rU 25 (some 177) T ?_; refine rP 26 (some 178) T ?_; refine rP 27 (some 179) T ?_; refine rU 28 (some 180) T ?_; refine rU 29 (some 181) T ?_; refine rU 30 (some 182) T ?_; refine rU 31 (some 183) T ?_; refine rU 32 (some 184) T ?_; refine rU 33 (some 185) T ?_; refine rU 34 (some 186) T ?_; refine rU 35 (some 187) T ?_; refine rU 36 (some 188) T ?_; refine rU 37 (some 189) T ?_; refine rU 38 (some 190) T ?_; refine rU 39 (some 191) T ?_; refine rU 40 (some 192) T ?_; refine rU 41 (some 193) T ?_; refine rU 42 (some 194) T ?_; refine rU 43 (some 195) T ?_; refine rU 44 (some 196) T ?_; refine rU 45 (some 197) T ?_; refine rU 46 (some 198) T ?_; refine rU 47 (some 199) T ?_; refine rU 48 (some 200) T ?_; refine rU 49 (some 201) T ?_; refine rU 50 (some 202) T ?_; refine rU 51 (some 203) T ?_; refine rP 52 (some 204) T ?_
                     refine vO (xH T.out (by kernel_rfl)) ?_; have jA := xu.out.trans (H2.out.mono xu.out.size); clear h; try go_wp2
                     go_ret
                     exact ⟨rfl, HW.out _ jA⟩
                  have bG : decide (x.f2 < -500) = false := decide_eq_false tlt
                  skip
                  by_cases tgt : 500 < x.f2
                  · have iQ : decide (500 < x.f2) = true := decide_eq_true tgt
                    skip
                    as_aux_lemma =>
                     have hv : V = false := by
                       rw [uT.out, uQ (i := 0) hlt (by rw [hok, r0, r1, dz, bG, iQ]; simp)]
                       done
                     subst hv
                     refine rS (n := 53) HS rval.XZ rval.Z9 (by kernel_rfl) rfl rfl (fun w0 H0 T U h => ?_)
                     refine rP 1 (some 153) T ?_; refine rT 0 (some 152) T U h ?_; refine rT 2 (some 154) T U h ?_
                     clear h; refine rC 3 (some 155) T HS H0 Tryz.func63 (h0 _ H0.out) (fun w1 H1 h => ?_) (by kernel_rfl)
                     refine rP 4 (some 156) T ?_; refine rP 5 (some 157) T ?_; refine rP 7 (some 159) T ?_; refine rT 6 (some 158) T U h ?_; refine rT 8 (some 160) T U h ?_
                     clear h; refine rC 9 (some 161) T HS H1 Tryz.func63 (h1 _ H1.out) (fun w2 H2 h => ?_) (by kernel_rfl)
                     refine rP 10 (some 162) T ?_; refine rP 11 (some 163) T ?_; refine rP 12 (some 164) T ?_; refine rP 13 (some 165) T ?_; refine rT 14 (some 166) T U h ?_; refine rP 15 (some 167) T ?_; refine rP 16 (some 168) T ?_; refine rP 17 (some 169) T ?_; refine rP 18 (some 170) T ?_; refine rT 19 (some 171) T U h ?_; refine rP 20 (some 172) T ?_; refine rP 21 (some 173) T ?_; refine rP 22 (some 174) T ?_; refine rP 23 (some 175) T ?_; refine rT 24 (some 176) T U h ?_; refine rP 25 (some 177) T ?_; refine rP 26 (some 178) T ?_; refine rP 27 (some 179) T ?_; refine rU 28 (some 180) T ?_; refine rU 29 (some 181) T ?_; refine rU 30 (some 182) T ?_; refine rU 31 (some 183) T ?_; refine rU 32 (some 184) T ?_; refine rU 33 (some 185) T ?_; refine rU 34 (some 186) T ?_; refine rU 35 (some 187) T ?_; refine rU 36 (some 188) T ?_; refine rU 37 (some 189) T ?_; refine rU 38 (some 190) T ?_; refine rU 39 (some 191) T ?_; refine rU 40 (some 192) T ?_; refine rU 41 (some 193) T ?_; refine rU 42 (some 194) T ?_; refine rU 43 (some 195) T ?_; refine rU 44 (some 196) T ?_; refine rU 45 (some 197) T ?_; refine rU 46 (some 198) T ?_; refine rU 47 (some 199) T ?_; refine rU 48 (some 200) T ?_; refine rU 49 (some 201) T ?_; refine rU 50 (some 202) T ?_; refine rU 51 (some 203) T ?_; refine rP 52 (some 204) T ?_
                     refine vO (xH T.out (by kernel_rfl)) ?_; have jA := xu.out.trans (H2.out.mono xu.out.size); clear h; try go_wp2
                     go_ret
                     exact ⟨rfl, HW.out _ jA⟩
                  have iQ : decide (500 < x.f2) = false := decide_eq_false tgt
                  skip
                  as_aux_lemma =>
                  have hok2 : Y2 l3 l5 0 = true := by rw [hok, r0, r1, dz, bG, iQ]; rfl
                  refine rS (n := 53) HS rval.XZ rval.Z9 (by kernel_rfl) rfl rfl (fun w0 H0 T U h => ?_)
                  refine rP 1 (some 153) T ?_; refine rT 0 (some 152) T U h ?_; refine rT 2 (some 154) T U h ?_
                  clear h; refine rC 3 (some 155) T HS H0 Tryz.func63 (h0 _ H0.out) (fun w1 H1 h => ?_) (by kernel_rfl)
                  refine rP 4 (some 156) T ?_; refine rP 5 (some 157) T ?_; refine rP 7 (some 159) T ?_; refine rT 6 (some 158) T U h ?_; refine rT 8 (some 160) T U h ?_
                  clear h; refine rC 9 (some 161) T HS H1 Tryz.func63 (h1 _ H1.out) (fun w2 H2 h => ?_) (by kernel_rfl)
                  refine rP 10 (some 162) T ?_; refine rP 11 (some 163) T ?_; refine rP 12 (some 164) T ?_; refine rP 13 (some 165) T ?_; refine rT 14 (some 166) T U h ?_; refine rP 15 (some 167) T ?_; refine rP 16 (some 168) T ?_; refine rP 17 (some 169) T ?_; refine rP 18 (some 170) T ?_; refine rT 19 (some 171) T U h ?_; refine rP 20 (some 172) T ?_; refine rP 21 (some 173) T ?_; refine rP 22 (some 174) T ?_; refine rP 23 (some 175) T ?_; refine rT 24 (some 176) T U h ?_; refine rP 25 (some 177) T ?_; refine rP 26 (some 178) T ?_; refine rP 27 (some 179) T ?_; refine rP 28 (some 180) T ?_; refine rP 29 (some 181) T ?_; refine rP 30 (some 182) T ?_; refine rU 31 (some 183) T ?_; refine rU 32 (some 184) T ?_; refine rU 33 (some 185) T ?_; refine rU 34 (some 186) T ?_; refine rU 35 (some 187) T ?_; refine rU 36 (some 188) T ?_; refine rU 37 (some 189) T ?_; refine rU 38 (some 190) T ?_; refine rU 39 (some 191) T ?_; refine rU 40 (some 192) T ?_; refine rU 41 (some 193) T ?_; refine rU 42 (some 194) T ?_; refine rU 43 (some 195) T ?_; refine rU 44 (some 196) T ?_; refine rU 45 (some 197) T ?_; refine rU 46 (some 198) T ?_; refine rU 47 (some 199) T ?_; refine rU 48 (some 200) T ?_; refine rU 49 (some 201) T ?_; refine rU 50 (some 202) T ?_; refine rP 51 (some 203) T ?_; refine rP 52 (some 204) T ?_
                  refine vO (xH T.out (by kernel_rfl)) ?_; have jA := xu.out.trans (H2.out.mono xu.out.size); clear h; try go_wp2
                  go_roundw
                  case rel => exact ⟨0 + 1, by first | rfl | (simp; done) | go_num, by omega, ⟨jA⟩, ⟨fun j hj => (Nat.lt_succ_iff_lt_or_eq.1 hj).elim (HK5.out j) (fun e => by rw [e]; exact hok2)⟩⟩
                  case measure => simp [intOf]; omega
                · obtain ⟨m, rfl⟩ : ∃ m, i = m + 1 := ⟨i - 1, by omega⟩
                  obtain ⟨fM, e2, y0, y1, y2⟩ := Jl hC (m : Int) (by omega) (by omega)
                  have e3 : ad = fM := by rw [hA] at e2; injection e2 with e2
                  subst e3
                  rw [Int.toNat_natCast] at y0 y1 y2
                  have hpr : (((m + 1 : Nat) : Int) - 1) = (m : Int) := by omega
                  have hok : Y2 l3 l5 (m + 1) = (jd l3 (vJ l5 (((m + 1) : Nat) : Int)).f0 && (jd l3 (vJ l5 (((m + 1) : Nat) : Int)).f1 && (!decide ((vJ l5 (((m + 1) : Nat) : Int)).f2 = 0) && (!decide ((vJ l5 (((m + 1) : Nat) : Int)).f2 < -500) && (!decide (500 < (vJ l5 (((m + 1) : Nat) : Int)).f2) && Xt (vJ l5 (m : Int)).f0 (vJ l5 (m : Int)).f1 (vJ l5 (((m + 1) : Nat) : Int)).f0 (vJ l5 (((m + 1) : Nat) : Int)).f1))))) := by
                    unfold Y2
                    rw [decide_eq_false (by omega : ¬ m + 1 = 0), Bool.false_or, hpr]
                  have hzx : (vJ l5 (((m + 1) : Nat) : Int)) ∈ l5 := by
                    have e9 : vJ l5 (((m + 1) : Nat) : Int) = l5[(m + 1)] := by simp only [vJ, Int.toNat_natCast, List.getD_eq_getElem?_getD, List.getElem?_eq_getElem hlt, Option.getD_some]
                    rw [e9]; exact List.getElem_mem hlt
                  generalize vJ l5 (((m + 1) : Nat) : Int) = x at x0 x1 x2 hok hzx
                  generalize vJ l5 (m : Int) = p at y0 y1 y2 hok
                  have e1 : IntKind.i64.wrap (((m : Int) + 1) - 1) = (m : Int) := by rw [Int.add_sub_cancel]; exact IntWalk.i64_in _ (by omega)
                  have q1 : (m : Int) < (l5.length : Int) := by omega
                  have q2 : (m : Int) + 1 < (l5.length : Int) := by omega
                  have q3 : ((m : Int) + 1).toNat = m + 1 := by omega
                  have q4 : (0 : Int) ≤ (m : Int) + 1 := by omega
                  have e0 : IntKind.i64.wrap (m : Int) = (m : Int) := IntWalk.i64_in _ (by omega)
                  have q5 : (0 : Int) ≤ (m : Int) := by omega
                  have q7 : decide (0 < (m : Int) + 1) = true := decide_eq_true (by omega)
                  have q8 : decide ((m : Int) + 1 < (l5.length : Int)) = true := decide_eq_true q2
                  rw [hA] at hcf
                  clear hzx
                  go_wp2_with fail
                  have hbX : Below wr.heap.size wr (wr.alloc (.cells #[.string x.f0, .string x.f1, .int .i64 x.f2] 84)) := (Below.refl _ wr).alloc (Nat.le_refl _) _
                  have xu := zy.mk (Zi.out.trans (hbX.mono Zi.out.size))
                  have hbk := vY wr (.cells #[.string x.f0, .string x.f1, .int .i64 x.f2] 84)
                  have hX0 : (wr.alloc (.cells #[.string x.f0, .string x.f1, .int .i64 x.f2] 84)).cell? ⟨wr.heap.size, 0, none⟩ = some (.string x.f0) := (zk hbk 0).trans rfl
                  have hX1 : (wr.alloc (.cells #[.string x.f0, .string x.f1, .int .i64 x.f2] 84)).cell? ⟨wr.heap.size, 1, none⟩ = some (.string x.f1) := (zk hbk 1).trans rfl
                  have hX2 : (wr.alloc (.cells #[.string x.f0, .string x.f1, .int .i64 x.f2] 84)).cell? ⟨wr.heap.size, 2, none⟩ = some (.int .i64 x.f2) := (zk hbk 2).trans rfl
                  have QH : (wr.alloc (.cells #[.string x.f0, .string x.f1, .int .i64 x.f2] 84)).cell? ⟨w.heap.size, 0, none⟩ = some (.string a) := (zk (HF.out _ xu.out) 0).trans rfl
                  have hF1 : (wr.alloc (.cells #[.string x.f0, .string x.f1, .int .i64 x.f2] 84)).cell? ⟨w.heap.size, 1, none⟩ = some (.bool b) := (zk (HF.out _ xu.out) 1).trans rfl
                  have hF2 : (wr.alloc (.cells #[.string x.f0, .string x.f1, .int .i64 x.f2] 84)).cell? ⟨w.heap.size, 2, none⟩ = some (.int .i64 c) := (zk (HF.out _ xu.out) 2).trans rfl
                  have VD : (wr.alloc (.cells #[.string x.f0, .string x.f1, .int .i64 x.f2] 84)).cell? ⟨w.heap.size, 3, none⟩ = some (.slice A3 l3.length c3) := (zk (HF.out _ xu.out) 3).trans rfl
                  have Uo : (wr.alloc (.cells #[.string x.f0, .string x.f1, .int .i64 x.f2] 84)).cell? ⟨w.heap.size, 4, none⟩ = some (.slice A4 l4.length c4) := (zk (HF.out _ xu.out) 4).trans rfl
                  have Ur : (wr.alloc (.cells #[.string x.f0, .string x.f1, .int .i64 x.f2] 84)).cell? ⟨w.heap.size, 5, none⟩ = some (.slice (some ad) l5.length c5) := (zk (HF.out _ xu.out) 5).trans (by rw [hA]; rfl)
                  have nD := (hbX.cell (World.block_lt_of_cell? wr _ y0)).trans y0
                  have hP1 := (hbX.cell (World.block_lt_of_cell? wr _ y1)).trans y1
                  have hq := fun (W : World) (n : ByteArray) (h : Below (wr.alloc (.cells #[.string x.f0, .string x.f1, .int .i64 x.f2] 84)).heap.size (wr.alloc (.cells #[.string x.f0, .string x.f1, .int .i64 x.f2] 84)) W) => iL a b c A3 c3 l3 A4 c4 l4 A5 c5 l5 n W (Kd.zh H3.out ((HW.out _ xu.out).trans (h.mono (HW.out _ xu.out).size))) G3.out (Kd.zh H4.out ((HW.out _ xu.out).trans (h.mono (HW.out _ xu.out).size))) G4.out (Kd.zh H5.out ((HW.out _ xu.out).trans (h.mono (HW.out _ xu.out).size))) G5.out hl3
                  rw [hA] at hq
                  clear hbk hbX x0 x1 x2 y0 y1 y2 hC hcf
                  generalize wr.heap.size = g4 at hX0 hlA hX1 hX2 ⊢
                  generalize (wr.alloc (.cells #[.string x.f0, .string x.f1, .int .i64 x.f2] 84)) = X at xu hX0 hX1 hX2 QH hF1 hF2 VD Uo Ur nD hP1 hq ⊢
                  have HS := zy.mk (fun (W : World) (h : Below X.heap.size X W) => (show W.cell? ⟨g4, 0, none⟩ = some (.string x.f0) ∧ W.cell? ⟨g4, 1, none⟩ = some (.string x.f1) ∧ W.cell? ⟨g4, 2, none⟩ = some (.int .i64 x.f2) ∧ W.cell? ⟨w.heap.size, 0, none⟩ = some (.string a) ∧ W.cell? ⟨w.heap.size, 1, none⟩ = some (.bool b) ∧ W.cell? ⟨w.heap.size, 2, none⟩ = some (.int .i64 c) ∧ W.cell? ⟨w.heap.size, 3, none⟩ = some (.slice A3 l3.length c3) ∧ W.cell? ⟨w.heap.size, 4, none⟩ = some (.slice A4 l4.length c4) ∧ W.cell? ⟨w.heap.size, 5, none⟩ = some (.slice (some ad) l5.length c5) ∧ W.cell? (ad.add (m * 3)) = some (.string p.f0) ∧ W.cell? ⟨(ad.add (m * 3)).block, (ad.add (m * 3)).off + 1, none⟩ = some (.string p.f1) from ⟨(h.cell (World.block_lt_of_cell? X _ hX0)).trans hX0, (h.cell (World.block_lt_of_cell? X _ hX1)).trans hX1, (h.cell (World.block_lt_of_cell? X _ hX2)).trans hX2, (h.cell (World.block_lt_of_cell? X _ QH)).trans QH, (h.cell (World.block_lt_of_cell? X _ hF1)).trans hF1, (h.cell (World.block_lt_of_cell? X _ hF2)).trans hF2, (h.cell (World.block_lt_of_cell? X _ VD)).trans VD, (h.cell (World.block_lt_of_cell? X _ Uo)).trans Uo, (h.cell (World.block_lt_of_cell? X _ Ur)).trans Ur, (h.cell (World.block_lt_of_cell? X _ nD)).trans nD, (h.cell (World.block_lt_of_cell? X _ hP1)).trans hP1⟩))
                  cases r0 : jd l3 x.f0 with
                  | false =>
                    have h0 := fun (W : World) (h : Below X.heap.size X W) => hq W x.f0 h
                    simp only [r0] at h0
                    as_aux_lemma =>
                     have hv : V = false := by
                       rw [uT.out, uQ (i := (m + 1)) hlt (by rw [hok, r0]; simp)]
                       done
                     subst hv
                     refine rS (n := 53) HS rval.XZ rval.Z9 (by kernel_rfl) rfl rfl (fun w0 H0 T U h => ?_)
                     refine rP 1 (some 153) T ?_; refine rT 0 (some 152) T U h ?_; refine rT 2 (some 154) T U h ?_
                     clear h; refine rC 3 (some 155) T HS H0 Tryz.func63 (h0 _ H0.out) (fun w1 H1 h => ?_) (by kernel_rfl)
                     refine rP 4 (some 156) T ?_; refine rP 5 (some 157) T ?_; refine rU 6 (some 158) T ?_; refine rU 7 (some 159) T ?_; refine rU 8 (some 160) T ?_; refine rU 9 (some 161) T ?_; refine rU 10 (some 162) T ?_; refine rP 11 (some 163) T ?_; refine rP 12 (some 164) T ?_; refine rU 13 (some 165) T ?_; refine rU 14 (some 166) T ?_; refine rU 15 (some 167) T ?_; refine rP 16 (some 168) T ?_; refine rP 17 (some 169) T ?_; refine rU 18 (some 170) T ?_; refine rU 19 (some 171) T ?_; refine rU 20 (some 172) T ?_; refine rP 21 (some 173) T ?_; refine rP 22 (some 174) T ?_; refine rU 23 (some 175) T ?_; refine rU 24 (some 176) T ?_; refine rU 25 (some 177) T ?_; refine rP 26 (some 178) T ?_; refine rP 27 (some 179) T ?_; refine rU 28 (some 180) T ?_; refine rU 29 (some 181) T ?_; refine rU 30 (some 182) T ?_; refine rU 31 (some 183) T ?_; refine rU 32 (some 184) T ?_; refine rU 33 (some 185) T ?_; refine rU 34 (some 186) T ?_; refine rU 35 (some 187) T ?_; refine rU 36 (some 188) T ?_; refine rU 37 (some 189) T ?_; refine rU 38 (some 190) T ?_; refine rU 39 (some 191) T ?_; refine rU 40 (some 192) T ?_; refine rU 41 (some 193) T ?_; refine rU 42 (some 194) T ?_; refine rU 43 (some 195) T ?_; refine rU 44 (some 196) T ?_; refine rU 45 (some 197) T ?_; refine rU 46 (some 198) T ?_; refine rU 47 (some 199) T ?_; refine rU 48 (some 200) T ?_; refine rU 49 (some 201) T ?_; refine rU 50 (some 202) T ?_; refine rU 51 (some 203) T ?_; refine rP 52 (some 204) T ?_
                     refine vO (xH T.out (by kernel_rfl)) ?_; have jA := xu.out.trans (H1.out.mono xu.out.size); clear h; try go_wp2
                     go_ret
                     exact ⟨rfl, HW.out _ jA⟩
                  | true =>
                  have h0 := fun (W : World) (h : Below X.heap.size X W) => hq W x.f0 h
                  simp only [r0] at h0
                  cases r1 : jd l3 x.f1 with
                  | false =>
                    have h1 := fun (W : World) (h : Below X.heap.size X W) => hq W x.f1 h
                    simp only [r1] at h1
                    as_aux_lemma =>
                     have hv : V = false := by
                       rw [uT.out, uQ (i := (m + 1)) hlt (by rw [hok, r0, r1]; simp)]
                       done
                     subst hv
                     refine rS (n := 53) HS rval.XZ rval.Z9 (by kernel_rfl) rfl rfl (fun w0 H0 T U h => ?_)
                     refine rP 1 (some 153) T ?_; refine rT 0 (some 152) T U h ?_; refine rT 2 (some 154) T U h ?_
                     clear h; refine rC 3 (some 155) T HS H0 Tryz.func63 (h0 _ H0.out) (fun w1 H1 h => ?_) (by kernel_rfl)
                     refine rP 4 (some 156) T ?_; refine rP 5 (some 157) T ?_; refine rP 7 (some 159) T ?_; refine rT 6 (some 158) T U h ?_; refine rT 8 (some 160) T U h ?_
                     clear h; refine rC 9 (some 161) T HS H1 Tryz.func63 (h1 _ H1.out) (fun w2 H2 h => ?_) (by kernel_rfl)
                     refine rP 10 (some 162) T ?_; refine rP 11 (some 163) T ?_; refine rP 12 (some 164) T ?_; refine rU 13 (some 165) T ?_; refine rU 14 (some 166) T ?_; refine rU 15 (some 167) T ?_; refine rP 16 (some 168) T ?_; refine rP 17 (some 169) T ?_; refine rU 18 (some 170) T ?_; refine rU 19 (some 171) T ?_; refine rU 20 (some 172) T ?_; refine rP 21 (some 173) T ?_; refine rP 22 (some 174) T ?_; refine rU 23 (some 175) T ?_; refine rU 24 (some 176) T ?_; refine rU 25 (some 177) T ?_; refine rP 26 (some 178) T ?_; refine rP 27 (some 179) T ?_; refine rU 28 (some 180) T ?_; refine rU 29 (some 181) T ?_; refine rU 30 (some 182) T ?_; refine rU 31 (some 183) T ?_; refine rU 32 (some 184) T ?_; refine rU 33 (some 185) T ?_; refine rU 34 (some 186) T ?_; refine rU 35 (some 187) T ?_; refine rU 36 (some 188) T ?_; refine rU 37 (some 189) T ?_; refine rU 38 (some 190) T ?_; refine rU 39 (some 191) T ?_; refine rU 40 (some 192) T ?_; refine rU 41 (some 193) T ?_; refine rU 42 (some 194) T ?_; refine rU 43 (some 195) T ?_; refine rU 44 (some 196) T ?_; refine rU 45 (some 197) T ?_; refine rU 46 (some 198) T ?_; refine rU 47 (some 199) T ?_; refine rU 48 (some 200) T ?_; refine rU 49 (some 201) T ?_; refine rU 50 (some 202) T ?_; refine rU 51 (some 203) T ?_; refine rP 52 (some 204) T ?_
                     refine vO (xH T.out (by kernel_rfl)) ?_; have jA := xu.out.trans (H2.out.mono xu.out.size); clear h; try go_wp2
                     go_ret
                     exact ⟨rfl, HW.out _ jA⟩
                  | true =>
                  have h1 := fun (W : World) (h : Below X.heap.size X W) => hq W x.f1 h
                  simp only [r1] at h1
                  by_cases tz : x.f2 = 0
                  · have dz : decide (x.f2 = 0) = true := decide_eq_true tz
                    have dz2 : (x.f2 == 0) = true := beq_iff_eq.2 tz
                    as_aux_lemma =>
                     have hv : V = false := by
                       rw [uT.out, uQ (i := (m + 1)) hlt (by rw [hok, r0, r1, dz]; simp)]
                       done
                     subst hv
                     refine rS (n := 53) HS rval.XZ rval.Z9 (by kernel_rfl) rfl rfl (fun w0 H0 T U h => ?_)
                     refine rP 1 (some 153) T ?_; refine rT 0 (some 152) T U h ?_; refine rT 2 (some 154) T U h ?_
                     clear h; refine rC 3 (some 155) T HS H0 Tryz.func63 (h0 _ H0.out) (fun w1 H1 h => ?_) (by kernel_rfl)
                     refine rP 4 (some 156) T ?_; refine rP 5 (some 157) T ?_; refine rP 7 (some 159) T ?_; refine rT 6 (some 158) T U h ?_; refine rT 8 (some 160) T U h ?_
                     clear h; refine rC 9 (some 161) T HS H1 Tryz.func63 (h1 _ H1.out) (fun w2 H2 h => ?_) (by kernel_rfl)
                     refine rP 10 (some 162) T ?_; refine rP 11 (some 163) T ?_; refine rP 12 (some 164) T ?_; refine rP 13 (some 165) T ?_; refine rT 14 (some 166) T U h ?_; refine rP 15 (some 167) T ?_; refine rP 16 (some 168) T ?_; refine rP 17 (some 169) T ?_; refine rU 18 (some 170) T ?_; refine rU 19 (some 171) T ?_; refine rU 20 (some 172) T ?_; refine rP 21 (some 173) T ?_; refine rP 22 (some 174) T ?_; refine rU 23 (some 175) T ?_; refine rU 24 (some 176) T ?_; refine rU 25 (some 177) T ?_; refine rP 26 (some 178) T ?_; refine rP 27 (some 179) T ?_; refine rU 28 (some 180) T ?_; refine rU 29 (some 181) T ?_; refine rU 30 (some 182) T ?_; refine rU 31 (some 183) T ?_; refine rU 32 (some 184) T ?_; refine rU 33 (some 185) T ?_; refine rU 34 (some 186) T ?_; refine rU 35 (some 187) T ?_; refine rU 36 (some 188) T ?_; refine rU 37 (some 189) T ?_; refine rU 38 (some 190) T ?_; refine rU 39 (some 191) T ?_; refine rU 40 (some 192) T ?_; refine rU 41 (some 193) T ?_; refine rU 42 (some 194) T ?_; refine rU 43 (some 195) T ?_; refine rU 44 (some 196) T ?_; refine rU 45 (some 197) T ?_; refine rU 46 (some 198) T ?_; refine rU 47 (some 199) T ?_; refine rU 48 (some 200) T ?_; refine rU 49 (some 201) T ?_; refine rU 50 (some 202) T ?_; refine rU 51 (some 203) T ?_; refine rP 52 (some 204) T ?_
                     refine vO (xH T.out (by kernel_rfl)) ?_; have jA := xu.out.trans (H2.out.mono xu.out.size); clear h; try go_wp2
                     go_ret
                     exact ⟨rfl, HW.out _ jA⟩
                  have dz : decide (x.f2 = 0) = false := decide_eq_false tz
                  have dz2 : (x.f2 == 0) = false := beq_eq_false_iff_ne.2 tz
                  by_cases tlt : x.f2 < -500
                  · have bG : decide (x.f2 < -500) = true := decide_eq_true tlt
                    skip
                    as_aux_lemma =>
                     have hv : V = false := by
                       rw [uT.out, uQ (i := (m + 1)) hlt (by rw [hok, r0, r1, dz, bG]; simp)]
                       done
                     subst hv
                     refine rS (n := 53) HS rval.XZ rval.Z9 (by kernel_rfl) rfl rfl (fun w0 H0 T U h => ?_)
                     refine rP 1 (some 153) T ?_; refine rT 0 (some 152) T U h ?_; refine rT 2 (some 154) T U h ?_
                     clear h; refine rC 3 (some 155) T HS H0 Tryz.func63 (h0 _ H0.out) (fun w1 H1 h => ?_) (by kernel_rfl)
                     refine rP 4 (some 156) T ?_; refine rP 5 (some 157) T ?_; refine rP 7 (some 159) T ?_; refine rT 6 (some 158) T U h ?_; refine rT 8 (some 160) T U h ?_
                     clear h; refine rC 9 (some 161) T HS H1 Tryz.func63 (h1 _ H1.out) (fun w2 H2 h => ?_) (by kernel_rfl)
                     refine rP 10 (some 162) T ?_; refine rP 11 (some 163) T ?_; refine rP 12 (some 164) T ?_; refine rP 13 (some 165) T ?_; refine rT 14 (some 166) T U h ?_; refine rP 15 (some 167) T ?_; refine rP 16 (some 168) T ?_; refine rP 17 (some 169) T ?_; refine rP 18 (some 170) T ?_; refine rT 19 (some 171) T U h ?_; refine rP 20 (some 172) T ?_; refine rP 21 (some 173) T ?_; refine rP 22 (some 174) T ?_; refine rU 23 (some 175) T ?_; refine rU 24 (some 176) T ?_; refine rU 25 (some 177) T ?_; refine rP 26 (some 178) T ?_; refine rP 27 (some 179) T ?_; refine rU 28 (some 180) T ?_; refine rU 29 (some 181) T ?_; refine rU 30 (some 182) T ?_; refine rU 31 (some 183) T ?_; refine rU 32 (some 184) T ?_; refine rU 33 (some 185) T ?_; refine rU 34 (some 186) T ?_; refine rU 35 (some 187) T ?_; refine rU 36 (some 188) T ?_; refine rU 37 (some 189) T ?_; refine rU 38 (some 190) T ?_; refine rU 39 (some 191) T ?_; refine rU 40 (some 192) T ?_; refine rU 41 (some 193) T ?_; refine rU 42 (some 194) T ?_; refine rU 43 (some 195) T ?_; refine rU 44 (some 196) T ?_; refine rU 45 (some 197) T ?_; refine rU 46 (some 198) T ?_; refine rU 47 (some 199) T ?_; refine rU 48 (some 200) T ?_; refine rU 49 (some 201) T ?_; refine rU 50 (some 202) T ?_; refine rU 51 (some 203) T ?_; refine rP 52 (some 204) T ?_
                     refine vO (xH T.out (by kernel_rfl)) ?_; have jA := xu.out.trans (H2.out.mono xu.out.size); clear h; try go_wp2
                     go_ret
                     exact ⟨rfl, HW.out _ jA⟩
                  have bG : decide (x.f2 < -500) = false := decide_eq_false tlt
                  skip
                  by_cases tgt : 500 < x.f2
                  · have iQ : decide (500 < x.f2) = true := decide_eq_true tgt
                    skip
                    as_aux_lemma =>
                     have hv : V = false := by
                       rw [uT.out, uQ (i := (m + 1)) hlt (by rw [hok, r0, r1, dz, bG, iQ]; simp)]
                       done
                     subst hv
                     refine rS (n := 53) HS rval.XZ rval.Z9 (by kernel_rfl) rfl rfl (fun w0 H0 T U h => ?_)
                     refine rP 1 (some 153) T ?_; refine rT 0 (some 152) T U h ?_; refine rT 2 (some 154) T U h ?_
                     clear h; refine rC 3 (some 155) T HS H0 Tryz.func63 (h0 _ H0.out) (fun w1 H1 h => ?_) (by kernel_rfl)
                     refine rP 4 (some 156) T ?_; refine rP 5 (some 157) T ?_; refine rP 7 (some 159) T ?_; refine rT 6 (some 158) T U h ?_; refine rT 8 (some 160) T U h ?_
                     clear h; refine rC 9 (some 161) T HS H1 Tryz.func63 (h1 _ H1.out) (fun w2 H2 h => ?_) (by kernel_rfl)
                     refine rP 10 (some 162) T ?_; refine rP 11 (some 163) T ?_; refine rP 12 (some 164) T ?_; refine rP 13 (some 165) T ?_; refine rT 14 (some 166) T U h ?_; refine rP 15 (some 167) T ?_; refine rP 16 (some 168) T ?_; refine rP 17 (some 169) T ?_; refine rP 18 (some 170) T ?_; refine rT 19 (some 171) T U h ?_; refine rP 20 (some 172) T ?_; refine rP 21 (some 173) T ?_; refine rP 22 (some 174) T ?_; refine rP 23 (some 175) T ?_; refine rT 24 (some 176) T U h ?_; refine rP 25 (some 177) T ?_; refine rP 26 (some 178) T ?_; refine rP 27 (some 179) T ?_; refine rU 28 (some 180) T ?_; refine rU 29 (some 181) T ?_; refine rU 30 (some 182) T ?_; refine rU 31 (some 183) T ?_; refine rU 32 (some 184) T ?_; refine rU 33 (some 185) T ?_; refine rU 34 (some 186) T ?_; refine rU 35 (some 187) T ?_; refine rU 36 (some 188) T ?_; refine rU 37 (some 189) T ?_; refine rU 38 (some 190) T ?_; refine rU 39 (some 191) T ?_; refine rU 40 (some 192) T ?_; refine rU 41 (some 193) T ?_; refine rU 42 (some 194) T ?_; refine rU 43 (some 195) T ?_; refine rU 44 (some 196) T ?_; refine rU 45 (some 197) T ?_; refine rU 46 (some 198) T ?_; refine rU 47 (some 199) T ?_; refine rU 48 (some 200) T ?_; refine rU 49 (some 201) T ?_; refine rU 50 (some 202) T ?_; refine rU 51 (some 203) T ?_; refine rP 52 (some 204) T ?_
                     refine vO (xH T.out (by kernel_rfl)) ?_; have jA := xu.out.trans (H2.out.mono xu.out.size); clear h; try go_wp2
                     go_ret
                     exact ⟨rfl, HW.out _ jA⟩
                  have iQ : decide (500 < x.f2) = false := decide_eq_false tgt
                  skip
                  have hah := fun W => (zz9 p.f0 p.f1 x.f0 x.f1 W).mono fun e w' k => And.intro k.1 (ji k.2)
                  cases ra : Xt p.f0 p.f1 x.f0 x.f1 with
                  | false =>
                    simp only [ra] at hah
                    as_aux_lemma =>
                     have hv : V = false := by
                       rw [uT.out, uQ (i := (m + 1)) hlt (by rw [hok, r0, r1, dz, bG, iQ, ra]; simp)]
                       done
                     subst hv
                     refine rS (n := 53) HS rval.XZ rval.Z9 (by kernel_rfl) rfl rfl (fun w0 H0 T U h => ?_)
                     refine rP 1 (some 153) T ?_; refine rT 0 (some 152) T U h ?_; refine rT 2 (some 154) T U h ?_
                     clear h; refine rC 3 (some 155) T HS H0 Tryz.func63 (h0 _ H0.out) (fun w1 H1 h => ?_) (by kernel_rfl)
                     refine rP 4 (some 156) T ?_; refine rP 5 (some 157) T ?_; refine rP 7 (some 159) T ?_; refine rT 6 (some 158) T U h ?_; refine rT 8 (some 160) T U h ?_
                     clear h; refine rC 9 (some 161) T HS H1 Tryz.func63 (h1 _ H1.out) (fun w2 H2 h => ?_) (by kernel_rfl)
                     refine rP 10 (some 162) T ?_; refine rP 11 (some 163) T ?_; refine rP 12 (some 164) T ?_; refine rP 13 (some 165) T ?_; refine rT 14 (some 166) T U h ?_; refine rP 15 (some 167) T ?_; refine rP 16 (some 168) T ?_; refine rP 17 (some 169) T ?_; refine rP 18 (some 170) T ?_; refine rT 19 (some 171) T U h ?_; refine rP 20 (some 172) T ?_; refine rP 21 (some 173) T ?_; refine rP 22 (some 174) T ?_; refine rP 23 (some 175) T ?_; refine rT 24 (some 176) T U h ?_; refine rP 25 (some 177) T ?_; refine rP 26 (some 178) T ?_; refine rP 27 (some 179) T ?_; refine rP 28 (some 180) T ?_; refine rP 29 (some 181) T ?_; refine rP 30 (some 182) T ?_; refine rP 31 (some 183) T ?_; refine rP 33 (some 185) T ?_; refine rP 34 (some 186) T ?_; refine rP 38 (some 190) T ?_; refine rP 40 (some 192) T ?_; refine rP 41 (some 193) T ?_; refine rP 45 (some 197) T ?_; refine rP 47 (some 199) T ?_; refine rT 32 (some 184) T U h ?_; refine rP 35 (some 187) T ?_; refine rP 36 (some 188) T ?_; refine rT 37 (some 189) T U h ?_; refine rT 39 (some 191) T U h ?_; refine rP 42 (some 194) T ?_; refine rP 43 (some 195) T ?_; refine rT 44 (some 196) T U h ?_; refine rT 46 (some 198) T U h ?_; refine rT 48 (some 200) T U h ?_
                     clear h; refine rC 49 (some 201) T HS H2 Tryz.func106 (hah _) (fun w3 H3 h => ?_) (by kernel_rfl)
                     refine rP 50 (some 202) T ?_; refine rP 51 (some 203) T ?_; refine rP 52 (some 204) T ?_
                     refine vO (xH T.out (by kernel_rfl)) ?_; have jA := xu.out.trans (H3.out.mono xu.out.size); clear h; try go_wp2
                     go_ret
                     exact ⟨rfl, HW.out _ jA⟩
                  | true =>
                  simp only [ra] at hah
                  as_aux_lemma =>
                  have hok2 : Y2 l3 l5 (m + 1) = true := by rw [hok, r0, r1, dz, bG, iQ, ra]; rfl
                  refine rS (n := 53) HS rval.XZ rval.Z9 (by kernel_rfl) rfl rfl (fun w0 H0 T U h => ?_)
                  refine rP 1 (some 153) T ?_; refine rT 0 (some 152) T U h ?_; refine rT 2 (some 154) T U h ?_
                  clear h; refine rC 3 (some 155) T HS H0 Tryz.func63 (h0 _ H0.out) (fun w1 H1 h => ?_) (by kernel_rfl)
                  refine rP 4 (some 156) T ?_; refine rP 5 (some 157) T ?_; refine rP 7 (some 159) T ?_; refine rT 6 (some 158) T U h ?_; refine rT 8 (some 160) T U h ?_
                  clear h; refine rC 9 (some 161) T HS H1 Tryz.func63 (h1 _ H1.out) (fun w2 H2 h => ?_) (by kernel_rfl)
                  refine rP 10 (some 162) T ?_; refine rP 11 (some 163) T ?_; refine rP 12 (some 164) T ?_; refine rP 13 (some 165) T ?_; refine rT 14 (some 166) T U h ?_; refine rP 15 (some 167) T ?_; refine rP 16 (some 168) T ?_; refine rP 17 (some 169) T ?_; refine rP 18 (some 170) T ?_; refine rT 19 (some 171) T U h ?_; refine rP 20 (some 172) T ?_; refine rP 21 (some 173) T ?_; refine rP 22 (some 174) T ?_; refine rP 23 (some 175) T ?_; refine rT 24 (some 176) T U h ?_; refine rP 25 (some 177) T ?_; refine rP 26 (some 178) T ?_; refine rP 27 (some 179) T ?_; refine rP 28 (some 180) T ?_; refine rP 29 (some 181) T ?_; refine rP 30 (some 182) T ?_; refine rP 31 (some 183) T ?_; refine rP 33 (some 185) T ?_; refine rP 34 (some 186) T ?_; refine rP 38 (some 190) T ?_; refine rP 40 (some 192) T ?_; refine rP 41 (some 193) T ?_; refine rP 45 (some 197) T ?_; refine rP 47 (some 199) T ?_; refine rT 32 (some 184) T U h ?_; refine rP 35 (some 187) T ?_; refine rP 36 (some 188) T ?_; refine rT 37 (some 189) T U h ?_; refine rT 39 (some 191) T U h ?_; refine rP 42 (some 194) T ?_; refine rP 43 (some 195) T ?_; refine rT 44 (some 196) T U h ?_; refine rT 46 (some 198) T U h ?_; refine rT 48 (some 200) T U h ?_
                  clear h; refine rC 49 (some 201) T HS H2 Tryz.func106 (hah _) (fun w3 H3 h => ?_) (by kernel_rfl)
                  refine rP 50 (some 202) T ?_; refine rP 51 (some 203) T ?_; refine rP 52 (some 204) T ?_
                  refine vO (xH T.out (by kernel_rfl)) ?_; have jA := xu.out.trans (H3.out.mono xu.out.size); clear h; try go_wp2
                  go_roundw
                  case rel => exact ⟨m + 1 + 1, by first | rfl | (simp; done) | go_num, by omega, ⟨jA⟩, ⟨fun j hj => (Nat.lt_succ_iff_lt_or_eq.1 hj).elim (HK5.out j) (fun e => by rw [e]; exact hok2)⟩⟩
                  case measure => simp [intOf]; omega
              · obtain rfl : i = l5.length := by omega
                have q2 : decide ((l5.length : Int) < (l5.length : Int)) = false := decide_eq_false (by omega)
                have q1 : ¬ (l5.length : Int) < (l5.length : Int) := by omega
                have uT : zy (V = true) := ⟨by rw [uT.out, dO HK5.out]⟩
                go_wp2
                go_ret
                exact ⟨by rw [uT.out]; rfl, HW.out _ Zi.out⟩
end Go.Proofs.YtaifemkokfoadaaGreatDoor
namespace Go.Proofs.YtaifemkokfoadaaGreatDoor.PX
open Go.RowKit Go.Proofs.zx.zK Go.Proofs.zx.zU Go.Proofs.zx.zN
attribute [local go_sem] qF qG xC xD qY qW qH qI   -- for this text's walks alone
set_option linter.unusedVariables false
set_option linter.unusedSimpArgs false
end Go.Proofs.YtaifemkokfoadaaGreatDoor.PX
namespace Go.Proofs.YtaifemkokfoadaaGreatDoor.PX
open Go.RowKit Go.Proofs.zx.zK Go.Proofs.zx.zU Go.Proofs.zx.zN
attribute [local go_sem] qF qG xC xD qY qW qH qI   -- for this text's walks alone
set_option linter.unusedVariables false
set_option linter.unusedSimpArgs false
end Go.Proofs.YtaifemkokfoadaaGreatDoor.PX
namespace Go.Proofs.YtaifemkokfoadaaGreatDoor.PX
open Go.RowKit Go.Proofs.zx.zK Go.Proofs.zx.zU Go.Proofs.zx.zN
attribute [local go_sem] qF qG xC xD qY qW qH qI   -- for this text's walks alone
set_option linter.unusedVariables false
set_option linter.unusedSimpArgs false
end Go.Proofs.YtaifemkokfoadaaGreatDoor.PX
namespace Go.Proofs.YtaifemkokfoadaaGreatDoor.PX
open Go.RowKit Go.Proofs.zx.zK Go.Proofs.zx.zU Go.Proofs.zx.zN
attribute [local go_sem] qF qG xC xD qY qW qH qI   -- for this text's walks alone
set_option linter.unusedVariables false
set_option linter.unusedSimpArgs false
end Go.Proofs.YtaifemkokfoadaaGreatDoor.PX
namespace Go.Proofs.YtaifemkokfoadaaGreatDoor.PX
open Go.RowKit Go.Proofs.zx.zK Go.Proofs.zx.zU Go.Proofs.zx.zN
attribute [local go_sem] qF qG xC xD qY qW qH qI   -- for this text's walks alone
set_option linter.unusedVariables false
set_option linter.unusedSimpArgs false
end Go.Proofs.YtaifemkokfoadaaGreatDoor.PX
namespace Go.Proofs.YtaifemkokfoadaaGreatDoor.PX
open Go.RowKit Go.Proofs.zx.zK Go.Proofs.zx.zU Go.Proofs.zx.zN
attribute [local go_sem] qF qG xC xD qY qW qH qI   -- for this text's walks alone
set_option linter.unusedVariables false
set_option linter.unusedSimpArgs false
end Go.Proofs.YtaifemkokfoadaaGreatDoor.PX
namespace Go.Proofs.YtaifemkokfoadaaGreatDoor.PX
open Go.RowKit Go.Proofs.zx.zK Go.Proofs.zx.zU Go.Proofs.zx.zN
attribute [local go_sem] qF qG xC xD qY qW qH qI   -- for this text's walks alone
set_option linter.unusedVariables false
set_option linter.unusedSimpArgs false
end Go.Proofs.YtaifemkokfoadaaGreatDoor.PX
namespace Go.Proofs.YtaifemkokfoadaaGreatDoor
open Go.RowKit Go.Proofs.zx.zK Go.Proofs.zx.zN Go.Proofs.YtaifemkokfoadaaGreatDoor.PX
set_option linter.unusedSimpArgs false
set_option linter.unusedVariables false
theorem nE {a : ByteArray} {c : Int} {l3 : List qw} {l4 : List qh} {l5 : List xq} (h : uw a c l3 l4 l5 = true) : (0 ≤ c ∧ c ≤ 3000) ∧ ∀ x ∈ l5, -500 ≤ x.f2 ∧ x.f2 ≤ 500 := by
 unfold uw at h
 split at h
 ·cases h
 ·rename_i q1
  split at h
  ·cases h
  ·split at h
   ·cases h
   ·simp only [Bool.or_eq_true, not_or, decide_eq_true_eq, ZP] at q1
    rw [Bool.and_eq_true] at h
    refine ⟨by omega, fun x hx => ?_⟩
    have h2 : l5.any (Yu l3) = false := by simpa using h.1
    have h1 := List.any_eq_false.1 h2 x hx
    unfold Yu at h1
    simp only [Bool.or_eq_true, not_or, decide_eq_true_eq] at h1
    omega
end Go.Proofs.YtaifemkokfoadaaGreatDoor
namespace Go.Proofs.YtaifemkokfoadaaGreatDoor
open Go.RowKit Go.Proofs.zx.zK Go.Proofs.zx.zU Go.Proofs.zx.zN Go.Proofs.YtaifemkokfoadaaGreatDoor.PX
set_option linter.unusedSimpArgs false
set_option linter.unusedVariables false
end Go.Proofs.YtaifemkokfoadaaGreatDoor
namespace Go.Proofs.YtaifemkokfoadaaGreatDoor
open Go.RowKit Go.Proofs.zx.zK Go.Proofs.zx.zU Go.Proofs.zx.zN Go.Proofs.YtaifemkokfoadaaGreatDoor.PX
set_option linter.unusedSimpArgs false
set_option linter.unusedVariables false
end Go.Proofs.YtaifemkokfoadaaGreatDoor
namespace Go.Proofs.YtaifemkokfoadaaGreatDoor
open Go.RowKit Go.Proofs.zx.zK Go.Proofs.zx.zU Go.Proofs.zx.zN Go.Proofs.YtaifemkokfoadaaGreatDoor.PX
set_option linter.unusedSimpArgs false
set_option linter.unusedVariables false
def ko (x : qJ) : List UInt8 := [103, 32] ++ x.f0.data.toList ++ [32] ++ Lib.itoa x.f1 ++ [10]
def wP (x : xK) : List UInt8 := [108, 32] ++ x.f0.data.toList ++ [32] ++ x.f1.data.toList ++ [32] ++ x.f2.data.toList ++ [10]
def Yz (x : xY) : List UInt8 := [107, 32] ++ x.f0.data.toList ++ [32] ++ x.f1.data.toList ++ [32] ++ Lib.itoa x.f2 ++ [10]
def Yq (a : ByteArray) (b : Bool) (c : Int) (l3 : List qJ) (l4 : List xK) (l5 : List xY) : List UInt8 := ((uZ a b c ++ qD ko l3 l3.length) ++ qD wP l4 l4.length) ++ qD Yz l5 l5.length
theorem zzh (n : Int) (h0 : 0 ≤ n) (h1 : n ≤ 9223372036854775807) (W : World) : Calls Tryz.prog 113 #[.int .i64 n] W fun e w' => e = .returned (.string (bar (Lib.itoa n))) ∧ Below W.heap.size W w' := by
 obtain ⟨k, hk⟩ := (eP n.toNat (by omega)).rounds
 have e : ((n.toNat : Nat) : Int) = n := by omega
 have hk : qc.f k n = some (bar (Lib.itoa n)) := by rw [← e]; rw [show Lib.itoa ((n.toNat : Nat) : Int) = Lib.decDigits n.toNat from by unfold Lib.itoa; rw [if_neg (by omega), e]]; exact hk
 exact qc.calls k n _ W hk
theorem zk2 (n : Int) (h0 : -9223372036854775808 ≤ n) (h1 : n ≤ 9223372036854775807) (W : World) : Calls Tryz.prog 114 #[.int .i64 n] W fun e w' => e = .returned (.string (bar (Lib.itoa n))) ∧ Below W.heap.size W w' := by
 obtain ⟨k, hk⟩ := (WE n h0 h1).rounds
 exact qm.calls k n _ W hk
theorem zzG (a : ByteArray) (c : Int) (l3 : List qJ) (l4 : List xK) (l5 : List xY) (h : pG a c l3 l4 l5 = true) : (0 ≤ c ∧ c ≤ 3000) ∧ (∀ (i : Nat) (hi : i < l3.length), 0 ≤ l3[i].f1 ∧ l3[i].f1 ≤ 3000) ∧ (∀ (i : Nat) (hi : i < l5.length), -500 ≤ l5[i].f2 ∧ l5[i].f2 ≤ 500) := by
 unfold pG at h
 simp only [Bool.and_eq_true, Bool.not_eq_true'] at h
 refine ⟨?_, fun i hi => ?_, fun i hi => ?_⟩
 ·have := h.1.2.1
  unfold ku at this
  simp only [Bool.or_eq_false_iff, decide_eq_false_iff_not] at this
  omega
 ·have h1 := List.all_eq_true.1 h.2.1 i (List.mem_range.2 hi)
  have e : zS l3 (i : Int) = l3[i] := by simp [zS, List.getD_eq_getElem?_getD, hi]
  unfold Xi ku at h1
  rw [e] at h1
  simp only [Bool.and_eq_true, Bool.not_eq_true', Bool.or_eq_false_iff, decide_eq_false_iff_not] at h1
  omega
 ·have h1 := List.all_eq_true.1 h.2.2.2 i (List.mem_range.2 hi)
  have e : vJ l5 (i : Int) = l5[i] := by simp [vJ, List.getD_eq_getElem?_getD, hi]
  unfold Y2 at h1
  rw [e] at h1
  simp only [Bool.and_eq_true, Bool.not_eq_true', decide_eq_false_iff_not] at h1
  omega
theorem zjq {s : ByteArray} {l : List UInt8} (h : s.data.toList = l) : s.size = l.length := by rw [← h, Array.length_toList]; rfl
set_option maxRecDepth 100000 in
theorem zjx (a : ByteArray) (b : Bool) (c : Int) (A3 : Option Addr) (c3 : Nat) (l3 : List qJ) (A4 : Option Addr) (c4 : Nat) (l4 : List xK) (A5 : Option Addr) (c5 : Nat) (l5 : List xY) (w : World) (h3 : Kd.C jC w A3 l3.length l3) (g3 : l3.length ≤ c3) (h4 : Kd.C kR w A4 l4.length l4) (g4 : l4.length ≤ c4) (h5 : Kd.C kE w A5 l5.length l5) (g5 : l5.length ≤ c5) (hl3 : l3.length ≤ 1000000000) (hl4 : l4.length ≤ 1000000000) (hl5 : l5.length ≤ 1000000000) (ha : a.size ≤ 140737488355328) (hz : ∀ x ∈ l3, x.f0.size ≤ 140737488355328) (hv : pG a c l3 l4 l5 = false) :
  Calls Tryz.prog 75 #[.agg #[.string a, .bool b, .int .i64 c, .slice A3 l3.length c3, .slice A4 l4.length c4, .slice A5 l5.length c5]] w fun e w' => e = .returned (.tuple #[.string (⟨#[]⟩ : ByteArray), .int .i64 1]) ∧ Below w.heap.size w w' := by
 have hbx : Below w.heap.size w (w.alloc (.cells #[.string a, .bool b, .int .i64 c, .slice A3 l3.length c3, .slice A4 l4.length c4, .slice A5 l5.length c5] 44)) := (Below.refl _ w).alloc (Nat.le_refl _) _
 have hval := nC a b c A3 c3 l3 A4 c4 l4 A5 c5 l5 (w.alloc (.cells #[.string a, .bool b, .int .i64 c, .slice A3 l3.length c3, .slice A4 l4.length c4, .slice A5 l5.length c5] 44)) (Kd.zh h3 hbx) g3 (Kd.zh h4 hbx) g4 (Kd.zh h5 hbx) g5 hl3 hl4 hl5 ha hz
 rw [hv] at hval
 clear h3 h4 h5 hz
 go_enter Tryz.func75, Tryz.ntmps75
 go_wp2_with fail
 refine hval.mono ?_; rintro e w1 ⟨rfl, hb1⟩
 go_wp2
 go_ret2
 exact ⟨rfl, hbx.trans (hb1.mono hbx.size)⟩
set_option maxRecDepth 100000 in
set_option maxHeartbeats 8000000 in
theorem zvu (a : ByteArray) (b : Bool) (c : Int) (A3 : Option Addr) (c3 : Nat) (l3 : List qJ) (A4 : Option Addr) (c4 : Nat) (l4 : List xK) (A5 : Option Addr) (c5 : Nat) (l5 : List xY) (w : World) (h3 : Kd.C jC w A3 l3.length l3) (g3 : l3.length ≤ c3) (h4 : Kd.C kR w A4 l4.length l4) (g4 : l4.length ≤ c4) (h5 : Kd.C kE w A5 l5.length l5) (g5 : l5.length ≤ c5) (hl3 : l3.length ≤ 1000000000) (hl4 : l4.length ≤ 1000000000) (hl5 : l5.length ≤ 1000000000) (ha : a.size ≤ 140737488355328) (hz : ∀ x ∈ l3, x.f0.size ≤ 140737488355328) (hv : pG a c l3 l4 l5 = true) (hlen : (Yq a b c l3 l4 l5).length ≤ 1000000000) :
  Calls Tryz.prog 75 #[.agg #[.string a, .bool b, .int .i64 c, .slice A3 l3.length c3, .slice A4 l4.length c4, .slice A5 l5.length c5]] w fun e w' => e = .returned (.tuple #[.string (bar (Yq a b c l3 l4 l5)), .int .i64 0]) ∧ Below w.heap.size w w' := by
 have hbx : Below w.heap.size w (w.alloc (.cells #[.string a, .bool b, .int .i64 c, .slice A3 l3.length c3, .slice A4 l4.length c4, .slice A5 l5.length c5] 44)) := (Below.refl _ w).alloc (Nat.le_refl _) _
 have hval := nC a b c A3 c3 l3 A4 c4 l4 A5 c5 l5 (w.alloc (.cells #[.string a, .bool b, .int .i64 c, .slice A3 l3.length c3, .slice A4 l4.length c4, .slice A5 l5.length c5] 44)) (Kd.zh h3 hbx) g3 (Kd.zh h4 hbx) g4 (Kd.zh h5 hbx) g5 hl3 hl4 hl5 ha hz
 rw [hv] at hval
 obtain ⟨nc, n3, n5⟩ := zzG a c l3 l4 l5 hv
 have hT : (uZ a b c).length + (qD ko l3 l3.length).length + (qD wP l4 l4.length).length + (qD Yz l5 l5.length).length ≤ 1000000000 := by
  have := hlen
  unfold Yq at this
  simp only [List.length_append] at this
  omega
 have hT2 : (wm a b).length + (uq (Zv c)).length = (uZ a b c).length := by unfold uZ; rw [List.length_append]
 have hT1 : (Zu a).length ≤ (wm a b).length := by unfold wm; rw [List.length_append]; omega
 have hT3 : (Zu a).length = 5 + a.size := by unfold Zu; rw [List.length_append]; rfl
 have hT4 : b = true → (Zu a).length + 8 = (wm a b).length := by intro h; unfold wm; rw [List.length_append, if_pos h]; rfl
 have hT5 : (uq (Zv c)).length = 7 + (Lib.itoa c).length + 1 := by simp [uq, Zv, Zj]; omega
 generalize hwv : Yq a b c l3 l4 l5 = V
 have HV := zy.mk hwv
 clear hwv hlen hv hz
 go_enter Tryz.func75, Tryz.ntmps75
 go_wp2_with fail
 refine hval.mono ?_; rintro e w1 ⟨rfl, hb1⟩
 have hbw : Below w.heap.size w w1 := hbx.trans (hb1.mono hbx.size)
 have BX : w1.heap[w.heap.size]? = some (.cells #[.string a, .bool b, .int .i64 c, .slice A3 l3.length c3, .slice A4 l4.length c4, .slice A5 l5.length c5] 44 (0, 0)) := zf (vY w _) hb1
 have k3 := zy.mk (Kd.zh h3 hbw)
 have k4 := zy.mk (Kd.zh h4 hbw)
 have k5 := zy.mk (Kd.zh h5 hbw)
 have HF := zy.mk (fun (W : World) (h : Below w1.heap.size w1 W) => zf BX h)
 have HT := zy.mk (And.intro hT (And.intro hT2 (And.intro hT1 (And.intro hT3 (And.intro hT4 hT5)))))
 have q0 : w1.cell? ⟨w.heap.size, 0, none⟩ = some (.string a) := (zk BX 0).trans rfl
 have q1 : w1.cell? ⟨w.heap.size, 1, none⟩ = some (.bool b) := (zk BX 1).trans rfl
 have q2 : w1.cell? ⟨w.heap.size, 2, none⟩ = some (.int .i64 c) := (zk BX 2).trans rfl
 have z0 : (9223372036854775807 < 5 + a.size) = False := eq_false (by omega)
 have z1 : (9223372036854775807 < 5 + a.size + 8) = False := eq_false (by omega)
 have hdig := zzh c nc.1 (by omega) w1
 have KT : (bar (Lib.itoa c)).data.toList = Lib.itoa c := wz _
 have iX : (bar (Lib.itoa c)).size ≤ 1000000000 := by rw [vC]; omega
 generalize bar (Lib.itoa c) = D at hdig KT iX
 have z2 : (9223372036854775807 < 7 + D.size) = False := eq_false (by omega)
 have z3 : (9223372036854775807 < 7 + D.size + 1) = False := eq_false (by omega)
 have z4 : (9223372036854775807 < 5 + a.size + (7 + D.size + 1)) = False := eq_false (by omega)
 have z5 : (9223372036854775807 < 5 + a.size + 8 + (7 + D.size + 1)) = False := eq_false (by omega)
 clear hval hb1 hbx h3 h4 h5 BX hT hT1 hT2 hT3 hT4 hT5
 cases hbv : b
 case' true =>
  rw [hbv] at q1
  go_wp2_with fail
  refine hdig.mono ?_; rintro e w2 ⟨rfl, hb2⟩
  have hs : ((((⟨#[102, 111, 110, 116, 32]⟩ : ByteArray) ++ a) ++ (⟨#[32, 115, 112, 101, 99, 105, 97, 108]⟩ : ByteArray)) ++ (((⟨#[10, 115, 112, 97, 99, 101, 32]⟩ : ByteArray) ++ D) ++ (⟨#[10]⟩ : ByteArray))).data.toList = uZ a b c ++ qD ko l3 0 := by
   rw [Ye, List.append_nil]
   unfold uZ wm Zu
   rw [if_pos hbv]
   simp only [Yf, KT, uq, Zv, Zj, List.map_cons, List.map_nil, List.flatten_cons, List.flatten_nil, List.append_nil]
   simp
  go_wp2_with fail
  generalize ((((⟨#[102, 111, 110, 116, 32]⟩ : ByteArray) ++ a) ++ (⟨#[32, 115, 112, 101, 99, 105, 97, 108]⟩ : ByteArray)) ++ (((⟨#[10, 115, 112, 97, 99, 101, 32]⟩ : ByteArray) ++ D) ++ (⟨#[10]⟩ : ByteArray))) = s at hs ⊢
 case' false =>
  rw [hbv] at q1
  go_wp2_with fail
  refine hdig.mono ?_; rintro e w2 ⟨rfl, hb2⟩
  have hs : (((⟨#[102, 111, 110, 116, 32]⟩ : ByteArray) ++ a) ++ (((⟨#[10, 115, 112, 97, 99, 101, 32]⟩ : ByteArray) ++ D) ++ (⟨#[10]⟩ : ByteArray))).data.toList = uZ a b c ++ qD ko l3 0 := by
   rw [Ye, List.append_nil]
   unfold uZ wm Zu
   rw [if_neg (by rw [hbv]; simp)]
   simp only [Yf, KT, uq, Zv, Zj, List.map_cons, List.map_nil, List.flatten_cons, List.flatten_nil, List.append_nil]
   simp
  go_wp2_with fail
  generalize (((⟨#[102, 111, 110, 116, 32]⟩ : ByteArray) ++ a) ++ (((⟨#[10, 115, 112, 97, 99, 101, 32]⟩ : ByteArray) ++ D) ++ (⟨#[10]⟩ : ByteArray))) = s at hs ⊢
 all_goals
  clear q0 q1 q2 z0 z1 z2 z3 z4 z5 hdig KT iX
  have HB0 := zy.mk hb2
  have HS0 := zy.mk hs
  clear hb2 hs
  go_loopw [4, 5] (fun y4 y W => ∃ (k : Nat) (s : ByteArray), y4 = .string s ∧ y = .int .i64 (k : Int) ∧ k ≤ l3.length ∧ zy (s.data.toList = uZ a b c ++ qD ko l3 k) ∧ zy (Below w1.heap.size w1 W)) (fun _ y _ => l3.length - (intOf y).toNat)
  case atStart => exact ⟨0, s, rfl, rfl, Nat.zero_le _, HS0, HB0⟩
  case round =>
   clear HS0 HB0
   obtain ⟨k, s, rfl, rfl, hk, HS3, HB3⟩ := hrel
   have hcf : wr.cell? ⟨w.heap.size, 3, none⟩ = some (.slice A3 l3.length c3) := (zk (HF.out wr HB3.out) 3).trans rfl
   by_cases hlt : k < l3.length
   ·have hx := List.getElem?_eq_getElem hlt
    obtain ⟨ad, e, x0, x1⟩ := YL (Kd.zh k3.out HB3.out) (k : Int) (by omega) (by omega)
    cases e
    have e : zS l3 (k : Int) = l3[k] := by simp [zS, List.getD_eq_getElem?_getD, hlt]
    rw [Int.toNat_natCast, e] at x0 x1
    clear e
    have Yt := n3 k hlt
    generalize l3[k] = x at hx Yt x0 x1
    have HS := zy.mk (Xw ko l3 k x hx)
    have hle := VX ko l3 (k + 1)
    rw [HS.out, List.length_append] at hle
    have hss := zjq HS3.out
    have hL : s.size + (ko x).length ≤ 1000000000 := by obtain ⟨p1, p2, p3, p4, p5, p6⟩ := HT.out; rw [hss]; simp only [List.length_append] at hle ⊢; omega
    have hE : (ko x).length = 2 + x.f0.size + 1 + (Lib.itoa x.f1).length + 1 := by
     unfold ko
     simp only [List.length_append, List.length_cons, List.length_nil, Array.length_toList]
     rfl
    have hcl := fun W => zzh x.f1 (by omega) (by omega) W
    have KT : (bar (Lib.itoa x.f1)).data.toList = Lib.itoa x.f1 := wz _
    have iX : (bar (Lib.itoa x.f1)).size = (Lib.itoa x.f1).length := vC _
    generalize bar (Lib.itoa x.f1) = D at hcl KT iX
    have z0 : (9223372036854775807 < 2 + x.f0.size) = False := eq_false (by omega)
    have z1 : (9223372036854775807 < 2 + x.f0.size + 1) = False := eq_false (by omega)
    have z2 : (9223372036854775807 < 2 + x.f0.size + 1 + D.size) = False := eq_false (by omega)
    have z3 : (9223372036854775807 < 2 + x.f0.size + 1 + D.size + 1) = False := eq_false (by omega)
    have z9 : (9223372036854775807 < s.size + (2 + x.f0.size + 1 + D.size + 1)) = False := eq_false (by omega)
    have hnew : zy ((s ++ (((((⟨#[103, 32]⟩ : ByteArray) ++ x.f0) ++ (⟨#[32]⟩ : ByteArray)) ++ D) ++ (⟨#[10]⟩ : ByteArray))).data.toList = uZ a b c ++ qD ko l3 (k + 1)) := ⟨by
     rw [HS.out, Yf, HS3.out]
     unfold ko
     simp only [Yf, KT, List.append_assoc]⟩
    have q1 : (k : Int) < (l3.length : Int) := by omega
    have q0 : (0 : Int) ≤ (k : Int) := by omega
    have q3 : ((k : Int)).toNat = k := Int.toNat_natCast k
    have q2 : decide ((k : Int) < (l3.length : Int)) = true := decide_eq_true q1
    clear hle hL hE hss KT iX
    go_wp2_with fail
    have HSx := zy.mk (fun (W : World) (h : Below wr.heap.size wr W) => (show W.cell? ⟨w.heap.size, 3, none⟩ = some (.slice (some ad) l3.length c3) ∧ W.cell? (ad.add (k * 2)) = some (.string x.f0) ∧ W.cell? ⟨(ad.add (k * 2)).block, (ad.add (k * 2)).off + 1, none⟩ = some (.int .i64 x.f1) from ⟨(h.cell (World.block_lt_of_cell? wr _ hcf)).trans hcf, (h.cell (World.block_lt_of_cell? wr _ x0)).trans x0, (h.cell (World.block_lt_of_cell? wr _ x1)).trans x1⟩))
    go_region_held3 (fun W => W.cell? ⟨w.heap.size, 3, none⟩ = some (.slice (some ad) l3.length c3) ∧ W.cell? (ad.add (k * 2)) = some (.string x.f0) ∧ W.cell? ⟨(ad.add (k * 2)).block, (ad.add (k * 2)).off + 1, none⟩ = some (.int .i64 x.f1)) (first | exact HSx.out _ HA1.out | exact HSx.out _ (Below.refl _ _).drew) (first | (go_at_call 113; refine (hcl _).mono ?_; rintro e wA ⟨rfl, hA0⟩; have HA1 : zy (Below wr.heap.size wr wA) := ⟨((Below.refl _ _).drew).trans (hA0.mono (Nat.le_refl _))⟩; clear hA0))
    have HB9 : zy (Below w1.heap.size w1 wA) := ⟨HB3.out.trans (HA1.out.mono HB3.out.size)⟩
    go_wp2
    go_roundw
    case rel => exact ⟨k + 1, _, rfl, by first | rfl | (simp; done) | go_num, by omega, hnew, HB9⟩
    case measure => simp [intOf]; omega
   ·obtain rfl : k = l3.length := by omega
    have q2 : decide ((l3.length : Int) < (l3.length : Int)) = false := decide_eq_false (by omega)
    have q1 : ¬ (l3.length : Int) < (l3.length : Int) := by omega
    have HN : zy (s.data.toList = (uZ a b c ++ qD ko l3 l3.length) ++ qD wP l4 0) := ⟨by rw [Ye, List.append_nil]; exact HS3.out⟩
    clear HS3
    go_wp2
    go_loopw [4, 6] (fun y4 y W => ∃ (k : Nat) (s : ByteArray), y4 = .string s ∧ y = .int .i64 (k : Int) ∧ k ≤ l4.length ∧ zy (s.data.toList = (uZ a b c ++ qD ko l3 l3.length) ++ qD wP l4 k) ∧ zy (Below w1.heap.size w1 W)) (fun _ y _ => l4.length - (intOf y).toNat)
    case atStart => exact ⟨0, s, rfl, rfl, Nat.zero_le _, HN, HB3⟩
    case round =>
     clear HN HB3
     obtain ⟨k, s, rfl, rfl, hk, HS4, kI⟩ := hrel
     have hcf : wr.cell? ⟨w.heap.size, 4, none⟩ = some (.slice A4 l4.length c4) := (zk (HF.out wr kI.out) 4).trans rfl
     by_cases hlt : k < l4.length
     ·have hx := List.getElem?_eq_getElem hlt
      obtain ⟨ad, e, x0, x1, x2⟩ := Ji (Kd.zh k4.out kI.out) (k : Int) (by omega) (by omega)
      cases e
      have e : vP l4 (k : Int) = l4[k] := by simp [vP, List.getD_eq_getElem?_getD, hlt]
      rw [Int.toNat_natCast, e] at x0 x1 x2
      clear e
      skip
      generalize l4[k] = x at hx  x0 x1 x2
      have HS := zy.mk (Xw wP l4 k x hx)
      have hle := VX wP l4 (k + 1)
      rw [HS.out, List.length_append] at hle
      have hss := zjq HS4.out
      have hL : s.size + (wP x).length ≤ 1000000000 := by obtain ⟨p1, p2, p3, p4, p5, p6⟩ := HT.out; rw [hss]; simp only [List.length_append] at hle ⊢; omega
      have hE : (wP x).length = 2 + x.f0.size + 1 + x.f1.size + 1 + x.f2.size + 1 := by
       unfold wP
       simp only [List.length_append, List.length_cons, List.length_nil, Array.length_toList]
       rfl
      have z0 : (9223372036854775807 < 2 + x.f0.size) = False := eq_false (by omega)
      have z1 : (9223372036854775807 < 2 + x.f0.size + 1) = False := eq_false (by omega)
      have z2 : (9223372036854775807 < 2 + x.f0.size + 1 + x.f1.size) = False := eq_false (by omega)
      have z3 : (9223372036854775807 < 2 + x.f0.size + 1 + x.f1.size + 1) = False := eq_false (by omega)
      have z4 : (9223372036854775807 < 2 + x.f0.size + 1 + x.f1.size + 1 + x.f2.size) = False := eq_false (by omega)
      have z5 : (9223372036854775807 < 2 + x.f0.size + 1 + x.f1.size + 1 + x.f2.size + 1) = False := eq_false (by omega)
      have z9 : (9223372036854775807 < s.size + (2 + x.f0.size + 1 + x.f1.size + 1 + x.f2.size + 1)) = False := eq_false (by omega)
      have hnew : zy ((s ++ (((((((⟨#[108, 32]⟩ : ByteArray) ++ x.f0) ++ (⟨#[32]⟩ : ByteArray)) ++ x.f1) ++ (⟨#[32]⟩ : ByteArray)) ++ x.f2) ++ (⟨#[10]⟩ : ByteArray))).data.toList = (uZ a b c ++ qD ko l3 l3.length) ++ qD wP l4 (k + 1)) := ⟨by
       rw [HS.out, Yf, HS4.out]
       unfold wP
       simp only [Yf, List.append_assoc]⟩
      have q1 : (k : Int) < (l4.length : Int) := by omega
      have q0 : (0 : Int) ≤ (k : Int) := by omega
      have q3 : ((k : Int)).toNat = k := Int.toNat_natCast k
      have q2 : decide ((k : Int) < (l4.length : Int)) = true := decide_eq_true q1
      clear hle hL hE hss
      go_wp2_with fail
      go_quiet (fail)
      have HB9 := zy.mk (zM kI.out nq)
      go_wp2
      go_roundw
      case rel => exact ⟨k + 1, _, rfl, by first | rfl | (simp; done) | go_num, by omega, hnew, HB9⟩
      case measure => simp [intOf]; omega
     ·obtain rfl : k = l4.length := by omega
      have q2 : decide ((l4.length : Int) < (l4.length : Int)) = false := decide_eq_false (by omega)
      have q1 : ¬ (l4.length : Int) < (l4.length : Int) := by omega
      have HN : zy (s.data.toList = ((uZ a b c ++ qD ko l3 l3.length) ++ qD wP l4 l4.length) ++ qD Yz l5 0) := ⟨by rw [Ye, List.append_nil]; exact HS4.out⟩
      clear HS4
      go_wp2
      go_loopw [4, 7] (fun y4 y W => ∃ (k : Nat) (s : ByteArray), y4 = .string s ∧ y = .int .i64 (k : Int) ∧ k ≤ l5.length ∧ zy (s.data.toList = ((uZ a b c ++ qD ko l3 l3.length) ++ qD wP l4 l4.length) ++ qD Yz l5 k) ∧ zy (Below w1.heap.size w1 W)) (fun _ y _ => l5.length - (intOf y).toNat)
      case atStart => exact ⟨0, s, rfl, rfl, Nat.zero_le _, HN, kI⟩
      case round =>
       clear HN kI
       obtain ⟨k, s, rfl, rfl, hk, HS5, Zi⟩ := hrel
       have hcf : wr.cell? ⟨w.heap.size, 5, none⟩ = some (.slice A5 l5.length c5) := (zk (HF.out wr Zi.out) 5).trans rfl
       by_cases hlt : k < l5.length
       ·have hx := List.getElem?_eq_getElem hlt
        obtain ⟨ad, e, x0, x1, x2⟩ := Jl (Kd.zh k5.out Zi.out) (k : Int) (by omega) (by omega)
        cases e
        have e : vJ l5 (k : Int) = l5[k] := by simp [vJ, List.getD_eq_getElem?_getD, hlt]
        rw [Int.toNat_natCast, e] at x0 x1 x2
        clear e
        have Yt := n5 k hlt
        generalize l5[k] = x at hx Yt x0 x1 x2
        have HS := zy.mk (Xw Yz l5 k x hx)
        have hle := VX Yz l5 (k + 1)
        rw [HS.out, List.length_append] at hle
        have hss := zjq HS5.out
        have hL : s.size + (Yz x).length ≤ 1000000000 := by obtain ⟨p1, p2, p3, p4, p5, p6⟩ := HT.out; rw [hss]; simp only [List.length_append] at hle ⊢; omega
        have hE : (Yz x).length = 2 + x.f0.size + 1 + x.f1.size + 1 + (Lib.itoa x.f2).length + 1 := by
         unfold Yz
         simp only [List.length_append, List.length_cons, List.length_nil, Array.length_toList]
         rfl
        have hcl := fun W => zk2 x.f2 (by omega) (by omega) W
        have KT : (bar (Lib.itoa x.f2)).data.toList = Lib.itoa x.f2 := wz _
        have iX : (bar (Lib.itoa x.f2)).size = (Lib.itoa x.f2).length := vC _
        generalize bar (Lib.itoa x.f2) = D at hcl KT iX
        have z0 : (9223372036854775807 < 2 + x.f0.size) = False := eq_false (by omega)
        have z1 : (9223372036854775807 < 2 + x.f0.size + 1) = False := eq_false (by omega)
        have z2 : (9223372036854775807 < 2 + x.f0.size + 1 + x.f1.size) = False := eq_false (by omega)
        have z3 : (9223372036854775807 < 2 + x.f0.size + 1 + x.f1.size + 1) = False := eq_false (by omega)
        have z4 : (9223372036854775807 < 2 + x.f0.size + 1 + x.f1.size + 1 + D.size) = False := eq_false (by omega)
        have z5 : (9223372036854775807 < 2 + x.f0.size + 1 + x.f1.size + 1 + D.size + 1) = False := eq_false (by omega)
        have z9 : (9223372036854775807 < s.size + (2 + x.f0.size + 1 + x.f1.size + 1 + D.size + 1)) = False := eq_false (by omega)
        have hnew : zy ((s ++ (((((((⟨#[107, 32]⟩ : ByteArray) ++ x.f0) ++ (⟨#[32]⟩ : ByteArray)) ++ x.f1) ++ (⟨#[32]⟩ : ByteArray)) ++ D) ++ (⟨#[10]⟩ : ByteArray))).data.toList = ((uZ a b c ++ qD ko l3 l3.length) ++ qD wP l4 l4.length) ++ qD Yz l5 (k + 1)) := ⟨by
         rw [HS.out, Yf, HS5.out]
         unfold Yz
         simp only [Yf, KT, List.append_assoc]⟩
        have q1 : (k : Int) < (l5.length : Int) := by omega
        have q0 : (0 : Int) ≤ (k : Int) := by omega
        have q3 : ((k : Int)).toNat = k := Int.toNat_natCast k
        have q2 : decide ((k : Int) < (l5.length : Int)) = true := decide_eq_true q1
        clear hle hL hE hss KT iX
        go_wp2_with fail
        have HSx := zy.mk (fun (W : World) (h : Below wr.heap.size wr W) => (show W.cell? ⟨w.heap.size, 5, none⟩ = some (.slice (some ad) l5.length c5) ∧ W.cell? (ad.add (k * 3)) = some (.string x.f0) ∧ W.cell? ⟨(ad.add (k * 3)).block, (ad.add (k * 3)).off + 1, none⟩ = some (.string x.f1) ∧ W.cell? ⟨(ad.add (k * 3)).block, (ad.add (k * 3)).off + 2, none⟩ = some (.int .i64 x.f2) from ⟨(h.cell (World.block_lt_of_cell? wr _ hcf)).trans hcf, (h.cell (World.block_lt_of_cell? wr _ x0)).trans x0, (h.cell (World.block_lt_of_cell? wr _ x1)).trans x1, (h.cell (World.block_lt_of_cell? wr _ x2)).trans x2⟩))
        go_region_held3 (fun W => W.cell? ⟨w.heap.size, 5, none⟩ = some (.slice (some ad) l5.length c5) ∧ W.cell? (ad.add (k * 3)) = some (.string x.f0) ∧ W.cell? ⟨(ad.add (k * 3)).block, (ad.add (k * 3)).off + 1, none⟩ = some (.string x.f1) ∧ W.cell? ⟨(ad.add (k * 3)).block, (ad.add (k * 3)).off + 2, none⟩ = some (.int .i64 x.f2)) (first | exact HSx.out _ HA1.out | exact HSx.out _ (Below.refl _ _).drew) (first | (go_at_call 114; refine (hcl _).mono ?_; rintro e wA ⟨rfl, hA0⟩; have HA1 : zy (Below wr.heap.size wr wA) := ⟨((Below.refl _ _).drew).trans (hA0.mono (Nat.le_refl _))⟩; clear hA0))
        have HB9 : zy (Below w1.heap.size w1 wA) := ⟨Zi.out.trans (HA1.out.mono Zi.out.size)⟩
        go_wp2
        go_roundw
        case rel => exact ⟨k + 1, _, rfl, by first | rfl | (simp; done) | go_num, by omega, hnew, HB9⟩
        case measure => simp [intOf]; omega
       ·obtain rfl : k = l5.length := by omega
        have q2 : decide ((l5.length : Int) < (l5.length : Int)) = false := decide_eq_false (by omega)
        have q1 : ¬ (l5.length : Int) < (l5.length : Int) := by omega
        have he : s = bar V := by
         rw [← HV.out]
         unfold Yq
         rw [← HS5.out, YN]
        subst he
        go_wp2
        go_ret2
        exact ⟨rfl, hbw.trans (Zi.out.mono hbw.size)⟩
end Go.Proofs.YtaifemkokfoadaaGreatDoor
namespace Go.Proofs.YtaifemkokfoadaaGreatDoor
open Go.RowKit Go.Proofs.zx.zK Go.Proofs.zx.zU Go.Proofs.zx.zN Go.Proofs.YtaifemkokfoadaaGreatDoor.PX
set_option linter.unusedSimpArgs false
set_option linter.unusedVariables false
theorem WR {α β : Type} (f : β → List UInt8) (g : α → β) (l : List α) : qD f (l.map g) (l.map g).length = qD (fun x => f (g x)) l l.length := by
 unfold qD
 rw [List.take_length, List.take_length, List.map_map]; rfl
theorem zjj (a : ByteArray) (b : Bool) (c : Int) (l3 : List qw) (l4 : List qh) (l5 : List xq) : Yq a b c (l3.map jG) (l4.map kL) (l5.map kM) = jf a b c l3 l4 l5 := by
 have eG : (fun x => ko (jG x)) = jB := by funext x; simp [ko, jG, jB, XA, uq, Zj]
 have eL : (fun x => wP (kL x)) = kP := by funext x; simp [wP, kL, kP, XB, uq, Zj]
 have eK : (fun x => Yz (kM x)) = ZX := by funext x; simp [Yz, kM, ZX, XC, uq, Zj]
 unfold Yq jf
 rw [WR, WR, WR, eG, eL, eK]
theorem XQ {α : Type} (f : α → List UInt8) (M : Nat) (l : List α) (h : ∀ x ∈ l, (f x).length ≤ M) : (qD f l l.length).length ≤ M * l.length := by
 unfold qD
 rw [List.take_length]
 induction l with
 | nil => simp
 | cons x r ih =>
  rw [List.map_cons, List.flatten_cons, List.length_append, List.length_cons, Nat.mul_succ]
  have h1 := h x List.mem_cons_self
  have h2 := ih (fun y hy => h y (List.mem_cons_of_mem _ hy))
  omega
theorem iJ : ∀ (m n : Nat), n ≤ m → (Lib.decDigits n).length ≤ n + 1 := by
 intro m
 induction m with
 | zero => intro n h; rw [VB n]; unfold QD; rw [if_pos (by omega)]; simp
 | succ m ih =>
  intro n h
  rw [VB n]
  unfold QD
  split
  ·simp
  ·rw [List.length_append]
   have := ih (n / 10) (by omega)
   simp only [List.length_cons, List.length_nil]
   omega
theorem XJ (n : Int) (h0 : -3000 ≤ n) (h1 : n ≤ 3000) : (Lib.itoa n).length ≤ 3002 := by
 unfold Lib.itoa
 split
 ·have := iJ n.natAbs n.natAbs (Nat.le_refl _)
  simp only [List.length_cons]
  omega
 ·have := iJ n.toNat n.toNat (Nat.le_refl _)
  omega
theorem zk3 {s : ByteArray} (h : kS s.data.toList = true) : s.size ≤ 10 := by
 unfold kS at h
 simp only [Bool.and_eq_true, decide_eq_true_eq] at h
 have e : s.data.toList.length = s.size := Array.length_toList
 omega
theorem JQ {a : ByteArray} {c : Int} {l3 : List qw} {l4 : List qh} {l5 : List xq} (h : uw a c l3 l4 l5 = true) :
  a.size ≤ 10 ∧ (∀ x ∈ l3, x.f0.size ≤ 10) ∧ (∀ x ∈ l4, x.f0.size ≤ 10 ∧ x.f1.size ≤ 10 ∧ x.f2.size ≤ 10) ∧ (∀ x ∈ l5, x.f0.size ≤ 10 ∧ x.f1.size ≤ 10) := by
 have ha := eH h
 unfold uw at h
 split at h
 ·cases h
 ·rename_i q1
  split at h
  ·cases h
  ·rename_i q2
   split at h
   ·cases h
   ·rename_i q3
    simp only [Bool.or_eq_true, not_or, Bool.not_eq_true', Bool.not_eq_false, Bool.not_eq_true] at q1 q2 q3
    have hn : ∀ x ∈ l3, x.f0.size ≤ 10 := fun x hx => by
     have h1 := List.any_eq_false.1 q2.1 x hx
     unfold XP at h1
     simp only [Bool.or_eq_true, not_or, Bool.not_eq_true', Bool.not_eq_false] at h1
     exact zk3 h1.1
    have hf : ∀ n, (Zw l3 n).2 = true → n.size ≤ 10 := fun n hn2 => by
     rw [KX l3 ha n, List.any_eq_true] at hn2
     obtain ⟨x, hx, he⟩ := hn2
     rw [← of_decide_eq_true he]; exact hn x hx
    refine ⟨?_, hn, fun x hx => ?_, fun x hx => ?_⟩
    ·have h1 := q1.1
     unfold kT at h1
     simp only [Bool.and_eq_true, decide_eq_true_eq] at h1
     have e : a.data.toList.length = a.size := Array.length_toList
     omega
    ·have h1 := List.any_eq_false.1 q3.1 x hx
     unfold Q0 XR at h1
     simp only [List.all_cons, List.all_nil, Bool.and_true, Bool.not_eq_true', Bool.not_eq_false, Bool.and_eq_true] at h1
     exact ⟨hf _ h1.1, hf _ h1.2.1, hf _ h1.2.2⟩
    ·rw [Bool.and_eq_true] at h
     have h2 : l5.any (Yu l3) = false := by simpa using h.1
     have h1 := List.any_eq_false.1 h2 x hx
     unfold Yu XR at h1
     simp only [List.all_cons, List.all_nil, Bool.and_true, Bool.or_eq_true, not_or, Bool.not_eq_true', Bool.not_eq_false, Bool.and_eq_true] at h1
     exact ⟨hf _ h1.2.2.2.1, hf _ h1.2.2.2.2⟩
theorem Y6 (s : ByteArray) : s.data.toList.length = s.size := Array.length_toList
theorem iV {a : ByteArray} {b : Bool} {c : Int} {l3 : List qw} {l4 : List qh} {l5 : List xq} (h : uw a c l3 l4 l5 = true) : (jf a b c l3 l4 l5).length ≤ 1000000000 := by
 obtain ⟨na, n3, n4, n5⟩ := JQ h
 obtain ⟨hc, hk⟩ := nE h
 have hw := mP h
 obtain ⟨z3, z4, z5⟩ := eF h
 have b3 := XQ jB 4000 l3 (fun x hx => by
  have p := n3 x hx; have q := hw x hx; have r := XJ x.f1 (by omega) (by omega)
  simp [jB, XA, uq, Zj, Y6]; omega)
 have b4 := XQ kP 4000 l4 (fun x hx => by
  have p := n4 x hx
  simp [kP, XB, uq, Zj, Y6]; omega)
 have b5 := XQ ZX 4000 l5 (fun x hx => by
  have p := n5 x hx; have q := hk x hx; have r := XJ x.f2 (by omega) (by omega)
  simp [ZX, XC, uq, Zj, Y6]; omega)
 have b0 : (uZ a b c).length ≤ 4000 := by
  have r := XJ c (by omega) (by omega)
  unfold uZ wm Zu
  rw [List.length_append, List.length_append, List.length_append]
  have : (uq (Zv c)).length = 7 + (Lib.itoa c).length + 1 := by simp [uq, Zv, Zj]; omega
  rw [this, Y6]
  split <;> simp only [List.length_cons, List.length_nil] <;> omega
 unfold jf
 simp only [List.length_append]
 omega
end Go.Proofs.YtaifemkokfoadaaGreatDoor
namespace Go.Proofs.YtaifemkokfoadaaGreatDoor
open Go.RowKit Go.Proofs.zx.zK Go.Proofs.YtaifemkokfoadaaGreatDoor.PX
set_option linter.unusedSimpArgs false
set_option linter.unusedVariables false
theorem WS {α : Type} (f : α → List UInt8) (l : List α) : qD f l l.length = (l.map f).flatten := by unfold qD; rw [List.take_length]
theorem Vf (f : vZ) : jf f.a f.b f.c f.l3 f.l4 f.l5 = Ve f := by
 have e3 : jB = fun x => Zr x ++ [10] := by funext x; simp [jB, XA, uq, Zj, Zr]
 have e4 : kP = fun x => Yy x ++ [10] := by funext x; simp [kP, XB, uq, Zj, Yy]
 have e5 : ZX = fun x => Yw x ++ [10] := by funext x; simp [ZX, XC, uq, Zj, Yw]
 have e0 : uZ f.a f.b f.c = (ZF f.a f.b ++ [10]) ++ (XW f.c ++ [10]) := by
  unfold uZ wm Zu ZF XW
  cases f.b <;> simp [uq, Zv, Zj]
 unfold jf Ve
 rw [WS, WS, WS, e3, e4, e5, e0]
 simp only [List.append_assoc]
theorem zjv {s : ByteArray} (h : kS s.data.toList = true) : PlainT s.data.toList := by
 unfold kS at h
 simp only [Bool.and_eq_true, List.all_eq_true] at h
 intro x hx
 have := h.2.2 x hx
 unfold okB at this
 simp only [Bool.and_eq_true, decide_eq_true_eq] at this
 refine ⟨?_, ?_⟩ <;> (rintro rfl; exact absurd this (by decide))
theorem zzH {s : ByteArray} (h : kT s.data.toList = true) : PlainT s.data.toList := by
 unfold kT at h
 simp only [Bool.and_eq_true, List.all_eq_true] at h
 intro x hx
 have := h.2.2.1 x hx
 refine ⟨?_, ?_⟩ <;> (rintro rfl; exact absurd this (by decide))
theorem Kh {f : vZ} (h : uw f.a f.c f.l3 f.l4 f.l5 = true) : ni f := by
 obtain ⟨nc, n3, n5⟩ := nA _ _ _ _ _ h
 have ha := eH h
 obtain ⟨z3, z4, z5⟩ := eF h
 unfold uw at h
 split at h
 ·cases h
 ·rename_i q1
  split at h
  ·cases h
  ·rename_i q2
   split at h
   ·cases h
   ·rename_i q3
    simp only [Bool.or_eq_true, not_or, Bool.not_eq_true', Bool.not_eq_false, Bool.not_eq_true] at q1 q2 q3
    have hn : ∀ x ∈ f.l3, PlainT x.f0.data.toList := fun x hx => by
     have h1 := List.any_eq_false.1 q2.1 x hx
     unfold XP at h1
     simp only [Bool.or_eq_true, not_or, Bool.not_eq_true', Bool.not_eq_false] at h1
     exact zjv h1.1
    have hf : ∀ n, (Zw f.l3 n).2 = true → PlainT n.data.toList := fun n hn2 => by
     rw [KX f.l3 ha n, List.any_eq_true] at hn2
     obtain ⟨x, hx, he⟩ := hn2
     rw [← of_decide_eq_true he]; exact hn x hx
    refine ⟨zzH q1.1, nc, z3, z4, z5, fun x hx => ⟨hn x hx, n3 x hx⟩, fun x hx => ?_, fun x hx => ?_⟩
    ·have h1 := List.any_eq_false.1 q3.1 x hx
     unfold Q0 XR at h1
     simp only [List.all_cons, List.all_nil, Bool.and_true, Bool.not_eq_true', Bool.not_eq_false, Bool.and_eq_true] at h1
     exact ⟨hf _ h1.1, hf _ h1.2.1, hf _ h1.2.2⟩
    ·rw [Bool.and_eq_true] at h
     have h2 : f.l5.any (Yu f.l3) = false := by simpa using h.1
     have h1 := List.any_eq_false.1 h2 x hx
     unfold Yu XR at h1
     simp only [List.all_cons, List.all_nil, Bool.and_true, Bool.or_eq_true, not_or, Bool.not_eq_true', Bool.not_eq_false, Bool.and_eq_true] at h1
     exact ⟨hf _ h1.2.2.2.1, hf _ h1.2.2.2.2, n5 x hx⟩
def vS (s : ByteArray) : vZ × Int :=
 match uE vZ.zero ((Zp s.data.toList).map bar) with
 | none => (vZ.zero, 4)
 | some f => if uw f.a f.c f.l3 f.l4 f.l5 = true ∧ jf f.a f.b f.c f.l3 f.l4 f.l5 = s.data.toList then (f, 0) else (vZ.zero, 4)
theorem bH {s : ByteArray} {f : vZ} (h1 : uw f.a f.c f.l3 f.l4 f.l5 = true) (h2 : jf f.a f.b f.c f.l3 f.l4 f.l5 = s.data.toList) : vS s = (f, 0) := by
 unfold vS
 rw [← h2, Vf, go_back f (Kh h1)]
 simp only
 rw [if_pos ⟨h1, Vf f⟩]
end Go.Proofs.YtaifemkokfoadaaGreatDoor
namespace Go.Proofs.YtaifemkokfoadaaGreatDoor
open Go.RowKit Go.Proofs.zx.zK Go.Proofs.YtaifemkokfoadaaGreatDoor.PX
set_option linter.unusedVariables false
def uj.f (a : ByteArray) (b : Bool) (c : Int) (l3 : List qJ) (l4 : List xK) (l5 : List xY) : Option (ByteArray × Int) :=
 if l3.length ≤ 1000000000 ∧ l4.length ≤ 1000000000 ∧ l5.length ≤ 1000000000 ∧ a.size ≤ 140737488355328 ∧ (l3.all fun x => decide (x.f0.size ≤ 140737488355328)) = true ∧ (pG a c l3 l4 l5 = true → (Yq a b c l3 l4 l5).length ≤ 1000000000) then
  some (if pG a c l3 l4 l5 = true then (bar (Yq a b c l3 l4 l5), 0) else ((⟨#[]⟩ : ByteArray), 1))
 else none
theorem uj.calls (a : ByteArray) (b : Bool) (c : Int) (A3 : Option Addr) (c3 : Nat) (l3 : List qJ) (A4 : Option Addr) (c4 : Nat) (l4 : List xK) (A5 : Option Addr) (c5 : Nat) (l5 : List xY) (r1 : ByteArray) (r2 : Int) (w : World) (h3 : Kd.C jC w A3 l3.length l3) (g3 : l3.length ≤ c3) (h4 : Kd.C kR w A4 l4.length l4) (g4 : l4.length ≤ c4) (h5 : Kd.C kE w A5 l5.length l5) (g5 : l5.length ≤ c5) (h : uj.f a b c l3 l4 l5 = some (r1, r2)) :
  Calls Tryz.prog 75 #[.agg #[.string a, .bool b, .int .i64 c, .slice A3 l3.length c3, .slice A4 l4.length c4, .slice A5 l5.length c5]] w fun e w' => e = .returned (.tuple #[.string r1, .int .i64 r2]) ∧ Below w.heap.size w w' := by
 unfold uj.f at h
 split at h
 ·rename_i hl
  have e := Option.some.inj h
  have hz : ∀ x ∈ l3, x.f0.size ≤ 140737488355328 := fun x hx => of_decide_eq_true (List.all_eq_true.1 hl.2.2.2.2.1 x hx)
  split at e
  ·rename_i hv
   cases e
   exact zvu a b c A3 c3 l3 A4 c4 l4 A5 c5 l5 w h3 g3 h4 g4 h5 g5 hl.1 hl.2.1 hl.2.2.1 hl.2.2.2.1 hz hv (hl.2.2.2.2.2 hv)
  ·rename_i hv
   cases e
   exact zjx a b c A3 c3 l3 A4 c4 l4 A5 c5 l5 w h3 g3 h4 g4 h5 g5 hl.1 hl.2.1 hl.2.2.1 hl.2.2.2.1 hz (by simpa using hv)
 ·cases h
end Go.Proofs.YtaifemkokfoadaaGreatDoor
