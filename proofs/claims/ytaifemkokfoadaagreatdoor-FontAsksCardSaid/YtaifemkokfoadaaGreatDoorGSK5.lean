/-
  Texts that lean on one another, laid in one file. No condition.
-/
import Derived.Test.YtaifemkokfoadaaGreatDoorGSK2
import Derived.Test.YtaifemkokfoadaaGreatDoorGSK1
import Derived.Deep.QuietTactic
import Derived.BigQuiet
import Derived.Deep.RegionHeld3
import Derived.Test.YtaifemkokfoadaaGreatDoorGSK4
import Derived.RangeFuncRecord
namespace Go.Proofs.YtaifemkokfoadaaGreatDoor
open Go.RowKit Go.Proofs.zy.zu Go.Proofs.zy.yI Go.Proofs.zy.yD Go.Proofs.YtaifemkokfoadaaGreatDoor.PX
set_option linter.unusedSimpArgs false
set_option linter.unusedVariables false
section
variable {P : Program} {ops : Array Oper} {Q : Exit → Act → World → Prop} {md : Region.Mode} {S : World → Prop} {ds : List Nat} {T : Bool × List (List Nat × List Nat)} {oi : Oper} {v : Value} {fuel : Nat} {l : Array Bool} {a a' : Act} {w : World}
theorem rP (i : Nat) (N : Option Tmp) (HT : zx (u6 md ops = T)) (h : qj P md ops Q S ds fuel (l.setIfInBounds i true) a' w)
    (hi : ops[i]? = some oi := by exact rfl) (hN : oi.dst = N := by exact rfl) (hc : zxd T l.toList (l.setIfInBounds i true).toList i = true := by kernel_rfl) (hQ : ∀ c a w, Q (.panic c) (a.put oi.dst v) w → Q (.panic c) a w := by exact fun _ _ _ h => h)
    (hg : Region.wanted oi (yielded ops a.tmps) = true := by rfl) (hy : ∀ w, (execOp a.eval oi).run P w = .ok (.value v) w := by intro w'; go_simp; with_reducible rfl) (ha : a.put N v = a' := by simp only [Act.put, List.setIfInBounds_toArray, List.set_cons_zero, List.set_cons_succ, Xk, QX]; rfl) :
    qj P md ops Q S ds (fuel + 1) l a w := kC _ hi hN (jr HT.out hc) hQ (Or.inl ⟨hg, hy⟩) ha h
theorem rU (i : Nat) (N : Option Tmp) (HT : zx (u6 md ops = T)) (h : qj P md ops Q S ds fuel (l.setIfInBounds i true) a' w)
    (hi : ops[i]? = some oi := by exact rfl) (hN : oi.dst = N := by exact rfl) (hc : zxd T l.toList (l.setIfInBounds i true).toList i = true := by kernel_rfl) (hQ : ∀ c a w, Q (.panic c) (a.put oi.dst undef) w → Q (.panic c) a w := by exact fun _ _ _ h => h)
    (hg : Region.wanted oi (yielded ops a.tmps) = false := by rfl) (ha : a.put N undef = a' := by simp only [Act.put, List.setIfInBounds_toArray, List.set_cons_zero, List.set_cons_succ, Xk, QX]; rfl) :
    qj P md ops Q S ds (fuel + 1) l a w := kC _ hi hN (jr HT.out hc) hQ (Or.inr ⟨hg, rfl⟩) ha h
theorem rT {B : List Nat} (i : Nat) (N : Option Tmp) (HT : zx (u6 md ops = T)) (HW : zx (jM T.2 B = true)) (hS : S w) (h : qj P md ops Q S ds fuel (l.setIfInBounds i true) a' w)
    (hi : ops[i]? = some oi := by exact rfl) (hN : oi.dst = N := by exact rfl) (hc : zqU T B ds l.toList (l.setIfInBounds i true).toList i = true := by kernel_rfl) (hQ : ∀ c a w, Q (.panic c) (a.put oi.dst v) w → Q (.panic c) a w := by exact fun _ _ _ h => h)
    (hg : Region.wanted oi (yielded ops a.tmps) = true := by rfl) (hy : ∀ w, S w → (execOp a.eval oi).run P w = .ok (.value v) w := by intro w' hs_; go_simp; with_reducible rfl) (ha : a.put N v = a' := by simp only [Act.put, List.setIfInBounds_toArray, List.set_cons_zero, List.set_cons_succ, Xk, QX]; rfl) :
    qj P md ops Q S ds (fuel + 1) l a w := cB _ hi hN (zxe HT.out HW.out hc) hQ (Or.inl ⟨hg, hy⟩) hS ha h
theorem rS {X : World} {B : List Nat} {n id : Nat} (HS : zx (∀ W, Below X.heap.size X W → S W)) (hT : u6 .any ops = T) (hB : jM T.2 B = true) (hm : P.follows .mixedOrders = true) (hn : ops.size = n) (hl : Array.replicate n false = l)
    (h : ∀ w, zx (Below X.heap.size X w) → zx (u6 .any ops = T) → zx (jM T.2 B = true) → S w → qj P .any ops Q S [] n l a w) : (Code.region id ops true).wp P Q a X :=
  Zj _ hm hn hl (HS.out _ (Below.refl _ _).drew) fun hH => h _ ⟨(Below.refl _ _).drew⟩ ⟨hT⟩ ⟨hB⟩ hH
theorem rC {X : World} {f : FuncId} {fn : Func} {aps : Array Operand} {ts : Array TypeId} {args : Array Value} (i : Nat) (N : Option Tmp) (HT : zx (u6 md ops = T)) (HS : zx (∀ W, Below X.heap.size X W → S W)) (HY : zx (Below X.heap.size X w)) (hf : P.funcs[f]? = some fn)
    (hcall : Calls P f args w fun e w' => e = .returned v ∧ Below w.heap.size w w') (h : ∀ w', zx (Below X.heap.size X w') → S w' → qj P md ops Q S ds fuel (l.setIfInBounds i true) a' w') (hname : (fn.name == "runtime.NumGoroutine") = false)
    (hi : ops[i]? = some oi := by exact rfl) (hN : oi.dst = N := by exact rfl) (hc : (Jq T.2 l.toList == [i] && l.toList.set i true == (l.setIfInBounds i true).toList) = true := by kernel_rfl) (hd : i ∉ ds := by decide) (hb : fn.body.isSome = true := by exact rfl) (hw : Region.wanted oi (yielded ops a.tmps) = true := by rfl)
    (hop : oi.op = .call { callee := .value (.func f), args := aps, argTypes := ts } := by exact rfl) (hargs : aps.map a.eval = args := by (try simp only [List.map_toArray, List.map_cons, List.map_nil]); first | done | rfl) (ha : a.put N v = a' := by simp only [Act.put, List.setIfInBounds_toArray, List.set_cons_zero, List.set_cons_succ, Xk, QX]; rfl) :
    qj P md ops Q S ds (fuel + 1) l a w := by
  refine sO _ hi hN (wI HT.out hc) hd fun K hK => ?_
  refine Xv hf hname hb args hw hN hop hargs (hcall.mono ?_)
  rintro e w' ⟨rfl, hk⟩
  have h2 := HY.out.trans (hk.mono HY.out.size)
  refine ⟨_, rfl, hK.out _ _ (HS.out _ h2) fun hH => ?_⟩
  rw [ha]
  exact h _ ⟨h2⟩ hH
end
def rval.T13 : Bool × List (List Nat × List Nat) := (true, [([], []), ([], []), ([1], [1]), ([0, 2], [0, 2]), ([3], [3]), ([4, 3], [4]), ([5], [5]), ([5], [5]), ([7, 5], [5, 7]), ([6, 8, 5, 5], [5, 6, 8]), ([9, 5], [5, 9]), ([5, 10], [5, 10]), ([11, 9], [11]), ([12], [12]), ([12], [12]), ([14, 12], [12, 14]), ([13, 15, 12, 12], [12, 13, 15]), ([16, 12], [12, 16]), ([12, 17], [12, 17]), ([18, 16], [18]), ([19], [19]), ([20, 19], [19, 20]), ([21, 19, 19], [19, 21]), ([22], [22]), ([23, 22], [22, 23]), ([22], [22]), ([25, 22], [22, 25]), ([24, 26, 22], [22, 24, 26]), ([27, 22], [22, 27]), ([28, 22], [22, 28]), ([22], [22]), ([30, 22], [22, 30]), ([22], [22]), ([32, 22], [22, 32]), ([31, 33, 22], [22, 31, 33]), ([34, 22], [22, 34]), ([35, 22], [22, 35]), ([22], [22]), ([37, 22], [22, 37]), ([22], [22]), ([39, 22], [22, 39]), ([29, 36, 38, 40, 22, 22], [22, 29, 36, 38, 40]), ([41, 22], [22, 41]), ([22, 42, 19], [19, 22, 42]), ([19, 43], [19, 43])])
def rval.B13 : List Nat := [0, 0, 2, 7, 15, 31, 63, 63, 191, 511, 1023, 2047, 4095, 8191, 8191, 24575, 65535, 131071, 262143, 524287, 1048575, 2097151, 4194303, 8388607, 16777215, 8388607, 41943039, 134217727, 268435455, 536870911, 8388607, 1082130431, 8388607, 4303355903, 16114515967, 33294385151, 67654123519, 8388607, 137447342079, 8388607, 549764202495, 2199023255551, 4398046511103, 8796093022207, 17592186044415]
theorem rval.QY : u6 .any (opsOf Tryz.f61 13) = rval.T13 := by kernel_rfl
theorem rval.YM : jM rval.T13.2 rval.B13 = true := by kernel_rfl
def rval.T19 : Bool × List (List Nat × List Nat) := (true, [([], []), ([], []), ([1], [1]), ([0, 2], [0, 2]), ([3], [3]), ([4, 3], [4]), ([5], [5]), ([5], [5]), ([7, 5], [5, 7]), ([6, 8, 5, 5], [5, 6, 8]), ([9, 5], [5, 9]), ([5, 10], [5, 10]), ([11, 9], [11]), ([12], [12]), ([13, 12], [12, 13]), ([14, 12], [12, 14]), ([12, 15], [12, 15]), ([16, 12], [16]), ([17], [17]), ([18, 17], [17, 18]), ([19, 17], [17, 19]), ([17, 20], [17, 20]), ([21, 17], [21]), ([22], [22]), ([23, 22], [22, 23]), ([24, 22], [22, 24]), ([22, 25], [22, 25]), ([26, 22], [26]), ([27], [27]), ([28, 27], [27, 28]), ([29, 27, 27], [27, 29]), ([30], [30]), ([31, 30], [30, 31]), ([30], [30]), ([33, 30], [30, 33]), ([32, 34, 30], [30, 32, 34]), ([35, 30], [30, 35]), ([36, 30], [30, 36]), ([30], [30]), ([38, 30], [30, 38]), ([30], [30]), ([40, 30], [30, 40]), ([39, 41, 30], [30, 39, 41]), ([42, 30], [30, 42]), ([43, 30], [30, 43]), ([30], [30]), ([45, 30], [30, 45]), ([30], [30]), ([47, 30], [30, 47]), ([37, 44, 46, 48, 30, 30], [30, 37, 44, 46, 48]), ([49, 30], [30, 49]), ([30, 50, 27], [27, 30, 50]), ([27, 51], [27, 51])])
def rval.B19 : List Nat := [0, 0, 2, 7, 15, 31, 63, 63, 191, 511, 1023, 2047, 4095, 8191, 16383, 32767, 65535, 131071, 262143, 524287, 1048575, 2097151, 4194303, 8388607, 16777215, 33554431, 67108863, 134217727, 268435455, 536870911, 1073741823, 2147483647, 4294967295, 2147483647, 10737418239, 34359738367, 68719476735, 137438953471, 2147483647, 277025390591, 2147483647, 1101659111423, 4125316087807, 8523362598911, 17319455621119, 2147483647, 35186519572479, 2147483647, 140739635838975, 562949953421311, 1125899906842623, 2251799813685247, 4503599627370495]
theorem rval.Qf : u6 .any (opsOf Tryz.f61 19) = rval.T19 := by kernel_rfl
theorem rval.Y0 : jM rval.T19.2 rval.B19 = true := by kernel_rfl
set_option maxRecDepth 100000 in
set_option maxHeartbeats 16000000 in
theorem JE (a : ByteArray) (b : Bool) (c : Int) (A3 : Option Addr) (c3 : Nat) (l3 : List zo) (A4 : Option Addr) (c4 : Nat) (l4 : List qF) (A5 : Option Addr) (c5 : Nat) (l5 : List qG) (w : World) (h3 : Kd.C qJ w A3 l3.length l3) (g3 : l3.length ≤ c3) (h4 : Kd.C jC w A4 l4.length l4) (g4 : l4.length ≤ c4) (h5 : Kd.C jS w A5 l5.length l5) (g5 : l5.length ≤ c5) (hl3 : l3.length ≤ 1000000000) (hl4 : l4.length ≤ 1000000000) (hl5 : l5.length ≤ 1000000000) (ha : a.size ≤ 140737488355328) (hz : ∀ x ∈ l3, x.f0.size ≤ 140737488355328) :
    Calls Tryz.prog 61 #[.agg #[.string a, .bool b, .int .i64 c, .slice A3 l3.length c3, .slice A4 l4.length c4, .slice A5 l5.length c5]] w fun e w' => e = .returned (.bool (Xt a c l3 l4 l5)) ∧ Below w.heap.size w w' := by
  have hV0 : Xt a c l3 l4 l5 = ((YL a.data.toList && (!wP c && (decide (l3.length ≤ 400) && (decide (l4.length ≤ 50) && decide (l5.length ≤ 500))))) && ((List.range l3.length).all (Qs l3) && ((List.range l4.length).all (Qt l3 l4) && (List.range l5.length).all (XT l3 l5)))) := rfl
  generalize Xt a c l3 l4 l5 = V at hV0 ⊢
  have HV := zx.mk hV0
  clear hV0
  have hbf : (w.alloc (.cells #[.string a, .bool b, .int .i64 c, .slice A3 l3.length c3, .slice A4 l4.length c4, .slice A5 l5.length c5] 44)).heap[w.heap.size]? = some (.cells #[.string a, .bool b, .int .i64 c, .slice A3 l3.length c3, .slice A4 l4.length c4, .slice A5 l5.length c5] 44 (0, 0)) := je _ _
  have hb0 : Below w.heap.size w (w.alloc (.cells #[.string a, .bool b, .int .i64 c, .slice A3 l3.length c3, .slice A4 l4.length c4, .slice A5 l5.length c5] 44)) := (Below.refl _ w).alloc (Nat.le_refl _) _
  have HF := zx.mk (fun (W : World) (h : Below (w.alloc (.cells #[.string a, .bool b, .int .i64 c, .slice A3 l3.length c3, .slice A4 l4.length c4, .slice A5 l5.length c5] 44)).heap.size (w.alloc (.cells #[.string a, .bool b, .int .i64 c, .slice A3 l3.length c3, .slice A4 l4.length c4, .slice A5 l5.length c5] 44)) W) => zl hbf h)
  have HW := zx.mk (fun (W : World) (h : Below (w.alloc (.cells #[.string a, .bool b, .int .i64 c, .slice A3 l3.length c3, .slice A4 l4.length c4, .slice A5 l5.length c5] 44)).heap.size (w.alloc (.cells #[.string a, .bool b, .int .i64 c, .slice A3 l3.length c3, .slice A4 l4.length c4, .slice A5 l5.length c5] 44)) W) => hb0.trans (h.mono hb0.size))
  have H3 := zx.mk h3; have H4 := zx.mk h4; have H5 := zx.mk h5; have G3 := zx.mk g3; have G4 := zx.mk g4; have G5 := zx.mk g5
  have HZ := zx.mk hz
  clear h3 h4 h5 g3 g4 g5 hbf hb0 hz
  have hfn := zx.mk (fun W => zVK a ha W)
  cases hf : YL a.data.toList with
  | false =>
    have hv : V = false := by rw [HV.out, hf]; rfl
    subst hv
    rw [hf] at hfn
    go_enter Tryz.func61, Tryz.ntmps61
    go_wp2_with (go_at_call 104; refine (hfn.out _).mono ?_; rintro e w1 ⟨rfl, hd1⟩)
    go_ret
    exact ⟨rfl, HW.out _ (jm hd1)⟩
  | true =>
  rw [hf] at hfn
  by_cases hbad : c < 0 ∨ 3000 < c ∨ 400 < l3.length ∨ 50 < l4.length ∨ 500 < l5.length
  · have hv : V = false := by
      rw [HV.out]
      unfold wP
      rcases hbad with h | h | h | h | h
      · simp [h]
      · simp [h]
      · simp [show ¬ l3.length ≤ 400 by omega]
      · simp [show ¬ l4.length ≤ 50 by omega]
      · simp [show ¬ l5.length ≤ 500 by omega]
    subst hv
    by_cases b1 : c < 0
    case' neg =>
      by_cases b2 : 3000 < c
      case' neg =>
        by_cases b3 : 400 < l3.length
        case' neg =>
          by_cases b4 : 50 < l4.length
          case' neg => have b5 : 500 < l5.length := by omega
    all_goals
      clear hbad HV HZ
      go_enter Tryz.func61, Tryz.ntmps61
      go_wp2_with (go_at_call 104; refine (hfn.out _).mono ?_; rintro e w1 ⟨rfl, hd1⟩; have hc2 := (zk (HF.out _ (jm hd1)) 2).trans rfl; have hc3 := (zk (HF.out _ (jm hd1)) 3).trans rfl; have hc4 := (zk (HF.out _ (jm hd1)) 4).trans rfl; have hc5 := (zk (HF.out _ (jm hd1)) 5).trans rfl)
      go_ret
      exact ⟨rfl, HW.out _ (jm hd1)⟩
  · have hc0 : 0 ≤ c ∧ c ≤ 3000 := by omega
    have hn : l3.length ≤ 400 ∧ l4.length ≤ 50 ∧ l5.length ≤ 500 := by omega
    have jA : zx (V = ((List.range l3.length).all (Qs l3) && ((List.range l4.length).all (Qt l3 l4) && (List.range l5.length).all (XT l3 l5)))) := ⟨by
      rw [HV.out, hf]
      unfold wP
      rw [decide_eq_false (by omega : ¬ c < 0), decide_eq_false (by omega : ¬ 3000 < c), decide_eq_true hn.1, decide_eq_true hn.2.1, decide_eq_true hn.2.2]
      rfl⟩
    obtain ⟨b1, b2⟩ := hc0
    obtain ⟨b3, b4, b5⟩ := hn
    clear HV hbad
    go_enter Tryz.func61, Tryz.ntmps61
    go_wp2_with (go_at_call 104; refine (hfn.out _).mono ?_; rintro e w1 ⟨rfl, hd1⟩; have hc2 := (zk (HF.out _ (jm hd1)) 2).trans rfl; have hc3 := (zk (HF.out _ (jm hd1)) 3).trans rfl; have hc4 := (zk (HF.out _ (jm hd1)) 4).trans rfl; have hc5 := (zk (HF.out _ (jm hd1)) 5).trans rfl)
    clear hfn
    go_loopw [3] (fun y W => ∃ i : Nat, y = .int .i64 (i : Int) ∧ i ≤ l3.length ∧ zx (Below (w.alloc (.cells #[.string a, .bool b, .int .i64 c, .slice A3 l3.length c3, .slice A4 l4.length c4, .slice A5 l5.length c5] 44)).heap.size (w.alloc (.cells #[.string a, .bool b, .int .i64 c, .slice A3 l3.length c3, .slice A4 l4.length c4, .slice A5 l5.length c5] 44)) W) ∧ zx (∀ j, j < i → Qs l3 j = true)) (fun y _ => l3.length - (intOf y).toNat)
    case atStart => exact ⟨0, rfl, Nat.zero_le _, ⟨jm hd1⟩, ⟨fun _ h => absurd h (Nat.not_lt_zero _)⟩⟩
    case round =>
      clear hc2 hc3 hc4 hc5 hd1
      obtain ⟨i, rfl, hi, HB3, HK3⟩ := hrel
      have hcf := (zk (HF.out _ HB3.out) 3).trans rfl
      by_cases hlt : i < l3.length
      · have hC := Kd.zY H3.out (HW.out _ HB3.out)
        have hbX : Below wr.heap.size wr (wr.alloc (.cells #[] 0)) := (Below.refl _ wr).alloc (Nat.le_refl _) _
        clear hbX
        obtain ⟨ad, e, x0, x1⟩ := ZY hC (i : Int) (by omega) (by omega)
        have hA := e
        rw [Int.toNat_natCast] at x0 x1
        have hlA : w.heap.size < wr.heap.size := uD (HF.out _ HB3.out)
        rcases Nat.eq_zero_or_pos i with hi0 | hi0
        · subst hi0
          simp only [Nat.zero_mul, Addr.add_zero'] at x0 x1
          have hok : Qs l3 0 = (Yl (zN l3 ((0 : Nat) : Int)).f0.data.toList && (!wP (zN l3 ((0 : Nat) : Int)).f1 && true)) := by
            unfold Qs
            rw [decide_eq_true rfl, Bool.true_or]
          have hzx : (zN l3 ((0 : Nat) : Int)) ∈ l3 := by
            have e9 : zN l3 ((0 : Nat) : Int) = l3[0] := by simp only [zN, Int.toNat_natCast, List.getD_eq_getElem?_getD, List.getElem?_eq_getElem hlt, Option.getD_some]
            rw [e9]; exact List.getElem_mem hlt
          generalize zN l3 ((0 : Nat) : Int) = x at x0 x1 hok hzx
          have hnq := fun W => (zZL x.f0 (HZ.out x hzx) W).mono fun e w' h => And.intro h.1 h.2.out
          have q1 : (0 : Int) < (l3.length : Int) := by omega
          have q6 : decide ((0 : Int) < (l3.length : Int)) = true := decide_eq_true q1
          rw [hA] at hcf
          clear hzx
          go_wp2_with fail
          have hbX : Below wr.heap.size wr (wr.alloc (.cells #[.string x.f0, .int .i64 x.f1] 81)) := (Below.refl _ wr).alloc (Nat.le_refl _) _
          have xG := zx.mk (HB3.out.trans (hbX.mono HB3.out.size))
          have hbk := je wr (.cells #[.string x.f0, .int .i64 x.f1] 81)
          have hX0 : (wr.alloc (.cells #[.string x.f0, .int .i64 x.f1] 81)).cell? ⟨wr.heap.size, 0, none⟩ = some (.string x.f0) := (zk hbk 0).trans rfl
          have hX1 : (wr.alloc (.cells #[.string x.f0, .int .i64 x.f1] 81)).cell? ⟨wr.heap.size, 1, none⟩ = some (.int .i64 x.f1) := (zk hbk 1).trans rfl
          clear hbk hbX x0 x1  hC hcf
          generalize wr.heap.size = g4 at hX0 hlA hX1 ⊢
          generalize (wr.alloc (.cells #[.string x.f0, .int .i64 x.f1] 81)) = X at xG hX0 hX1  ⊢
          cases hnm : Yl x.f0.data.toList with
          | false =>
            simp only [hnm] at hnq
            have hv : V = false := by
              rw [jA.out, uI (i := 0) hlt (by rw [hok, hnm]; simp)]
              rfl
            subst hv
            go_quiet ((go_at_call 105; exact Calls.quiet_of (hnq _)))
            go_wp2
            go_ret
            exact ⟨rfl, HW.out _ (zP xG.out nq)⟩
          | true =>
            simp only [hnm] at hnq
            by_cases d1 : x.f1 < 0
            · have dd1 : decide (x.f1 < 0) = true := decide_eq_true d1
              have hv : V = false := by
                rw [jA.out, uI (i := 0) hlt (by rw [hok, hnm, (by unfold wP; rw [dd1]; rfl : wP x.f1 = true)]; simp)]
                rfl
              subst hv
              go_quiet ((go_at_call 105; exact Calls.quiet_of (hnq _)))
              go_wp2
              go_ret
              exact ⟨rfl, HW.out _ (zP xG.out nq)⟩
            have dd1 : decide (x.f1 < 0) = false := decide_eq_false d1
            by_cases d2 : 3000 < x.f1
            · have dd2 : decide (3000 < x.f1) = true := decide_eq_true d2
              have hv : V = false := by
                rw [jA.out, uI (i := 0) hlt (by rw [hok, hnm, (by unfold wP; rw [dd2, Bool.or_true] : wP x.f1 = true)]; simp)]
                rfl
              subst hv
              go_quiet ((go_at_call 105; exact Calls.quiet_of (hnq _)))
              go_wp2
              go_ret
              exact ⟨rfl, HW.out _ (zP xG.out nq)⟩
            have dd2 : decide (3000 < x.f1) = false := decide_eq_false d2
            have hwd : wP x.f1 = false := by unfold wP; rw [dd1, dd2]; rfl
            have hok2 : Qs l3 0 = true := by rw [hok, hnm, hwd]; rfl
            go_quiet ((go_at_call 105; exact Calls.quiet_of (hnq _)))
            have kg := zP xG.out nq
            go_wp2
            go_roundw
            case rel => exact ⟨0 + 1, by first | rfl | (simp; done) | go_num, by omega, ⟨kg⟩, ⟨fun j hj => (Nat.lt_succ_iff_lt_or_eq.1 hj).elim (HK3.out j) (fun e => by rw [e]; exact hok2)⟩⟩
            case measure => simp [intOf]; omega
        · obtain ⟨m, rfl⟩ : ∃ m, i = m + 1 := ⟨i - 1, by omega⟩
          obtain ⟨fF, e2, y0, y1⟩ := ZY hC (m : Int) (by omega) (by omega)
          have e3 : ad = fF := by rw [hA] at e2; injection e2 with e2
          subst e3
          rw [Int.toNat_natCast] at y0 y1
          have hpr : (((m + 1 : Nat) : Int) - 1) = (m : Int) := by omega
          have hok : Qs l3 (m + 1) = (Yl (zN l3 (((m + 1) : Nat) : Int)).f0.data.toList && (!wP (zN l3 (((m + 1) : Nat) : Int)).f1 && Op.bytesLess (zN l3 (m : Int)).f0.toList (zN l3 (((m + 1) : Nat) : Int)).f0.toList)) := by
            unfold Qs
            rw [decide_eq_false (by omega : ¬ m + 1 = 0), Bool.false_or, hpr]
          have hzx : (zN l3 (((m + 1) : Nat) : Int)) ∈ l3 := by
            have e9 : zN l3 (((m + 1) : Nat) : Int) = l3[(m + 1)] := by simp only [zN, Int.toNat_natCast, List.getD_eq_getElem?_getD, List.getElem?_eq_getElem hlt, Option.getD_some]
            rw [e9]; exact List.getElem_mem hlt
          generalize zN l3 (((m + 1) : Nat) : Int) = x at x0 x1 hok hzx
          generalize zN l3 (m : Int) = p at y0 y1 hok
          have hnq := fun W => (zZL x.f0 (HZ.out x hzx) W).mono fun e w' h => And.intro h.1 h.2.out
          have e1 : IntKind.i64.wrap (((m : Int) + 1) - 1) = (m : Int) := by rw [Int.add_sub_cancel]; exact IntWalk.i64_in _ (by omega)
          have q1 : (m : Int) < (l3.length : Int) := by omega
          have q2 : (m : Int) + 1 < (l3.length : Int) := by omega
          have q3 : ((m : Int) + 1).toNat = m + 1 := by omega
          have q4 : (0 : Int) ≤ (m : Int) + 1 := by omega
          have e0 : IntKind.i64.wrap (m : Int) = (m : Int) := IntWalk.i64_in _ (by omega)
          have q5 : (0 : Int) ≤ (m : Int) := by omega
          have q7 : decide (0 < (m : Int) + 1) = true := decide_eq_true (by omega)
          have q8 : decide ((m : Int) + 1 < (l3.length : Int)) = true := decide_eq_true q2
          rw [hA] at hcf
          clear hzx
          go_wp2_with fail
          have hbX : Below wr.heap.size wr (wr.alloc (.cells #[.string x.f0, .int .i64 x.f1] 81)) := (Below.refl _ wr).alloc (Nat.le_refl _) _
          have xG := zx.mk (HB3.out.trans (hbX.mono HB3.out.size))
          have hbk := je wr (.cells #[.string x.f0, .int .i64 x.f1] 81)
          have hX0 : (wr.alloc (.cells #[.string x.f0, .int .i64 x.f1] 81)).cell? ⟨wr.heap.size, 0, none⟩ = some (.string x.f0) := (zk hbk 0).trans rfl
          have hX1 : (wr.alloc (.cells #[.string x.f0, .int .i64 x.f1] 81)).cell? ⟨wr.heap.size, 1, none⟩ = some (.int .i64 x.f1) := (zk hbk 1).trans rfl
          have Ja : (wr.alloc (.cells #[.string x.f0, .int .i64 x.f1] 81)).cell? ⟨w.heap.size, 3, none⟩ = some (.slice (some ad) l3.length c3) := (zk (HF.out _ xG.out) 3).trans (by rw [hA]; rfl)
          have iP := (hbX.cell (World.block_lt_of_cell? wr _ y0)).trans y0
          clear hbk hbX x0 x1 y0 y1 hC hcf
          generalize wr.heap.size = g4 at hX0 hlA hX1 ⊢
          generalize (wr.alloc (.cells #[.string x.f0, .int .i64 x.f1] 81)) = X at xG hX0 hX1 Ja iP  ⊢
          cases hnm : Yl x.f0.data.toList with
          | false =>
            simp only [hnm] at hnq
            have hv : V = false := by
              rw [jA.out, uI (i := (m + 1)) hlt (by rw [hok, hnm]; simp)]
              rfl
            subst hv
            go_quiet ((go_at_call 105; exact Calls.quiet_of (hnq _)))
            go_wp2
            go_ret
            exact ⟨rfl, HW.out _ (zP xG.out nq)⟩
          | true =>
            simp only [hnm] at hnq
            by_cases d1 : x.f1 < 0
            · have dd1 : decide (x.f1 < 0) = true := decide_eq_true d1
              have hv : V = false := by
                rw [jA.out, uI (i := (m + 1)) hlt (by rw [hok, hnm, (by unfold wP; rw [dd1]; rfl : wP x.f1 = true)]; simp)]
                rfl
              subst hv
              go_quiet ((go_at_call 105; exact Calls.quiet_of (hnq _)))
              go_wp2
              go_ret
              exact ⟨rfl, HW.out _ (zP xG.out nq)⟩
            have dd1 : decide (x.f1 < 0) = false := decide_eq_false d1
            by_cases d2 : 3000 < x.f1
            · have dd2 : decide (3000 < x.f1) = true := decide_eq_true d2
              have hv : V = false := by
                rw [jA.out, uI (i := (m + 1)) hlt (by rw [hok, hnm, (by unfold wP; rw [dd2, Bool.or_true] : wP x.f1 = true)]; simp)]
                rfl
              subst hv
              go_quiet ((go_at_call 105; exact Calls.quiet_of (hnq _)))
              go_wp2
              go_ret
              exact ⟨rfl, HW.out _ (zP xG.out nq)⟩
            have dd2 : decide (3000 < x.f1) = false := decide_eq_false d2
            have hwd : wP x.f1 = false := by unfold wP; rw [dd1, dd2]; rfl
            cases hls : Op.bytesLess p.f0.toList x.f0.toList with
            | false =>
              have hv : V = false := by
                rw [jA.out, uI (i := (m + 1)) hlt (by rw [hok, hnm, hwd, hls]; simp)]
                rfl
              subst hv
              go_quiet ((go_at_call 105; exact Calls.quiet_of (hnq _)))
              go_wp2
              go_ret
              exact ⟨rfl, HW.out _ (zP xG.out nq)⟩
            | true =>
              have hok2 : Qs l3 (m + 1) = true := by rw [hok, hnm, hwd, hls]; rfl
              go_quiet ((go_at_call 105; exact Calls.quiet_of (hnq _)))
              have kg := zP xG.out nq
              clear e0 e1
              go_wp2
              go_roundw
              case rel => exact ⟨m + 1 + 1, by first | rfl | (simp; done) | go_num, by omega, ⟨kg⟩, ⟨fun j hj => (Nat.lt_succ_iff_lt_or_eq.1 hj).elim (HK3.out j) (fun e => by rw [e]; exact hok2)⟩⟩
              case measure => simp [intOf]; omega
      · obtain rfl : i = l3.length := by omega
        have q2 : decide ((l3.length : Int) < (l3.length : Int)) = false := decide_eq_false (by omega)
        have q1 : ¬ (l3.length : Int) < (l3.length : Int) := by omega
        have jA : zx (V = ((List.range l4.length).all (Qt l3 l4) && (List.range l5.length).all (XT l3 l5))) := ⟨by rw [jA.out, tL HK3.out, Bool.true_and]⟩
        go_wp2
        go_loopw [5] (fun y W => ∃ i : Nat, y = .int .i64 (i : Int) ∧ i ≤ l4.length ∧ zx (Below (w.alloc (.cells #[.string a, .bool b, .int .i64 c, .slice A3 l3.length c3, .slice A4 l4.length c4, .slice A5 l5.length c5] 44)).heap.size (w.alloc (.cells #[.string a, .bool b, .int .i64 c, .slice A3 l3.length c3, .slice A4 l4.length c4, .slice A5 l5.length c5] 44)) W) ∧ zx (∀ j, j < i → Qt l3 l4 j = true)) (fun y _ => l4.length - (intOf y).toNat)
        case atStart => exact ⟨0, rfl, Nat.zero_le _, HB3, ⟨fun _ h => absurd h (Nat.not_lt_zero _)⟩⟩
        case round =>
          skip
          obtain ⟨i, rfl, hi, V7, HK4⟩ := hrel
          have hcf := (zk (HF.out _ V7.out) 4).trans rfl
          by_cases hlt : i < l4.length
          · have hC := Kd.zY H4.out (HW.out _ V7.out)
            have hbX : Below wr.heap.size wr (wr.alloc (.cells #[] 0)) := (Below.refl _ wr).alloc (Nat.le_refl _) _
            clear hbX
            obtain ⟨ad, e, x0, x1, x2⟩ := QD hC (i : Int) (by omega) (by omega)
            have hA := e
            rw [Int.toNat_natCast] at x0 x1 x2
            have hlA : w.heap.size < wr.heap.size := uD (HF.out _ V7.out)
            rcases Nat.eq_zero_or_pos i with hi0 | hi0
            · subst hi0
              simp only [Nat.zero_mul, Addr.add_zero'] at x0 x1 x2
              have hok : Qt l3 l4 0 = (j5 l3 (vJ l4 ((0 : Nat) : Int)).f0 && (j5 l3 (vJ l4 ((0 : Nat) : Int)).f1 && (j5 l3 (vJ l4 ((0 : Nat) : Int)).f2 && true))) := by
                unfold Qt
                rw [decide_eq_true rfl, Bool.true_or]
              have hzx : (vJ l4 ((0 : Nat) : Int)) ∈ l4 := by
                have e9 : vJ l4 ((0 : Nat) : Int) = l4[0] := by simp only [vJ, Int.toNat_natCast, List.getD_eq_getElem?_getD, List.getElem?_eq_getElem hlt, Option.getD_some]
                rw [e9]; exact List.getElem_mem hlt
              generalize vJ l4 ((0 : Nat) : Int) = x at x0 x1 x2 hok hzx
              have q1 : (0 : Int) < (l4.length : Int) := by omega
              have q6 : decide ((0 : Int) < (l4.length : Int)) = true := decide_eq_true q1
              rw [hA] at hcf
              clear hzx
              go_wp2_with fail
              have hbX : Below wr.heap.size wr (wr.alloc (.cells #[.string x.f0, .string x.f1, .string x.f2] 83)) := (Below.refl _ wr).alloc (Nat.le_refl _) _
              have xG := zx.mk (V7.out.trans (hbX.mono V7.out.size))
              have hbk := je wr (.cells #[.string x.f0, .string x.f1, .string x.f2] 83)
              have hX0 : (wr.alloc (.cells #[.string x.f0, .string x.f1, .string x.f2] 83)).cell? ⟨wr.heap.size, 0, none⟩ = some (.string x.f0) := (zk hbk 0).trans rfl
              have hX1 : (wr.alloc (.cells #[.string x.f0, .string x.f1, .string x.f2] 83)).cell? ⟨wr.heap.size, 1, none⟩ = some (.string x.f1) := (zk hbk 1).trans rfl
              have hX2 : (wr.alloc (.cells #[.string x.f0, .string x.f1, .string x.f2] 83)).cell? ⟨wr.heap.size, 2, none⟩ = some (.string x.f2) := (zk hbk 2).trans rfl
              have Wj : (wr.alloc (.cells #[.string x.f0, .string x.f1, .string x.f2] 83)).cell? ⟨w.heap.size, 0, none⟩ = some (.string a) := (zk (HF.out _ xG.out) 0).trans rfl
              have hF1 : (wr.alloc (.cells #[.string x.f0, .string x.f1, .string x.f2] 83)).cell? ⟨w.heap.size, 1, none⟩ = some (.bool b) := (zk (HF.out _ xG.out) 1).trans rfl
              have hF2 : (wr.alloc (.cells #[.string x.f0, .string x.f1, .string x.f2] 83)).cell? ⟨w.heap.size, 2, none⟩ = some (.int .i64 c) := (zk (HF.out _ xG.out) 2).trans rfl
              have Ja : (wr.alloc (.cells #[.string x.f0, .string x.f1, .string x.f2] 83)).cell? ⟨w.heap.size, 3, none⟩ = some (.slice A3 l3.length c3) := (zk (HF.out _ xG.out) 3).trans rfl
              have Wv : (wr.alloc (.cells #[.string x.f0, .string x.f1, .string x.f2] 83)).cell? ⟨w.heap.size, 4, none⟩ = some (.slice (some ad) l4.length c4) := (zk (HF.out _ xG.out) 4).trans (by rw [hA]; rfl)
              have Wy : (wr.alloc (.cells #[.string x.f0, .string x.f1, .string x.f2] 83)).cell? ⟨w.heap.size, 5, none⟩ = some (.slice A5 l5.length c5) := (zk (HF.out _ xG.out) 5).trans rfl
              have hq := fun (W : World) (n : ByteArray) (h : Below (wr.alloc (.cells #[.string x.f0, .string x.f1, .string x.f2] 83)).heap.size (wr.alloc (.cells #[.string x.f0, .string x.f1, .string x.f2] 83)) W) => fG a b c A3 c3 l3 A4 c4 l4 A5 c5 l5 n W (Kd.zY H3.out ((HW.out _ xG.out).trans (h.mono (HW.out _ xG.out).size))) G3.out (Kd.zY H4.out ((HW.out _ xG.out).trans (h.mono (HW.out _ xG.out).size))) G4.out (Kd.zY H5.out ((HW.out _ xG.out).trans (h.mono (HW.out _ xG.out).size))) G5.out hl3
              rw [hA] at hq
              clear hbk hbX x0 x1 x2  hC hcf
              generalize wr.heap.size = g4 at hX0 hlA hX1 hX2 ⊢
              generalize (wr.alloc (.cells #[.string x.f0, .string x.f1, .string x.f2] 83)) = X at xG hX0 hX1 hX2 Wj hF1 hF2 Ja Wv Wy hq ⊢
              have HS := zx.mk (fun (W : World) (h : Below X.heap.size X W) => (show W.cell? ⟨g4, 0, none⟩ = some (.string x.f0) ∧ W.cell? ⟨g4, 1, none⟩ = some (.string x.f1) ∧ W.cell? ⟨g4, 2, none⟩ = some (.string x.f2) ∧ W.cell? ⟨w.heap.size, 0, none⟩ = some (.string a) ∧ W.cell? ⟨w.heap.size, 1, none⟩ = some (.bool b) ∧ W.cell? ⟨w.heap.size, 2, none⟩ = some (.int .i64 c) ∧ W.cell? ⟨w.heap.size, 3, none⟩ = some (.slice A3 l3.length c3) ∧ W.cell? ⟨w.heap.size, 4, none⟩ = some (.slice (some ad) l4.length c4) ∧ W.cell? ⟨w.heap.size, 5, none⟩ = some (.slice A5 l5.length c5) from ⟨(h.cell (World.block_lt_of_cell? X _ hX0)).trans hX0, (h.cell (World.block_lt_of_cell? X _ hX1)).trans hX1, (h.cell (World.block_lt_of_cell? X _ hX2)).trans hX2, (h.cell (World.block_lt_of_cell? X _ Wj)).trans Wj, (h.cell (World.block_lt_of_cell? X _ hF1)).trans hF1, (h.cell (World.block_lt_of_cell? X _ hF2)).trans hF2, (h.cell (World.block_lt_of_cell? X _ Ja)).trans Ja, (h.cell (World.block_lt_of_cell? X _ Wv)).trans Wv, (h.cell (World.block_lt_of_cell? X _ Wy)).trans Wy⟩))
              cases r0 : j5 l3 x.f0 with
              | false =>
                have h0 := fun (W : World) (h : Below X.heap.size X W) => hq W x.f0 h
                simp only [r0] at h0
                as_aux_lemma =>
                 have hv : V = false := by
                   rw [jA.out, uI (i := 0) hlt (by rw [hok, r0]; simp)]
                   simp
                 subst hv
                 refine rS (n := 45) HS rval.QY rval.YM (by kernel_rfl) rfl rfl (fun w0 H0 T U h => ?_)
                 refine rP 1 (some 96) T ?_; refine rT 0 (some 95) T U h ?_; refine rT 2 (some 97) T U h ?_
                 clear h; refine rC 3 (some 98) T HS H0 Tryz.func63 (h0 _ H0.out) (fun w1 H1 h => ?_) (by kernel_rfl)
                 refine rP 4 (some 99) T ?_; refine rP 5 (some 100) T ?_; refine rU 6 (some 101) T ?_; refine rU 7 (some 102) T ?_; refine rU 8 (some 103) T ?_; refine rU 9 (some 104) T ?_; refine rU 10 (some 105) T ?_; refine rP 11 (some 106) T ?_; refine rP 12 (some 107) T ?_; refine rU 13 (some 108) T ?_; refine rU 14 (some 109) T ?_; refine rU 15 (some 110) T ?_; refine rU 16 (some 111) T ?_; refine rU 17 (some 112) T ?_; refine rP 18 (some 113) T ?_; refine rP 19 (some 114) T ?_; refine rU 20 (some 115) T ?_; refine rU 21 (some 116) T ?_; refine rU 22 (some 117) T ?_; refine rU 23 (some 118) T ?_; refine rU 24 (some 119) T ?_; refine rU 25 (some 120) T ?_; refine rU 26 (some 121) T ?_; refine rU 27 (some 122) T ?_; refine rU 28 (some 123) T ?_; refine rU 29 (some 124) T ?_; refine rU 30 (some 125) T ?_; refine rU 31 (some 126) T ?_; refine rU 32 (some 127) T ?_; refine rU 33 (some 128) T ?_; refine rU 34 (some 129) T ?_; refine rU 35 (some 130) T ?_; refine rU 36 (some 131) T ?_; refine rU 37 (some 132) T ?_; refine rU 38 (some 133) T ?_; refine rU 39 (some 134) T ?_; refine rU 40 (some 135) T ?_; refine rU 41 (some 136) T ?_; refine rU 42 (some 137) T ?_; refine rU 43 (some 138) T ?_; refine rP 44 (some 139) T ?_
                 refine uO (vW T.out (by kernel_rfl)) ?_; have kg := xG.out.trans (H1.out.mono xG.out.size); clear h; try go_wp2
                 go_ret
                 exact ⟨rfl, HW.out _ kg⟩
              | true =>
              have h0 := fun (W : World) (h : Below X.heap.size X W) => hq W x.f0 h
              simp only [r0] at h0
              cases r1 : j5 l3 x.f1 with
              | false =>
                have h1 := fun (W : World) (h : Below X.heap.size X W) => hq W x.f1 h
                simp only [r1] at h1
                as_aux_lemma =>
                 have hv : V = false := by
                   rw [jA.out, uI (i := 0) hlt (by rw [hok, r0, r1]; simp)]
                   simp
                 subst hv
                 refine rS (n := 45) HS rval.QY rval.YM (by kernel_rfl) rfl rfl (fun w0 H0 T U h => ?_)
                 refine rP 1 (some 96) T ?_; refine rT 0 (some 95) T U h ?_; refine rT 2 (some 97) T U h ?_
                 clear h; refine rC 3 (some 98) T HS H0 Tryz.func63 (h0 _ H0.out) (fun w1 H1 h => ?_) (by kernel_rfl)
                 refine rP 4 (some 99) T ?_; refine rP 5 (some 100) T ?_; refine rP 7 (some 102) T ?_; refine rT 6 (some 101) T U h ?_; refine rT 8 (some 103) T U h ?_
                 clear h; refine rC 9 (some 104) T HS H1 Tryz.func63 (h1 _ H1.out) (fun w2 H2 h => ?_) (by kernel_rfl)
                 refine rP 10 (some 105) T ?_; refine rP 11 (some 106) T ?_; refine rP 12 (some 107) T ?_; refine rU 13 (some 108) T ?_; refine rU 14 (some 109) T ?_; refine rU 15 (some 110) T ?_; refine rU 16 (some 111) T ?_; refine rU 17 (some 112) T ?_; refine rP 18 (some 113) T ?_; refine rP 19 (some 114) T ?_; refine rU 20 (some 115) T ?_; refine rU 21 (some 116) T ?_; refine rU 22 (some 117) T ?_; refine rU 23 (some 118) T ?_; refine rU 24 (some 119) T ?_; refine rU 25 (some 120) T ?_; refine rU 26 (some 121) T ?_; refine rU 27 (some 122) T ?_; refine rU 28 (some 123) T ?_; refine rU 29 (some 124) T ?_; refine rU 30 (some 125) T ?_; refine rU 31 (some 126) T ?_; refine rU 32 (some 127) T ?_; refine rU 33 (some 128) T ?_; refine rU 34 (some 129) T ?_; refine rU 35 (some 130) T ?_; refine rU 36 (some 131) T ?_; refine rU 37 (some 132) T ?_; refine rU 38 (some 133) T ?_; refine rU 39 (some 134) T ?_; refine rU 40 (some 135) T ?_; refine rU 41 (some 136) T ?_; refine rU 42 (some 137) T ?_; refine rU 43 (some 138) T ?_; refine rP 44 (some 139) T ?_
                 refine uO (vW T.out (by kernel_rfl)) ?_; have kg := xG.out.trans (H2.out.mono xG.out.size); clear h; try go_wp2
                 go_ret
                 exact ⟨rfl, HW.out _ kg⟩
              | true =>
              have h1 := fun (W : World) (h : Below X.heap.size X W) => hq W x.f1 h
              simp only [r1] at h1
              cases r2 : j5 l3 x.f2 with
              | false =>
                have h2 := fun (W : World) (h : Below X.heap.size X W) => hq W x.f2 h
                simp only [r2] at h2
                as_aux_lemma =>
                 have hv : V = false := by
                   rw [jA.out, uI (i := 0) hlt (by rw [hok, r0, r1, r2]; simp)]
                   simp
                 subst hv
                 refine rS (n := 45) HS rval.QY rval.YM (by kernel_rfl) rfl rfl (fun w0 H0 T U h => ?_)
                 refine rP 1 (some 96) T ?_; refine rT 0 (some 95) T U h ?_; refine rT 2 (some 97) T U h ?_
                 clear h; refine rC 3 (some 98) T HS H0 Tryz.func63 (h0 _ H0.out) (fun w1 H1 h => ?_) (by kernel_rfl)
                 refine rP 4 (some 99) T ?_; refine rP 5 (some 100) T ?_; refine rP 7 (some 102) T ?_; refine rT 6 (some 101) T U h ?_; refine rT 8 (some 103) T U h ?_
                 clear h; refine rC 9 (some 104) T HS H1 Tryz.func63 (h1 _ H1.out) (fun w2 H2 h => ?_) (by kernel_rfl)
                 refine rP 10 (some 105) T ?_; refine rP 11 (some 106) T ?_; refine rP 12 (some 107) T ?_; refine rP 14 (some 109) T ?_; refine rT 13 (some 108) T U h ?_; refine rT 15 (some 110) T U h ?_
                 clear h; refine rC 16 (some 111) T HS H2 Tryz.func63 (h2 _ H2.out) (fun w3 H3 h => ?_) (by kernel_rfl)
                 refine rP 17 (some 112) T ?_; refine rP 18 (some 113) T ?_; refine rP 19 (some 114) T ?_; refine rU 20 (some 115) T ?_; refine rU 21 (some 116) T ?_; refine rU 22 (some 117) T ?_; refine rU 23 (some 118) T ?_; refine rU 24 (some 119) T ?_; refine rU 25 (some 120) T ?_; refine rU 26 (some 121) T ?_; refine rU 27 (some 122) T ?_; refine rU 28 (some 123) T ?_; refine rU 29 (some 124) T ?_; refine rU 30 (some 125) T ?_; refine rU 31 (some 126) T ?_; refine rU 32 (some 127) T ?_; refine rU 33 (some 128) T ?_; refine rU 34 (some 129) T ?_; refine rU 35 (some 130) T ?_; refine rU 36 (some 131) T ?_; refine rU 37 (some 132) T ?_; refine rU 38 (some 133) T ?_; refine rU 39 (some 134) T ?_; refine rU 40 (some 135) T ?_; refine rU 41 (some 136) T ?_; refine rU 42 (some 137) T ?_; refine rU 43 (some 138) T ?_; refine rP 44 (some 139) T ?_
                 refine uO (vW T.out (by kernel_rfl)) ?_; have kg := xG.out.trans (H3.out.mono xG.out.size); clear h; try go_wp2
                 go_ret
                 exact ⟨rfl, HW.out _ kg⟩
              | true =>
              have h2 := fun (W : World) (h : Below X.heap.size X W) => hq W x.f2 h
              simp only [r2] at h2
              as_aux_lemma =>
              have hok2 : Qt l3 l4 0 = true := by rw [hok, r0, r1, r2]; rfl
              refine rS (n := 45) HS rval.QY rval.YM (by kernel_rfl) rfl rfl (fun w0 H0 T U h => ?_)
              refine rP 1 (some 96) T ?_; refine rT 0 (some 95) T U h ?_; refine rT 2 (some 97) T U h ?_
              clear h; refine rC 3 (some 98) T HS H0 Tryz.func63 (h0 _ H0.out) (fun w1 H1 h => ?_) (by kernel_rfl)
              refine rP 4 (some 99) T ?_; refine rP 5 (some 100) T ?_; refine rP 7 (some 102) T ?_; refine rT 6 (some 101) T U h ?_; refine rT 8 (some 103) T U h ?_
              clear h; refine rC 9 (some 104) T HS H1 Tryz.func63 (h1 _ H1.out) (fun w2 H2 h => ?_) (by kernel_rfl)
              refine rP 10 (some 105) T ?_; refine rP 11 (some 106) T ?_; refine rP 12 (some 107) T ?_; refine rP 14 (some 109) T ?_; refine rT 13 (some 108) T U h ?_; refine rT 15 (some 110) T U h ?_
              clear h; refine rC 16 (some 111) T HS H2 Tryz.func63 (h2 _ H2.out) (fun w3 H3 h => ?_) (by kernel_rfl)
              refine rP 17 (some 112) T ?_; refine rP 18 (some 113) T ?_; refine rP 19 (some 114) T ?_; refine rP 20 (some 115) T ?_; refine rP 21 (some 116) T ?_; refine rP 22 (some 117) T ?_; refine rU 23 (some 118) T ?_; refine rU 24 (some 119) T ?_; refine rU 25 (some 120) T ?_; refine rU 26 (some 121) T ?_; refine rU 27 (some 122) T ?_; refine rU 28 (some 123) T ?_; refine rU 29 (some 124) T ?_; refine rU 30 (some 125) T ?_; refine rU 31 (some 126) T ?_; refine rU 32 (some 127) T ?_; refine rU 33 (some 128) T ?_; refine rU 34 (some 129) T ?_; refine rU 35 (some 130) T ?_; refine rU 36 (some 131) T ?_; refine rU 37 (some 132) T ?_; refine rU 38 (some 133) T ?_; refine rU 39 (some 134) T ?_; refine rU 40 (some 135) T ?_; refine rU 41 (some 136) T ?_; refine rU 42 (some 137) T ?_; refine rP 43 (some 138) T ?_; refine rP 44 (some 139) T ?_
              refine uO (vW T.out (by kernel_rfl)) ?_; have kg := xG.out.trans (H3.out.mono xG.out.size); clear h; try go_wp2
              go_roundw
              case rel => exact ⟨0 + 1, by first | rfl | (simp; done) | go_num, by omega, ⟨kg⟩, ⟨fun j hj => (Nat.lt_succ_iff_lt_or_eq.1 hj).elim (HK4.out j) (fun e => by rw [e]; exact hok2)⟩⟩
              case measure => simp [intOf]; omega
            · obtain ⟨m, rfl⟩ : ∃ m, i = m + 1 := ⟨i - 1, by omega⟩
              obtain ⟨fF, e2, y0, y1, y2⟩ := QD hC (m : Int) (by omega) (by omega)
              have e3 : ad = fF := by rw [hA] at e2; injection e2 with e2
              subst e3
              rw [Int.toNat_natCast] at y0 y1 y2
              have hpr : (((m + 1 : Nat) : Int) - 1) = (m : Int) := by omega
              have hok : Qt l3 l4 (m + 1) = (j5 l3 (vJ l4 (((m + 1) : Nat) : Int)).f0 && (j5 l3 (vJ l4 (((m + 1) : Nat) : Int)).f1 && (j5 l3 (vJ l4 (((m + 1) : Nat) : Int)).f2 && QF (vJ l4 (m : Int)).f0 (vJ l4 (m : Int)).f1 (vJ l4 (((m + 1) : Nat) : Int)).f0 (vJ l4 (((m + 1) : Nat) : Int)).f1))) := by
                unfold Qt
                rw [decide_eq_false (by omega : ¬ m + 1 = 0), Bool.false_or, hpr]
              have hzx : (vJ l4 (((m + 1) : Nat) : Int)) ∈ l4 := by
                have e9 : vJ l4 (((m + 1) : Nat) : Int) = l4[(m + 1)] := by simp only [vJ, Int.toNat_natCast, List.getD_eq_getElem?_getD, List.getElem?_eq_getElem hlt, Option.getD_some]
                rw [e9]; exact List.getElem_mem hlt
              generalize vJ l4 (((m + 1) : Nat) : Int) = x at x0 x1 x2 hok hzx
              generalize vJ l4 (m : Int) = p at y0 y1 y2 hok
              have e1 : IntKind.i64.wrap (((m : Int) + 1) - 1) = (m : Int) := by rw [Int.add_sub_cancel]; exact IntWalk.i64_in _ (by omega)
              have q1 : (m : Int) < (l4.length : Int) := by omega
              have q2 : (m : Int) + 1 < (l4.length : Int) := by omega
              have q3 : ((m : Int) + 1).toNat = m + 1 := by omega
              have q4 : (0 : Int) ≤ (m : Int) + 1 := by omega
              have e0 : IntKind.i64.wrap (m : Int) = (m : Int) := IntWalk.i64_in _ (by omega)
              have q5 : (0 : Int) ≤ (m : Int) := by omega
              have q7 : decide (0 < (m : Int) + 1) = true := decide_eq_true (by omega)
              have q8 : decide ((m : Int) + 1 < (l4.length : Int)) = true := decide_eq_true q2
              rw [hA] at hcf
              clear hzx
              go_wp2_with fail
              have hbX : Below wr.heap.size wr (wr.alloc (.cells #[.string x.f0, .string x.f1, .string x.f2] 83)) := (Below.refl _ wr).alloc (Nat.le_refl _) _
              have xG := zx.mk (V7.out.trans (hbX.mono V7.out.size))
              have hbk := je wr (.cells #[.string x.f0, .string x.f1, .string x.f2] 83)
              have hX0 : (wr.alloc (.cells #[.string x.f0, .string x.f1, .string x.f2] 83)).cell? ⟨wr.heap.size, 0, none⟩ = some (.string x.f0) := (zk hbk 0).trans rfl
              have hX1 : (wr.alloc (.cells #[.string x.f0, .string x.f1, .string x.f2] 83)).cell? ⟨wr.heap.size, 1, none⟩ = some (.string x.f1) := (zk hbk 1).trans rfl
              have hX2 : (wr.alloc (.cells #[.string x.f0, .string x.f1, .string x.f2] 83)).cell? ⟨wr.heap.size, 2, none⟩ = some (.string x.f2) := (zk hbk 2).trans rfl
              have Wj : (wr.alloc (.cells #[.string x.f0, .string x.f1, .string x.f2] 83)).cell? ⟨w.heap.size, 0, none⟩ = some (.string a) := (zk (HF.out _ xG.out) 0).trans rfl
              have hF1 : (wr.alloc (.cells #[.string x.f0, .string x.f1, .string x.f2] 83)).cell? ⟨w.heap.size, 1, none⟩ = some (.bool b) := (zk (HF.out _ xG.out) 1).trans rfl
              have hF2 : (wr.alloc (.cells #[.string x.f0, .string x.f1, .string x.f2] 83)).cell? ⟨w.heap.size, 2, none⟩ = some (.int .i64 c) := (zk (HF.out _ xG.out) 2).trans rfl
              have Ja : (wr.alloc (.cells #[.string x.f0, .string x.f1, .string x.f2] 83)).cell? ⟨w.heap.size, 3, none⟩ = some (.slice A3 l3.length c3) := (zk (HF.out _ xG.out) 3).trans rfl
              have Wv : (wr.alloc (.cells #[.string x.f0, .string x.f1, .string x.f2] 83)).cell? ⟨w.heap.size, 4, none⟩ = some (.slice (some ad) l4.length c4) := (zk (HF.out _ xG.out) 4).trans (by rw [hA]; rfl)
              have Wy : (wr.alloc (.cells #[.string x.f0, .string x.f1, .string x.f2] 83)).cell? ⟨w.heap.size, 5, none⟩ = some (.slice A5 l5.length c5) := (zk (HF.out _ xG.out) 5).trans rfl
              have iP := (hbX.cell (World.block_lt_of_cell? wr _ y0)).trans y0
              have hP1 := (hbX.cell (World.block_lt_of_cell? wr _ y1)).trans y1
              have hq := fun (W : World) (n : ByteArray) (h : Below (wr.alloc (.cells #[.string x.f0, .string x.f1, .string x.f2] 83)).heap.size (wr.alloc (.cells #[.string x.f0, .string x.f1, .string x.f2] 83)) W) => fG a b c A3 c3 l3 A4 c4 l4 A5 c5 l5 n W (Kd.zY H3.out ((HW.out _ xG.out).trans (h.mono (HW.out _ xG.out).size))) G3.out (Kd.zY H4.out ((HW.out _ xG.out).trans (h.mono (HW.out _ xG.out).size))) G4.out (Kd.zY H5.out ((HW.out _ xG.out).trans (h.mono (HW.out _ xG.out).size))) G5.out hl3
              rw [hA] at hq
              clear hbk hbX x0 x1 x2 y0 y1 y2 hC hcf
              generalize wr.heap.size = g4 at hX0 hlA hX1 hX2 ⊢
              generalize (wr.alloc (.cells #[.string x.f0, .string x.f1, .string x.f2] 83)) = X at xG hX0 hX1 hX2 Wj hF1 hF2 Ja Wv Wy iP hP1 hq ⊢
              have HS := zx.mk (fun (W : World) (h : Below X.heap.size X W) => (show W.cell? ⟨g4, 0, none⟩ = some (.string x.f0) ∧ W.cell? ⟨g4, 1, none⟩ = some (.string x.f1) ∧ W.cell? ⟨g4, 2, none⟩ = some (.string x.f2) ∧ W.cell? ⟨w.heap.size, 0, none⟩ = some (.string a) ∧ W.cell? ⟨w.heap.size, 1, none⟩ = some (.bool b) ∧ W.cell? ⟨w.heap.size, 2, none⟩ = some (.int .i64 c) ∧ W.cell? ⟨w.heap.size, 3, none⟩ = some (.slice A3 l3.length c3) ∧ W.cell? ⟨w.heap.size, 4, none⟩ = some (.slice (some ad) l4.length c4) ∧ W.cell? ⟨w.heap.size, 5, none⟩ = some (.slice A5 l5.length c5) ∧ W.cell? (ad.add (m * 3)) = some (.string p.f0) ∧ W.cell? ⟨(ad.add (m * 3)).block, (ad.add (m * 3)).off + 1, none⟩ = some (.string p.f1) from ⟨(h.cell (World.block_lt_of_cell? X _ hX0)).trans hX0, (h.cell (World.block_lt_of_cell? X _ hX1)).trans hX1, (h.cell (World.block_lt_of_cell? X _ hX2)).trans hX2, (h.cell (World.block_lt_of_cell? X _ Wj)).trans Wj, (h.cell (World.block_lt_of_cell? X _ hF1)).trans hF1, (h.cell (World.block_lt_of_cell? X _ hF2)).trans hF2, (h.cell (World.block_lt_of_cell? X _ Ja)).trans Ja, (h.cell (World.block_lt_of_cell? X _ Wv)).trans Wv, (h.cell (World.block_lt_of_cell? X _ Wy)).trans Wy, (h.cell (World.block_lt_of_cell? X _ iP)).trans iP, (h.cell (World.block_lt_of_cell? X _ hP1)).trans hP1⟩))
              cases r0 : j5 l3 x.f0 with
              | false =>
                have h0 := fun (W : World) (h : Below X.heap.size X W) => hq W x.f0 h
                simp only [r0] at h0
                as_aux_lemma =>
                 have hv : V = false := by
                   rw [jA.out, uI (i := (m + 1)) hlt (by rw [hok, r0]; simp)]
                   simp
                 subst hv
                 refine rS (n := 45) HS rval.QY rval.YM (by kernel_rfl) rfl rfl (fun w0 H0 T U h => ?_)
                 refine rP 1 (some 96) T ?_; refine rT 0 (some 95) T U h ?_; refine rT 2 (some 97) T U h ?_
                 clear h; refine rC 3 (some 98) T HS H0 Tryz.func63 (h0 _ H0.out) (fun w1 H1 h => ?_) (by kernel_rfl)
                 refine rP 4 (some 99) T ?_; refine rP 5 (some 100) T ?_; refine rU 6 (some 101) T ?_; refine rU 7 (some 102) T ?_; refine rU 8 (some 103) T ?_; refine rU 9 (some 104) T ?_; refine rU 10 (some 105) T ?_; refine rP 11 (some 106) T ?_; refine rP 12 (some 107) T ?_; refine rU 13 (some 108) T ?_; refine rU 14 (some 109) T ?_; refine rU 15 (some 110) T ?_; refine rU 16 (some 111) T ?_; refine rU 17 (some 112) T ?_; refine rP 18 (some 113) T ?_; refine rP 19 (some 114) T ?_; refine rU 20 (some 115) T ?_; refine rU 21 (some 116) T ?_; refine rU 22 (some 117) T ?_; refine rU 23 (some 118) T ?_; refine rU 24 (some 119) T ?_; refine rU 25 (some 120) T ?_; refine rU 26 (some 121) T ?_; refine rU 27 (some 122) T ?_; refine rU 28 (some 123) T ?_; refine rU 29 (some 124) T ?_; refine rU 30 (some 125) T ?_; refine rU 31 (some 126) T ?_; refine rU 32 (some 127) T ?_; refine rU 33 (some 128) T ?_; refine rU 34 (some 129) T ?_; refine rU 35 (some 130) T ?_; refine rU 36 (some 131) T ?_; refine rU 37 (some 132) T ?_; refine rU 38 (some 133) T ?_; refine rU 39 (some 134) T ?_; refine rU 40 (some 135) T ?_; refine rU 41 (some 136) T ?_; refine rU 42 (some 137) T ?_; refine rU 43 (some 138) T ?_; refine rP 44 (some 139) T ?_
                 refine uO (vW T.out (by kernel_rfl)) ?_; have kg := xG.out.trans (H1.out.mono xG.out.size); clear h; try go_wp2
                 go_ret
                 exact ⟨rfl, HW.out _ kg⟩
              | true =>
              have h0 := fun (W : World) (h : Below X.heap.size X W) => hq W x.f0 h
              simp only [r0] at h0
              cases r1 : j5 l3 x.f1 with
              | false =>
                have h1 := fun (W : World) (h : Below X.heap.size X W) => hq W x.f1 h
                simp only [r1] at h1
                as_aux_lemma =>
                 have hv : V = false := by
                   rw [jA.out, uI (i := (m + 1)) hlt (by rw [hok, r0, r1]; simp)]
                   simp
                 subst hv
                 refine rS (n := 45) HS rval.QY rval.YM (by kernel_rfl) rfl rfl (fun w0 H0 T U h => ?_)
                 refine rP 1 (some 96) T ?_; refine rT 0 (some 95) T U h ?_; refine rT 2 (some 97) T U h ?_
                 clear h; refine rC 3 (some 98) T HS H0 Tryz.func63 (h0 _ H0.out) (fun w1 H1 h => ?_) (by kernel_rfl)
                 refine rP 4 (some 99) T ?_; refine rP 5 (some 100) T ?_; refine rP 7 (some 102) T ?_; refine rT 6 (some 101) T U h ?_; refine rT 8 (some 103) T U h ?_
                 clear h; refine rC 9 (some 104) T HS H1 Tryz.func63 (h1 _ H1.out) (fun w2 H2 h => ?_) (by kernel_rfl)
                 refine rP 10 (some 105) T ?_; refine rP 11 (some 106) T ?_; refine rP 12 (some 107) T ?_; refine rU 13 (some 108) T ?_; refine rU 14 (some 109) T ?_; refine rU 15 (some 110) T ?_; refine rU 16 (some 111) T ?_; refine rU 17 (some 112) T ?_; refine rP 18 (some 113) T ?_; refine rP 19 (some 114) T ?_; refine rU 20 (some 115) T ?_; refine rU 21 (some 116) T ?_; refine rU 22 (some 117) T ?_; refine rU 23 (some 118) T ?_; refine rU 24 (some 119) T ?_; refine rU 25 (some 120) T ?_; refine rU 26 (some 121) T ?_; refine rU 27 (some 122) T ?_; refine rU 28 (some 123) T ?_; refine rU 29 (some 124) T ?_; refine rU 30 (some 125) T ?_; refine rU 31 (some 126) T ?_; refine rU 32 (some 127) T ?_; refine rU 33 (some 128) T ?_; refine rU 34 (some 129) T ?_; refine rU 35 (some 130) T ?_; refine rU 36 (some 131) T ?_; refine rU 37 (some 132) T ?_; refine rU 38 (some 133) T ?_; refine rU 39 (some 134) T ?_; refine rU 40 (some 135) T ?_; refine rU 41 (some 136) T ?_; refine rU 42 (some 137) T ?_; refine rU 43 (some 138) T ?_; refine rP 44 (some 139) T ?_
                 refine uO (vW T.out (by kernel_rfl)) ?_; have kg := xG.out.trans (H2.out.mono xG.out.size); clear h; try go_wp2
                 go_ret
                 exact ⟨rfl, HW.out _ kg⟩
              | true =>
              have h1 := fun (W : World) (h : Below X.heap.size X W) => hq W x.f1 h
              simp only [r1] at h1
              cases r2 : j5 l3 x.f2 with
              | false =>
                have h2 := fun (W : World) (h : Below X.heap.size X W) => hq W x.f2 h
                simp only [r2] at h2
                as_aux_lemma =>
                 have hv : V = false := by
                   rw [jA.out, uI (i := (m + 1)) hlt (by rw [hok, r0, r1, r2]; simp)]
                   simp
                 subst hv
                 refine rS (n := 45) HS rval.QY rval.YM (by kernel_rfl) rfl rfl (fun w0 H0 T U h => ?_)
                 refine rP 1 (some 96) T ?_; refine rT 0 (some 95) T U h ?_; refine rT 2 (some 97) T U h ?_
                 clear h; refine rC 3 (some 98) T HS H0 Tryz.func63 (h0 _ H0.out) (fun w1 H1 h => ?_) (by kernel_rfl)
                 refine rP 4 (some 99) T ?_; refine rP 5 (some 100) T ?_; refine rP 7 (some 102) T ?_; refine rT 6 (some 101) T U h ?_; refine rT 8 (some 103) T U h ?_
                 clear h; refine rC 9 (some 104) T HS H1 Tryz.func63 (h1 _ H1.out) (fun w2 H2 h => ?_) (by kernel_rfl)
                 refine rP 10 (some 105) T ?_; refine rP 11 (some 106) T ?_; refine rP 12 (some 107) T ?_; refine rP 14 (some 109) T ?_; refine rT 13 (some 108) T U h ?_; refine rT 15 (some 110) T U h ?_
                 clear h; refine rC 16 (some 111) T HS H2 Tryz.func63 (h2 _ H2.out) (fun w3 H3 h => ?_) (by kernel_rfl)
                 refine rP 17 (some 112) T ?_; refine rP 18 (some 113) T ?_; refine rP 19 (some 114) T ?_; refine rU 20 (some 115) T ?_; refine rU 21 (some 116) T ?_; refine rU 22 (some 117) T ?_; refine rU 23 (some 118) T ?_; refine rU 24 (some 119) T ?_; refine rU 25 (some 120) T ?_; refine rU 26 (some 121) T ?_; refine rU 27 (some 122) T ?_; refine rU 28 (some 123) T ?_; refine rU 29 (some 124) T ?_; refine rU 30 (some 125) T ?_; refine rU 31 (some 126) T ?_; refine rU 32 (some 127) T ?_; refine rU 33 (some 128) T ?_; refine rU 34 (some 129) T ?_; refine rU 35 (some 130) T ?_; refine rU 36 (some 131) T ?_; refine rU 37 (some 132) T ?_; refine rU 38 (some 133) T ?_; refine rU 39 (some 134) T ?_; refine rU 40 (some 135) T ?_; refine rU 41 (some 136) T ?_; refine rU 42 (some 137) T ?_; refine rU 43 (some 138) T ?_; refine rP 44 (some 139) T ?_
                 refine uO (vW T.out (by kernel_rfl)) ?_; have kg := xG.out.trans (H3.out.mono xG.out.size); clear h; try go_wp2
                 go_ret
                 exact ⟨rfl, HW.out _ kg⟩
              | true =>
              have h2 := fun (W : World) (h : Below X.heap.size X W) => hq W x.f2 h
              simp only [r2] at h2
              have hah := fun W => (zj6 p.f0 p.f1 x.f0 x.f1 W).mono fun e w' k => And.intro k.1 (jm k.2)
              cases ra : QF p.f0 p.f1 x.f0 x.f1 with
              | false =>
                simp only [ra] at hah
                as_aux_lemma =>
                 have hv : V = false := by
                   rw [jA.out, uI (i := (m + 1)) hlt (by rw [hok, r0, r1, r2, ra]; simp)]
                   simp
                 subst hv
                 refine rS (n := 45) HS rval.QY rval.YM (by kernel_rfl) rfl rfl (fun w0 H0 T U h => ?_)
                 refine rP 1 (some 96) T ?_; refine rT 0 (some 95) T U h ?_; refine rT 2 (some 97) T U h ?_
                 clear h; refine rC 3 (some 98) T HS H0 Tryz.func63 (h0 _ H0.out) (fun w1 H1 h => ?_) (by kernel_rfl)
                 refine rP 4 (some 99) T ?_; refine rP 5 (some 100) T ?_; refine rP 7 (some 102) T ?_; refine rT 6 (some 101) T U h ?_; refine rT 8 (some 103) T U h ?_
                 clear h; refine rC 9 (some 104) T HS H1 Tryz.func63 (h1 _ H1.out) (fun w2 H2 h => ?_) (by kernel_rfl)
                 refine rP 10 (some 105) T ?_; refine rP 11 (some 106) T ?_; refine rP 12 (some 107) T ?_; refine rP 14 (some 109) T ?_; refine rT 13 (some 108) T U h ?_; refine rT 15 (some 110) T U h ?_
                 clear h; refine rC 16 (some 111) T HS H2 Tryz.func63 (h2 _ H2.out) (fun w3 H3 h => ?_) (by kernel_rfl)
                 refine rP 17 (some 112) T ?_; refine rP 18 (some 113) T ?_; refine rP 19 (some 114) T ?_; refine rP 20 (some 115) T ?_; refine rP 21 (some 116) T ?_; refine rP 22 (some 117) T ?_; refine rP 23 (some 118) T ?_; refine rP 25 (some 120) T ?_; refine rP 26 (some 121) T ?_; refine rP 30 (some 125) T ?_; refine rP 32 (some 127) T ?_; refine rP 33 (some 128) T ?_; refine rP 37 (some 132) T ?_; refine rP 39 (some 134) T ?_; refine rT 24 (some 119) T U h ?_; refine rP 27 (some 122) T ?_; refine rP 28 (some 123) T ?_; refine rT 29 (some 124) T U h ?_; refine rT 31 (some 126) T U h ?_; refine rP 34 (some 129) T ?_; refine rP 35 (some 130) T ?_; refine rT 36 (some 131) T U h ?_; refine rT 38 (some 133) T U h ?_; refine rT 40 (some 135) T U h ?_
                 clear h; refine rC 41 (some 136) T HS H3 Tryz.func106 (hah _) (fun w4 H4 h => ?_) (by kernel_rfl)
                 refine rP 42 (some 137) T ?_; refine rP 43 (some 138) T ?_; refine rP 44 (some 139) T ?_
                 refine uO (vW T.out (by kernel_rfl)) ?_; have kg := xG.out.trans (H4.out.mono xG.out.size); clear h; try go_wp2
                 go_ret
                 exact ⟨rfl, HW.out _ kg⟩
              | true =>
              simp only [ra] at hah
              as_aux_lemma =>
              have hok2 : Qt l3 l4 (m + 1) = true := by rw [hok, r0, r1, r2, ra]; rfl
              refine rS (n := 45) HS rval.QY rval.YM (by kernel_rfl) rfl rfl (fun w0 H0 T U h => ?_)
              refine rP 1 (some 96) T ?_; refine rT 0 (some 95) T U h ?_; refine rT 2 (some 97) T U h ?_
              clear h; refine rC 3 (some 98) T HS H0 Tryz.func63 (h0 _ H0.out) (fun w1 H1 h => ?_) (by kernel_rfl)
              refine rP 4 (some 99) T ?_; refine rP 5 (some 100) T ?_; refine rP 7 (some 102) T ?_; refine rT 6 (some 101) T U h ?_; refine rT 8 (some 103) T U h ?_
              clear h; refine rC 9 (some 104) T HS H1 Tryz.func63 (h1 _ H1.out) (fun w2 H2 h => ?_) (by kernel_rfl)
              refine rP 10 (some 105) T ?_; refine rP 11 (some 106) T ?_; refine rP 12 (some 107) T ?_; refine rP 14 (some 109) T ?_; refine rT 13 (some 108) T U h ?_; refine rT 15 (some 110) T U h ?_
              clear h; refine rC 16 (some 111) T HS H2 Tryz.func63 (h2 _ H2.out) (fun w3 H3 h => ?_) (by kernel_rfl)
              refine rP 17 (some 112) T ?_; refine rP 18 (some 113) T ?_; refine rP 19 (some 114) T ?_; refine rP 20 (some 115) T ?_; refine rP 21 (some 116) T ?_; refine rP 22 (some 117) T ?_; refine rP 23 (some 118) T ?_; refine rP 25 (some 120) T ?_; refine rP 26 (some 121) T ?_; refine rP 30 (some 125) T ?_; refine rP 32 (some 127) T ?_; refine rP 33 (some 128) T ?_; refine rP 37 (some 132) T ?_; refine rP 39 (some 134) T ?_; refine rT 24 (some 119) T U h ?_; refine rP 27 (some 122) T ?_; refine rP 28 (some 123) T ?_; refine rT 29 (some 124) T U h ?_; refine rT 31 (some 126) T U h ?_; refine rP 34 (some 129) T ?_; refine rP 35 (some 130) T ?_; refine rT 36 (some 131) T U h ?_; refine rT 38 (some 133) T U h ?_; refine rT 40 (some 135) T U h ?_
              clear h; refine rC 41 (some 136) T HS H3 Tryz.func106 (hah _) (fun w4 H4 h => ?_) (by kernel_rfl)
              refine rP 42 (some 137) T ?_; refine rP 43 (some 138) T ?_; refine rP 44 (some 139) T ?_
              refine uO (vW T.out (by kernel_rfl)) ?_; have kg := xG.out.trans (H4.out.mono xG.out.size); clear h; try go_wp2
              go_roundw
              case rel => exact ⟨m + 1 + 1, by first | rfl | (simp; done) | go_num, by omega, ⟨kg⟩, ⟨fun j hj => (Nat.lt_succ_iff_lt_or_eq.1 hj).elim (HK4.out j) (fun e => by rw [e]; exact hok2)⟩⟩
              case measure => simp [intOf]; omega
          · obtain rfl : i = l4.length := by omega
            have q2 : decide ((l4.length : Int) < (l4.length : Int)) = false := decide_eq_false (by omega)
            have q1 : ¬ (l4.length : Int) < (l4.length : Int) := by omega
            have jA : zx (V = ((List.range l5.length).all (XT l3 l5))) := ⟨by rw [jA.out, tL HK4.out, Bool.true_and]⟩
            go_wp2
            go_loopw [7] (fun y W => ∃ i : Nat, y = .int .i64 (i : Int) ∧ i ≤ l5.length ∧ zx (Below (w.alloc (.cells #[.string a, .bool b, .int .i64 c, .slice A3 l3.length c3, .slice A4 l4.length c4, .slice A5 l5.length c5] 44)).heap.size (w.alloc (.cells #[.string a, .bool b, .int .i64 c, .slice A3 l3.length c3, .slice A4 l4.length c4, .slice A5 l5.length c5] 44)) W) ∧ zx (∀ j, j < i → XT l3 l5 j = true)) (fun y _ => l5.length - (intOf y).toNat)
            case atStart => exact ⟨0, rfl, Nat.zero_le _, V7, ⟨fun _ h => absurd h (Nat.not_lt_zero _)⟩⟩
            case round =>
              skip
              obtain ⟨i, rfl, hi, Qo, HK5⟩ := hrel
              have hcf := (zk (HF.out _ Qo.out) 5).trans rfl
              by_cases hlt : i < l5.length
              · have hC := Kd.zY H5.out (HW.out _ Qo.out)
                have hbX : Below wr.heap.size wr (wr.alloc (.cells #[] 0)) := (Below.refl _ wr).alloc (Nat.le_refl _) _
                clear hbX
                obtain ⟨ad, e, x0, x1, x2⟩ := QE hC (i : Int) (by omega) (by omega)
                have hA := e
                rw [Int.toNat_natCast] at x0 x1 x2
                have hlA : w.heap.size < wr.heap.size := uD (HF.out _ Qo.out)
                rcases Nat.eq_zero_or_pos i with hi0 | hi0
                · subst hi0
                  simp only [Nat.zero_mul, Addr.add_zero'] at x0 x1 x2
                  have hok : XT l3 l5 0 = (j5 l3 (xY l5 ((0 : Nat) : Int)).f0 && (j5 l3 (xY l5 ((0 : Nat) : Int)).f1 && (!decide ((xY l5 ((0 : Nat) : Int)).f2 = 0) && (!decide ((xY l5 ((0 : Nat) : Int)).f2 < -500) && (!decide (500 < (xY l5 ((0 : Nat) : Int)).f2) && true))))) := by
                    unfold XT
                    rw [decide_eq_true rfl, Bool.true_or]
                  have hzx : (xY l5 ((0 : Nat) : Int)) ∈ l5 := by
                    have e9 : xY l5 ((0 : Nat) : Int) = l5[0] := by simp only [xY, Int.toNat_natCast, List.getD_eq_getElem?_getD, List.getElem?_eq_getElem hlt, Option.getD_some]
                    rw [e9]; exact List.getElem_mem hlt
                  generalize xY l5 ((0 : Nat) : Int) = x at x0 x1 x2 hok hzx
                  have q1 : (0 : Int) < (l5.length : Int) := by omega
                  have q6 : decide ((0 : Int) < (l5.length : Int)) = true := decide_eq_true q1
                  rw [hA] at hcf
                  clear hzx
                  go_wp2_with fail
                  have hbX : Below wr.heap.size wr (wr.alloc (.cells #[.string x.f0, .string x.f1, .int .i64 x.f2] 84)) := (Below.refl _ wr).alloc (Nat.le_refl _) _
                  have xG := zx.mk (Qo.out.trans (hbX.mono Qo.out.size))
                  have hbk := je wr (.cells #[.string x.f0, .string x.f1, .int .i64 x.f2] 84)
                  have hX0 : (wr.alloc (.cells #[.string x.f0, .string x.f1, .int .i64 x.f2] 84)).cell? ⟨wr.heap.size, 0, none⟩ = some (.string x.f0) := (zk hbk 0).trans rfl
                  have hX1 : (wr.alloc (.cells #[.string x.f0, .string x.f1, .int .i64 x.f2] 84)).cell? ⟨wr.heap.size, 1, none⟩ = some (.string x.f1) := (zk hbk 1).trans rfl
                  have hX2 : (wr.alloc (.cells #[.string x.f0, .string x.f1, .int .i64 x.f2] 84)).cell? ⟨wr.heap.size, 2, none⟩ = some (.int .i64 x.f2) := (zk hbk 2).trans rfl
                  have Wj : (wr.alloc (.cells #[.string x.f0, .string x.f1, .int .i64 x.f2] 84)).cell? ⟨w.heap.size, 0, none⟩ = some (.string a) := (zk (HF.out _ xG.out) 0).trans rfl
                  have hF1 : (wr.alloc (.cells #[.string x.f0, .string x.f1, .int .i64 x.f2] 84)).cell? ⟨w.heap.size, 1, none⟩ = some (.bool b) := (zk (HF.out _ xG.out) 1).trans rfl
                  have hF2 : (wr.alloc (.cells #[.string x.f0, .string x.f1, .int .i64 x.f2] 84)).cell? ⟨w.heap.size, 2, none⟩ = some (.int .i64 c) := (zk (HF.out _ xG.out) 2).trans rfl
                  have Ja : (wr.alloc (.cells #[.string x.f0, .string x.f1, .int .i64 x.f2] 84)).cell? ⟨w.heap.size, 3, none⟩ = some (.slice A3 l3.length c3) := (zk (HF.out _ xG.out) 3).trans rfl
                  have Wv : (wr.alloc (.cells #[.string x.f0, .string x.f1, .int .i64 x.f2] 84)).cell? ⟨w.heap.size, 4, none⟩ = some (.slice A4 l4.length c4) := (zk (HF.out _ xG.out) 4).trans rfl
                  have Wy : (wr.alloc (.cells #[.string x.f0, .string x.f1, .int .i64 x.f2] 84)).cell? ⟨w.heap.size, 5, none⟩ = some (.slice (some ad) l5.length c5) := (zk (HF.out _ xG.out) 5).trans (by rw [hA]; rfl)
                  have hq := fun (W : World) (n : ByteArray) (h : Below (wr.alloc (.cells #[.string x.f0, .string x.f1, .int .i64 x.f2] 84)).heap.size (wr.alloc (.cells #[.string x.f0, .string x.f1, .int .i64 x.f2] 84)) W) => fG a b c A3 c3 l3 A4 c4 l4 A5 c5 l5 n W (Kd.zY H3.out ((HW.out _ xG.out).trans (h.mono (HW.out _ xG.out).size))) G3.out (Kd.zY H4.out ((HW.out _ xG.out).trans (h.mono (HW.out _ xG.out).size))) G4.out (Kd.zY H5.out ((HW.out _ xG.out).trans (h.mono (HW.out _ xG.out).size))) G5.out hl3
                  rw [hA] at hq
                  clear hbk hbX x0 x1 x2  hC hcf
                  generalize wr.heap.size = g4 at hX0 hlA hX1 hX2 ⊢
                  generalize (wr.alloc (.cells #[.string x.f0, .string x.f1, .int .i64 x.f2] 84)) = X at xG hX0 hX1 hX2 Wj hF1 hF2 Ja Wv Wy hq ⊢
                  have HS := zx.mk (fun (W : World) (h : Below X.heap.size X W) => (show W.cell? ⟨g4, 0, none⟩ = some (.string x.f0) ∧ W.cell? ⟨g4, 1, none⟩ = some (.string x.f1) ∧ W.cell? ⟨g4, 2, none⟩ = some (.int .i64 x.f2) ∧ W.cell? ⟨w.heap.size, 0, none⟩ = some (.string a) ∧ W.cell? ⟨w.heap.size, 1, none⟩ = some (.bool b) ∧ W.cell? ⟨w.heap.size, 2, none⟩ = some (.int .i64 c) ∧ W.cell? ⟨w.heap.size, 3, none⟩ = some (.slice A3 l3.length c3) ∧ W.cell? ⟨w.heap.size, 4, none⟩ = some (.slice A4 l4.length c4) ∧ W.cell? ⟨w.heap.size, 5, none⟩ = some (.slice (some ad) l5.length c5) from ⟨(h.cell (World.block_lt_of_cell? X _ hX0)).trans hX0, (h.cell (World.block_lt_of_cell? X _ hX1)).trans hX1, (h.cell (World.block_lt_of_cell? X _ hX2)).trans hX2, (h.cell (World.block_lt_of_cell? X _ Wj)).trans Wj, (h.cell (World.block_lt_of_cell? X _ hF1)).trans hF1, (h.cell (World.block_lt_of_cell? X _ hF2)).trans hF2, (h.cell (World.block_lt_of_cell? X _ Ja)).trans Ja, (h.cell (World.block_lt_of_cell? X _ Wv)).trans Wv, (h.cell (World.block_lt_of_cell? X _ Wy)).trans Wy⟩))
                  cases r0 : j5 l3 x.f0 with
                  | false =>
                    have h0 := fun (W : World) (h : Below X.heap.size X W) => hq W x.f0 h
                    simp only [r0] at h0
                    as_aux_lemma =>
                     have hv : V = false := by
                       rw [jA.out, uI (i := 0) hlt (by rw [hok, r0]; simp)]
                       done
                     subst hv
                     refine rS (n := 53) HS rval.Qf rval.Y0 (by kernel_rfl) rfl rfl (fun w0 H0 T U h => ?_)
                     refine rP 1 (some 153) T ?_; refine rT 0 (some 152) T U h ?_; refine rT 2 (some 154) T U h ?_
                     clear h; refine rC 3 (some 155) T HS H0 Tryz.func63 (h0 _ H0.out) (fun w1 H1 h => ?_) (by kernel_rfl)
                     refine rP 4 (some 156) T ?_; refine rP 5 (some 157) T ?_; refine rU 6 (some 158) T ?_; refine rU 7 (some 159) T ?_; refine rU 8 (some 160) T ?_; refine rU 9 (some 161) T ?_; refine rU 10 (some 162) T ?_; refine rP 11 (some 163) T ?_; refine rP 12 (some 164) T ?_; refine rU 13 (some 165) T ?_; refine rU 14 (some 166) T ?_; refine rU 15 (some 167) T ?_; refine rP 16 (some 168) T ?_; refine rP 17 (some 169) T ?_; refine rU 18 (some 170) T ?_; refine rU 19 (some 171) T ?_; refine rU 20 (some 172) T ?_; refine rP 21 (some 173) T ?_; refine rP 22 (some 174) T ?_; refine rU 23 (some 175) T ?_; refine rU 24 (some 176) T ?_; refine rU 25 (some 177) T ?_; refine rP 26 (some 178) T ?_; refine rP 27 (some 179) T ?_; refine rU 28 (some 180) T ?_; refine rU 29 (some 181) T ?_; refine rU 30 (some 182) T ?_; refine rU 31 (some 183) T ?_; refine rU 32 (some 184) T ?_; refine rU 33 (some 185) T ?_; refine rU 34 (some 186) T ?_; refine rU 35 (some 187) T ?_; refine rU 36 (some 188) T ?_; refine rU 37 (some 189) T ?_; refine rU 38 (some 190) T ?_; refine rU 39 (some 191) T ?_; refine rU 40 (some 192) T ?_; refine rU 41 (some 193) T ?_; refine rU 42 (some 194) T ?_; refine rU 43 (some 195) T ?_; refine rU 44 (some 196) T ?_; refine rU 45 (some 197) T ?_; refine rU 46 (some 198) T ?_; refine rU 47 (some 199) T ?_; refine rU 48 (some 200) T ?_; refine rU 49 (some 201) T ?_; refine rU 50 (some 202) T ?_; refine rU 51 (some 203) T ?_; refine rP 52 (some 204) T ?_
                     refine uO (vW T.out (by kernel_rfl)) ?_; have kg := xG.out.trans (H1.out.mono xG.out.size); clear h; try go_wp2
                     go_ret
                     exact ⟨rfl, HW.out _ kg⟩
                  | true =>
                  have h0 := fun (W : World) (h : Below X.heap.size X W) => hq W x.f0 h
                  simp only [r0] at h0
                  cases r1 : j5 l3 x.f1 with
                  | false =>
                    have h1 := fun (W : World) (h : Below X.heap.size X W) => hq W x.f1 h
                    simp only [r1] at h1
                    as_aux_lemma =>
                     have hv : V = false := by
                       rw [jA.out, uI (i := 0) hlt (by rw [hok, r0, r1]; simp)]
                       done
                     subst hv
                     refine rS (n := 53) HS rval.Qf rval.Y0 (by kernel_rfl) rfl rfl (fun w0 H0 T U h => ?_)
                     refine rP 1 (some 153) T ?_; refine rT 0 (some 152) T U h ?_; refine rT 2 (some 154) T U h ?_
                     clear h; refine rC 3 (some 155) T HS H0 Tryz.func63 (h0 _ H0.out) (fun w1 H1 h => ?_) (by kernel_rfl)
                     refine rP 4 (some 156) T ?_; refine rP 5 (some 157) T ?_; refine rP 7 (some 159) T ?_; refine rT 6 (some 158) T U h ?_; refine rT 8 (some 160) T U h ?_
                     clear h; refine rC 9 (some 161) T HS H1 Tryz.func63 (h1 _ H1.out) (fun w2 H2 h => ?_) (by kernel_rfl)
                     refine rP 10 (some 162) T ?_; refine rP 11 (some 163) T ?_; refine rP 12 (some 164) T ?_; refine rU 13 (some 165) T ?_; refine rU 14 (some 166) T ?_; refine rU 15 (some 167) T ?_; refine rP 16 (some 168) T ?_; refine rP 17 (some 169) T ?_; refine rU 18 (some 170) T ?_; refine rU 19 (some 171) T ?_; refine rU 20 (some 172) T ?_; refine rP 21 (some 173) T ?_; refine rP 22 (some 174) T ?_; refine rU 23 (some 175) T ?_; refine rU 24 (some 176) T ?_; refine rU 25 (some 177) T ?_; refine rP 26 (some 178) T ?_; refine rP 27 (some 179) T ?_; refine rU 28 (some 180) T ?_; refine rU 29 (some 181) T ?_; refine rU 30 (some 182) T ?_; refine rU 31 (some 183) T ?_; refine rU 32 (some 184) T ?_; refine rU 33 (some 185) T ?_; refine rU 34 (some 186) T ?_; refine rU 35 (some 187) T ?_; refine rU 36 (some 188) T ?_; refine rU 37 (some 189) T ?_; refine rU 38 (some 190) T ?_; refine rU 39 (some 191) T ?_; refine rU 40 (some 192) T ?_; refine rU 41 (some 193) T ?_; refine rU 42 (some 194) T ?_; refine rU 43 (some 195) T ?_; refine rU 44 (some 196) T ?_; refine rU 45 (some 197) T ?_; refine rU 46 (some 198) T ?_; refine rU 47 (some 199) T ?_; refine rU 48 (some 200) T ?_; refine rU 49 (some 201) T ?_; refine rU 50 (some 202) T ?_; refine rU 51 (some 203) T ?_; refine rP 52 (some 204) T ?_
                     refine uO (vW T.out (by kernel_rfl)) ?_; have kg := xG.out.trans (H2.out.mono xG.out.size); clear h; try go_wp2
                     go_ret
                     exact ⟨rfl, HW.out _ kg⟩
                  | true =>
                  have h1 := fun (W : World) (h : Below X.heap.size X W) => hq W x.f1 h
                  simp only [r1] at h1
                  by_cases tz : x.f2 = 0
                  · have dz : decide (x.f2 = 0) = true := decide_eq_true tz
                    have dz2 : (x.f2 == 0) = true := beq_iff_eq.2 tz
                    as_aux_lemma =>
                     have hv : V = false := by
                       rw [jA.out, uI (i := 0) hlt (by rw [hok, r0, r1, dz]; simp)]
                       done
                     subst hv
                     refine rS (n := 53) HS rval.Qf rval.Y0 (by kernel_rfl) rfl rfl (fun w0 H0 T U h => ?_)
                     refine rP 1 (some 153) T ?_; refine rT 0 (some 152) T U h ?_; refine rT 2 (some 154) T U h ?_
                     clear h; refine rC 3 (some 155) T HS H0 Tryz.func63 (h0 _ H0.out) (fun w1 H1 h => ?_) (by kernel_rfl)
                     refine rP 4 (some 156) T ?_; refine rP 5 (some 157) T ?_; refine rP 7 (some 159) T ?_; refine rT 6 (some 158) T U h ?_; refine rT 8 (some 160) T U h ?_
                     clear h; refine rC 9 (some 161) T HS H1 Tryz.func63 (h1 _ H1.out) (fun w2 H2 h => ?_) (by kernel_rfl)
                     refine rP 10 (some 162) T ?_; refine rP 11 (some 163) T ?_; refine rP 12 (some 164) T ?_; refine rP 13 (some 165) T ?_; refine rT 14 (some 166) T U h ?_; refine rP 15 (some 167) T ?_; refine rP 16 (some 168) T ?_; refine rP 17 (some 169) T ?_; refine rU 18 (some 170) T ?_; refine rU 19 (some 171) T ?_; refine rU 20 (some 172) T ?_; refine rP 21 (some 173) T ?_; refine rP 22 (some 174) T ?_; refine rU 23 (some 175) T ?_; refine rU 24 (some 176) T ?_; refine rU 25 (some 177) T ?_; refine rP 26 (some 178) T ?_; refine rP 27 (some 179) T ?_; refine rU 28 (some 180) T ?_; refine rU 29 (some 181) T ?_; refine rU 30 (some 182) T ?_; refine rU 31 (some 183) T ?_; refine rU 32 (some 184) T ?_; refine rU 33 (some 185) T ?_; refine rU 34 (some 186) T ?_; refine rU 35 (some 187) T ?_; refine rU 36 (some 188) T ?_; refine rU 37 (some 189) T ?_; refine rU 38 (some 190) T ?_; refine rU 39 (some 191) T ?_; refine rU 40 (some 192) T ?_; refine rU 41 (some 193) T ?_; refine rU 42 (some 194) T ?_; refine rU 43 (some 195) T ?_; refine rU 44 (some 196) T ?_; refine rU 45 (some 197) T ?_; refine rU 46 (some 198) T ?_; refine rU 47 (some 199) T ?_; refine rU 48 (some 200) T ?_; refine rU 49 (some 201) T ?_; refine rU 50 (some 202) T ?_; refine rU 51 (some 203) T ?_; refine rP 52 (some 204) T ?_
                     refine uO (vW T.out (by kernel_rfl)) ?_; have kg := xG.out.trans (H2.out.mono xG.out.size); clear h; try go_wp2
                     go_ret
                     exact ⟨rfl, HW.out _ kg⟩
                  have dz : decide (x.f2 = 0) = false := decide_eq_false tz
                  have dz2 : (x.f2 == 0) = false := beq_eq_false_iff_ne.2 tz
                  by_cases tlt : x.f2 < -500
                  · have sH : decide (x.f2 < -500) = true := decide_eq_true tlt
                    skip
                    as_aux_lemma =>
                     have hv : V = false := by
                       rw [jA.out, uI (i := 0) hlt (by rw [hok, r0, r1, dz, sH]; simp)]
                       done
                     subst hv
                     refine rS (n := 53) HS rval.Qf rval.Y0 (by kernel_rfl) rfl rfl (fun w0 H0 T U h => ?_)
                     refine rP 1 (some 153) T ?_; refine rT 0 (some 152) T U h ?_; refine rT 2 (some 154) T U h ?_
                     clear h; refine rC 3 (some 155) T HS H0 Tryz.func63 (h0 _ H0.out) (fun w1 H1 h => ?_) (by kernel_rfl)
                     refine rP 4 (some 156) T ?_; refine rP 5 (some 157) T ?_; refine rP 7 (some 159) T ?_; refine rT 6 (some 158) T U h ?_; refine rT 8 (some 160) T U h ?_
                     clear h; refine rC 9 (some 161) T HS H1 Tryz.func63 (h1 _ H1.out) (fun w2 H2 h => ?_) (by kernel_rfl)
                     refine rP 10 (some 162) T ?_; refine rP 11 (some 163) T ?_; refine rP 12 (some 164) T ?_; refine rP 13 (some 165) T ?_; refine rT 14 (some 166) T U h ?_; refine rP 15 (some 167) T ?_; refine rP 16 (some 168) T ?_; refine rP 17 (some 169) T ?_; refine rP 18 (some 170) T ?_; refine rT 19 (some 171) T U h ?_; refine rP 20 (some 172) T ?_; refine rP 21 (some 173) T ?_; refine rP 22 (some 174) T ?_; refine rU 23 (some 175) T ?_; refine rU 24 (some 176) T ?_; refine rU 25 (some 177) T ?_; refine rP 26 (some 178) T ?_; refine rP 27 (some 179) T ?_; refine rU 28 (some 180) T ?_; refine rU 29 (some 181) T ?_; refine rU 30 (some 182) T ?_; refine rU 31 (some 183) T ?_; refine rU 32 (some 184) T ?_; refine rU 33 (some 185) T ?_; refine rU 34 (some 186) T ?_; refine rU 35 (some 187) T ?_; refine rU 36 (some 188) T ?_; refine rU 37 (some 189) T ?_; refine rU 38 (some 190) T ?_; refine rU 39 (some 191) T ?_; refine rU 40 (some 192) T ?_; refine rU 41 (some 193) T ?_; refine rU 42 (some 194) T ?_; refine rU 43 (some 195) T ?_; refine rU 44 (some 196) T ?_; refine rU 45 (some 197) T ?_; refine rU 46 (some 198) T ?_; refine rU 47 (some 199) T ?_; refine rU 48 (some 200) T ?_; refine rU 49 (some 201) T ?_; refine rU 50 (some 202) T ?_; refine rU 51 (some 203) T ?_; refine rP 52 (some 204) T ?_
                     refine uO (vW T.out (by kernel_rfl)) ?_; have kg := xG.out.trans (H2.out.mono xG.out.size); clear h; try go_wp2
                     go_ret
                     exact ⟨rfl, HW.out _ kg⟩
                  have sH : decide (x.f2 < -500) = false := decide_eq_false tlt
                  skip
                  by_cases tgt : 500 < x.f2
                  · have dgt : decide (500 < x.f2) = true := decide_eq_true tgt
                    skip
                    as_aux_lemma =>
                     have hv : V = false := by
                       rw [jA.out, uI (i := 0) hlt (by rw [hok, r0, r1, dz, sH, dgt]; simp)]
                       done
                     subst hv
                     refine rS (n := 53) HS rval.Qf rval.Y0 (by kernel_rfl) rfl rfl (fun w0 H0 T U h => ?_)
                     refine rP 1 (some 153) T ?_; refine rT 0 (some 152) T U h ?_; refine rT 2 (some 154) T U h ?_
                     clear h; refine rC 3 (some 155) T HS H0 Tryz.func63 (h0 _ H0.out) (fun w1 H1 h => ?_) (by kernel_rfl)
                     refine rP 4 (some 156) T ?_; refine rP 5 (some 157) T ?_; refine rP 7 (some 159) T ?_; refine rT 6 (some 158) T U h ?_; refine rT 8 (some 160) T U h ?_
                     clear h; refine rC 9 (some 161) T HS H1 Tryz.func63 (h1 _ H1.out) (fun w2 H2 h => ?_) (by kernel_rfl)
                     refine rP 10 (some 162) T ?_; refine rP 11 (some 163) T ?_; refine rP 12 (some 164) T ?_; refine rP 13 (some 165) T ?_; refine rT 14 (some 166) T U h ?_; refine rP 15 (some 167) T ?_; refine rP 16 (some 168) T ?_; refine rP 17 (some 169) T ?_; refine rP 18 (some 170) T ?_; refine rT 19 (some 171) T U h ?_; refine rP 20 (some 172) T ?_; refine rP 21 (some 173) T ?_; refine rP 22 (some 174) T ?_; refine rP 23 (some 175) T ?_; refine rT 24 (some 176) T U h ?_; refine rP 25 (some 177) T ?_; refine rP 26 (some 178) T ?_; refine rP 27 (some 179) T ?_; refine rU 28 (some 180) T ?_; refine rU 29 (some 181) T ?_; refine rU 30 (some 182) T ?_; refine rU 31 (some 183) T ?_; refine rU 32 (some 184) T ?_; refine rU 33 (some 185) T ?_; refine rU 34 (some 186) T ?_; refine rU 35 (some 187) T ?_; refine rU 36 (some 188) T ?_; refine rU 37 (some 189) T ?_; refine rU 38 (some 190) T ?_; refine rU 39 (some 191) T ?_; refine rU 40 (some 192) T ?_; refine rU 41 (some 193) T ?_; refine rU 42 (some 194) T ?_; refine rU 43 (some 195) T ?_; refine rU 44 (some 196) T ?_; refine rU 45 (some 197) T ?_; refine rU 46 (some 198) T ?_; refine rU 47 (some 199) T ?_; refine rU 48 (some 200) T ?_; refine rU 49 (some 201) T ?_; refine rU 50 (some 202) T ?_; refine rU 51 (some 203) T ?_; refine rP 52 (some 204) T ?_
                     refine uO (vW T.out (by kernel_rfl)) ?_; have kg := xG.out.trans (H2.out.mono xG.out.size); clear h; try go_wp2
                     go_ret
                     exact ⟨rfl, HW.out _ kg⟩
                  have dgt : decide (500 < x.f2) = false := decide_eq_false tgt
                  skip
                  as_aux_lemma =>
                  have hok2 : XT l3 l5 0 = true := by rw [hok, r0, r1, dz, sH, dgt]; rfl
                  refine rS (n := 53) HS rval.Qf rval.Y0 (by kernel_rfl) rfl rfl (fun w0 H0 T U h => ?_)
                  refine rP 1 (some 153) T ?_; refine rT 0 (some 152) T U h ?_; refine rT 2 (some 154) T U h ?_
                  clear h; refine rC 3 (some 155) T HS H0 Tryz.func63 (h0 _ H0.out) (fun w1 H1 h => ?_) (by kernel_rfl)
                  refine rP 4 (some 156) T ?_; refine rP 5 (some 157) T ?_; refine rP 7 (some 159) T ?_; refine rT 6 (some 158) T U h ?_; refine rT 8 (some 160) T U h ?_
                  clear h; refine rC 9 (some 161) T HS H1 Tryz.func63 (h1 _ H1.out) (fun w2 H2 h => ?_) (by kernel_rfl)
                  refine rP 10 (some 162) T ?_; refine rP 11 (some 163) T ?_; refine rP 12 (some 164) T ?_; refine rP 13 (some 165) T ?_; refine rT 14 (some 166) T U h ?_; refine rP 15 (some 167) T ?_; refine rP 16 (some 168) T ?_; refine rP 17 (some 169) T ?_; refine rP 18 (some 170) T ?_; refine rT 19 (some 171) T U h ?_; refine rP 20 (some 172) T ?_; refine rP 21 (some 173) T ?_; refine rP 22 (some 174) T ?_; refine rP 23 (some 175) T ?_; refine rT 24 (some 176) T U h ?_; refine rP 25 (some 177) T ?_; refine rP 26 (some 178) T ?_; refine rP 27 (some 179) T ?_; refine rP 28 (some 180) T ?_; refine rP 29 (some 181) T ?_; refine rP 30 (some 182) T ?_; refine rU 31 (some 183) T ?_; refine rU 32 (some 184) T ?_; refine rU 33 (some 185) T ?_; refine rU 34 (some 186) T ?_; refine rU 35 (some 187) T ?_; refine rU 36 (some 188) T ?_; refine rU 37 (some 189) T ?_; refine rU 38 (some 190) T ?_; refine rU 39 (some 191) T ?_; refine rU 40 (some 192) T ?_; refine rU 41 (some 193) T ?_; refine rU 42 (some 194) T ?_; refine rU 43 (some 195) T ?_; refine rU 44 (some 196) T ?_; refine rU 45 (some 197) T ?_; refine rU 46 (some 198) T ?_; refine rU 47 (some 199) T ?_; refine rU 48 (some 200) T ?_; refine rU 49 (some 201) T ?_; refine rU 50 (some 202) T ?_; refine rP 51 (some 203) T ?_; refine rP 52 (some 204) T ?_
                  refine uO (vW T.out (by kernel_rfl)) ?_; have kg := xG.out.trans (H2.out.mono xG.out.size); clear h; try go_wp2
                  go_roundw
                  case rel => exact ⟨0 + 1, by first | rfl | (simp; done) | go_num, by omega, ⟨kg⟩, ⟨fun j hj => (Nat.lt_succ_iff_lt_or_eq.1 hj).elim (HK5.out j) (fun e => by rw [e]; exact hok2)⟩⟩
                  case measure => simp [intOf]; omega
                · obtain ⟨m, rfl⟩ : ∃ m, i = m + 1 := ⟨i - 1, by omega⟩
                  obtain ⟨fF, e2, y0, y1, y2⟩ := QE hC (m : Int) (by omega) (by omega)
                  have e3 : ad = fF := by rw [hA] at e2; injection e2 with e2
                  subst e3
                  rw [Int.toNat_natCast] at y0 y1 y2
                  have hpr : (((m + 1 : Nat) : Int) - 1) = (m : Int) := by omega
                  have hok : XT l3 l5 (m + 1) = (j5 l3 (xY l5 (((m + 1) : Nat) : Int)).f0 && (j5 l3 (xY l5 (((m + 1) : Nat) : Int)).f1 && (!decide ((xY l5 (((m + 1) : Nat) : Int)).f2 = 0) && (!decide ((xY l5 (((m + 1) : Nat) : Int)).f2 < -500) && (!decide (500 < (xY l5 (((m + 1) : Nat) : Int)).f2) && QF (xY l5 (m : Int)).f0 (xY l5 (m : Int)).f1 (xY l5 (((m + 1) : Nat) : Int)).f0 (xY l5 (((m + 1) : Nat) : Int)).f1))))) := by
                    unfold XT
                    rw [decide_eq_false (by omega : ¬ m + 1 = 0), Bool.false_or, hpr]
                  have hzx : (xY l5 (((m + 1) : Nat) : Int)) ∈ l5 := by
                    have e9 : xY l5 (((m + 1) : Nat) : Int) = l5[(m + 1)] := by simp only [xY, Int.toNat_natCast, List.getD_eq_getElem?_getD, List.getElem?_eq_getElem hlt, Option.getD_some]
                    rw [e9]; exact List.getElem_mem hlt
                  generalize xY l5 (((m + 1) : Nat) : Int) = x at x0 x1 x2 hok hzx
                  generalize xY l5 (m : Int) = p at y0 y1 y2 hok
                  have e1 : IntKind.i64.wrap (((m : Int) + 1) - 1) = (m : Int) := by rw [Int.add_sub_cancel]; exact IntWalk.i64_in _ (by omega)
                  have q1 : (m : Int) < (l5.length : Int) := by omega
                  have q2 : (m : Int) + 1 < (l5.length : Int) := by omega
                  have q3 : ((m : Int) + 1).toNat = m + 1 := by omega
                  have q4 : (0 : Int) ≤ (m : Int) + 1 := by omega
                  have e0 : IntKind.i64.wrap (m : Int) = (m : Int) := IntWalk.i64_in _ (by omega)
                  have q5 : (0 : Int) ≤ (m : Int) := by omega
                  have q7 : decide (0 < (m : Int) + 1) = true := decide_eq_true (by omega)
                  have q8 : decide ((m : Int) + 1 < (l5.length : Int)) = true := decide_eq_true q2
                  rw [hA] at hcf
                  clear hzx
                  go_wp2_with fail
                  have hbX : Below wr.heap.size wr (wr.alloc (.cells #[.string x.f0, .string x.f1, .int .i64 x.f2] 84)) := (Below.refl _ wr).alloc (Nat.le_refl _) _
                  have xG := zx.mk (Qo.out.trans (hbX.mono Qo.out.size))
                  have hbk := je wr (.cells #[.string x.f0, .string x.f1, .int .i64 x.f2] 84)
                  have hX0 : (wr.alloc (.cells #[.string x.f0, .string x.f1, .int .i64 x.f2] 84)).cell? ⟨wr.heap.size, 0, none⟩ = some (.string x.f0) := (zk hbk 0).trans rfl
                  have hX1 : (wr.alloc (.cells #[.string x.f0, .string x.f1, .int .i64 x.f2] 84)).cell? ⟨wr.heap.size, 1, none⟩ = some (.string x.f1) := (zk hbk 1).trans rfl
                  have hX2 : (wr.alloc (.cells #[.string x.f0, .string x.f1, .int .i64 x.f2] 84)).cell? ⟨wr.heap.size, 2, none⟩ = some (.int .i64 x.f2) := (zk hbk 2).trans rfl
                  have Wj : (wr.alloc (.cells #[.string x.f0, .string x.f1, .int .i64 x.f2] 84)).cell? ⟨w.heap.size, 0, none⟩ = some (.string a) := (zk (HF.out _ xG.out) 0).trans rfl
                  have hF1 : (wr.alloc (.cells #[.string x.f0, .string x.f1, .int .i64 x.f2] 84)).cell? ⟨w.heap.size, 1, none⟩ = some (.bool b) := (zk (HF.out _ xG.out) 1).trans rfl
                  have hF2 : (wr.alloc (.cells #[.string x.f0, .string x.f1, .int .i64 x.f2] 84)).cell? ⟨w.heap.size, 2, none⟩ = some (.int .i64 c) := (zk (HF.out _ xG.out) 2).trans rfl
                  have Ja : (wr.alloc (.cells #[.string x.f0, .string x.f1, .int .i64 x.f2] 84)).cell? ⟨w.heap.size, 3, none⟩ = some (.slice A3 l3.length c3) := (zk (HF.out _ xG.out) 3).trans rfl
                  have Wv : (wr.alloc (.cells #[.string x.f0, .string x.f1, .int .i64 x.f2] 84)).cell? ⟨w.heap.size, 4, none⟩ = some (.slice A4 l4.length c4) := (zk (HF.out _ xG.out) 4).trans rfl
                  have Wy : (wr.alloc (.cells #[.string x.f0, .string x.f1, .int .i64 x.f2] 84)).cell? ⟨w.heap.size, 5, none⟩ = some (.slice (some ad) l5.length c5) := (zk (HF.out _ xG.out) 5).trans (by rw [hA]; rfl)
                  have iP := (hbX.cell (World.block_lt_of_cell? wr _ y0)).trans y0
                  have hP1 := (hbX.cell (World.block_lt_of_cell? wr _ y1)).trans y1
                  have hq := fun (W : World) (n : ByteArray) (h : Below (wr.alloc (.cells #[.string x.f0, .string x.f1, .int .i64 x.f2] 84)).heap.size (wr.alloc (.cells #[.string x.f0, .string x.f1, .int .i64 x.f2] 84)) W) => fG a b c A3 c3 l3 A4 c4 l4 A5 c5 l5 n W (Kd.zY H3.out ((HW.out _ xG.out).trans (h.mono (HW.out _ xG.out).size))) G3.out (Kd.zY H4.out ((HW.out _ xG.out).trans (h.mono (HW.out _ xG.out).size))) G4.out (Kd.zY H5.out ((HW.out _ xG.out).trans (h.mono (HW.out _ xG.out).size))) G5.out hl3
                  rw [hA] at hq
                  clear hbk hbX x0 x1 x2 y0 y1 y2 hC hcf
                  generalize wr.heap.size = g4 at hX0 hlA hX1 hX2 ⊢
                  generalize (wr.alloc (.cells #[.string x.f0, .string x.f1, .int .i64 x.f2] 84)) = X at xG hX0 hX1 hX2 Wj hF1 hF2 Ja Wv Wy iP hP1 hq ⊢
                  have HS := zx.mk (fun (W : World) (h : Below X.heap.size X W) => (show W.cell? ⟨g4, 0, none⟩ = some (.string x.f0) ∧ W.cell? ⟨g4, 1, none⟩ = some (.string x.f1) ∧ W.cell? ⟨g4, 2, none⟩ = some (.int .i64 x.f2) ∧ W.cell? ⟨w.heap.size, 0, none⟩ = some (.string a) ∧ W.cell? ⟨w.heap.size, 1, none⟩ = some (.bool b) ∧ W.cell? ⟨w.heap.size, 2, none⟩ = some (.int .i64 c) ∧ W.cell? ⟨w.heap.size, 3, none⟩ = some (.slice A3 l3.length c3) ∧ W.cell? ⟨w.heap.size, 4, none⟩ = some (.slice A4 l4.length c4) ∧ W.cell? ⟨w.heap.size, 5, none⟩ = some (.slice (some ad) l5.length c5) ∧ W.cell? (ad.add (m * 3)) = some (.string p.f0) ∧ W.cell? ⟨(ad.add (m * 3)).block, (ad.add (m * 3)).off + 1, none⟩ = some (.string p.f1) from ⟨(h.cell (World.block_lt_of_cell? X _ hX0)).trans hX0, (h.cell (World.block_lt_of_cell? X _ hX1)).trans hX1, (h.cell (World.block_lt_of_cell? X _ hX2)).trans hX2, (h.cell (World.block_lt_of_cell? X _ Wj)).trans Wj, (h.cell (World.block_lt_of_cell? X _ hF1)).trans hF1, (h.cell (World.block_lt_of_cell? X _ hF2)).trans hF2, (h.cell (World.block_lt_of_cell? X _ Ja)).trans Ja, (h.cell (World.block_lt_of_cell? X _ Wv)).trans Wv, (h.cell (World.block_lt_of_cell? X _ Wy)).trans Wy, (h.cell (World.block_lt_of_cell? X _ iP)).trans iP, (h.cell (World.block_lt_of_cell? X _ hP1)).trans hP1⟩))
                  cases r0 : j5 l3 x.f0 with
                  | false =>
                    have h0 := fun (W : World) (h : Below X.heap.size X W) => hq W x.f0 h
                    simp only [r0] at h0
                    as_aux_lemma =>
                     have hv : V = false := by
                       rw [jA.out, uI (i := (m + 1)) hlt (by rw [hok, r0]; simp)]
                       done
                     subst hv
                     refine rS (n := 53) HS rval.Qf rval.Y0 (by kernel_rfl) rfl rfl (fun w0 H0 T U h => ?_)
                     refine rP 1 (some 153) T ?_; refine rT 0 (some 152) T U h ?_; refine rT 2 (some 154) T U h ?_
                     clear h; refine rC 3 (some 155) T HS H0 Tryz.func63 (h0 _ H0.out) (fun w1 H1 h => ?_) (by kernel_rfl)
                     refine rP 4 (some 156) T ?_; refine rP 5 (some 157) T ?_; refine rU 6 (some 158) T ?_; refine rU 7 (some 159) T ?_; refine rU 8 (some 160) T ?_; refine rU 9 (some 161) T ?_; refine rU 10 (some 162) T ?_; refine rP 11 (some 163) T ?_; refine rP 12 (some 164) T ?_; refine rU 13 (some 165) T ?_; refine rU 14 (some 166) T ?_; refine rU 15 (some 167) T ?_; refine rP 16 (some 168) T ?_; refine rP 17 (some 169) T ?_; refine rU 18 (some 170) T ?_; refine rU 19 (some 171) T ?_; refine rU 20 (some 172) T ?_; refine rP 21 (some 173) T ?_; refine rP 22 (some 174) T ?_; refine rU 23 (some 175) T ?_; refine rU 24 (some 176) T ?_; refine rU 25 (some 177) T ?_; refine rP 26 (some 178) T ?_; refine rP 27 (some 179) T ?_; refine rU 28 (some 180) T ?_; refine rU 29 (some 181) T ?_; refine rU 30 (some 182) T ?_; refine rU 31 (some 183) T ?_; refine rU 32 (some 184) T ?_; refine rU 33 (some 185) T ?_; refine rU 34 (some 186) T ?_; refine rU 35 (some 187) T ?_; refine rU 36 (some 188) T ?_; refine rU 37 (some 189) T ?_; refine rU 38 (some 190) T ?_; refine rU 39 (some 191) T ?_; refine rU 40 (some 192) T ?_; refine rU 41 (some 193) T ?_; refine rU 42 (some 194) T ?_; refine rU 43 (some 195) T ?_; refine rU 44 (some 196) T ?_; refine rU 45 (some 197) T ?_; refine rU 46 (some 198) T ?_; refine rU 47 (some 199) T ?_; refine rU 48 (some 200) T ?_; refine rU 49 (some 201) T ?_; refine rU 50 (some 202) T ?_; refine rU 51 (some 203) T ?_; refine rP 52 (some 204) T ?_
                     refine uO (vW T.out (by kernel_rfl)) ?_; have kg := xG.out.trans (H1.out.mono xG.out.size); clear h; try go_wp2
                     go_ret
                     exact ⟨rfl, HW.out _ kg⟩
                  | true =>
                  have h0 := fun (W : World) (h : Below X.heap.size X W) => hq W x.f0 h
                  simp only [r0] at h0
                  cases r1 : j5 l3 x.f1 with
                  | false =>
                    have h1 := fun (W : World) (h : Below X.heap.size X W) => hq W x.f1 h
                    simp only [r1] at h1
                    as_aux_lemma =>
                     have hv : V = false := by
                       rw [jA.out, uI (i := (m + 1)) hlt (by rw [hok, r0, r1]; simp)]
                       done
                     subst hv
                     refine rS (n := 53) HS rval.Qf rval.Y0 (by kernel_rfl) rfl rfl (fun w0 H0 T U h => ?_)
                     refine rP 1 (some 153) T ?_; refine rT 0 (some 152) T U h ?_; refine rT 2 (some 154) T U h ?_
                     clear h; refine rC 3 (some 155) T HS H0 Tryz.func63 (h0 _ H0.out) (fun w1 H1 h => ?_) (by kernel_rfl)
                     refine rP 4 (some 156) T ?_; refine rP 5 (some 157) T ?_; refine rP 7 (some 159) T ?_; refine rT 6 (some 158) T U h ?_; refine rT 8 (some 160) T U h ?_
                     clear h; refine rC 9 (some 161) T HS H1 Tryz.func63 (h1 _ H1.out) (fun w2 H2 h => ?_) (by kernel_rfl)
                     refine rP 10 (some 162) T ?_; refine rP 11 (some 163) T ?_; refine rP 12 (some 164) T ?_; refine rU 13 (some 165) T ?_; refine rU 14 (some 166) T ?_; refine rU 15 (some 167) T ?_; refine rP 16 (some 168) T ?_; refine rP 17 (some 169) T ?_; refine rU 18 (some 170) T ?_; refine rU 19 (some 171) T ?_; refine rU 20 (some 172) T ?_; refine rP 21 (some 173) T ?_; refine rP 22 (some 174) T ?_; refine rU 23 (some 175) T ?_; refine rU 24 (some 176) T ?_; refine rU 25 (some 177) T ?_; refine rP 26 (some 178) T ?_; refine rP 27 (some 179) T ?_; refine rU 28 (some 180) T ?_; refine rU 29 (some 181) T ?_; refine rU 30 (some 182) T ?_; refine rU 31 (some 183) T ?_; refine rU 32 (some 184) T ?_; refine rU 33 (some 185) T ?_; refine rU 34 (some 186) T ?_; refine rU 35 (some 187) T ?_; refine rU 36 (some 188) T ?_; refine rU 37 (some 189) T ?_; refine rU 38 (some 190) T ?_; refine rU 39 (some 191) T ?_; refine rU 40 (some 192) T ?_; refine rU 41 (some 193) T ?_; refine rU 42 (some 194) T ?_; refine rU 43 (some 195) T ?_; refine rU 44 (some 196) T ?_; refine rU 45 (some 197) T ?_; refine rU 46 (some 198) T ?_; refine rU 47 (some 199) T ?_; refine rU 48 (some 200) T ?_; refine rU 49 (some 201) T ?_; refine rU 50 (some 202) T ?_; refine rU 51 (some 203) T ?_; refine rP 52 (some 204) T ?_
                     refine uO (vW T.out (by kernel_rfl)) ?_; have kg := xG.out.trans (H2.out.mono xG.out.size); clear h; try go_wp2
                     go_ret
                     exact ⟨rfl, HW.out _ kg⟩
                  | true =>
                  have h1 := fun (W : World) (h : Below X.heap.size X W) => hq W x.f1 h
                  simp only [r1] at h1
                  by_cases tz : x.f2 = 0
                  · have dz : decide (x.f2 = 0) = true := decide_eq_true tz
                    have dz2 : (x.f2 == 0) = true := beq_iff_eq.2 tz
                    as_aux_lemma =>
                     have hv : V = false := by
                       rw [jA.out, uI (i := (m + 1)) hlt (by rw [hok, r0, r1, dz]; simp)]
                       done
                     subst hv
                     refine rS (n := 53) HS rval.Qf rval.Y0 (by kernel_rfl) rfl rfl (fun w0 H0 T U h => ?_)
                     refine rP 1 (some 153) T ?_; refine rT 0 (some 152) T U h ?_; refine rT 2 (some 154) T U h ?_
                     clear h; refine rC 3 (some 155) T HS H0 Tryz.func63 (h0 _ H0.out) (fun w1 H1 h => ?_) (by kernel_rfl)
                     refine rP 4 (some 156) T ?_; refine rP 5 (some 157) T ?_; refine rP 7 (some 159) T ?_; refine rT 6 (some 158) T U h ?_; refine rT 8 (some 160) T U h ?_
                     clear h; refine rC 9 (some 161) T HS H1 Tryz.func63 (h1 _ H1.out) (fun w2 H2 h => ?_) (by kernel_rfl)
                     refine rP 10 (some 162) T ?_; refine rP 11 (some 163) T ?_; refine rP 12 (some 164) T ?_; refine rP 13 (some 165) T ?_; refine rT 14 (some 166) T U h ?_; refine rP 15 (some 167) T ?_; refine rP 16 (some 168) T ?_; refine rP 17 (some 169) T ?_; refine rU 18 (some 170) T ?_; refine rU 19 (some 171) T ?_; refine rU 20 (some 172) T ?_; refine rP 21 (some 173) T ?_; refine rP 22 (some 174) T ?_; refine rU 23 (some 175) T ?_; refine rU 24 (some 176) T ?_; refine rU 25 (some 177) T ?_; refine rP 26 (some 178) T ?_; refine rP 27 (some 179) T ?_; refine rU 28 (some 180) T ?_; refine rU 29 (some 181) T ?_; refine rU 30 (some 182) T ?_; refine rU 31 (some 183) T ?_; refine rU 32 (some 184) T ?_; refine rU 33 (some 185) T ?_; refine rU 34 (some 186) T ?_; refine rU 35 (some 187) T ?_; refine rU 36 (some 188) T ?_; refine rU 37 (some 189) T ?_; refine rU 38 (some 190) T ?_; refine rU 39 (some 191) T ?_; refine rU 40 (some 192) T ?_; refine rU 41 (some 193) T ?_; refine rU 42 (some 194) T ?_; refine rU 43 (some 195) T ?_; refine rU 44 (some 196) T ?_; refine rU 45 (some 197) T ?_; refine rU 46 (some 198) T ?_; refine rU 47 (some 199) T ?_; refine rU 48 (some 200) T ?_; refine rU 49 (some 201) T ?_; refine rU 50 (some 202) T ?_; refine rU 51 (some 203) T ?_; refine rP 52 (some 204) T ?_
                     refine uO (vW T.out (by kernel_rfl)) ?_; have kg := xG.out.trans (H2.out.mono xG.out.size); clear h; try go_wp2
                     go_ret
                     exact ⟨rfl, HW.out _ kg⟩
                  have dz : decide (x.f2 = 0) = false := decide_eq_false tz
                  have dz2 : (x.f2 == 0) = false := beq_eq_false_iff_ne.2 tz
                  by_cases tlt : x.f2 < -500
                  · have sH : decide (x.f2 < -500) = true := decide_eq_true tlt
                    skip
                    as_aux_lemma =>
                     have hv : V = false := by
                       rw [jA.out, uI (i := (m + 1)) hlt (by rw [hok, r0, r1, dz, sH]; simp)]
                       done
                     subst hv
                     refine rS (n := 53) HS rval.Qf rval.Y0 (by kernel_rfl) rfl rfl (fun w0 H0 T U h => ?_)
                     refine rP 1 (some 153) T ?_; refine rT 0 (some 152) T U h ?_; refine rT 2 (some 154) T U h ?_
                     clear h; refine rC 3 (some 155) T HS H0 Tryz.func63 (h0 _ H0.out) (fun w1 H1 h => ?_) (by kernel_rfl)
                     refine rP 4 (some 156) T ?_; refine rP 5 (some 157) T ?_; refine rP 7 (some 159) T ?_; refine rT 6 (some 158) T U h ?_; refine rT 8 (some 160) T U h ?_
                     clear h; refine rC 9 (some 161) T HS H1 Tryz.func63 (h1 _ H1.out) (fun w2 H2 h => ?_) (by kernel_rfl)
                     refine rP 10 (some 162) T ?_; refine rP 11 (some 163) T ?_; refine rP 12 (some 164) T ?_; refine rP 13 (some 165) T ?_; refine rT 14 (some 166) T U h ?_; refine rP 15 (some 167) T ?_; refine rP 16 (some 168) T ?_; refine rP 17 (some 169) T ?_; refine rP 18 (some 170) T ?_; refine rT 19 (some 171) T U h ?_; refine rP 20 (some 172) T ?_; refine rP 21 (some 173) T ?_; refine rP 22 (some 174) T ?_; refine rU 23 (some 175) T ?_; refine rU 24 (some 176) T ?_; refine rU 25 (some 177) T ?_; refine rP 26 (some 178) T ?_; refine rP 27 (some 179) T ?_; refine rU 28 (some 180) T ?_; refine rU 29 (some 181) T ?_; refine rU 30 (some 182) T ?_; refine rU 31 (some 183) T ?_; refine rU 32 (some 184) T ?_; refine rU 33 (some 185) T ?_; refine rU 34 (some 186) T ?_; refine rU 35 (some 187) T ?_; refine rU 36 (some 188) T ?_; refine rU 37 (some 189) T ?_; refine rU 38 (some 190) T ?_; refine rU 39 (some 191) T ?_; refine rU 40 (some 192) T ?_; refine rU 41 (some 193) T ?_; refine rU 42 (some 194) T ?_; refine rU 43 (some 195) T ?_; refine rU 44 (some 196) T ?_; refine rU 45 (some 197) T ?_; refine rU 46 (some 198) T ?_; refine rU 47 (some 199) T ?_; refine rU 48 (some 200) T ?_; refine rU 49 (some 201) T ?_; refine rU 50 (some 202) T ?_; refine rU 51 (some 203) T ?_; refine rP 52 (some 204) T ?_
                     refine uO (vW T.out (by kernel_rfl)) ?_; have kg := xG.out.trans (H2.out.mono xG.out.size); clear h; try go_wp2
                     go_ret
                     exact ⟨rfl, HW.out _ kg⟩
                  have sH : decide (x.f2 < -500) = false := decide_eq_false tlt
                  skip
                  by_cases tgt : 500 < x.f2
                  · have dgt : decide (500 < x.f2) = true := decide_eq_true tgt
                    skip
                    as_aux_lemma =>
                     have hv : V = false := by
                       rw [jA.out, uI (i := (m + 1)) hlt (by rw [hok, r0, r1, dz, sH, dgt]; simp)]
                       done
                     subst hv
                     refine rS (n := 53) HS rval.Qf rval.Y0 (by kernel_rfl) rfl rfl (fun w0 H0 T U h => ?_)
                     refine rP 1 (some 153) T ?_; refine rT 0 (some 152) T U h ?_; refine rT 2 (some 154) T U h ?_
                     clear h; refine rC 3 (some 155) T HS H0 Tryz.func63 (h0 _ H0.out) (fun w1 H1 h => ?_) (by kernel_rfl)
                     refine rP 4 (some 156) T ?_; refine rP 5 (some 157) T ?_; refine rP 7 (some 159) T ?_; refine rT 6 (some 158) T U h ?_; refine rT 8 (some 160) T U h ?_
                     clear h; refine rC 9 (some 161) T HS H1 Tryz.func63 (h1 _ H1.out) (fun w2 H2 h => ?_) (by kernel_rfl)
                     refine rP 10 (some 162) T ?_; refine rP 11 (some 163) T ?_; refine rP 12 (some 164) T ?_; refine rP 13 (some 165) T ?_; refine rT 14 (some 166) T U h ?_; refine rP 15 (some 167) T ?_; refine rP 16 (some 168) T ?_; refine rP 17 (some 169) T ?_; refine rP 18 (some 170) T ?_; refine rT 19 (some 171) T U h ?_; refine rP 20 (some 172) T ?_; refine rP 21 (some 173) T ?_; refine rP 22 (some 174) T ?_; refine rP 23 (some 175) T ?_; refine rT 24 (some 176) T U h ?_; refine rP 25 (some 177) T ?_; refine rP 26 (some 178) T ?_; refine rP 27 (some 179) T ?_; refine rU 28 (some 180) T ?_; refine rU 29 (some 181) T ?_; refine rU 30 (some 182) T ?_; refine rU 31 (some 183) T ?_; refine rU 32 (some 184) T ?_; refine rU 33 (some 185) T ?_; refine rU 34 (some 186) T ?_; refine rU 35 (some 187) T ?_; refine rU 36 (some 188) T ?_; refine rU 37 (some 189) T ?_; refine rU 38 (some 190) T ?_; refine rU 39 (some 191) T ?_; refine rU 40 (some 192) T ?_; refine rU 41 (some 193) T ?_; refine rU 42 (some 194) T ?_; refine rU 43 (some 195) T ?_; refine rU 44 (some 196) T ?_; refine rU 45 (some 197) T ?_; refine rU 46 (some 198) T ?_; refine rU 47 (some 199) T ?_; refine rU 48 (some 200) T ?_; refine rU 49 (some 201) T ?_; refine rU 50 (some 202) T ?_; refine rU 51 (some 203) T ?_; refine rP 52 (some 204) T ?_
                     refine uO (vW T.out (by kernel_rfl)) ?_; have kg := xG.out.trans (H2.out.mono xG.out.size); clear h; try go_wp2
                     go_ret
                     exact ⟨rfl, HW.out _ kg⟩
                  have dgt : decide (500 < x.f2) = false := decide_eq_false tgt
                  skip
                  have hah := fun W => (zj6 p.f0 p.f1 x.f0 x.f1 W).mono fun e w' k => And.intro k.1 (jm k.2)
                  cases ra : QF p.f0 p.f1 x.f0 x.f1 with
                  | false =>
                    simp only [ra] at hah
                    as_aux_lemma =>
                     have hv : V = false := by
                       rw [jA.out, uI (i := (m + 1)) hlt (by rw [hok, r0, r1, dz, sH, dgt, ra]; simp)]
                       done
                     subst hv
                     refine rS (n := 53) HS rval.Qf rval.Y0 (by kernel_rfl) rfl rfl (fun w0 H0 T U h => ?_)
                     refine rP 1 (some 153) T ?_; refine rT 0 (some 152) T U h ?_; refine rT 2 (some 154) T U h ?_
                     clear h; refine rC 3 (some 155) T HS H0 Tryz.func63 (h0 _ H0.out) (fun w1 H1 h => ?_) (by kernel_rfl)
                     refine rP 4 (some 156) T ?_; refine rP 5 (some 157) T ?_; refine rP 7 (some 159) T ?_; refine rT 6 (some 158) T U h ?_; refine rT 8 (some 160) T U h ?_
                     clear h; refine rC 9 (some 161) T HS H1 Tryz.func63 (h1 _ H1.out) (fun w2 H2 h => ?_) (by kernel_rfl)
                     refine rP 10 (some 162) T ?_; refine rP 11 (some 163) T ?_; refine rP 12 (some 164) T ?_; refine rP 13 (some 165) T ?_; refine rT 14 (some 166) T U h ?_; refine rP 15 (some 167) T ?_; refine rP 16 (some 168) T ?_; refine rP 17 (some 169) T ?_; refine rP 18 (some 170) T ?_; refine rT 19 (some 171) T U h ?_; refine rP 20 (some 172) T ?_; refine rP 21 (some 173) T ?_; refine rP 22 (some 174) T ?_; refine rP 23 (some 175) T ?_; refine rT 24 (some 176) T U h ?_; refine rP 25 (some 177) T ?_; refine rP 26 (some 178) T ?_; refine rP 27 (some 179) T ?_; refine rP 28 (some 180) T ?_; refine rP 29 (some 181) T ?_; refine rP 30 (some 182) T ?_; refine rP 31 (some 183) T ?_; refine rP 33 (some 185) T ?_; refine rP 34 (some 186) T ?_; refine rP 38 (some 190) T ?_; refine rP 40 (some 192) T ?_; refine rP 41 (some 193) T ?_; refine rP 45 (some 197) T ?_; refine rP 47 (some 199) T ?_; refine rT 32 (some 184) T U h ?_; refine rP 35 (some 187) T ?_; refine rP 36 (some 188) T ?_; refine rT 37 (some 189) T U h ?_; refine rT 39 (some 191) T U h ?_; refine rP 42 (some 194) T ?_; refine rP 43 (some 195) T ?_; refine rT 44 (some 196) T U h ?_; refine rT 46 (some 198) T U h ?_; refine rT 48 (some 200) T U h ?_
                     clear h; refine rC 49 (some 201) T HS H2 Tryz.func106 (hah _) (fun w3 H3 h => ?_) (by kernel_rfl)
                     refine rP 50 (some 202) T ?_; refine rP 51 (some 203) T ?_; refine rP 52 (some 204) T ?_
                     refine uO (vW T.out (by kernel_rfl)) ?_; have kg := xG.out.trans (H3.out.mono xG.out.size); clear h; try go_wp2
                     go_ret
                     exact ⟨rfl, HW.out _ kg⟩
                  | true =>
                  simp only [ra] at hah
                  as_aux_lemma =>
                  have hok2 : XT l3 l5 (m + 1) = true := by rw [hok, r0, r1, dz, sH, dgt, ra]; rfl
                  refine rS (n := 53) HS rval.Qf rval.Y0 (by kernel_rfl) rfl rfl (fun w0 H0 T U h => ?_)
                  refine rP 1 (some 153) T ?_; refine rT 0 (some 152) T U h ?_; refine rT 2 (some 154) T U h ?_
                  clear h; refine rC 3 (some 155) T HS H0 Tryz.func63 (h0 _ H0.out) (fun w1 H1 h => ?_) (by kernel_rfl)
                  refine rP 4 (some 156) T ?_; refine rP 5 (some 157) T ?_; refine rP 7 (some 159) T ?_; refine rT 6 (some 158) T U h ?_; refine rT 8 (some 160) T U h ?_
                  clear h; refine rC 9 (some 161) T HS H1 Tryz.func63 (h1 _ H1.out) (fun w2 H2 h => ?_) (by kernel_rfl)
                  refine rP 10 (some 162) T ?_; refine rP 11 (some 163) T ?_; refine rP 12 (some 164) T ?_; refine rP 13 (some 165) T ?_; refine rT 14 (some 166) T U h ?_; refine rP 15 (some 167) T ?_; refine rP 16 (some 168) T ?_; refine rP 17 (some 169) T ?_; refine rP 18 (some 170) T ?_; refine rT 19 (some 171) T U h ?_; refine rP 20 (some 172) T ?_; refine rP 21 (some 173) T ?_; refine rP 22 (some 174) T ?_; refine rP 23 (some 175) T ?_; refine rT 24 (some 176) T U h ?_; refine rP 25 (some 177) T ?_; refine rP 26 (some 178) T ?_; refine rP 27 (some 179) T ?_; refine rP 28 (some 180) T ?_; refine rP 29 (some 181) T ?_; refine rP 30 (some 182) T ?_; refine rP 31 (some 183) T ?_; refine rP 33 (some 185) T ?_; refine rP 34 (some 186) T ?_; refine rP 38 (some 190) T ?_; refine rP 40 (some 192) T ?_; refine rP 41 (some 193) T ?_; refine rP 45 (some 197) T ?_; refine rP 47 (some 199) T ?_; refine rT 32 (some 184) T U h ?_; refine rP 35 (some 187) T ?_; refine rP 36 (some 188) T ?_; refine rT 37 (some 189) T U h ?_; refine rT 39 (some 191) T U h ?_; refine rP 42 (some 194) T ?_; refine rP 43 (some 195) T ?_; refine rT 44 (some 196) T U h ?_; refine rT 46 (some 198) T U h ?_; refine rT 48 (some 200) T U h ?_
                  clear h; refine rC 49 (some 201) T HS H2 Tryz.func106 (hah _) (fun w3 H3 h => ?_) (by kernel_rfl)
                  refine rP 50 (some 202) T ?_; refine rP 51 (some 203) T ?_; refine rP 52 (some 204) T ?_
                  refine uO (vW T.out (by kernel_rfl)) ?_; have kg := xG.out.trans (H3.out.mono xG.out.size); clear h; try go_wp2
                  go_roundw
                  case rel => exact ⟨m + 1 + 1, by first | rfl | (simp; done) | go_num, by omega, ⟨kg⟩, ⟨fun j hj => (Nat.lt_succ_iff_lt_or_eq.1 hj).elim (HK5.out j) (fun e => by rw [e]; exact hok2)⟩⟩
                  case measure => simp [intOf]; omega
              · obtain rfl : i = l5.length := by omega
                have q2 : decide ((l5.length : Int) < (l5.length : Int)) = false := decide_eq_false (by omega)
                have q1 : ¬ (l5.length : Int) < (l5.length : Int) := by omega
                have jA : zx (V = true) := ⟨by rw [jA.out, tL HK5.out]⟩
                go_wp2
                go_ret
                exact ⟨by rw [jA.out]; rfl, HW.out _ Qo.out⟩
def qR.f (a : ByteArray) (_ : Bool) (c : Int) (l3 : List zo) (l4 : List qF) (l5 : List qG) : Option Bool :=
  if l3.length ≤ 1000000000 ∧ l4.length ≤ 1000000000 ∧ l5.length ≤ 1000000000 ∧ a.size ≤ 140737488355328 ∧ (l3.all fun x => decide (x.f0.size ≤ 140737488355328)) = true then some (Xt a c l3 l4 l5) else none
theorem qR.calls (a : ByteArray) (b : Bool) (c : Int) (A3 : Option Addr) (c3 : Nat) (l3 : List zo) (A4 : Option Addr) (c4 : Nat) (l4 : List qF) (A5 : Option Addr) (c5 : Nat) (l5 : List qG) (r : Bool) (w : World) (h3 : Kd.C qJ w A3 l3.length l3) (g3 : l3.length ≤ c3) (h4 : Kd.C jC w A4 l4.length l4) (g4 : l4.length ≤ c4) (h5 : Kd.C jS w A5 l5.length l5) (g5 : l5.length ≤ c5) (h : qR.f a b c l3 l4 l5 = some r) :
    Calls Tryz.prog 61 #[.agg #[.string a, .bool b, .int .i64 c, .slice A3 l3.length c3, .slice A4 l4.length c4, .slice A5 l5.length c5]] w fun e w' => e = .returned (.bool r) ∧ Below w.heap.size w w' := by
  unfold qR.f at h
  split at h
  · rename_i hl
    obtain rfl := Option.some.inj h
    exact JE a b c A3 c3 l3 A4 c4 l4 A5 c5 l5 w h3 g3 h4 g4 h5 g5 hl.1 hl.2.1 hl.2.2.1 hl.2.2.2.1 (fun x hx => of_decide_eq_true (List.all_eq_true.1 hl.2.2.2.2 x hx))
  · cases h
end Go.Proofs.YtaifemkokfoadaaGreatDoor
namespace Go.Proofs.YtaifemkokfoadaaGreatDoor.PX
open Go.RowKit Go.Proofs.zy.zu Go.Proofs.zy.yI Go.Proofs.zy.yD
attribute [local go_sem] xw xZ xP xR qD qE xQ xX   -- for this text's walks alone
set_option linter.unusedVariables false
set_option linter.unusedSimpArgs false
def xK.j0 : Nat → ByteArray → Int → Bool → ByteArray → Bool → Int → List (zo) → List (qF) → List (qG) → Option (Int × Int)
 | 0, _, _, _, _, _, _, _, _, _ => none
 | k + 1, x1, x2, x20, zKG, zKH, zKI, zKL, zKM, zKN => if x20 = true then (some (0, 1)) else ((qO.f k zKG zKH zKI zKL zKM zKN x1 x2).bind fun iR => (if iR.2 = true then (some (iR.1, 0)) else (some (0, 3))))
def xK.f (k : Nat) (zG : ByteArray) (zH : Bool) (zC : Int) (ze : List (zo)) (zn : List (qF)) (zm : List (qG)) (a1 : ByteArray) (a2 : Int) : Option (Int × Int) := if a2 < 1 then (xK.j0 k a1 a2 true zG zH zC ze zn zm) else (if a2 > 1000 then (xK.j0 k a1 a2 true zG zH zC ze zn zm) else ((qR.f zG zH zC ze zn zm).bind fun au => (xK.j0 k a1 a2 (!au) zG zH zC ze zn zm)))
set_option maxHeartbeats 8000000 in
set_option maxRecDepth 100000 in
theorem xK.calls (k : Nat) (zG : ByteArray) (zH : Bool) (zC : Int) (yG : Option Addr) (yH : Nat) (ze : List (zo)) (yM : Option Addr) (yN : Nat) (zn : List (qF)) (yO : Option Addr) (yP : Nat) (zm : List (qG)) (a1 : ByteArray) (a2 : Int) (r1 : Int) (r2 : Int) (w : World) (vS : Kd.C qJ w yG ze.length ze) (uP : ze.length ≤ yH) (uR : Kd.C jC w yM zn.length zn) (uS : zn.length ≤ yN) (uT : Kd.C jS w yO zm.length zm) (uU : zm.length ≤ yP) (h : xK.f k zG zH zC ze zn zm a1 a2 = some (r1, r2)) :
  Calls Tryz.prog 66 #[.agg #[.string zG, .bool zH, .int .i64 zC, .slice yG ze.length yH, .slice yM zn.length yN, .slice yO zm.length yP], .string a1, .int .i64 a2] w fun e w' => e = .returned (.tuple #[.int .i64 r1, .int .i64 r2]) ∧ Below w.heap.size w w' := by
 have Ku := Tryz.underlying44
 have uG := zx.mk vS
 have jD := zx.mk uP
 clear vS uP
 have jy := zx.mk uR
 have jE := zx.mk uS
 clear uR uS
 have jw := zx.mk uT
 have jF := zx.mk uU
 clear uT uU
 have HB := zx.mk (Below.refl w.heap.size w)
 have H : (if a2 < 1 then (xK.j0 k a1 a2 true zG zH zC ze zn zm) else (if a2 > 1000 then (xK.j0 k a1 a2 true zG zH zC ze zn zm) else ((qR.f zG zH zC ze zn zm).bind fun au => (xK.j0 k a1 a2 (!au) zG zH zC ze zn zm)))) = some (r1, r2) := h
 clear h
 have HC4 := zx.mk H
 clear H
 go_enter Tryz.func66, Tryz.ntmps66
 go_upto_region 1 with (first | ((with_reducible refine qx (N := 3) rfl ?_); refine ql ?hg (N := 3) ?hd (cs := #[.string zG, .bool zH, .int .i64 zC, .slice yG ze.length yH, .slice yM zn.length yN, .slice yO zm.length yP]) (t := 44) ?hr ?_; (case hd => rfl); (case hg => rfl); (case hr => first | (go_simp; done) | (go_simp; rfl)); intro wR hg w5 qK hb; have zf := zx.mk (zI (zD HB.out) hb); have zh := zx.mk (qK); have zA := zx.mk ((by rw [hg]; exact (zV (zD HB.out)) : w.heap.size ≤ wR)); have zR := zx.mk ((by rw [hg]; exact (zV (zD HB.out)) : w.heap.size ≤ wR)); clear HB; have HB := zf; have uy := zh; have zlb := zA; have zwO := zR; clear zf zh zA zR; clear hb qK hg))
 (try simp only [Act.put, List.setIfInBounds_toArray, List.set_cons_zero, List.set_cons_succ])
 go_cut [20] (fun v20 wc => ∃ (kq : Nat) (zxQ : Bool), v20 = .bool zxQ ∧ zx (xK.j0 kq a1 a2 zxQ zG zH zC ze zn zm = some (r1, r2)) ∧ zx (kq ≤ k) ∧ zx (wc.heap[wR]? = some (.cells #[.string zG, .bool zH, .int .i64 zC, (.slice yG ze.length yH), (.slice yM zn.length yN), (.slice yO zm.length yP)] 44 (0, 0))) ∧ zx (Below w.heap.size w wc))
 case first =>
  have H := HC4.out
  clear HC4
  by_cases c6 : a2 < 1
  ·rw [if_pos c6] at H
   have ZF : decide (a2 < 1) = true := decide_eq_true c6
   clear c6
   (first | rw [ZF] | (simp only [Xk, QX]; rw [ZF]) | skip)
   have H' := zx.mk H
   clear H
   go_wp2
   go_meet
   case rel => exact ⟨_, (true), (by first | rfl | (simp; done) | (simp [*]; done)), H', ⟨by first | omega | exact Nat.le_refl _⟩, ⟨yt uy.out⟩, ⟨zD HB.out⟩⟩
  ·rw [if_neg c6] at H
   have ZF : decide (a2 < 1) = false := decide_eq_false c6
   clear c6
   (first | rw [ZF] | (simp only [Xk, QX]; rw [ZF]) | skip)
   by_cases c7 : a2 > 1000
   ·rw [if_pos c7] at H
    have ZT : decide (1000 < a2) = true := decide_eq_true c7
    clear c7
    have H' := zx.mk H
    clear H
    go_wp2
    go_meet
    case rel => exact ⟨_, (true), (by first | rfl | (simp; done) | (simp [*]; done)), H', ⟨by first | omega | exact Nat.le_refl _⟩, ⟨yt uy.out⟩, ⟨zD HB.out⟩⟩
   ·rw [if_neg c7] at H
    have ZT : decide (1000 < a2) = false := decide_eq_false c7
    clear c7
    replace H := Option.bind_eq_some_iff.mp H
    obtain ⟨au, A80, H⟩ := H
    replace H : (xK.j0 k a1 a2 (!au) zG zH zC ze zn zm) = some (r1, r2) := H
    have A8 := zx.mk A80
    clear A80
    have H' := zx.mk H
    clear H
    have KA : w5.cell? ⟨wR, 0, none⟩ = some (.string zG) := (zk uy.out 0).trans rfl
    have KC : w5.cell? ⟨wR, 1, none⟩ = some (.bool zH) := (zk uy.out 1).trans rfl
    have PO : w5.cell? ⟨wR, 2, none⟩ = some (.int .i64 zC) := (zk uy.out 2).trans rfl
    have PS : w5.cell? ⟨wR, 3, none⟩ = some (.slice yG ze.length yH) := (zk uy.out 3).trans rfl
    have PU : w5.cell? ⟨wR, 4, none⟩ = some (.slice yM zn.length yN) := (zk uy.out 4).trans rfl
    have P6 : w5.cell? ⟨wR, 5, none⟩ = some (.slice yO zm.length yP) := (zk uy.out 5).trans rfl
    have KD := zw uy.out 0
    have KE := zw uy.out 1
    have P7 := zw uy.out 2
    have P8 := zw uy.out 3
    have P9 := zw uy.out 4
    have bq := zw uy.out 5
    go_wp2_with (first | (go_at_call 61; (with_reducible refine (qR.calls zG zH zC _ _ ze _ _ zn _ _ zm au _ ?y8 ?qy ?vT ?vU ?uz ?uq A8.out).mono ?_); (case y8 => repeat (first | exact (Kd.zY uG.out HB.out) | (with_reducible refine Kd.zS ?_ _) | (with_reducible refine Kd.zT ?_ _) | (with_reducible refine Kd.yc ?_))); (case qy => exact jD.out); (case vT => repeat (first | exact (Kd.zY jy.out HB.out) | (with_reducible refine Kd.zS ?_ _) | (with_reducible refine Kd.zT ?_ _) | (with_reducible refine Kd.yc ?_))); (case vU => exact jE.out); (case uz => repeat (first | exact (Kd.zY jw.out HB.out) | (with_reducible refine Kd.zS ?_ _) | (with_reducible refine Kd.zT ?_ _) | (with_reducible refine Kd.yc ?_))); (case uq => exact jF.out); rintro e XE ⟨rfl, hb⟩; have zf := zx.mk (zl (g := wR) (o := .cells #[.string zG, .bool zH, .int .i64 zC, .slice yG ze.length yH, .slice yM zn.length yN, .slice yO zm.length yP] 44 (0, 0)) (yt uy.out) hb); have zh := zx.mk (zI (zD HB.out) hb); clear uy; clear HB; have uy := zf; have HB := zh; clear zf zh; (try clear hb); (try clear hb2); (try clear hk); (try clear hi)))
    go_meet
    case rel => exact ⟨_, (!au), (by first | rfl | (simp; done) | (simp [*]; done)), H', ⟨by first | omega | exact Nat.le_refl _⟩, ⟨yt uy.out⟩, ⟨zD HB.out⟩⟩
 case rest =>
  clear HC4
  try clear p2
  try clear c6
  try clear ZF
  try clear c7
  try clear ZT
  try clear KA
  try clear KC
  try clear PO
  try clear PS
  try clear PU
  try clear P6
  try clear KD
  try clear KE
  try clear P7
  try clear P8
  try clear P9
  try clear bq
  obtain ⟨kq, zxQ, rfl, HA, HJ3, uy, HB⟩ := hcut
  cases kq with
  | zero => exact absurd HA.out (by simp [xK.j0])
  | succ kj3 =>
   have H := HA.out
   clear HA
   simp only [xK.j0] at H
   by_cases c11 : zxQ = true
   ·subst c11
    have H1 : (some (0, 1)) = some (r1, r2) := by rw [if_pos rfl] at H; exact H
    clear H
    have H := H1
    clear H1
    simp only [Option.some.injEq, Prod.mk.injEq] at H
    obtain ⟨rfl, rfl⟩ := H
    go_wp2
    go_ret2
    exact ⟨by first | rfl | (simp [zU, z8] <;> rfl) | (simp [*, zU, z8] <;> rfl), by repeat (first | (with_reducible first | exact HB.out | apply yu | apply zP | apply yT | refine qB ?_ zwO.out) | exact HB.out)⟩
   ·replace c11 := Bool.eq_false_iff.mpr c11
    subst c11
    have H1 : ((qO.f kj3 zG zH zC ze zn zm a1 a2).bind fun iR => (if iR.2 = true then (some (iR.1, 0)) else (some (0, 3)))) = some (r1, r2) := by rw [if_neg (show ¬ (false = true) by decide)] at H; exact H
    clear H
    have H := H1
    clear H1
    replace H := Option.bind_eq_some_iff.mp H
    obtain ⟨⟨zwP, zWU⟩, zjf, H⟩ := H
    replace H : (if zWU = true then (some (zwP, 0)) else (some (0, 3))) = some (r1, r2) := H
    have ny := zx.mk zjf
    clear zjf
    by_cases c13 : zWU = true
    ·subst c13
     have H1 : (some (zwP, 0)) = some (r1, r2) := by rw [if_pos rfl] at H; exact H
     clear H
     have H := H1
     clear H1
     simp only [Option.some.injEq, Prod.mk.injEq] at H
     obtain ⟨rfl, rfl⟩ := H
     have bn : wc.cell? ⟨wR, 0, none⟩ = some (.string zG) := (zk uy.out 0).trans rfl
     have bA : wc.cell? ⟨wR, 1, none⟩ = some (.bool zH) := (zk uy.out 1).trans rfl
     have bB : wc.cell? ⟨wR, 2, none⟩ = some (.int .i64 zC) := (zk uy.out 2).trans rfl
     have bC : wc.cell? ⟨wR, 3, none⟩ = some (.slice yG ze.length yH) := (zk uy.out 3).trans rfl
     have bD : wc.cell? ⟨wR, 4, none⟩ = some (.slice yM zn.length yN) := (zk uy.out 4).trans rfl
     have bE : wc.cell? ⟨wR, 5, none⟩ = some (.slice yO zm.length yP) := (zk uy.out 5).trans rfl
     have Kk := zw uy.out 0
     have Ky := zw uy.out 1
     have Kw := zw uy.out 2
     have KZ := zw uy.out 3
     have KQ := zw uy.out 4
     have KX := zw uy.out 5
     go_wp2_with (first | ((with_reducible refine yY (f := 109) rfl ?_); refine uN (some 25) Tryz.func109 #[.agg #[.string zG, .bool zH, .int .i64 zC, .slice yG ze.length yH, .slice yM zn.length yN, .slice yO zm.length yP], .string a1, .int .i64 a2] ?_; (with_reducible refine (qO.calls kj3 zG zH zC _ _ ze _ _ zn _ _ zm a1 a2 zwP true _ ?y8 ?qy ?vT ?vU ?uz ?uq ny.out).mono ?_); (case y8 => repeat (first | exact (Kd.zY uG.out HB.out) | (with_reducible refine Kd.zS ?_ _) | (with_reducible refine Kd.zT ?_ _) | (with_reducible refine Kd.yc ?_))); (case qy => exact jD.out); (case vT => repeat (first | exact (Kd.zY jy.out HB.out) | (with_reducible refine Kd.zS ?_ _) | (with_reducible refine Kd.zT ?_ _) | (with_reducible refine Kd.yc ?_))); (case vU => exact jE.out); (case uz => repeat (first | exact (Kd.zY jw.out HB.out) | (with_reducible refine Kd.zS ?_ _) | (with_reducible refine Kd.zT ?_ _) | (with_reducible refine Kd.yc ?_))); (case uq => exact jF.out); rintro e JW ⟨rfl, hb⟩; refine ⟨_, rfl, ?_⟩; have zf := zx.mk (zl (g := wR) (o := .cells #[.string zG, .bool zH, .int .i64 zC, .slice yG ze.length yH, .slice yM zn.length yN, .slice yO zm.length yP] 44 (0, 0)) (yt uy.out) hb); have zh := zx.mk (zI (zD HB.out) hb); clear uy; clear HB; have uy := zf; have HB := zh; clear zf zh; (try clear hb); (try clear hb2); (try clear hk); (try clear hi)))
     go_ret2
     exact ⟨by first | rfl | (simp [zU, z8] <;> rfl) | (simp [*, zU, z8] <;> rfl), by repeat (first | (with_reducible first | exact HB.out | apply yu | apply zP | apply yT | refine qB ?_ zwO.out) | exact HB.out)⟩
    ·replace c13 := Bool.eq_false_iff.mpr c13
     subst c13
     have H1 : (some (0, 3)) = some (r1, r2) := by rw [if_neg (show ¬ (false = true) by decide)] at H; exact H
     clear H
     have H := H1
     clear H1
     simp only [Option.some.injEq, Prod.mk.injEq] at H
     obtain ⟨rfl, rfl⟩ := H
     have zKj : wc.cell? ⟨wR, 0, none⟩ = some (.string zG) := (zk uy.out 0).trans rfl
     have zKv : wc.cell? ⟨wR, 1, none⟩ = some (.bool zH) := (zk uy.out 1).trans rfl
     have zKk : wc.cell? ⟨wR, 2, none⟩ = some (.int .i64 zC) := (zk uy.out 2).trans rfl
     have zKy : wc.cell? ⟨wR, 3, none⟩ = some (.slice yG ze.length yH) := (zk uy.out 3).trans rfl
     have zKw : wc.cell? ⟨wR, 4, none⟩ = some (.slice yM zn.length yN) := (zk uy.out 4).trans rfl
     have zKZ : wc.cell? ⟨wR, 5, none⟩ = some (.slice yO zm.length yP) := (zk uy.out 5).trans rfl
     have zKQ := zw uy.out 0
     have zKX := zw uy.out 1
     have zKJ := zw uy.out 2
     have zKV := zw uy.out 3
     have zKK := zw uy.out 4
     have zKY := zw uy.out 5
     go_wp2_with (first | ((with_reducible refine yY (f := 109) rfl ?_); refine uN (some 25) Tryz.func109 #[.agg #[.string zG, .bool zH, .int .i64 zC, .slice yG ze.length yH, .slice yM zn.length yN, .slice yO zm.length yP], .string a1, .int .i64 a2] ?_; (with_reducible refine (qO.calls kj3 zG zH zC _ _ ze _ _ zn _ _ zm a1 a2 zwP false _ ?y8 ?qy ?vT ?vU ?uz ?uq ny.out).mono ?_); (case y8 => repeat (first | exact (Kd.zY uG.out HB.out) | (with_reducible refine Kd.zS ?_ _) | (with_reducible refine Kd.zT ?_ _) | (with_reducible refine Kd.yc ?_))); (case qy => exact jD.out); (case vT => repeat (first | exact (Kd.zY jy.out HB.out) | (with_reducible refine Kd.zS ?_ _) | (with_reducible refine Kd.zT ?_ _) | (with_reducible refine Kd.yc ?_))); (case vU => exact jE.out); (case uz => repeat (first | exact (Kd.zY jw.out HB.out) | (with_reducible refine Kd.zS ?_ _) | (with_reducible refine Kd.zT ?_ _) | (with_reducible refine Kd.yc ?_))); (case uq => exact jF.out); rintro e Zw ⟨rfl, hb⟩; refine ⟨_, rfl, ?_⟩; have zf := zx.mk (zl (g := wR) (o := .cells #[.string zG, .bool zH, .int .i64 zC, .slice yG ze.length yH, .slice yM zn.length yN, .slice yO zm.length yP] 44 (0, 0)) (yt uy.out) hb); have zh := zx.mk (zI (zD HB.out) hb); clear uy; clear HB; have uy := zf; have HB := zh; clear zf zh; (try clear hb); (try clear hb2); (try clear hk); (try clear hi)))
     go_ret2
     exact ⟨by first | rfl | (simp [zU, z8] <;> rfl) | (simp [*, zU, z8] <;> rfl), by repeat (first | (with_reducible first | exact HB.out | apply yu | apply zP | apply yT | refine qB ?_ zwO.out) | exact HB.out)⟩
end Go.Proofs.YtaifemkokfoadaaGreatDoor.PX
namespace Go.Proofs.YtaifemkokfoadaaGreatDoor.PX
open Go.RowKit Go.Proofs.zy.zu Go.Proofs.zy.yI Go.Proofs.zy.yD
attribute [local go_sem] xw xZ xP xR qD qE xQ xX   -- for this text's walks alone
set_option linter.unusedVariables false
set_option linter.unusedSimpArgs false
def Uz.f (zG : ByteArray) (zH : Bool) (zC : Int) (ze : List (qg)) (zn : List (xC)) (zm : List (vk)) (a1 : Int) : Option (Int × Int) := (kI.f zG zH zC ze zn zm a1).bind fun zzM => (if zzM = true then ((uh.f zC a1).bind fun PK => (some (PK, 0))) else (some (0, 1)))
set_option maxHeartbeats 8000000 in
set_option maxRecDepth 100000 in
theorem Uz.calls (zG : ByteArray) (zH : Bool) (zC : Int) (yG : Option Addr) (yH : Nat) (ze : List (qg)) (yM : Option Addr) (yN : Nat) (zn : List (xC)) (yO : Option Addr) (yP : Nat) (zm : List (vk)) (a1 : Int) (r1 : Int) (r2 : Int) (w : World) (vS : Kd.C uf w yG ze.length ze) (uP : ze.length ≤ yH) (uR : Kd.C jd w yM zn.length zn) (uS : zn.length ≤ yN) (uT : Kd.C jh w yO zm.length zm) (uU : zm.length ≤ yP) (hG : GW w) (h : Uz.f zG zH zC ze zn zm a1 = some (r1, r2)) :
  Calls Tryz.prog 67 #[.agg #[.string zG, .bool zH, .int .i64 zC, .slice yG ze.length yH, .slice yM zn.length yN, .slice yO zm.length yP], .int .i64 a1] w fun e w' => e = .returned (.tuple #[.int .i64 r1, .int .i64 r2]) ∧ Below w.heap.size w w' := by
 have mJ := Tryz.underlying26
 have HG := zx.mk hG
 clear hG
 have uG := zx.mk vS
 have jD := zx.mk uP
 clear vS uP
 have jy := zx.mk uR
 have jE := zx.mk uS
 clear uR uS
 have jw := zx.mk uT
 have jF := zx.mk uU
 clear uT uU
 have HB := zx.mk (Below.refl w.heap.size w)
 have H : ((kI.f zG zH zC ze zn zm a1).bind fun zzM => (if zzM = true then ((uh.f zC a1).bind fun PK => (some (PK, 0))) else (some (0, 1)))) = some (r1, r2) := h
 clear h
 replace H := Option.bind_eq_some_iff.mp H
 obtain ⟨zzM, Wu, H⟩ := H
 replace H : (if zzM = true then ((uh.f zC a1).bind fun PK => (some (PK, 0))) else (some (0, 1))) = some (r1, r2) := H
 have A3 := zx.mk Wu
 clear Wu
 by_cases c4 : zzM = true
 ·subst c4
  have H1 : ((uh.f zC a1).bind fun PK => (some (PK, 0))) = some (r1, r2) := by rw [if_pos rfl] at H; exact H
  clear H
  have H := H1
  clear H1
  replace H := Option.bind_eq_some_iff.mp H
  obtain ⟨PK, A50, H⟩ := H
  replace H : (some (PK, 0)) = some (r1, r2) := H
  have A5 := zx.mk A50
  clear A50
  simp only [Option.some.injEq, Prod.mk.injEq] at H
  obtain ⟨rfl, rfl⟩ := H
  go_enter Tryz.func67, Tryz.ntmps67
  go_wp2_with (first | ((with_reducible refine qx (N := 2) rfl ?_); refine ql ?hg (N := 2) ?hd (cs := #[.string zG, .bool zH, .int .i64 zC, .slice yG ze.length yH, .slice yM zn.length yN, .slice yO zm.length yP]) (t := 26) ?hr ?_; (case hd => rfl); (case hg => rfl); (case hr => first | (go_simp; done) | (go_simp; rfl)); intro wG hg w6 qK hb; have zf := zx.mk (zI (zD HB.out) hb); have zh := zx.mk (qK); have zA := zx.mk ((by rw [hg]; exact (zV (zD HB.out)) : w.heap.size ≤ wG)); have zR := zx.mk ((by rw [hg]; exact (zV (zD HB.out)) : w.heap.size ≤ wG)); clear HB; have HB := zf; have um := zh; have zcr := zA; have zwR := zR; clear zf zh zA zR; clear hb qK hg; have zxt : w6.cell? ⟨wG, 0, none⟩ = some (.string zG) := (zk um.out 0).trans rfl; have zxu : w6.cell? ⟨wG, 1, none⟩ = some (.bool zH) := (zk um.out 1).trans rfl; have zxA : w6.cell? ⟨wG, 2, none⟩ = some (.int .i64 zC) := (zk um.out 2).trans rfl; have zxB : w6.cell? ⟨wG, 3, none⟩ = some (.slice yG ze.length yH) := (zk um.out 3).trans rfl; have zxC : w6.cell? ⟨wG, 4, none⟩ = some (.slice yM zn.length yN) := (zk um.out 4).trans rfl; have zxD : w6.cell? ⟨wG, 5, none⟩ = some (.slice yO zm.length yP) := (zk um.out 5).trans rfl; have zxE := zw um.out 0; have zxF := zw um.out 1; have zxG := zw um.out 2; have zxH := zw um.out 3; have zxI := zw um.out 4; have zxL := zw um.out 5) | ((with_reducible refine yY (f := 26) rfl ?_); refine uN (some 8) Tryz.func26 #[.agg #[.string zG, .bool zH, .int .i64 zC, .slice yG ze.length yH, .slice yM zn.length yN, .slice yO zm.length yP], .int .i64 a1] ?_; (with_reducible refine (kI.calls zG zH zC _ _ ze _ _ zn _ _ zm a1 true _ ?y8 ?qy ?vT ?vU ?uz ?uq ?pK A3.out).mono ?_); (case y8 => repeat (first | exact (Kd.zY uG.out HB.out) | (with_reducible refine Kd.zS ?_ _) | (with_reducible refine Kd.zT ?_ _) | (with_reducible refine Kd.yc ?_))); (case qy => exact jD.out); (case vT => repeat (first | exact (Kd.zY jy.out HB.out) | (with_reducible refine Kd.zS ?_ _) | (with_reducible refine Kd.zT ?_ _) | (with_reducible refine Kd.yc ?_))); (case vU => exact jE.out); (case uz => repeat (first | exact (Kd.zY jw.out HB.out) | (with_reducible refine Kd.zS ?_ _) | (with_reducible refine Kd.zT ?_ _) | (with_reducible refine Kd.yc ?_))); (case uq => exact jF.out); (case pK => exact GW.under HG.out (zD HB.out)); rintro e w8 ⟨rfl, hb⟩; refine ⟨_, rfl, ?_⟩; have zf := zx.mk (zl (g := wG) (o := .cells #[.string zG, .bool zH, .int .i64 zC, .slice yG ze.length yH, .slice yM zn.length yN, .slice yO zm.length yP] 26 (0, 0)) (yt um.out) hb); have zh := zx.mk (zI (zD HB.out) hb); clear um; clear HB; have um := zf; have HB := zh; clear zf zh; (try clear hb); (try clear hb2); (try clear hk); (try clear hi); have KA : w8.cell? ⟨wG, 0, none⟩ = some (.string zG) := (zk um.out 0).trans rfl; have KC : w8.cell? ⟨wG, 1, none⟩ = some (.bool zH) := (zk um.out 1).trans rfl; have PO : w8.cell? ⟨wG, 2, none⟩ = some (.int .i64 zC) := (zk um.out 2).trans rfl; have PS : w8.cell? ⟨wG, 3, none⟩ = some (.slice yG ze.length yH) := (zk um.out 3).trans rfl; have PU : w8.cell? ⟨wG, 4, none⟩ = some (.slice yM zn.length yN) := (zk um.out 4).trans rfl; have P6 : w8.cell? ⟨wG, 5, none⟩ = some (.slice yO zm.length yP) := (zk um.out 5).trans rfl; have KD := zw um.out 0; have KE := zw um.out 1; have P7 := zw um.out 2; have P8 := zw um.out 3; have P9 := zw um.out 4; have bq := zw um.out 5) | ((with_reducible refine yY (f := 28) rfl ?_); refine uN (some 13) Tryz.func28 #[.int .i64 zC, .int .i64 a1] ?_; (with_reducible refine (uh.calls zC a1 PK _ A5.out).mono ?_); rintro e w' ⟨rfl, ⟨nd, rfl⟩⟩; refine ⟨_, rfl, ?_⟩))
  go_ret2
  exact ⟨by first | rfl | (simp [zU, z8] <;> rfl) | (simp [*, zU, z8] <;> rfl), by repeat (first | (with_reducible first | exact HB.out | apply yu | apply zP | apply yT | refine qB ?_ zwR.out) | exact HB.out)⟩
 ·replace c4 := Bool.eq_false_iff.mpr c4
  subst c4
  have H1 : (some (0, 1)) = some (r1, r2) := by rw [if_neg (show ¬ (false = true) by decide)] at H; exact H
  clear H
  have H := H1
  clear H1
  simp only [Option.some.injEq, Prod.mk.injEq] at H
  obtain ⟨rfl, rfl⟩ := H
  go_enter Tryz.func67, Tryz.ntmps67
  go_wp2_with (first | ((with_reducible refine qx (N := 2) rfl ?_); refine ql ?hg (N := 2) ?hd (cs := #[.string zG, .bool zH, .int .i64 zC, .slice yG ze.length yH, .slice yM zn.length yN, .slice yO zm.length yP]) (t := 26) ?hr ?_; (case hd => rfl); (case hg => rfl); (case hr => first | (go_simp; done) | (go_simp; rfl)); intro wG hg XE qK hb; have zf := zx.mk (zI (zD HB.out) hb); have zh := zx.mk (qK); have zA := zx.mk ((by rw [hg]; exact (zV (zD HB.out)) : w.heap.size ≤ wG)); have zR := zx.mk ((by rw [hg]; exact (zV (zD HB.out)) : w.heap.size ≤ wG)); clear HB; have HB := zf; have um := zh; have zcr := zA; have zwR := zR; clear zf zh zA zR; clear hb qK hg; have JL : XE.cell? ⟨wG, 0, none⟩ = some (.string zG) := (zk um.out 0).trans rfl; have JM : XE.cell? ⟨wG, 1, none⟩ = some (.bool zH) := (zk um.out 1).trans rfl; have JN : XE.cell? ⟨wG, 2, none⟩ = some (.int .i64 zC) := (zk um.out 2).trans rfl; have JO : XE.cell? ⟨wG, 3, none⟩ = some (.slice yG ze.length yH) := (zk um.out 3).trans rfl; have JR : XE.cell? ⟨wG, 4, none⟩ = some (.slice yM zn.length yN) := (zk um.out 4).trans rfl; have JU : XE.cell? ⟨wG, 5, none⟩ = some (.slice yO zm.length yP) := (zk um.out 5).trans rfl; have J2 := zw um.out 0; have J3 := zw um.out 1; have J4 := zw um.out 2; have J5 := zw um.out 3; have J6 := zw um.out 4; have J7 := zw um.out 5) | ((with_reducible refine yY (f := 26) rfl ?_); refine uN (some 8) Tryz.func26 #[.agg #[.string zG, .bool zH, .int .i64 zC, .slice yG ze.length yH, .slice yM zn.length yN, .slice yO zm.length yP], .int .i64 a1] ?_; (with_reducible refine (kI.calls zG zH zC _ _ ze _ _ zn _ _ zm a1 false _ ?y8 ?qy ?vT ?vU ?uz ?uq ?pK A3.out).mono ?_); (case y8 => repeat (first | exact (Kd.zY uG.out HB.out) | (with_reducible refine Kd.zS ?_ _) | (with_reducible refine Kd.zT ?_ _) | (with_reducible refine Kd.yc ?_))); (case qy => exact jD.out); (case vT => repeat (first | exact (Kd.zY jy.out HB.out) | (with_reducible refine Kd.zS ?_ _) | (with_reducible refine Kd.zT ?_ _) | (with_reducible refine Kd.yc ?_))); (case vU => exact jE.out); (case uz => repeat (first | exact (Kd.zY jw.out HB.out) | (with_reducible refine Kd.zS ?_ _) | (with_reducible refine Kd.zT ?_ _) | (with_reducible refine Kd.yc ?_))); (case uq => exact jF.out); (case pK => exact GW.under HG.out (zD HB.out)); rintro e Xz ⟨rfl, hb⟩; refine ⟨_, rfl, ?_⟩; have zf := zx.mk (zl (g := wG) (o := .cells #[.string zG, .bool zH, .int .i64 zC, .slice yG ze.length yH, .slice yM zn.length yN, .slice yO zm.length yP] 26 (0, 0)) (yt um.out) hb); have zh := zx.mk (zI (zD HB.out) hb); clear um; clear HB; have um := zf; have HB := zh; clear zf zh; (try clear hb); (try clear hb2); (try clear hk); (try clear hi)))
  go_ret2
  exact ⟨by first | rfl | (simp [zU, z8] <;> rfl) | (simp [*, zU, z8] <;> rfl), by repeat (first | (with_reducible first | exact HB.out | apply yu | apply zP | apply yT | refine qB ?_ zwR.out) | exact HB.out)⟩
def Zo.f (zG : ByteArray) (zH : Bool) (zC : Int) (ze : List (zo)) (zn : List (qF)) (zm : List (qG)) (a1 : Int) : Option (Int × Int) := if a1 < 1 then (some (0, 1)) else (if a1 > 1000 then (some (0, 1)) else ((qR.f zG zH zC ze zn zm).bind fun zzN => (if zzN = true then ((vw.f zC a1).bind fun PY => (some (PY, 0))) else (some (0, 1)))))
set_option maxHeartbeats 8000000 in
set_option maxRecDepth 100000 in
theorem Zo.calls (zG : ByteArray) (zH : Bool) (zC : Int) (yG : Option Addr) (yH : Nat) (ze : List (zo)) (yM : Option Addr) (yN : Nat) (zn : List (qF)) (yO : Option Addr) (yP : Nat) (zm : List (qG)) (a1 : Int) (r1 : Int) (r2 : Int) (w : World) (vS : Kd.C qJ w yG ze.length ze) (uP : ze.length ≤ yH) (uR : Kd.C jC w yM zn.length zn) (uS : zn.length ≤ yN) (uT : Kd.C jS w yO zm.length zm) (uU : zm.length ≤ yP) (h : Zo.f zG zH zC ze zn zm a1 = some (r1, r2)) :
  Calls Tryz.prog 68 #[.agg #[.string zG, .bool zH, .int .i64 zC, .slice yG ze.length yH, .slice yM zn.length yN, .slice yO zm.length yP], .int .i64 a1] w fun e w' => e = .returned (.tuple #[.int .i64 r1, .int .i64 r2]) ∧ Below w.heap.size w w' := by
 have Ku := Tryz.underlying44
 have uG := zx.mk vS
 have jD := zx.mk uP
 clear vS uP
 have jy := zx.mk uR
 have jE := zx.mk uS
 clear uR uS
 have jw := zx.mk uT
 have jF := zx.mk uU
 clear uT uU
 have HB := zx.mk (Below.refl w.heap.size w)
 have H : (if a1 < 1 then (some (0, 1)) else (if a1 > 1000 then (some (0, 1)) else ((qR.f zG zH zC ze zn zm).bind fun zzN => (if zzN = true then ((vw.f zC a1).bind fun PY => (some (PY, 0))) else (some (0, 1)))))) = some (r1, r2) := h
 clear h
 by_cases c3 : a1 < 1
 ·rw [if_pos c3] at H
  have ZR : decide (a1 < 1) = true := decide_eq_true c3
  clear c3
  simp only [Option.some.injEq, Prod.mk.injEq] at H
  obtain ⟨rfl, rfl⟩ := H
  go_enter Tryz.func68, Tryz.ntmps68
  go_wp2_with (first | ((with_reducible refine qx (N := 2) rfl ?_); refine ql ?hg (N := 2) ?hd (cs := #[.string zG, .bool zH, .int .i64 zC, .slice yG ze.length yH, .slice yM zn.length yN, .slice yO zm.length yP]) (t := 44) ?hr ?_; (case hd => rfl); (case hg => rfl); (case hr => first | (go_simp; done) | (go_simp; rfl)); intro kZ hg w4 qK hb; have zf := zx.mk (zI (zD HB.out) hb); have zh := zx.mk (qK); have zA := zx.mk ((by rw [hg]; exact (zV (zD HB.out)) : w.heap.size ≤ kZ)); have zR := zx.mk ((by rw [hg]; exact (zV (zD HB.out)) : w.heap.size ≤ kZ)); clear HB; have HB := zf; have uV := zh; have zwS := zA; have dH := zR; clear zf zh zA zR; clear hb qK hg))
  go_ret2
  exact ⟨by first | rfl | (simp [zU, z8] <;> rfl) | (simp [*, zU, z8] <;> rfl), by repeat (first | (with_reducible first | exact HB.out | apply yu | apply zP | apply yT | refine qB ?_ dH.out) | exact HB.out)⟩
 ·rw [if_neg c3] at H
  have ZR : decide (a1 < 1) = false := decide_eq_false c3
  clear c3
  by_cases c5 : a1 > 1000
  ·rw [if_pos c5] at H
   have p8 : decide (1000 < a1) = true := decide_eq_true c5
   clear c5
   simp only [Option.some.injEq, Prod.mk.injEq] at H
   obtain ⟨rfl, rfl⟩ := H
   go_enter Tryz.func68, Tryz.ntmps68
   go_wp2_with (first | ((with_reducible refine qx (N := 2) rfl ?_); refine ql ?hg (N := 2) ?hd (cs := #[.string zG, .bool zH, .int .i64 zC, .slice yG ze.length yH, .slice yM zn.length yN, .slice yO zm.length yP]) (t := 44) ?hr ?_; (case hd => rfl); (case hg => rfl); (case hr => first | (go_simp; done) | (go_simp; rfl)); intro kZ hg w6 qK hb; have zf := zx.mk (zI (zD HB.out) hb); have zh := zx.mk (qK); have zA := zx.mk ((by rw [hg]; exact (zV (zD HB.out)) : w.heap.size ≤ kZ)); have zR := zx.mk ((by rw [hg]; exact (zV (zD HB.out)) : w.heap.size ≤ kZ)); clear HB; have HB := zf; have uV := zh; have zwS := zA; have dH := zR; clear zf zh zA zR; clear hb qK hg))
   go_ret2
   exact ⟨by first | rfl | (simp [zU, z8] <;> rfl) | (simp [*, zU, z8] <;> rfl), by repeat (first | (with_reducible first | exact HB.out | apply yu | apply zP | apply yT | refine qB ?_ dH.out) | exact HB.out)⟩
  ·rw [if_neg c5] at H
   have p8 : decide (1000 < a1) = false := decide_eq_false c5
   clear c5
   replace H := Option.bind_eq_some_iff.mp H
   obtain ⟨zzN, mV, H⟩ := H
   replace H : (if zzN = true then ((vw.f zC a1).bind fun PY => (some (PY, 0))) else (some (0, 1))) = some (r1, r2) := H
   have A7 := zx.mk mV
   clear mV
   by_cases c8 : zzN = true
   ·subst c8
    have H1 : ((vw.f zC a1).bind fun PY => (some (PY, 0))) = some (r1, r2) := by rw [if_pos rfl] at H; exact H
    clear H
    have H := H1
    clear H1
    replace H := Option.bind_eq_some_iff.mp H
    obtain ⟨PY, A90, H⟩ := H
    replace H : (some (PY, 0)) = some (r1, r2) := H
    have A9 := zx.mk A90
    clear A90
    simp only [Option.some.injEq, Prod.mk.injEq] at H
    obtain ⟨rfl, rfl⟩ := H
    go_enter Tryz.func68, Tryz.ntmps68
    go_wp2_with (first | ((with_reducible refine qx (N := 2) rfl ?_); refine ql ?hg (N := 2) ?hd (cs := #[.string zG, .bool zH, .int .i64 zC, .slice yG ze.length yH, .slice yM zn.length yN, .slice yO zm.length yP]) (t := 44) ?hr ?_; (case hd => rfl); (case hg => rfl); (case hr => first | (go_simp; done) | (go_simp; rfl)); intro kZ hg XE qK hb; have zf := zx.mk (zI (zD HB.out) hb); have zh := zx.mk (qK); have zA := zx.mk ((by rw [hg]; exact (zV (zD HB.out)) : w.heap.size ≤ kZ)); have zR := zx.mk ((by rw [hg]; exact (zV (zD HB.out)) : w.heap.size ≤ kZ)); clear HB; have HB := zf; have uV := zh; have zwS := zA; have dH := zR; clear zf zh zA zR; clear hb qK hg; have JL : XE.cell? ⟨kZ, 0, none⟩ = some (.string zG) := (zk uV.out 0).trans rfl; have JM : XE.cell? ⟨kZ, 1, none⟩ = some (.bool zH) := (zk uV.out 1).trans rfl; have JN : XE.cell? ⟨kZ, 2, none⟩ = some (.int .i64 zC) := (zk uV.out 2).trans rfl; have JO : XE.cell? ⟨kZ, 3, none⟩ = some (.slice yG ze.length yH) := (zk uV.out 3).trans rfl; have JR : XE.cell? ⟨kZ, 4, none⟩ = some (.slice yM zn.length yN) := (zk uV.out 4).trans rfl; have JU : XE.cell? ⟨kZ, 5, none⟩ = some (.slice yO zm.length yP) := (zk uV.out 5).trans rfl; have J2 := zw uV.out 0; have J3 := zw uV.out 1; have J4 := zw uV.out 2; have J5 := zw uV.out 3; have J6 := zw uV.out 4; have J7 := zw uV.out 5) | (go_at_call 61; (with_reducible refine (qR.calls zG zH zC _ _ ze _ _ zn _ _ zm true _ ?y8 ?qy ?vT ?vU ?uz ?uq A7.out).mono ?_); (case y8 => repeat (first | exact (Kd.zY uG.out HB.out) | (with_reducible refine Kd.zS ?_ _) | (with_reducible refine Kd.zT ?_ _) | (with_reducible refine Kd.yc ?_))); (case qy => exact jD.out); (case vT => repeat (first | exact (Kd.zY jy.out HB.out) | (with_reducible refine Kd.zS ?_ _) | (with_reducible refine Kd.zT ?_ _) | (with_reducible refine Kd.yc ?_))); (case vU => exact jE.out); (case uz => repeat (first | exact (Kd.zY jw.out HB.out) | (with_reducible refine Kd.zS ?_ _) | (with_reducible refine Kd.zT ?_ _) | (with_reducible refine Kd.yc ?_))); (case uq => exact jF.out); rintro e Xz ⟨rfl, hb⟩; have zf := zx.mk (zl (g := kZ) (o := .cells #[.string zG, .bool zH, .int .i64 zC, .slice yG ze.length yH, .slice yM zn.length yN, .slice yO zm.length yP] 44 (0, 0)) (yt uV.out) hb); have zh := zx.mk (zI (zD HB.out) hb); clear uV; clear HB; have uV := zf; have HB := zh; clear zf zh; (try clear hb); (try clear hb2); (try clear hk); (try clear hi); have zzO : Xz.cell? ⟨kZ, 0, none⟩ = some (.string zG) := (zk uV.out 0).trans rfl; have zzP : Xz.cell? ⟨kZ, 1, none⟩ = some (.bool zH) := (zk uV.out 1).trans rfl; have zzR : Xz.cell? ⟨kZ, 2, none⟩ = some (.int .i64 zC) := (zk uV.out 2).trans rfl; have zzS : Xz.cell? ⟨kZ, 3, none⟩ = some (.slice yG ze.length yH) := (zk uV.out 3).trans rfl; have zzT : Xz.cell? ⟨kZ, 4, none⟩ = some (.slice yM zn.length yN) := (zk uV.out 4).trans rfl; have zzU : Xz.cell? ⟨kZ, 5, none⟩ = some (.slice yO zm.length yP) := (zk uV.out 5).trans rfl; have zz0 := zw uV.out 0; have zz1 := zw uV.out 1; have zz2 := zw uV.out 2; have zz3 := zw uV.out 3; have zz4 := zw uV.out 4; have zz5 := zw uV.out 5) | ((with_reducible refine yY (f := 110) rfl ?_); refine uN (some 20) Tryz.func110 #[.int .i64 zC, .int .i64 a1] ?_; (with_reducible refine (vw.calls zC a1 PY _ A9.out).mono ?_); rintro e w' ⟨rfl, ⟨nd, rfl⟩⟩; refine ⟨_, rfl, ?_⟩))
    go_ret2
    exact ⟨by first | rfl | (simp [zU, z8] <;> rfl) | (simp [*, zU, z8] <;> rfl), by repeat (first | (with_reducible first | exact HB.out | apply yu | apply zP | apply yT | refine qB ?_ dH.out) | exact HB.out)⟩
   ·replace c8 := Bool.eq_false_iff.mpr c8
    subst c8
    have H1 : (some (0, 1)) = some (r1, r2) := by rw [if_neg (show ¬ (false = true) by decide)] at H; exact H
    clear H
    have H := H1
    clear H1
    simp only [Option.some.injEq, Prod.mk.injEq] at H
    obtain ⟨rfl, rfl⟩ := H
    go_enter Tryz.func68, Tryz.ntmps68
    go_wp2_with (first | ((with_reducible refine qx (N := 2) rfl ?_); refine ql ?hg (N := 2) ?hd (cs := #[.string zG, .bool zH, .int .i64 zC, .slice yG ze.length yH, .slice yM zn.length yN, .slice yO zm.length yP]) (t := 44) ?hr ?_; (case hd => rfl); (case hg => rfl); (case hr => first | (go_simp; done) | (go_simp; rfl)); intro kZ hg Ya qK hb; have zf := zx.mk (zI (zD HB.out) hb); have zh := zx.mk (qK); have zA := zx.mk ((by rw [hg]; exact (zV (zD HB.out)) : w.heap.size ≤ kZ)); have zR := zx.mk ((by rw [hg]; exact (zV (zD HB.out)) : w.heap.size ≤ kZ)); clear HB; have HB := zf; have uV := zh; have zwS := zA; have dH := zR; clear zf zh zA zR; clear hb qK hg; have zyQ : Ya.cell? ⟨kZ, 0, none⟩ = some (.string zG) := (zk uV.out 0).trans rfl; have zyX : Ya.cell? ⟨kZ, 1, none⟩ = some (.bool zH) := (zk uV.out 1).trans rfl; have zyJ : Ya.cell? ⟨kZ, 2, none⟩ = some (.int .i64 zC) := (zk uV.out 2).trans rfl; have zyV : Ya.cell? ⟨kZ, 3, none⟩ = some (.slice yG ze.length yH) := (zk uV.out 3).trans rfl; have zyK : Ya.cell? ⟨kZ, 4, none⟩ = some (.slice yM zn.length yN) := (zk uV.out 4).trans rfl; have zyY : Ya.cell? ⟨kZ, 5, none⟩ = some (.slice yO zm.length yP) := (zk uV.out 5).trans rfl; have zyW := zw uV.out 0; have zya := zw uV.out 1; have zyb := zw uV.out 2; have zyc := zw uV.out 3; have zyd := zw uV.out 4; have zye := zw uV.out 5) | (go_at_call 61; (with_reducible refine (qR.calls zG zH zC _ _ ze _ _ zn _ _ zm false _ ?y8 ?qy ?vT ?vU ?uz ?uq A7.out).mono ?_); (case y8 => repeat (first | exact (Kd.zY uG.out HB.out) | (with_reducible refine Kd.zS ?_ _) | (with_reducible refine Kd.zT ?_ _) | (with_reducible refine Kd.yc ?_))); (case qy => exact jD.out); (case vT => repeat (first | exact (Kd.zY jy.out HB.out) | (with_reducible refine Kd.zS ?_ _) | (with_reducible refine Kd.zT ?_ _) | (with_reducible refine Kd.yc ?_))); (case vU => exact jE.out); (case uz => repeat (first | exact (Kd.zY jw.out HB.out) | (with_reducible refine Kd.zS ?_ _) | (with_reducible refine Kd.zT ?_ _) | (with_reducible refine Kd.yc ?_))); (case uq => exact jF.out); rintro e w16 ⟨rfl, hb⟩; have zf := zx.mk (zl (g := kZ) (o := .cells #[.string zG, .bool zH, .int .i64 zC, .slice yG ze.length yH, .slice yM zn.length yN, .slice yO zm.length yP] 44 (0, 0)) (yt uV.out) hb); have zh := zx.mk (zI (zD HB.out) hb); clear uV; clear HB; have uV := zf; have HB := zh; clear zf zh; (try clear hb); (try clear hb2); (try clear hk); (try clear hi)))
    go_ret2
    exact ⟨by first | rfl | (simp [zU, z8] <;> rfl) | (simp [*, zU, z8] <;> rfl), by repeat (first | (with_reducible first | exact HB.out | apply yu | apply zP | apply yT | refine qB ?_ dH.out) | exact HB.out)⟩
end Go.Proofs.YtaifemkokfoadaaGreatDoor.PX
namespace Go.Proofs.YtaifemkokfoadaaGreatDoor.PX
open Go.RowKit Go.Proofs.zy.zu Go.Proofs.zy.yI Go.Proofs.zy.yD
attribute [local go_sem] xw xZ xP xR qD qE xQ xX   -- for this text's walks alone
set_option linter.unusedVariables false
set_option linter.unusedSimpArgs false
def qm.l0 : Nat → ByteArray → ByteArray → Int → Int → ByteArray → Bool → Int → List (zo) → List (qF) → List (qG) → Option (Int)
 | 0, _, _, _, _, _, _, _, _, _, _ => none
 | k + 1, x1, x2, x3, x9, zyf, zyg, zyh, zyi, zyl, Kh => if x9 < (Kh.length : Int) then (if 0 ≤ x9 then (if ((xY Kh x9).f0).toList = x1.toList then (if ((xY Kh x9).f1).toList = x2.toList then ((vw.f ((xY Kh x9).f2) x3).bind fun zwT => (some zwT)) else (qm.l0 k x1 x2 x3 (wrap64 (x9 + 1)) zyf zyg zyh zyi zyl Kh)) else (qm.l0 k x1 x2 x3 (wrap64 (x9 + 1)) zyf zyg zyh zyi zyl Kh)) else (none)) else (some 0)
def qm.f (k : Nat) (zG : ByteArray) (zH : Bool) (zC : Int) (ze : List (zo)) (zn : List (qF)) (zm : List (qG)) (a1 : ByteArray) (a2 : ByteArray) (a3 : Int) : Option (Int) := qm.l0 k a1 a2 a3 0 zG zH zC ze zn zm
set_option maxHeartbeats 8000000 in
set_option maxRecDepth 100000 in
theorem qm.calls (k : Nat) (zG : ByteArray) (zH : Bool) (zC : Int) (yG : Option Addr) (yH : Nat) (ze : List (zo)) (yM : Option Addr) (yN : Nat) (zn : List (qF)) (yO : Option Addr) (yP : Nat) (zm : List (qG)) (a1 : ByteArray) (a2 : ByteArray) (a3 : Int) (r : Int) (w : World) (vS : Kd.C qJ w yG ze.length ze) (uP : ze.length ≤ yH) (uR : Kd.C jC w yM zn.length zn) (uS : zn.length ≤ yN) (uT : Kd.C jS w yO zm.length zm) (uU : zm.length ≤ yP) (h : qm.f k zG zH zC ze zn zm a1 a2 a3 = some r) :
  Calls Tryz.prog 111 #[.agg #[.string zG, .bool zH, .int .i64 zC, .slice yG ze.length yH, .slice yM zn.length yN, .slice yO zm.length yP], .string a1, .string a2, .int .i64 a3] w fun e w' => e = .returned (.int .i64 r) ∧ Below w.heap.size w w' := by
 have Ku := Tryz.underlying44
 have uG := zx.mk vS
 have jD := zx.mk uP
 clear vS uP
 have jy := zx.mk uR
 have jE := zx.mk uS
 clear uR uS
 have jw := zx.mk uT
 have jF := zx.mk uU
 clear uT uU
 have HB := zx.mk (Below.refl w.heap.size w)
 have H : (qm.l0 k a1 a2 a3 0 zG zH zC ze zn zm) = some r := h
 clear h
 have H' := zx.mk H
 clear H
 go_enter Tryz.func111, Tryz.ntmps111
 go_wp2_with (first | ((with_reducible refine qx (N := 4) rfl ?_); refine ql ?hg (N := 4) ?hd (cs := #[.string zG, .bool zH, .int .i64 zC, .slice yG ze.length yH, .slice yM zn.length yN, .slice yO zm.length yP]) (t := 44) ?hr ?_; (case hd => rfl); (case hg => rfl); (case hr => first | (go_simp; done) | (go_simp; rfl)); intro wz hg w5 qK hb; have zf := zx.mk (zI (zD HB.out) hb); have zh := zx.mk (qK); have zA := zx.mk ((by rw [hg]; exact (zV (zD HB.out)) : w.heap.size ≤ wz)); have zR := zx.mk ((by rw [hg]; exact (zV (zD HB.out)) : w.heap.size ≤ wz)); clear HB; have HB := zf; have vI := zh; have zlc := zA; have zJF := zR; clear zf zh zA zR; clear hb qK hg))
 go_loopg [9] k (fun kq v9 w' => ∃ (jR : Int), v9 = .int .i64 jR ∧ zx (qm.l0 kq a1 a2 a3 jR zG zH zC ze zn zm = some r) ∧ zx (kq ≤ k) ∧ zx (w'.heap[wz]? = some (.cells #[.string zG, .bool zH, .int .i64 zC, (.slice yG ze.length yH), (.slice yM zn.length yN), (.slice yO zm.length yP)] 44 (0, 0))) ∧ zx (Below w.heap.size w w'))
 case atStart => exact ⟨(0), (by first | rfl | (simp; done) | (simp [*]; done)), H', ⟨Nat.le_refl _⟩, ⟨yt vI.out⟩, ⟨zD HB.out⟩⟩
 case round =>
  clear H'
  try clear c1
  try clear p2
  obtain ⟨jR, rfl, HA, jv, vI, HB⟩ := hrel
  cases gk with
  | zero => exact absurd HA.out (by simp [qm.l0])
  | succ k1 =>
   have H := HA.out
   clear HA
   simp only [qm.l0] at H
   by_cases c6 : jR < (zm.length : Int)
   ·rw [if_pos c6] at H
    have ZF : decide (jR < (zm.length : Int)) = true := decide_eq_true c6
    clear c6
    by_cases c7 : 0 ≤ jR
    ·rw [if_pos c7] at H
     have ZT : decide (0 ≤ jR) = true := decide_eq_true c7
     clear c7
     by_cases c8 : ((xY zm jR).f0).toList = a1.toList
     ·rw [if_pos c8] at H
      have Pj : (((xY zm jR).f0).toList == a1.toList) = true := beq_iff_eq.mpr c8
      have zxp : (((xY zm jR).f0).toList != a1.toList) = false := bne_eq_false_iff_eq.mpr c8
      clear c8
      by_cases c9 : ((xY zm jR).f1).toList = a2.toList
      ·rw [if_pos c9] at H
       have mQ : (((xY zm jR).f1).toList == a2.toList) = true := beq_iff_eq.mpr c9
       have zjg : (((xY zm jR).f1).toList != a2.toList) = false := bne_eq_false_iff_eq.mpr c9
       clear c9
       replace H := Option.bind_eq_some_iff.mp H
       obtain ⟨zwT, zjV, H⟩ := H
       replace H : (some zwT) = some r := H
       have iE := zx.mk zjV
       clear zjV
       obtain rfl := Option.some.inj H
       have JL : wr.cell? ⟨wz, 0, none⟩ = some (.string zG) := (zk vI.out 0).trans rfl
       have JM : wr.cell? ⟨wz, 1, none⟩ = some (.bool zH) := (zk vI.out 1).trans rfl
       have JN : wr.cell? ⟨wz, 2, none⟩ = some (.int .i64 zC) := (zk vI.out 2).trans rfl
       have JO : wr.cell? ⟨wz, 3, none⟩ = some (.slice yG ze.length yH) := (zk vI.out 3).trans rfl
       have JR : wr.cell? ⟨wz, 4, none⟩ = some (.slice yM zn.length yN) := (zk vI.out 4).trans rfl
       have JU : wr.cell? ⟨wz, 5, none⟩ = some (.slice yO zm.length yP) := (zk vI.out 5).trans rfl
       have J2 := zw vI.out 0
       have J3 := zw vI.out 1
       have J4 := zw vI.out 2
       have J5 := zw vI.out 3
       have J6 := zw vI.out 4
       have J7 := zw vI.out 5
       have Ww : 0 ≤ (jR : Int) := of_decide_eq_true (by first | (with_reducible assumption) | assumption)
       have WZ : jR < (zm.length : Int) := of_decide_eq_true (by first | (with_reducible assumption) | assumption)
       obtain ⟨iT, zjh, Y1, Y2, Y3⟩ := QE jw.out jR Ww WZ
       cases zjh
       replace Y1 := (HB.out.cell (World.block_lt_of_cell? w _ Y1)).trans Y1
       replace Y2 := (HB.out.cell (World.block_lt_of_cell? w _ Y2)).trans Y2
       replace Y3 := (HB.out.cell (World.block_lt_of_cell? w _ Y3)).trans Y3
       replace Ww := eq_true Ww
       replace WZ := eq_true WZ
       have aA : 0 ≤ (jR : Int) := of_decide_eq_true (by first | (with_reducible assumption) | assumption)
       have aC : jR < (zm.length : Int) := of_decide_eq_true (by first | (with_reducible assumption) | assumption)
       obtain ⟨zwU, zXE, UF, UG, UH⟩ := QE jw.out jR aA aC
       obtain rfl : iT = zwU := (by injection zXE)
       replace UF := (HB.out.cell (World.block_lt_of_cell? w _ UF)).trans UF
       replace UG := (HB.out.cell (World.block_lt_of_cell? w _ UG)).trans UG
       replace UH := (HB.out.cell (World.block_lt_of_cell? w _ UH)).trans UH
       replace aA := eq_true aA
       replace aC := eq_true aC
       have zXF : 0 ≤ (jR : Int) := of_decide_eq_true (by first | (with_reducible assumption) | assumption)
       have zXG : jR < (zm.length : Int) := of_decide_eq_true (by first | (with_reducible assumption) | assumption)
       obtain ⟨zcs, zfA, zz6, zz7, zz8⟩ := QE jw.out jR zXF zXG
       obtain rfl : iT = zcs := (by injection zfA)
       replace zz6 := (HB.out.cell (World.block_lt_of_cell? w _ zz6)).trans zz6
       replace zz7 := (HB.out.cell (World.block_lt_of_cell? w _ zz7)).trans zz7
       replace zz8 := (HB.out.cell (World.block_lt_of_cell? w _ zz8)).trans zz8
       replace zXF := eq_true zXF
       replace zXG := eq_true zXG
       go_wp2_with (first | ((with_reducible refine yY (f := 110) rfl ?_); refine uN (some 42) Tryz.func110 #[.int .i64 ((xY zm jR).f2), .int .i64 a3] ?_; (with_reducible refine (vw.calls ((xY zm jR).f2) a3 zwT _ iE.out).mono ?_); rintro e w' ⟨rfl, ⟨nd, rfl⟩⟩; refine ⟨_, rfl, ?_⟩))
       go_ret
       exact ⟨by first | rfl | (simp [zU, z8] <;> rfl) | (simp [*, zU, z8] <;> rfl), by repeat (first | (with_reducible first | exact HB.out | apply yu | apply zP | apply yT | refine qB ?_ zJF.out) | exact HB.out)⟩
      ·rw [if_neg c9] at H
       have mQ : (((xY zm jR).f1).toList == a2.toList) = false := beq_eq_false_iff_ne.mpr c9
       have zjg : (((xY zm jR).f1).toList != a2.toList) = true := bne_iff_ne.mpr c9
       have H' := zx.mk H
       clear H
       have zk6 : wr.cell? ⟨wz, 0, none⟩ = some (.string zG) := (zk vI.out 0).trans rfl
       have zk7 : wr.cell? ⟨wz, 1, none⟩ = some (.bool zH) := (zk vI.out 1).trans rfl
       have zk8 : wr.cell? ⟨wz, 2, none⟩ = some (.int .i64 zC) := (zk vI.out 2).trans rfl
       have zk9 : wr.cell? ⟨wz, 3, none⟩ = some (.slice yG ze.length yH) := (zk vI.out 3).trans rfl
       have zyz : wr.cell? ⟨wz, 4, none⟩ = some (.slice yM zn.length yN) := (zk vI.out 4).trans rfl
       have zyq : wr.cell? ⟨wz, 5, none⟩ = some (.slice yO zm.length yP) := (zk vI.out 5).trans rfl
       have zyx := zw vI.out 0
       have zyj := zw vI.out 1
       have zyv := zw vI.out 2
       have zyk := zw vI.out 3
       have zyy := zw vI.out 4
       have zyw := zw vI.out 5
       have Ww : 0 ≤ (jR : Int) := of_decide_eq_true (by first | (with_reducible assumption) | assumption)
       have WZ : jR < (zm.length : Int) := of_decide_eq_true (by first | (with_reducible assumption) | assumption)
       obtain ⟨iT, zjh, Y1, Y2, Y3⟩ := QE jw.out jR Ww WZ
       cases zjh
       replace Y1 := (HB.out.cell (World.block_lt_of_cell? w _ Y1)).trans Y1
       replace Y2 := (HB.out.cell (World.block_lt_of_cell? w _ Y2)).trans Y2
       replace Y3 := (HB.out.cell (World.block_lt_of_cell? w _ Y3)).trans Y3
       replace Ww := eq_true Ww
       replace WZ := eq_true WZ
       have aA : 0 ≤ (jR : Int) := of_decide_eq_true (by first | (with_reducible assumption) | assumption)
       have aC : jR < (zm.length : Int) := of_decide_eq_true (by first | (with_reducible assumption) | assumption)
       obtain ⟨zwU, zXE, UF, UG, UH⟩ := QE jw.out jR aA aC
       obtain rfl : iT = zwU := (by injection zXE)
       replace UF := (HB.out.cell (World.block_lt_of_cell? w _ UF)).trans UF
       replace UG := (HB.out.cell (World.block_lt_of_cell? w _ UG)).trans UG
       replace UH := (HB.out.cell (World.block_lt_of_cell? w _ UH)).trans UH
       replace aA := eq_true aA
       replace aC := eq_true aC
       go_wp2
       go_roundg k1
       case measure => have := jv.out; omega
       case rel => exact ⟨(wrap64 (jR + 1)), (by first | rfl | (simp; done) | (simp [*]; done)), H', ⟨by have := jv.out; omega⟩, ⟨yt vI.out⟩, ⟨zD HB.out⟩⟩
     ·rw [if_neg c8] at H
      have Pj : (((xY zm jR).f0).toList == a1.toList) = false := beq_eq_false_iff_ne.mpr c8
      have zxp : (((xY zm jR).f0).toList != a1.toList) = true := bne_iff_ne.mpr c8
      have H' := zx.mk H
      clear H
      have zzO : wr.cell? ⟨wz, 0, none⟩ = some (.string zG) := (zk vI.out 0).trans rfl
      have zzP : wr.cell? ⟨wz, 1, none⟩ = some (.bool zH) := (zk vI.out 1).trans rfl
      have zzR : wr.cell? ⟨wz, 2, none⟩ = some (.int .i64 zC) := (zk vI.out 2).trans rfl
      have zzS : wr.cell? ⟨wz, 3, none⟩ = some (.slice yG ze.length yH) := (zk vI.out 3).trans rfl
      have zzT : wr.cell? ⟨wz, 4, none⟩ = some (.slice yM zn.length yN) := (zk vI.out 4).trans rfl
      have zzU : wr.cell? ⟨wz, 5, none⟩ = some (.slice yO zm.length yP) := (zk vI.out 5).trans rfl
      have zz0 := zw vI.out 0
      have zz1 := zw vI.out 1
      have zz2 := zw vI.out 2
      have zz3 := zw vI.out 3
      have zz4 := zw vI.out 4
      have zz5 := zw vI.out 5
      have Ww : 0 ≤ (jR : Int) := of_decide_eq_true (by first | (with_reducible assumption) | assumption)
      have WZ : jR < (zm.length : Int) := of_decide_eq_true (by first | (with_reducible assumption) | assumption)
      obtain ⟨iT, zjh, Y1, Y2, Y3⟩ := QE jw.out jR Ww WZ
      cases zjh
      replace Y1 := (HB.out.cell (World.block_lt_of_cell? w _ Y1)).trans Y1
      replace Y2 := (HB.out.cell (World.block_lt_of_cell? w _ Y2)).trans Y2
      replace Y3 := (HB.out.cell (World.block_lt_of_cell? w _ Y3)).trans Y3
      replace Ww := eq_true Ww
      replace WZ := eq_true WZ
      go_wp2
      go_roundg k1
      case measure => have := jv.out; omega
      case rel => exact ⟨(wrap64 (jR + 1)), (by first | rfl | (simp; done) | (simp [*]; done)), H', ⟨by have := jv.out; omega⟩, ⟨yt vI.out⟩, ⟨zD HB.out⟩⟩
    ·rw [if_neg c7] at H
     exact absurd H (by simp)
   ·rw [if_neg c6] at H
    have ZF : decide (jR < (zm.length : Int)) = false := decide_eq_false c6
    clear c6
    obtain rfl := Option.some.inj H
    have bn : wr.cell? ⟨wz, 0, none⟩ = some (.string zG) := (zk vI.out 0).trans rfl
    have bA : wr.cell? ⟨wz, 1, none⟩ = some (.bool zH) := (zk vI.out 1).trans rfl
    have bB : wr.cell? ⟨wz, 2, none⟩ = some (.int .i64 zC) := (zk vI.out 2).trans rfl
    have bC : wr.cell? ⟨wz, 3, none⟩ = some (.slice yG ze.length yH) := (zk vI.out 3).trans rfl
    have bD : wr.cell? ⟨wz, 4, none⟩ = some (.slice yM zn.length yN) := (zk vI.out 4).trans rfl
    have bE : wr.cell? ⟨wz, 5, none⟩ = some (.slice yO zm.length yP) := (zk vI.out 5).trans rfl
    have Kk := zw vI.out 0
    have Ky := zw vI.out 1
    have Kw := zw vI.out 2
    have KZ := zw vI.out 3
    have KQ := zw vI.out 4
    have KX := zw vI.out 5
    go_wp2
    go_ret
    exact ⟨by first | rfl | (simp [zU, z8] <;> rfl) | (simp [*, zU, z8] <;> rfl), by repeat (first | (with_reducible first | exact HB.out | apply yu | apply zP | apply yT | refine qB ?_ zJF.out) | exact HB.out)⟩
end Go.Proofs.YtaifemkokfoadaaGreatDoor.PX
namespace Go.Proofs.YtaifemkokfoadaaGreatDoor.PX
open Go.RowKit Go.Proofs.zy.zu Go.Proofs.zy.yI Go.Proofs.zy.yD
attribute [local go_sem] xw xZ xP xR qD qE xQ xX   -- for this text's walks alone
set_option linter.unusedVariables false
set_option linter.unusedSimpArgs false
def pY.f (k : Nat) (zG : ByteArray) (zH : Bool) (zC : Int) (ze : List (zo)) (zn : List (qF)) (zm : List (qG)) (a1 : ByteArray) (a2 : ByteArray) (a3 : Int) : Option (Int × Int) := if a3 < 1 then (some (0, 1)) else (if a3 > 1000 then (some (0, 1)) else ((qR.f zG zH zC ze zn zm).bind fun zz9 => (if zz9 = true then ((qm.f k zG zH zC ze zn zm a1 a2 a3).bind fun PW => (some (PW, 0))) else (some (0, 1)))))
set_option maxHeartbeats 8000000 in
set_option maxRecDepth 100000 in
theorem pY.calls (k : Nat) (zG : ByteArray) (zH : Bool) (zC : Int) (yG : Option Addr) (yH : Nat) (ze : List (zo)) (yM : Option Addr) (yN : Nat) (zn : List (qF)) (yO : Option Addr) (yP : Nat) (zm : List (qG)) (a1 : ByteArray) (a2 : ByteArray) (a3 : Int) (r1 : Int) (r2 : Int) (w : World) (vS : Kd.C qJ w yG ze.length ze) (uP : ze.length ≤ yH) (uR : Kd.C jC w yM zn.length zn) (uS : zn.length ≤ yN) (uT : Kd.C jS w yO zm.length zm) (uU : zm.length ≤ yP) (h : pY.f k zG zH zC ze zn zm a1 a2 a3 = some (r1, r2)) :
  Calls Tryz.prog 70 #[.agg #[.string zG, .bool zH, .int .i64 zC, .slice yG ze.length yH, .slice yM zn.length yN, .slice yO zm.length yP], .string a1, .string a2, .int .i64 a3] w fun e w' => e = .returned (.tuple #[.int .i64 r1, .int .i64 r2]) ∧ Below w.heap.size w w' := by
 have Ku := Tryz.underlying44
 have uG := zx.mk vS
 have jD := zx.mk uP
 clear vS uP
 have jy := zx.mk uR
 have jE := zx.mk uS
 clear uR uS
 have jw := zx.mk uT
 have jF := zx.mk uU
 clear uT uU
 have HB := zx.mk (Below.refl w.heap.size w)
 have H : (if a3 < 1 then (some (0, 1)) else (if a3 > 1000 then (some (0, 1)) else ((qR.f zG zH zC ze zn zm).bind fun zz9 => (if zz9 = true then ((qm.f k zG zH zC ze zn zm a1 a2 a3).bind fun PW => (some (PW, 0))) else (some (0, 1)))))) = some (r1, r2) := h
 clear h
 by_cases c5 : a3 < 1
 ·rw [if_pos c5] at H
  have p8 : decide (a3 < 1) = true := decide_eq_true c5
  clear c5
  simp only [Option.some.injEq, Prod.mk.injEq] at H
  obtain ⟨rfl, rfl⟩ := H
  go_enter Tryz.func70, Tryz.ntmps70
  go_wp2_with (first | ((with_reducible refine qx (N := 4) rfl ?_); refine ql ?hg (N := 4) ?hd (cs := #[.string zG, .bool zH, .int .i64 zC, .slice yG ze.length yH, .slice yM zn.length yN, .slice yO zm.length yP]) (t := 44) ?hr ?_; (case hd => rfl); (case hg => rfl); (case hr => first | (go_simp; done) | (go_simp; rfl)); intro jN hg w6 qK hb; have zf := zx.mk (zI (zD HB.out) hb); have zh := zx.mk (qK); have zA := zx.mk ((by rw [hg]; exact (zV (zD HB.out)) : w.heap.size ≤ jN)); have zR := zx.mk ((by rw [hg]; exact (zV (zD HB.out)) : w.heap.size ≤ jN)); clear HB; have HB := zf; have uw := zh; have zw0 := zA; have dI := zR; clear zf zh zA zR; clear hb qK hg))
  go_ret2
  exact ⟨by first | rfl | (simp [zU, z8] <;> rfl) | (simp [*, zU, z8] <;> rfl), by repeat (first | (with_reducible first | exact HB.out | apply yu | apply zP | apply yT | refine qB ?_ dI.out) | exact HB.out)⟩
 ·rw [if_neg c5] at H
  have p8 : decide (a3 < 1) = false := decide_eq_false c5
  clear c5
  by_cases c7 : a3 > 1000
  ·rw [if_pos c7] at H
   have ZT : decide (1000 < a3) = true := decide_eq_true c7
   clear c7
   simp only [Option.some.injEq, Prod.mk.injEq] at H
   obtain ⟨rfl, rfl⟩ := H
   go_enter Tryz.func70, Tryz.ntmps70
   go_wp2_with (first | ((with_reducible refine qx (N := 4) rfl ?_); refine ql ?hg (N := 4) ?hd (cs := #[.string zG, .bool zH, .int .i64 zC, .slice yG ze.length yH, .slice yM zn.length yN, .slice yO zm.length yP]) (t := 44) ?hr ?_; (case hd => rfl); (case hg => rfl); (case hr => first | (go_simp; done) | (go_simp; rfl)); intro jN hg w8 qK hb; have zf := zx.mk (zI (zD HB.out) hb); have zh := zx.mk (qK); have zA := zx.mk ((by rw [hg]; exact (zV (zD HB.out)) : w.heap.size ≤ jN)); have zR := zx.mk ((by rw [hg]; exact (zV (zD HB.out)) : w.heap.size ≤ jN)); clear HB; have HB := zf; have uw := zh; have zw0 := zA; have dI := zR; clear zf zh zA zR; clear hb qK hg))
   go_ret2
   exact ⟨by first | rfl | (simp [zU, z8] <;> rfl) | (simp [*, zU, z8] <;> rfl), by repeat (first | (with_reducible first | exact HB.out | apply yu | apply zP | apply yT | refine qB ?_ dI.out) | exact HB.out)⟩
  ·rw [if_neg c7] at H
   have ZT : decide (1000 < a3) = false := decide_eq_false c7
   clear c7
   replace H := Option.bind_eq_some_iff.mp H
   obtain ⟨zz9, A90, H⟩ := H
   replace H : (if zz9 = true then ((qm.f k zG zH zC ze zn zm a1 a2 a3).bind fun PW => (some (PW, 0))) else (some (0, 1))) = some (r1, r2) := H
   have A9 := zx.mk A90
   clear A90
   by_cases c10 : zz9 = true
   ·subst c10
    have H1 : ((qm.f k zG zH zC ze zn zm a1 a2 a3).bind fun PW => (some (PW, 0))) = some (r1, r2) := by rw [if_pos rfl] at H; exact H
    clear H
    have H := H1
    clear H1
    replace H := Option.bind_eq_some_iff.mp H
    obtain ⟨PW, zji, H⟩ := H
    replace H : (some (PW, 0)) = some (r1, r2) := H
    have A11 := zx.mk zji
    clear zji
    simp only [Option.some.injEq, Prod.mk.injEq] at H
    obtain ⟨rfl, rfl⟩ := H
    go_enter Tryz.func70, Tryz.ntmps70
    go_wp2_with (first | ((with_reducible refine qx (N := 4) rfl ?_); refine ql ?hg (N := 4) ?hd (cs := #[.string zG, .bool zH, .int .i64 zC, .slice yG ze.length yH, .slice yM zn.length yN, .slice yO zm.length yP]) (t := 44) ?hr ?_; (case hd => rfl); (case hg => rfl); (case hr => first | (go_simp; done) | (go_simp; rfl)); intro jN hg Xz qK hb; have zf := zx.mk (zI (zD HB.out) hb); have zh := zx.mk (qK); have zA := zx.mk ((by rw [hg]; exact (zV (zD HB.out)) : w.heap.size ≤ jN)); have zR := zx.mk ((by rw [hg]; exact (zV (zD HB.out)) : w.heap.size ≤ jN)); clear HB; have HB := zf; have uw := zh; have zw0 := zA; have dI := zR; clear zf zh zA zR; clear hb qK hg; have zzO : Xz.cell? ⟨jN, 0, none⟩ = some (.string zG) := (zk uw.out 0).trans rfl; have zzP : Xz.cell? ⟨jN, 1, none⟩ = some (.bool zH) := (zk uw.out 1).trans rfl; have zzR : Xz.cell? ⟨jN, 2, none⟩ = some (.int .i64 zC) := (zk uw.out 2).trans rfl; have zzS : Xz.cell? ⟨jN, 3, none⟩ = some (.slice yG ze.length yH) := (zk uw.out 3).trans rfl; have zzT : Xz.cell? ⟨jN, 4, none⟩ = some (.slice yM zn.length yN) := (zk uw.out 4).trans rfl; have zzU : Xz.cell? ⟨jN, 5, none⟩ = some (.slice yO zm.length yP) := (zk uw.out 5).trans rfl; have zz0 := zw uw.out 0; have zz1 := zw uw.out 1; have zz2 := zw uw.out 2; have zz3 := zw uw.out 3; have zz4 := zw uw.out 4; have zz5 := zw uw.out 5) | (go_at_call 61; (with_reducible refine (qR.calls zG zH zC _ _ ze _ _ zn _ _ zm true _ ?y8 ?qy ?vT ?vU ?uz ?uq A9.out).mono ?_); (case y8 => repeat (first | exact (Kd.zY uG.out HB.out) | (with_reducible refine Kd.zS ?_ _) | (with_reducible refine Kd.zT ?_ _) | (with_reducible refine Kd.yc ?_))); (case qy => exact jD.out); (case vT => repeat (first | exact (Kd.zY jy.out HB.out) | (with_reducible refine Kd.zS ?_ _) | (with_reducible refine Kd.zT ?_ _) | (with_reducible refine Kd.yc ?_))); (case vU => exact jE.out); (case uz => repeat (first | exact (Kd.zY jw.out HB.out) | (with_reducible refine Kd.zS ?_ _) | (with_reducible refine Kd.zT ?_ _) | (with_reducible refine Kd.yc ?_))); (case uq => exact jF.out); rintro e Ya ⟨rfl, hb⟩; have zf := zx.mk (zl (g := jN) (o := .cells #[.string zG, .bool zH, .int .i64 zC, .slice yG ze.length yH, .slice yM zn.length yN, .slice yO zm.length yP] 44 (0, 0)) (yt uw.out) hb); have zh := zx.mk (zI (zD HB.out) hb); clear uw; clear HB; have uw := zf; have HB := zh; clear zf zh; (try clear hb); (try clear hb2); (try clear hk); (try clear hi); have zyQ : Ya.cell? ⟨jN, 0, none⟩ = some (.string zG) := (zk uw.out 0).trans rfl; have zyX : Ya.cell? ⟨jN, 1, none⟩ = some (.bool zH) := (zk uw.out 1).trans rfl; have zyJ : Ya.cell? ⟨jN, 2, none⟩ = some (.int .i64 zC) := (zk uw.out 2).trans rfl; have zyV : Ya.cell? ⟨jN, 3, none⟩ = some (.slice yG ze.length yH) := (zk uw.out 3).trans rfl; have zyK : Ya.cell? ⟨jN, 4, none⟩ = some (.slice yM zn.length yN) := (zk uw.out 4).trans rfl; have zyY : Ya.cell? ⟨jN, 5, none⟩ = some (.slice yO zm.length yP) := (zk uw.out 5).trans rfl; have zyW := zw uw.out 0; have zya := zw uw.out 1; have zyb := zw uw.out 2; have zyc := zw uw.out 3; have zyd := zw uw.out 4; have zye := zw uw.out 5) | ((with_reducible refine yY (f := 111) rfl ?_); refine uN (some 25) Tryz.func111 #[.agg #[.string zG, .bool zH, .int .i64 zC, .slice yG ze.length yH, .slice yM zn.length yN, .slice yO zm.length yP], .string a1, .string a2, .int .i64 a3] ?_; (with_reducible refine (qm.calls k zG zH zC _ _ ze _ _ zn _ _ zm a1 a2 a3 PW _ ?y8 ?qy ?vT ?vU ?uz ?uq A11.out).mono ?_); (case y8 => repeat (first | exact (Kd.zY uG.out HB.out) | (with_reducible refine Kd.zS ?_ _) | (with_reducible refine Kd.zT ?_ _) | (with_reducible refine Kd.yc ?_))); (case qy => exact jD.out); (case vT => repeat (first | exact (Kd.zY jy.out HB.out) | (with_reducible refine Kd.zS ?_ _) | (with_reducible refine Kd.zT ?_ _) | (with_reducible refine Kd.yc ?_))); (case vU => exact jE.out); (case uz => repeat (first | exact (Kd.zY jw.out HB.out) | (with_reducible refine Kd.zS ?_ _) | (with_reducible refine Kd.zT ?_ _) | (with_reducible refine Kd.yc ?_))); (case uq => exact jF.out); rintro e w16 ⟨rfl, hb⟩; refine ⟨_, rfl, ?_⟩; have zf := zx.mk (zl (g := jN) (o := .cells #[.string zG, .bool zH, .int .i64 zC, .slice yG ze.length yH, .slice yM zn.length yN, .slice yO zm.length yP] 44 (0, 0)) (yt uw.out) hb); have zh := zx.mk (zI (zD HB.out) hb); clear uw; clear HB; have uw := zf; have HB := zh; clear zf zh; (try clear hb); (try clear hb2); (try clear hk); (try clear hi)))
    go_ret2
    exact ⟨by first | rfl | (simp [zU, z8] <;> rfl) | (simp [*, zU, z8] <;> rfl), by repeat (first | (with_reducible first | exact HB.out | apply yu | apply zP | apply yT | refine qB ?_ dI.out) | exact HB.out)⟩
   ·replace c10 := Bool.eq_false_iff.mpr c10
    subst c10
    have H1 : (some (0, 1)) = some (r1, r2) := by rw [if_neg (show ¬ (false = true) by decide)] at H; exact H
    clear H
    have H := H1
    clear H1
    simp only [Option.some.injEq, Prod.mk.injEq] at H
    obtain ⟨rfl, rfl⟩ := H
    go_enter Tryz.func70, Tryz.ntmps70
    go_wp2_with (first | ((with_reducible refine qx (N := 4) rfl ?_); refine ql ?hg (N := 4) ?hd (cs := #[.string zG, .bool zH, .int .i64 zC, .slice yG ze.length yH, .slice yM zn.length yN, .slice yO zm.length yP]) (t := 44) ?hr ?_; (case hd => rfl); (case hg => rfl); (case hr => first | (go_simp; done) | (go_simp; rfl)); intro jN hg Zw qK hb; have zf := zx.mk (zI (zD HB.out) hb); have zh := zx.mk (qK); have zA := zx.mk ((by rw [hg]; exact (zV (zD HB.out)) : w.heap.size ≤ jN)); have zR := zx.mk ((by rw [hg]; exact (zV (zD HB.out)) : w.heap.size ≤ jN)); clear HB; have HB := zf; have uw := zh; have zw0 := zA; have dI := zR; clear zf zh zA zR; clear hb qK hg; have zKW : Zw.cell? ⟨jN, 0, none⟩ = some (.string zG) := (zk uw.out 0).trans rfl; have zKa : Zw.cell? ⟨jN, 1, none⟩ = some (.bool zH) := (zk uw.out 1).trans rfl; have zKb : Zw.cell? ⟨jN, 2, none⟩ = some (.int .i64 zC) := (zk uw.out 2).trans rfl; have zKc : Zw.cell? ⟨jN, 3, none⟩ = some (.slice yG ze.length yH) := (zk uw.out 3).trans rfl; have zKd : Zw.cell? ⟨jN, 4, none⟩ = some (.slice yM zn.length yN) := (zk uw.out 4).trans rfl; have zKe : Zw.cell? ⟨jN, 5, none⟩ = some (.slice yO zm.length yP) := (zk uw.out 5).trans rfl; have zKf := zw uw.out 0; have zKg := zw uw.out 1; have zKh := zw uw.out 2; have zKi := zw uw.out 3; have zKl := zw uw.out 4; have zKm := zw uw.out 5) | (go_at_call 61; (with_reducible refine (qR.calls zG zH zC _ _ ze _ _ zn _ _ zm false _ ?y8 ?qy ?vT ?vU ?uz ?uq A9.out).mono ?_); (case y8 => repeat (first | exact (Kd.zY uG.out HB.out) | (with_reducible refine Kd.zS ?_ _) | (with_reducible refine Kd.zT ?_ _) | (with_reducible refine Kd.yc ?_))); (case qy => exact jD.out); (case vT => repeat (first | exact (Kd.zY jy.out HB.out) | (with_reducible refine Kd.zS ?_ _) | (with_reducible refine Kd.zT ?_ _) | (with_reducible refine Kd.yc ?_))); (case vU => exact jE.out); (case uz => repeat (first | exact (Kd.zY jw.out HB.out) | (with_reducible refine Kd.zS ?_ _) | (with_reducible refine Kd.zT ?_ _) | (with_reducible refine Kd.yc ?_))); (case uq => exact jF.out); rintro e mP ⟨rfl, hb⟩; have zf := zx.mk (zl (g := jN) (o := .cells #[.string zG, .bool zH, .int .i64 zC, .slice yG ze.length yH, .slice yM zn.length yN, .slice yO zm.length yP] 44 (0, 0)) (yt uw.out) hb); have zh := zx.mk (zI (zD HB.out) hb); clear uw; clear HB; have uw := zf; have HB := zh; clear zf zh; (try clear hb); (try clear hb2); (try clear hk); (try clear hi)))
    go_ret2
    exact ⟨by first | rfl | (simp [zU, z8] <;> rfl) | (simp [*, zU, z8] <;> rfl), by repeat (first | (with_reducible first | exact HB.out | apply yu | apply zP | apply yT | refine qB ?_ dI.out) | exact HB.out)⟩
end Go.Proofs.YtaifemkokfoadaaGreatDoor.PX
namespace Go.Proofs.YtaifemkokfoadaaGreatDoor.PX
open Go.RowKit Go.Proofs.zy.zu Go.Proofs.zy.yI Go.Proofs.zy.yD
attribute [local go_sem] xw xZ xP xR qD qE xQ xX   -- for this text's walks alone
set_option linter.unusedVariables false
set_option linter.unusedSimpArgs false
def qo.l0 : Nat → ByteArray → ByteArray → Int → ByteArray → Bool → Int → List (zo) → List (qF) → List (qG) → Option (ByteArray × Bool)
 | 0, _, _, _, _, _, _, _, _, _ => none
 | k + 1, x1, x2, x8, zym, zyn, zyo, zyp, Ki, zyr => if x8 < (Ki.length : Int) then (if 0 ≤ x8 then (if ((vJ Ki x8).f0).toList = x1.toList then (if ((vJ Ki x8).f1).toList = x2.toList then (some ((vJ Ki x8).f2, true)) else (qo.l0 k x1 x2 (wrap64 (x8 + 1)) zym zyn zyo zyp Ki zyr)) else (qo.l0 k x1 x2 (wrap64 (x8 + 1)) zym zyn zyo zyp Ki zyr)) else (none)) else (some ((⟨#[]⟩ : ByteArray), false))
def qo.f (k : Nat) (zG : ByteArray) (zH : Bool) (zC : Int) (ze : List (zo)) (zn : List (qF)) (zm : List (qG)) (a1 : ByteArray) (a2 : ByteArray) : Option (ByteArray × Bool) := qo.l0 k a1 a2 0 zG zH zC ze zn zm
set_option maxHeartbeats 8000000 in
set_option maxRecDepth 100000 in
theorem qo.calls (k : Nat) (zG : ByteArray) (zH : Bool) (zC : Int) (yG : Option Addr) (yH : Nat) (ze : List (zo)) (yM : Option Addr) (yN : Nat) (zn : List (qF)) (yO : Option Addr) (yP : Nat) (zm : List (qG)) (a1 : ByteArray) (a2 : ByteArray) (r1 : ByteArray) (r2 : Bool) (w : World) (vS : Kd.C qJ w yG ze.length ze) (uP : ze.length ≤ yH) (uR : Kd.C jC w yM zn.length zn) (uS : zn.length ≤ yN) (uT : Kd.C jS w yO zm.length zm) (uU : zm.length ≤ yP) (h : qo.f k zG zH zC ze zn zm a1 a2 = some (r1, r2)) :
  Calls Tryz.prog 112 #[.agg #[.string zG, .bool zH, .int .i64 zC, .slice yG ze.length yH, .slice yM zn.length yN, .slice yO zm.length yP], .string a1, .string a2] w fun e w' => e = .returned (.tuple #[.string r1, .bool r2]) ∧ Below w.heap.size w w' := by
 have Ku := Tryz.underlying44
 have uG := zx.mk vS
 have jD := zx.mk uP
 clear vS uP
 have jy := zx.mk uR
 have jE := zx.mk uS
 clear uR uS
 have jw := zx.mk uT
 have jF := zx.mk uU
 clear uT uU
 have HB := zx.mk (Below.refl w.heap.size w)
 have H : (qo.l0 k a1 a2 0 zG zH zC ze zn zm) = some (r1, r2) := h
 clear h
 have H' := zx.mk H
 clear H
 go_enter Tryz.func112, Tryz.ntmps112
 go_wp2_with (first | ((with_reducible refine qx (N := 3) rfl ?_); refine ql ?hg (N := 3) ?hd (cs := #[.string zG, .bool zH, .int .i64 zC, .slice yG ze.length yH, .slice yM zn.length yN, .slice yO zm.length yP]) (t := 44) ?hr ?_; (case hd => rfl); (case hg => rfl); (case hr => first | (go_simp; done) | (go_simp; rfl)); intro wZ hg w4 qK hb; have zf := zx.mk (zI (zD HB.out) hb); have zh := zx.mk (qK); have zA := zx.mk ((by rw [hg]; exact (zV (zD HB.out)) : w.heap.size ≤ wZ)); have zR := zx.mk ((by rw [hg]; exact (zV (zD HB.out)) : w.heap.size ≤ wZ)); clear HB; have HB := zf; have vL := zh; have zld := zA; have zJG := zR; clear zf zh zA zR; clear hb qK hg))
 go_loopg [8] k (fun kq v8 w' => ∃ (xW : Int), v8 = .int .i64 xW ∧ zx (qo.l0 kq a1 a2 xW zG zH zC ze zn zm = some (r1, r2)) ∧ zx (kq ≤ k) ∧ zx (w'.heap[wZ]? = some (.cells #[.string zG, .bool zH, .int .i64 zC, (.slice yG ze.length yH), (.slice yM zn.length yN), (.slice yO zm.length yP)] 44 (0, 0))) ∧ zx (Below w.heap.size w w'))
 case atStart => exact ⟨(0), (by first | rfl | (simp; done) | (simp [*]; done)), H', ⟨Nat.le_refl _⟩, ⟨yt vL.out⟩, ⟨zD HB.out⟩⟩
 case round =>
  clear H'
  try clear c1
  try clear p2
  obtain ⟨xW, rfl, HA, jv, vL, HB⟩ := hrel
  cases gk with
  | zero => exact absurd HA.out (by simp [qo.l0])
  | succ k1 =>
   have H := HA.out
   clear HA
   simp only [qo.l0] at H
   by_cases c5 : xW < (zn.length : Int)
   ·rw [if_pos c5] at H
    have p8 : decide (xW < (zn.length : Int)) = true := decide_eq_true c5
    clear c5
    by_cases c6 : 0 ≤ xW
    ·rw [if_pos c6] at H
     have ZF : decide (0 ≤ xW) = true := decide_eq_true c6
     clear c6
     by_cases c7 : ((vJ zn xW).f0).toList = a1.toList
     ·rw [if_pos c7] at H
      have ZT : (((vJ zn xW).f0).toList == a1.toList) = true := beq_iff_eq.mpr c7
      have oI : (((vJ zn xW).f0).toList != a1.toList) = false := bne_eq_false_iff_eq.mpr c7
      clear c7
      by_cases c8 : ((vJ zn xW).f1).toList = a2.toList
      ·rw [if_pos c8] at H
       have Pj : (((vJ zn xW).f1).toList == a2.toList) = true := beq_iff_eq.mpr c8
       have zxp : (((vJ zn xW).f1).toList != a2.toList) = false := bne_eq_false_iff_eq.mpr c8
       clear c8
       simp only [Option.some.injEq, Prod.mk.injEq] at H
       obtain ⟨rfl, rfl⟩ := H
       have KA : wr.cell? ⟨wZ, 0, none⟩ = some (.string zG) := (zk vL.out 0).trans rfl
       have KC : wr.cell? ⟨wZ, 1, none⟩ = some (.bool zH) := (zk vL.out 1).trans rfl
       have PO : wr.cell? ⟨wZ, 2, none⟩ = some (.int .i64 zC) := (zk vL.out 2).trans rfl
       have PS : wr.cell? ⟨wZ, 3, none⟩ = some (.slice yG ze.length yH) := (zk vL.out 3).trans rfl
       have PU : wr.cell? ⟨wZ, 4, none⟩ = some (.slice yM zn.length yN) := (zk vL.out 4).trans rfl
       have P6 : wr.cell? ⟨wZ, 5, none⟩ = some (.slice yO zm.length yP) := (zk vL.out 5).trans rfl
       have KD := zw vL.out 0
       have KE := zw vL.out 1
       have P7 := zw vL.out 2
       have P8 := zw vL.out 3
       have P9 := zw vL.out 4
       have bq := zw vL.out 5
       have WQ : 0 ≤ (xW : Int) := of_decide_eq_true (by first | (with_reducible assumption) | assumption)
       have WX : xW < (zn.length : Int) := of_decide_eq_true (by first | (with_reducible assumption) | assumption)
       obtain ⟨iU, zjl, Y4, Y5, Y6⟩ := QD jy.out xW WQ WX
       cases zjl
       replace Y4 := (HB.out.cell (World.block_lt_of_cell? w _ Y4)).trans Y4
       replace Y5 := (HB.out.cell (World.block_lt_of_cell? w _ Y5)).trans Y5
       replace Y6 := (HB.out.cell (World.block_lt_of_cell? w _ Y6)).trans Y6
       replace WQ := eq_true WQ
       replace WX := eq_true WX
       have aD : 0 ≤ (xW : Int) := of_decide_eq_true (by first | (with_reducible assumption) | assumption)
       have aG : xW < (zn.length : Int) := of_decide_eq_true (by first | (with_reducible assumption) | assumption)
       obtain ⟨zw1, zXH, UL, UM, UN⟩ := QD jy.out xW aD aG
       obtain rfl : iU = zw1 := (by injection zXH)
       replace UL := (HB.out.cell (World.block_lt_of_cell? w _ UL)).trans UL
       replace UM := (HB.out.cell (World.block_lt_of_cell? w _ UM)).trans UM
       replace UN := (HB.out.cell (World.block_lt_of_cell? w _ UN)).trans UN
       replace aD := eq_true aD
       replace aG := eq_true aG
       have zXI : 0 ≤ (xW : Int) := of_decide_eq_true (by first | (with_reducible assumption) | assumption)
       have zXL : xW < (zn.length : Int) := of_decide_eq_true (by first | (with_reducible assumption) | assumption)
       obtain ⟨zct, zfB, zqz, zqq, zqx⟩ := QD jy.out xW zXI zXL
       obtain rfl : iU = zct := (by injection zfB)
       replace zqz := (HB.out.cell (World.block_lt_of_cell? w _ zqz)).trans zqz
       replace zqq := (HB.out.cell (World.block_lt_of_cell? w _ zqq)).trans zqq
       replace zqx := (HB.out.cell (World.block_lt_of_cell? w _ zqx)).trans zqx
       replace zXI := eq_true zXI
       replace zXL := eq_true zXL
       go_wp2
       go_ret2
       exact ⟨by first | rfl | (simp [zU, z8] <;> rfl) | (simp [*, zU, z8] <;> rfl), by repeat (first | (with_reducible first | exact HB.out | apply yu | apply zP | apply yT | refine qB ?_ zJG.out) | exact HB.out)⟩
      ·rw [if_neg c8] at H
       have Pj : (((vJ zn xW).f1).toList == a2.toList) = false := beq_eq_false_iff_ne.mpr c8
       have zxp : (((vJ zn xW).f1).toList != a2.toList) = true := bne_iff_ne.mpr c8
       have H' := zx.mk H
       clear H
       have bJ : wr.cell? ⟨wZ, 0, none⟩ = some (.string zG) := (zk vL.out 0).trans rfl
       have bV : wr.cell? ⟨wZ, 1, none⟩ = some (.bool zH) := (zk vL.out 1).trans rfl
       have bK : wr.cell? ⟨wZ, 2, none⟩ = some (.int .i64 zC) := (zk vL.out 2).trans rfl
       have bY : wr.cell? ⟨wZ, 3, none⟩ = some (.slice yG ze.length yH) := (zk vL.out 3).trans rfl
       have bW : wr.cell? ⟨wZ, 4, none⟩ = some (.slice yM zn.length yN) := (zk vL.out 4).trans rfl
       have bg : wr.cell? ⟨wZ, 5, none⟩ = some (.slice yO zm.length yP) := (zk vL.out 5).trans rfl
       have J8 := zw vL.out 0
       have J9 := zw vL.out 1
       have Kz := zw vL.out 2
       have Kq := zw vL.out 3
       have Kj := zw vL.out 4
       have Kv := zw vL.out 5
       have WQ : 0 ≤ (xW : Int) := of_decide_eq_true (by first | (with_reducible assumption) | assumption)
       have WX : xW < (zn.length : Int) := of_decide_eq_true (by first | (with_reducible assumption) | assumption)
       obtain ⟨iU, zjl, Y4, Y5, Y6⟩ := QD jy.out xW WQ WX
       cases zjl
       replace Y4 := (HB.out.cell (World.block_lt_of_cell? w _ Y4)).trans Y4
       replace Y5 := (HB.out.cell (World.block_lt_of_cell? w _ Y5)).trans Y5
       replace Y6 := (HB.out.cell (World.block_lt_of_cell? w _ Y6)).trans Y6
       replace WQ := eq_true WQ
       replace WX := eq_true WX
       have aD : 0 ≤ (xW : Int) := of_decide_eq_true (by first | (with_reducible assumption) | assumption)
       have aG : xW < (zn.length : Int) := of_decide_eq_true (by first | (with_reducible assumption) | assumption)
       obtain ⟨zw1, zXH, UL, UM, UN⟩ := QD jy.out xW aD aG
       obtain rfl : iU = zw1 := (by injection zXH)
       replace UL := (HB.out.cell (World.block_lt_of_cell? w _ UL)).trans UL
       replace UM := (HB.out.cell (World.block_lt_of_cell? w _ UM)).trans UM
       replace UN := (HB.out.cell (World.block_lt_of_cell? w _ UN)).trans UN
       replace aD := eq_true aD
       replace aG := eq_true aG
       go_wp2
       go_roundg k1
       case measure => have := jv.out; omega
       case rel => exact ⟨(wrap64 (xW + 1)), (by first | rfl | (simp; done) | (simp [*]; done)), H', ⟨by have := jv.out; omega⟩, ⟨yt vL.out⟩, ⟨zD HB.out⟩⟩
     ·rw [if_neg c7] at H
      have ZT : (((vJ zn xW).f0).toList == a1.toList) = false := beq_eq_false_iff_ne.mpr c7
      have oI : (((vJ zn xW).f0).toList != a1.toList) = true := bne_iff_ne.mpr c7
      have H' := zx.mk H
      clear H
      have JL : wr.cell? ⟨wZ, 0, none⟩ = some (.string zG) := (zk vL.out 0).trans rfl
      have JM : wr.cell? ⟨wZ, 1, none⟩ = some (.bool zH) := (zk vL.out 1).trans rfl
      have JN : wr.cell? ⟨wZ, 2, none⟩ = some (.int .i64 zC) := (zk vL.out 2).trans rfl
      have JO : wr.cell? ⟨wZ, 3, none⟩ = some (.slice yG ze.length yH) := (zk vL.out 3).trans rfl
      have JR : wr.cell? ⟨wZ, 4, none⟩ = some (.slice yM zn.length yN) := (zk vL.out 4).trans rfl
      have JU : wr.cell? ⟨wZ, 5, none⟩ = some (.slice yO zm.length yP) := (zk vL.out 5).trans rfl
      have J2 := zw vL.out 0
      have J3 := zw vL.out 1
      have J4 := zw vL.out 2
      have J5 := zw vL.out 3
      have J6 := zw vL.out 4
      have J7 := zw vL.out 5
      have WQ : 0 ≤ (xW : Int) := of_decide_eq_true (by first | (with_reducible assumption) | assumption)
      have WX : xW < (zn.length : Int) := of_decide_eq_true (by first | (with_reducible assumption) | assumption)
      obtain ⟨iU, zjl, Y4, Y5, Y6⟩ := QD jy.out xW WQ WX
      cases zjl
      replace Y4 := (HB.out.cell (World.block_lt_of_cell? w _ Y4)).trans Y4
      replace Y5 := (HB.out.cell (World.block_lt_of_cell? w _ Y5)).trans Y5
      replace Y6 := (HB.out.cell (World.block_lt_of_cell? w _ Y6)).trans Y6
      replace WQ := eq_true WQ
      replace WX := eq_true WX
      go_wp2
      go_roundg k1
      case measure => have := jv.out; omega
      case rel => exact ⟨(wrap64 (xW + 1)), (by first | rfl | (simp; done) | (simp [*]; done)), H', ⟨by have := jv.out; omega⟩, ⟨yt vL.out⟩, ⟨zD HB.out⟩⟩
    ·rw [if_neg c6] at H
     exact absurd H (by simp)
   ·rw [if_neg c5] at H
    have p8 : decide (xW < (zn.length : Int)) = false := decide_eq_false c5
    clear c5
    simp only [Option.some.injEq, Prod.mk.injEq] at H
    obtain ⟨rfl, rfl⟩ := H
    have zk6 : wr.cell? ⟨wZ, 0, none⟩ = some (.string zG) := (zk vL.out 0).trans rfl
    have zk7 : wr.cell? ⟨wZ, 1, none⟩ = some (.bool zH) := (zk vL.out 1).trans rfl
    have zk8 : wr.cell? ⟨wZ, 2, none⟩ = some (.int .i64 zC) := (zk vL.out 2).trans rfl
    have zk9 : wr.cell? ⟨wZ, 3, none⟩ = some (.slice yG ze.length yH) := (zk vL.out 3).trans rfl
    have zyz : wr.cell? ⟨wZ, 4, none⟩ = some (.slice yM zn.length yN) := (zk vL.out 4).trans rfl
    have zyq : wr.cell? ⟨wZ, 5, none⟩ = some (.slice yO zm.length yP) := (zk vL.out 5).trans rfl
    have zyx := zw vL.out 0
    have zyj := zw vL.out 1
    have zyv := zw vL.out 2
    have zyk := zw vL.out 3
    have zyy := zw vL.out 4
    have zyw := zw vL.out 5
    go_wp2
    go_ret2
    exact ⟨by first | rfl | (simp [zU, z8] <;> rfl) | (simp [*, zU, z8] <;> rfl), by repeat (first | (with_reducible first | exact HB.out | apply yu | apply zP | apply yT | refine qB ?_ zJG.out) | exact HB.out)⟩
end Go.Proofs.YtaifemkokfoadaaGreatDoor.PX
namespace Go.Proofs.YtaifemkokfoadaaGreatDoor.PX
open Go.RowKit Go.Proofs.zy.zu Go.Proofs.zy.yI Go.Proofs.zy.yD
attribute [local go_sem] xw xZ xP xR qD qE xQ xX   -- for this text's walks alone
set_option linter.unusedVariables false
set_option linter.unusedSimpArgs false
def ZL.f (k : Nat) (zG : ByteArray) (zH : Bool) (zC : Int) (ze : List (zo)) (zn : List (qF)) (zm : List (qG)) (a1 : ByteArray) (a2 : ByteArray) : Option (ByteArray × Bool) := (qR.f zG zH zC ze zn zm).bind fun zqj => (if zqj = true then ((qo.f k zG zH zC ze zn zm a1 a2).bind fun Uq => (some (Uq.1, Uq.2))) else (some ((⟨#[]⟩ : ByteArray), false)))
set_option maxHeartbeats 8000000 in
set_option maxRecDepth 100000 in
theorem ZL.calls (k : Nat) (zG : ByteArray) (zH : Bool) (zC : Int) (yG : Option Addr) (yH : Nat) (ze : List (zo)) (yM : Option Addr) (yN : Nat) (zn : List (qF)) (yO : Option Addr) (yP : Nat) (zm : List (qG)) (a1 : ByteArray) (a2 : ByteArray) (r1 : ByteArray) (r2 : Bool) (w : World) (vS : Kd.C qJ w yG ze.length ze) (uP : ze.length ≤ yH) (uR : Kd.C jC w yM zn.length zn) (uS : zn.length ≤ yN) (uT : Kd.C jS w yO zm.length zm) (uU : zm.length ≤ yP) (h : ZL.f k zG zH zC ze zn zm a1 a2 = some (r1, r2)) :
  Calls Tryz.prog 72 #[.agg #[.string zG, .bool zH, .int .i64 zC, .slice yG ze.length yH, .slice yM zn.length yN, .slice yO zm.length yP], .string a1, .string a2] w fun e w' => e = .returned (.tuple #[.string r1, .bool r2]) ∧ Below w.heap.size w w' := by
 have Ku := Tryz.underlying44
 have uG := zx.mk vS
 have jD := zx.mk uP
 clear vS uP
 have jy := zx.mk uR
 have jE := zx.mk uS
 clear uR uS
 have jw := zx.mk uT
 have jF := zx.mk uU
 clear uT uU
 have HB := zx.mk (Below.refl w.heap.size w)
 have H : ((qR.f zG zH zC ze zn zm).bind fun zqj => (if zqj = true then ((qo.f k zG zH zC ze zn zm a1 a2).bind fun Uq => (some (Uq.1, Uq.2))) else (some ((⟨#[]⟩ : ByteArray), false)))) = some (r1, r2) := h
 clear h
 replace H := Option.bind_eq_some_iff.mp H
 obtain ⟨zqj, Jy, H⟩ := H
 replace H : (if zqj = true then ((qo.f k zG zH zC ze zn zm a1 a2).bind fun Uq => (some (Uq.1, Uq.2))) else (some ((⟨#[]⟩ : ByteArray), false))) = some (r1, r2) := H
 have A4 := zx.mk Jy
 clear Jy
 by_cases c5 : zqj = true
 ·subst c5
  have H1 : ((qo.f k zG zH zC ze zn zm a1 a2).bind fun Uq => (some (Uq.1, Uq.2))) = some (r1, r2) := by rw [if_pos rfl] at H; exact H
  clear H
  have H := H1
  clear H1
  replace H := Option.bind_eq_some_iff.mp H
  obtain ⟨⟨zW0, zW1⟩, A60, H⟩ := H
  replace H : (some (zW0, zW1)) = some (r1, r2) := H
  have A6 := zx.mk A60
  clear A60
  simp only [Option.some.injEq, Prod.mk.injEq] at H
  obtain ⟨rfl, rfl⟩ := H
  go_enter Tryz.func72, Tryz.ntmps72
  go_wp2_with (first | ((with_reducible refine qx (N := 3) rfl ?_); refine ql ?hg (N := 3) ?hd (cs := #[.string zG, .bool zH, .int .i64 zC, .slice yG ze.length yH, .slice yM zn.length yN, .slice yO zm.length yP]) (t := 44) ?hr ?_; (case hd => rfl); (case hg => rfl); (case hr => first | (go_simp; done) | (go_simp; rfl)); intro wW hg w7 qK hb; have zf := zx.mk (zI (zD HB.out) hb); have zh := zx.mk (qK); have zA := zx.mk ((by rw [hg]; exact (zV (zD HB.out)) : w.heap.size ≤ wW)); have zR := zx.mk ((by rw [hg]; exact (zV (zD HB.out)) : w.heap.size ≤ wW)); clear HB; have HB := zf; have uQ := zh; have zcu := zA; have zw2 := zR; clear zf zh zA zR; clear hb qK hg; have zZM : w7.cell? ⟨wW, 0, none⟩ = some (.string zG) := (zk uQ.out 0).trans rfl; have zZN : w7.cell? ⟨wW, 1, none⟩ = some (.bool zH) := (zk uQ.out 1).trans rfl; have zZO : w7.cell? ⟨wW, 2, none⟩ = some (.int .i64 zC) := (zk uQ.out 2).trans rfl; have zZP : w7.cell? ⟨wW, 3, none⟩ = some (.slice yG ze.length yH) := (zk uQ.out 3).trans rfl; have zZR : w7.cell? ⟨wW, 4, none⟩ = some (.slice yM zn.length yN) := (zk uQ.out 4).trans rfl; have zZS : w7.cell? ⟨wW, 5, none⟩ = some (.slice yO zm.length yP) := (zk uQ.out 5).trans rfl; have zZT := zw uQ.out 0; have zZU := zw uQ.out 1; have zZ0 := zw uQ.out 2; have zZ1 := zw uQ.out 3; have zZ2 := zw uQ.out 4; have zZ3 := zw uQ.out 5) | ((with_reducible refine yY (f := 61) rfl ?_); refine uN (some 9) Tryz.func61 #[.agg #[.string zG, .bool zH, .int .i64 zC, .slice yG ze.length yH, .slice yM zn.length yN, .slice yO zm.length yP]] ?_; (with_reducible refine (qR.calls zG zH zC _ _ ze _ _ zn _ _ zm true _ ?y8 ?qy ?vT ?vU ?uz ?uq A4.out).mono ?_); (case y8 => repeat (first | exact (Kd.zY uG.out HB.out) | (with_reducible refine Kd.zS ?_ _) | (with_reducible refine Kd.zT ?_ _) | (with_reducible refine Kd.yc ?_))); (case qy => exact jD.out); (case vT => repeat (first | exact (Kd.zY jy.out HB.out) | (with_reducible refine Kd.zS ?_ _) | (with_reducible refine Kd.zT ?_ _) | (with_reducible refine Kd.yc ?_))); (case vU => exact jE.out); (case uz => repeat (first | exact (Kd.zY jw.out HB.out) | (with_reducible refine Kd.zS ?_ _) | (with_reducible refine Kd.zT ?_ _) | (with_reducible refine Kd.yc ?_))); (case uq => exact jF.out); rintro e w9 ⟨rfl, hb⟩; refine ⟨_, rfl, ?_⟩; have zf := zx.mk (zl (g := wW) (o := .cells #[.string zG, .bool zH, .int .i64 zC, .slice yG ze.length yH, .slice yM zn.length yN, .slice yO zm.length yP] 44 (0, 0)) (yt uQ.out) hb); have zh := zx.mk (zI (zD HB.out) hb); clear uQ; clear HB; have uQ := zf; have HB := zh; clear zf zh; (try clear hb); (try clear hb2); (try clear hk); (try clear hi); have bJ : w9.cell? ⟨wW, 0, none⟩ = some (.string zG) := (zk uQ.out 0).trans rfl; have bV : w9.cell? ⟨wW, 1, none⟩ = some (.bool zH) := (zk uQ.out 1).trans rfl; have bK : w9.cell? ⟨wW, 2, none⟩ = some (.int .i64 zC) := (zk uQ.out 2).trans rfl; have bY : w9.cell? ⟨wW, 3, none⟩ = some (.slice yG ze.length yH) := (zk uQ.out 3).trans rfl; have bW : w9.cell? ⟨wW, 4, none⟩ = some (.slice yM zn.length yN) := (zk uQ.out 4).trans rfl; have bg : w9.cell? ⟨wW, 5, none⟩ = some (.slice yO zm.length yP) := (zk uQ.out 5).trans rfl; have J8 := zw uQ.out 0; have J9 := zw uQ.out 1; have Kz := zw uQ.out 2; have Kq := zw uQ.out 3; have Kj := zw uQ.out 4; have Kv := zw uQ.out 5) | ((with_reducible refine yY (f := 112) rfl ?_); refine uN (some 14) Tryz.func112 #[.agg #[.string zG, .bool zH, .int .i64 zC, .slice yG ze.length yH, .slice yM zn.length yN, .slice yO zm.length yP], .string a1, .string a2] ?_; (with_reducible refine (qo.calls k zG zH zC _ _ ze _ _ zn _ _ zm a1 a2 zW0 zW1 _ ?y8 ?qy ?vT ?vU ?uz ?uq A6.out).mono ?_); (case y8 => repeat (first | exact (Kd.zY uG.out HB.out) | (with_reducible refine Kd.zS ?_ _) | (with_reducible refine Kd.zT ?_ _) | (with_reducible refine Kd.yc ?_))); (case qy => exact jD.out); (case vT => repeat (first | exact (Kd.zY jy.out HB.out) | (with_reducible refine Kd.zS ?_ _) | (with_reducible refine Kd.zT ?_ _) | (with_reducible refine Kd.yc ?_))); (case vU => exact jE.out); (case uz => repeat (first | exact (Kd.zY jw.out HB.out) | (with_reducible refine Kd.zS ?_ _) | (with_reducible refine Kd.zT ?_ _) | (with_reducible refine Kd.yc ?_))); (case uq => exact jF.out); rintro e sG ⟨rfl, hb⟩; refine ⟨_, rfl, ?_⟩; have zf := zx.mk (zl (g := wW) (o := .cells #[.string zG, .bool zH, .int .i64 zC, .slice yG ze.length yH, .slice yM zn.length yN, .slice yO zm.length yP] 44 (0, 0)) (yt uQ.out) hb); have zh := zx.mk (zI (zD HB.out) hb); clear uQ; clear HB; have uQ := zf; have HB := zh; clear zf zh; (try clear hb); (try clear hb2); (try clear hk); (try clear hi)))
  go_ret2
  exact ⟨by first | rfl | (simp [zU, z8] <;> rfl) | (simp [*, zU, z8] <;> rfl), by repeat (first | (with_reducible first | exact HB.out | apply yu | apply zP | apply yT | refine qB ?_ zw2.out) | exact HB.out)⟩
 ·replace c5 := Bool.eq_false_iff.mpr c5
  subst c5
  have H1 : (some ((⟨#[]⟩ : ByteArray), false)) = some (r1, r2) := by rw [if_neg (show ¬ (false = true) by decide)] at H; exact H
  clear H
  have H := H1
  clear H1
  simp only [Option.some.injEq, Prod.mk.injEq] at H
  obtain ⟨rfl, rfl⟩ := H
  go_enter Tryz.func72, Tryz.ntmps72
  go_wp2_with (first | ((with_reducible refine qx (N := 3) rfl ?_); refine ql ?hg (N := 3) ?hd (cs := #[.string zG, .bool zH, .int .i64 zC, .slice yG ze.length yH, .slice yM zn.length yN, .slice yO zm.length yP]) (t := 44) ?hr ?_; (case hd => rfl); (case hg => rfl); (case hr => first | (go_simp; done) | (go_simp; rfl)); intro wW hg Xz qK hb; have zf := zx.mk (zI (zD HB.out) hb); have zh := zx.mk (qK); have zA := zx.mk ((by rw [hg]; exact (zV (zD HB.out)) : w.heap.size ≤ wW)); have zR := zx.mk ((by rw [hg]; exact (zV (zD HB.out)) : w.heap.size ≤ wW)); clear HB; have HB := zf; have uQ := zh; have zcu := zA; have zw2 := zR; clear zf zh zA zR; clear hb qK hg; have zzO : Xz.cell? ⟨wW, 0, none⟩ = some (.string zG) := (zk uQ.out 0).trans rfl; have zzP : Xz.cell? ⟨wW, 1, none⟩ = some (.bool zH) := (zk uQ.out 1).trans rfl; have zzR : Xz.cell? ⟨wW, 2, none⟩ = some (.int .i64 zC) := (zk uQ.out 2).trans rfl; have zzS : Xz.cell? ⟨wW, 3, none⟩ = some (.slice yG ze.length yH) := (zk uQ.out 3).trans rfl; have zzT : Xz.cell? ⟨wW, 4, none⟩ = some (.slice yM zn.length yN) := (zk uQ.out 4).trans rfl; have zzU : Xz.cell? ⟨wW, 5, none⟩ = some (.slice yO zm.length yP) := (zk uQ.out 5).trans rfl; have zz0 := zw uQ.out 0; have zz1 := zw uQ.out 1; have zz2 := zw uQ.out 2; have zz3 := zw uQ.out 3; have zz4 := zw uQ.out 4; have zz5 := zw uQ.out 5) | ((with_reducible refine yY (f := 61) rfl ?_); refine uN (some 9) Tryz.func61 #[.agg #[.string zG, .bool zH, .int .i64 zC, .slice yG ze.length yH, .slice yM zn.length yN, .slice yO zm.length yP]] ?_; (with_reducible refine (qR.calls zG zH zC _ _ ze _ _ zn _ _ zm false _ ?y8 ?qy ?vT ?vU ?uz ?uq A4.out).mono ?_); (case y8 => repeat (first | exact (Kd.zY uG.out HB.out) | (with_reducible refine Kd.zS ?_ _) | (with_reducible refine Kd.zT ?_ _) | (with_reducible refine Kd.yc ?_))); (case qy => exact jD.out); (case vT => repeat (first | exact (Kd.zY jy.out HB.out) | (with_reducible refine Kd.zS ?_ _) | (with_reducible refine Kd.zT ?_ _) | (with_reducible refine Kd.yc ?_))); (case vU => exact jE.out); (case uz => repeat (first | exact (Kd.zY jw.out HB.out) | (with_reducible refine Kd.zS ?_ _) | (with_reducible refine Kd.zT ?_ _) | (with_reducible refine Kd.yc ?_))); (case uq => exact jF.out); rintro e Ya ⟨rfl, hb⟩; refine ⟨_, rfl, ?_⟩; have zf := zx.mk (zl (g := wW) (o := .cells #[.string zG, .bool zH, .int .i64 zC, .slice yG ze.length yH, .slice yM zn.length yN, .slice yO zm.length yP] 44 (0, 0)) (yt uQ.out) hb); have zh := zx.mk (zI (zD HB.out) hb); clear uQ; clear HB; have uQ := zf; have HB := zh; clear zf zh; (try clear hb); (try clear hb2); (try clear hk); (try clear hi)))
  go_ret2
  exact ⟨by first | rfl | (simp [zU, z8] <;> rfl) | (simp [*, zU, z8] <;> rfl), by repeat (first | (with_reducible first | exact HB.out | apply yu | apply zP | apply yT | refine qB ?_ zw2.out) | exact HB.out)⟩
def Ux.f (a0 : Int) (a1 : Int) : Option (Int × Int) := if a0 < (-3000) then (some (0, 1)) else (if a0 > 3000 then (some (0, 1)) else (if a1 < 1 then (some (0, 1)) else (if a1 > 1000 then (some (0, 1)) else ((uh.f a0 a1).bind fun zqv => (some (zqv, 0))))))
set_option maxHeartbeats 8000000 in
set_option maxRecDepth 100000 in
theorem Ux.calls (a0 : Int) (a1 : Int) (r1 : Int) (r2 : Int) (w : World) (h : Ux.f a0 a1 = some (r1, r2)) :
  Calls Tryz.prog 73 #[.int .i64 a0, .int .i64 a1] w fun e w' => e = .returned (.tuple #[.int .i64 r1, .int .i64 r2]) ∧ yx w w' := by
 have H : (if a0 < (-3000) then (some (0, 1)) else (if a0 > 3000 then (some (0, 1)) else (if a1 < 1 then (some (0, 1)) else (if a1 > 1000 then (some (0, 1)) else ((uh.f a0 a1).bind fun zqv => (some (zqv, 0))))))) = some (r1, r2) := h
 clear h
 by_cases c3 : a0 < (-3000)
 ·rw [if_pos c3] at H
  have ZR : decide (a0 < (-3000)) = true := decide_eq_true c3
  clear c3
  simp only [Option.some.injEq, Prod.mk.injEq] at H
  obtain ⟨rfl, rfl⟩ := H
  go_enter Tryz.func73, Tryz.ntmps73
  go_wp2
  go_ret2
  exact ⟨by first | rfl | (simp; done) | (simp [*]; done), by repeat (first | exact yx.refl _ | apply yx.step)⟩
 ·rw [if_neg c3] at H
  have ZR : decide (a0 < (-3000)) = false := decide_eq_false c3
  clear c3
  by_cases c4 : a0 > 3000
  ·rw [if_pos c4] at H
   have Xw : decide (3000 < a0) = true := decide_eq_true c4
   clear c4
   simp only [Option.some.injEq, Prod.mk.injEq] at H
   obtain ⟨rfl, rfl⟩ := H
   go_enter Tryz.func73, Tryz.ntmps73
   go_wp2
   go_ret2
   exact ⟨by first | rfl | (simp; done) | (simp [*]; done), by repeat (first | exact yx.refl _ | apply yx.step)⟩
  ·rw [if_neg c4] at H
   have Xw : decide (3000 < a0) = false := decide_eq_false c4
   clear c4
   by_cases c5 : a1 < 1
   ·rw [if_pos c5] at H
    have p8 : decide (a1 < 1) = true := decide_eq_true c5
    clear c5
    simp only [Option.some.injEq, Prod.mk.injEq] at H
    obtain ⟨rfl, rfl⟩ := H
    go_enter Tryz.func73, Tryz.ntmps73
    go_wp2
    go_ret2
    exact ⟨by first | rfl | (simp; done) | (simp [*]; done), by repeat (first | exact yx.refl _ | apply yx.step)⟩
   ·rw [if_neg c5] at H
    have p8 : decide (a1 < 1) = false := decide_eq_false c5
    clear c5
    by_cases c6 : a1 > 1000
    ·rw [if_pos c6] at H
     have ZF : decide (1000 < a1) = true := decide_eq_true c6
     clear c6
     simp only [Option.some.injEq, Prod.mk.injEq] at H
     obtain ⟨rfl, rfl⟩ := H
     go_enter Tryz.func73, Tryz.ntmps73
     go_wp2
     go_ret2
     exact ⟨by first | rfl | (simp; done) | (simp [*]; done), by repeat (first | exact yx.refl _ | apply yx.step)⟩
    ·rw [if_neg c6] at H
     have ZF : decide (1000 < a1) = false := decide_eq_false c6
     clear c6
     replace H := Option.bind_eq_some_iff.mp H
     obtain ⟨zqv, mV, H⟩ := H
     replace H : (some (zqv, 0)) = some (r1, r2) := H
     have A7 := zx.mk mV
     clear mV
     simp only [Option.some.injEq, Prod.mk.injEq] at H
     obtain ⟨rfl, rfl⟩ := H
     go_enter Tryz.func73, Tryz.ntmps73
     go_wp2_with (first | ((with_reducible refine yY (f := 28) rfl ?_); refine uN (some 22) Tryz.func28 #[.int .i64 a0, .int .i64 a1] ?_; (with_reducible refine (uh.calls a0 a1 zqv _ A7.out).mono ?_); rintro e w' ⟨rfl, ⟨nd, rfl⟩⟩; refine ⟨_, rfl, ?_⟩))
     go_ret2
     exact ⟨by first | rfl | (simp; done) | (simp [*]; done), by repeat (first | exact yx.refl _ | apply yx.step)⟩
end Go.Proofs.YtaifemkokfoadaaGreatDoor.PX
namespace Go.Proofs.YtaifemkokfoadaaGreatDoor.PX
open Go.RowKit Go.Proofs.zy.zu Go.Proofs.zy.yI Go.Proofs.zy.yD
attribute [local go_sem] xw xZ xP xR qD qE xQ xX   -- for this text's walks alone
set_option linter.unusedVariables false
set_option linter.unusedSimpArgs false
def Zp.f (a0 : Int) (a1 : Int) : Option (Int × Int) := if a0 < (-3000) then (some (0, 1)) else (if a0 > 3000 then (some (0, 1)) else (if a1 < 1 then (some (0, 1)) else (if a1 > 1000 then (some (0, 1)) else ((vw.f a0 a1).bind fun zqk => (some (zqk, 0))))))
set_option maxHeartbeats 8000000 in
set_option maxRecDepth 100000 in
theorem Zp.calls (a0 : Int) (a1 : Int) (r1 : Int) (r2 : Int) (w : World) (h : Zp.f a0 a1 = some (r1, r2)) :
  Calls Tryz.prog 74 #[.int .i64 a0, .int .i64 a1] w fun e w' => e = .returned (.tuple #[.int .i64 r1, .int .i64 r2]) ∧ yx w w' := by
 have H : (if a0 < (-3000) then (some (0, 1)) else (if a0 > 3000 then (some (0, 1)) else (if a1 < 1 then (some (0, 1)) else (if a1 > 1000 then (some (0, 1)) else ((vw.f a0 a1).bind fun zqk => (some (zqk, 0))))))) = some (r1, r2) := h
 clear h
 by_cases c3 : a0 < (-3000)
 ·rw [if_pos c3] at H
  have ZR : decide (a0 < (-3000)) = true := decide_eq_true c3
  clear c3
  simp only [Option.some.injEq, Prod.mk.injEq] at H
  obtain ⟨rfl, rfl⟩ := H
  go_enter Tryz.func74, Tryz.ntmps74
  go_wp2
  go_ret2
  exact ⟨by first | rfl | (simp; done) | (simp [*]; done), by repeat (first | exact yx.refl _ | apply yx.step)⟩
 ·rw [if_neg c3] at H
  have ZR : decide (a0 < (-3000)) = false := decide_eq_false c3
  clear c3
  by_cases c4 : a0 > 3000
  ·rw [if_pos c4] at H
   have Xw : decide (3000 < a0) = true := decide_eq_true c4
   clear c4
   simp only [Option.some.injEq, Prod.mk.injEq] at H
   obtain ⟨rfl, rfl⟩ := H
   go_enter Tryz.func74, Tryz.ntmps74
   go_wp2
   go_ret2
   exact ⟨by first | rfl | (simp; done) | (simp [*]; done), by repeat (first | exact yx.refl _ | apply yx.step)⟩
  ·rw [if_neg c4] at H
   have Xw : decide (3000 < a0) = false := decide_eq_false c4
   clear c4
   by_cases c5 : a1 < 1
   ·rw [if_pos c5] at H
    have p8 : decide (a1 < 1) = true := decide_eq_true c5
    clear c5
    simp only [Option.some.injEq, Prod.mk.injEq] at H
    obtain ⟨rfl, rfl⟩ := H
    go_enter Tryz.func74, Tryz.ntmps74
    go_wp2
    go_ret2
    exact ⟨by first | rfl | (simp; done) | (simp [*]; done), by repeat (first | exact yx.refl _ | apply yx.step)⟩
   ·rw [if_neg c5] at H
    have p8 : decide (a1 < 1) = false := decide_eq_false c5
    clear c5
    by_cases c6 : a1 > 1000
    ·rw [if_pos c6] at H
     have ZF : decide (1000 < a1) = true := decide_eq_true c6
     clear c6
     simp only [Option.some.injEq, Prod.mk.injEq] at H
     obtain ⟨rfl, rfl⟩ := H
     go_enter Tryz.func74, Tryz.ntmps74
     go_wp2
     go_ret2
     exact ⟨by first | rfl | (simp; done) | (simp [*]; done), by repeat (first | exact yx.refl _ | apply yx.step)⟩
    ·rw [if_neg c6] at H
     have ZF : decide (1000 < a1) = false := decide_eq_false c6
     clear c6
     replace H := Option.bind_eq_some_iff.mp H
     obtain ⟨zqk, mV, H⟩ := H
     replace H : (some (zqk, 0)) = some (r1, r2) := H
     have A7 := zx.mk mV
     clear mV
     simp only [Option.some.injEq, Prod.mk.injEq] at H
     obtain ⟨rfl, rfl⟩ := H
     go_enter Tryz.func74, Tryz.ntmps74
     go_wp2_with (first | ((with_reducible refine yY (f := 110) rfl ?_); refine uN (some 22) Tryz.func110 #[.int .i64 a0, .int .i64 a1] ?_; (with_reducible refine (vw.calls a0 a1 zqk _ A7.out).mono ?_); rintro e w' ⟨rfl, ⟨nd, rfl⟩⟩; refine ⟨_, rfl, ?_⟩))
     go_ret2
     exact ⟨by first | rfl | (simp; done) | (simp [*]; done), by repeat (first | exact yx.refl _ | apply yx.step)⟩
end Go.Proofs.YtaifemkokfoadaaGreatDoor.PX
namespace Go.Proofs.YtaifemkokfoadaaGreatDoor
open Go.RowKit Go.Proofs.zy.zu Go.Proofs.zy.yD Go.Proofs.YtaifemkokfoadaaGreatDoor.PX
set_option linter.unusedSimpArgs false
set_option linter.unusedVariables false
def gF (s n : Int) : Int := 10 * (s * n) / 1000
theorem zqI (s n : Int) (hs : 1 ≤ s) (hs1 : s ≤ 1000) (h0 : -3000 ≤ n) (h1 : n ≤ 3000) : -3000000 ≤ s * n ∧ s * n ≤ 3000000 := by
 have a1 := Int.mul_le_mul_of_nonneg_left h1 (by omega : (0 : Int) ≤ s)
 have a2 := Int.mul_le_mul_of_nonneg_left h0 (by omega : (0 : Int) ≤ s)
 omega
theorem lq (n s : Int) (hs : 1 ≤ s) (hs1 : s ≤ 1000) (h0 : -3000 ≤ n) (h1 : n ≤ 3000) : uh.f n s = some (gF s n) := by
 have hr := zqI s n hs hs1 h0 h1
 have e : 10 * s * n = 10 * (s * n) := Int.mul_assoc _ _ _
 unfold uh.f gF
 rw [Yi (x := 10 * s) (by omega) (by omega), e]
 generalize s * n = p at hr
 rw [Yi (x := 10 * p) (by omega) (by omega)]
 unfold Qb.f
 by_cases hp : 10 * p < 0
 ·rw [if_pos hp, if_neg (by omega), Yi (x := -(10 * p)) (by omega) (by omega), Yi (x := -(10 * p) + 1000) (by omega) (by omega), Yi (x := -(10 * p) + 1000 - 1) (by omega) (by omega), Int.tdiv_eq_ediv_of_nonneg (by omega), Yi (x := (-(10 * p) + 1000 - 1) / 1000) (by omega) (by omega), Yi (by omega) (by omega)]
  simp only [Option.bind_some]
  congr 1
  omega
 ·rw [if_neg hp, if_neg (by omega), Int.tdiv_eq_ediv_of_nonneg (by omega), Yi (by omega) (by omega)]
  rfl
theorem lZ (n s : Int) (hs : 1 ≤ s) (hs1 : s ≤ 1000) (h0 : -3000 ≤ n) (h1 : n ≤ 3000) : vw.f n s = some (gF s n) := by
 have hr := zqI s n hs hs1 h0 h1
 have e : 10 * s * n = 10 * (s * n) := Int.mul_assoc _ _ _
 unfold vw.f gF
 rw [Yi (x := 10 * s) (by omega) (by omega), e]
 generalize s * n = p at hr
 rw [Yi (x := 10 * p) (by omega) (by omega)]
 unfold wN.f
 rw [if_neg (by omega)]
 by_cases hp : 10 * p < 0
 ·obtain ⟨q, hq⟩ : ∃ q : Int, 10 * p = -q := ⟨-(10 * p), by omega⟩
  rw [hq, Int.neg_tmod, Int.neg_tdiv, Int.tmod_eq_emod_of_nonneg (by omega), Int.tdiv_eq_ediv_of_nonneg (by omega)]
  by_cases hm : -(q % 1000) < 0
  ·rw [if_pos hm, Yi (x := -(q / 1000)) (by omega) (by omega), Yi (by omega) (by omega)]
   simp only [Option.bind_some]
   congr 1
   omega
  ·rw [if_neg hm, Yi (by omega) (by omega)]
   simp only [Option.bind_some]
   congr 1
   omega
 ·rw [Int.tmod_eq_emod_of_nonneg (by omega), if_neg (by omega), Int.tdiv_eq_ediv_of_nonneg (by omega), Yi (by omega) (by omega)]
  rfl
def YH (s : Int) (V : Bool) : Bool := decide (1 ≤ s) && (decide (s ≤ 1000) && V)
def bR (n s : Int) : Int × Int := if -3000 ≤ n ∧ n ≤ 3000 ∧ 1 ≤ s ∧ s ≤ 1000 then (gF s n, 0) else (0, 1)
theorem zKO (n s : Int) : Ux.f n s = some (bR n s) := by
 unfold Ux.f bR
 by_cases h1 : n < -3000
 ·rw [if_pos h1, if_neg (by omega)]
 ·rw [if_neg h1]
  by_cases h2 : n > 3000
  ·rw [if_pos h2, if_neg (by omega)]
  ·rw [if_neg h2]
   by_cases h3 : s < 1
   ·rw [if_pos h3, if_neg (by omega)]
   ·rw [if_neg h3]
    by_cases h4 : s > 1000
    ·rw [if_pos h4, if_neg (by omega)]
    ·rw [if_neg h4, if_pos (by omega), lq n s (by omega) (by omega) (by omega) (by omega)]; rfl
theorem zKP (n s : Int) : Zp.f n s = some (bR n s) := by
 unfold Zp.f bR
 by_cases h1 : n < -3000
 ·rw [if_pos h1, if_neg (by omega)]
 ·rw [if_neg h1]
  by_cases h2 : n > 3000
  ·rw [if_pos h2, if_neg (by omega)]
  ·rw [if_neg h2]
   by_cases h3 : s < 1
   ·rw [if_pos h3, if_neg (by omega)]
   ·rw [if_neg h3]
    by_cases h4 : s > 1000
    ·rw [if_pos h4, if_neg (by omega)]
    ·rw [if_neg h4, if_pos (by omega), lZ n s (by omega) (by omega) (by omega) (by omega)]; rfl
def bS (V : Bool) (c s : Int) : Int × Int := if YH s V = true then (gF s c, 0) else (0, 1)
def bT (V : Bool) (l : List qg) (n : ByteArray) (s : Int) : Int × Int := if YH s V = true then (match l.find? (fun x => decide (x.f0 = n)) with | some x => (gF s x.f1, 0) | none => (0, 3)) else (0, 1)
def W9 (V : Bool) (l : List vk) (n m : ByteArray) (s : Int) : Int × Int := if YH s V = true then ((match l.find? (fun x => decide (x.f0 = n) && decide (x.f1 = m)) with | some x => gF s x.f2 | none => 0), 0) else (0, 1)
def Pz (V : Bool) (l : List xC) (n m : ByteArray) : ByteArray × Bool := if V = true then (match l.find? (fun x => decide (x.f0 = n) && decide (x.f1 = m)) with | some x => (x.f2, true) | none => ((⟨#[]⟩ : ByteArray), false)) else ((⟨#[]⟩ : ByteArray), false)
theorem zjm (a : ByteArray) (b : Bool) (c : Int) (l3 : List qg) (l4 : List xC) (l5 : List vk) (s : Int) (h3 : l3.length ≤ 1000000000) (h4 : l4.length ≤ 1000000000) (h5 : l5.length ≤ 1000000000) : kI.f a b c l3 l4 l5 s = some (YH s (qC a c l3 l4 l5)) := by
 unfold kI.f YH jV.f
 by_cases h1 : s ≥ 1
 ·rw [if_pos h1, decide_eq_true h1]
  by_cases h2 : s ≤ 1000
  ·rw [if_pos h2, decide_eq_true h2, if_pos ⟨h3, h4, h5⟩]; rfl
  ·rw [if_neg h2, decide_eq_false h2]; rfl
 ·rw [if_neg h1, decide_eq_false h1]; rfl
theorem aH {s : Int} {V : Bool} (h : YH s V = true) : 1 ≤ s ∧ s ≤ 1000 ∧ V = true := by
 unfold YH at h
 simp only [Bool.and_eq_true, decide_eq_true_eq] at h
 exact h
theorem Uj {a : ByteArray} {c : Int} {l3 : List qg} {l4 : List xC} {l5 : List vk} (h : qC a c l3 l4 l5 = true) : (0 ≤ c ∧ c ≤ 3000) ∧ ∀ x ∈ l5, -500 ≤ x.f2 ∧ x.f2 ≤ 500 := by
 unfold qC at h
 split at h
 ·cases h
 ·rename_i q1
  split at h
  ·cases h
  ·split at h
   ·cases h
   ·simp only [Bool.or_eq_true, not_or, decide_eq_true_eq, XF] at q1
    rw [Bool.and_eq_true] at h
    refine ⟨by omega, fun x hx => ?_⟩
    have h2 : l5.any (VD l3) = false := by simpa using h.1
    have h1 := List.any_eq_false.1 h2 x hx
    unfold VD at h1
    simp only [Bool.or_eq_true, not_or, decide_eq_true_eq] at h1
    omega
theorem zW2 (a : ByteArray) (b : Bool) (c : Int) (l3 : List qg) (l4 : List xC) (l5 : List vk) (s : Int) (h3 : l3.length ≤ 1000000000) (h4 : l4.length ≤ 1000000000) (h5 : l5.length ≤ 1000000000) : Uz.f a b c l3 l4 l5 s = some (bS (qC a c l3 l4 l5) c s) := by
 unfold Uz.f bS
 rw [zjm a b c l3 l4 l5 s h3 h4 h5]
 simp only [Option.bind_some]
 by_cases h : YH s (qC a c l3 l4 l5) = true
 ·obtain ⟨p, q, hv⟩ := aH h
  have hc := (Uj hv).1
  rw [if_pos h, if_pos h, lq c s p q (by omega) (by omega)]; rfl
 ·rw [if_neg h, if_neg h]
theorem zW3 (a : ByteArray) (b : Bool) (c : Int) (l3 : List qg) (l4 : List xC) (l5 : List vk) (n : ByteArray) (s : Int) (h3 : l3.length ≤ 1000000000) (h4 : l4.length ≤ 1000000000) (h5 : l5.length ≤ 1000000000) : kT.f a b c l3 l4 l5 n s = some (bT (qC a c l3 l4 l5) l3 n s) := by
 unfold kT.f bT
 rw [zjm a b c l3 l4 l5 s h3 h4 h5]
 simp only [Option.bind_some]
 by_cases h : YH s (qC a c l3 l4 l5) = true
 ·obtain ⟨p, q, hv⟩ := aH h
  rw [if_pos h, if_pos h]
  unfold kF.f
  rw [if_pos h3]
  simp only [Option.bind_some]
  cases hf : l3.find? (fun x => decide (x.f0 = n)) with
  | none =>
   rw [List.find?_eq_none] at hf
   rw [zj9 l3 n (fun x hx e => hf x hx (decide_eq_true e)), if_neg (by simp)]
  | some x =>
   have hx := List.mem_of_find?_eq_some hf
   have he : x.f0 = n := by have := List.find?_some hf; simpa using this
   obtain ⟨m, hm, rfl⟩ := List.getElem_of_mem hx
   subst he
   have hw := dG hv _ hx
   rw [zj8 l3 (zqH hv) m hm]
   simp only [if_true]
   rw [if_pos (by omega), if_pos (by omega), KG l3 m hm, lq _ s p q (by omega) (by omega)]; rfl
 ·rw [if_neg h, if_neg h]
theorem XC {x y : ByteArray} : x.toList = y.toList ↔ x = y := U5
theorem dL (a : ByteArray) (b : Bool) (c : Int) (l3 : List qg) (l4 : List xC) (l5 : List vk) (h3 : l3.length ≤ 1000000000) (h4 : l4.length ≤ 1000000000) (h5 : l5.length ≤ 1000000000) (ha : a.size ≤ 140737488355328) (hz : ∀ x ∈ l3, x.f0.size ≤ 140737488355328) :
  qR.f a b c (l3.map uJ) (l4.map jk) (l5.map uL) = some (qC a c l3 l4 l5) := by
 unfold qR.f
 rw [if_pos ⟨by rw [List.length_map]; exact h3, by rw [List.length_map]; exact h4, by rw [List.length_map]; exact h5, ha, List.all_eq_true.2 (fun x hx => by
  obtain ⟨y, hy, rfl⟩ := List.mem_map.1 hx
  exact decide_eq_true (hz y hy))⟩, fH]
theorem zW4 (a : ByteArray) (b : Bool) (c : Int) (l3 : List qg) (l4 : List xC) (l5 : List vk) (s : Int) (h3 : l3.length ≤ 1000000000) (h4 : l4.length ≤ 1000000000) (h5 : l5.length ≤ 1000000000) (ha : a.size ≤ 140737488355328) (hz : ∀ x ∈ l3, x.f0.size ≤ 140737488355328) : Zo.f a b c (l3.map uJ) (l4.map jk) (l5.map uL) s = some (bS (qC a c l3 l4 l5) c s) := by
 unfold Zo.f bS YH
 by_cases h1 : s < 1
 ·rw [if_pos h1, decide_eq_false (by omega : ¬ 1 ≤ s)]; rfl
 ·rw [if_neg h1, decide_eq_true (by omega : 1 ≤ s)]
  by_cases h2 : s > 1000
  ·rw [if_pos h2, decide_eq_false (by omega : ¬ s ≤ 1000)]; rfl
  ·rw [if_neg h2, decide_eq_true (by omega : s ≤ 1000), dL a b c l3 l4 l5 h3 h4 h5 ha hz]
   simp only [Option.bind_some, Bool.true_and]
   cases hv : qC a c l3 l4 l5 with
   | false => rfl
   | true =>
    have hc := (Uj hv).1
    rw [if_pos rfl, if_pos rfl, lZ c s (by omega) (by omega) (by omega) (by omega)]; rfl
theorem zQf (a : ByteArray) (b : Bool) (c : Int) (l : List qg) (l4 : List qF) (l5 : List qG) (n : ByteArray) (s : Int) (hs : 1 ≤ s) (hs1 : s ≤ 1000) (hl : l.length ≤ 1000000000) (hw : ∀ x ∈ l, 0 ≤ x.f1 ∧ x.f1 ≤ 3000) : ∀ d i, l.length - i = d → i ≤ l.length → Ev (fun k => qO.l0 k n s (i : Int) a b c (l.map uJ) l4 l5) (match (l.drop i).find? (fun x => decide (x.f0 = n)) with | some x => (gF s x.f1, true) | none => (0, false)) := by
 intro d
 induction d with
 | zero =>
  intro i hd hi
  rw [List.drop_eq_nil_of_le (by omega)]
  refine wT (r := (0, false)) rfl (Ev.step (fun k => by rw [qO.l0, List.length_map]) (uY (by omega) (Ev.now _)))
 | succ d ih =>
  intro i hd hi
  have h1 : i < l.length := by omega
  have q0 : (0 : Int) ≤ (i : Int) := by omega
  have q1 : (i : Int) < (l.length : Int) := by omega
  have hw2 : wrap64 ((i : Int) + 1) = ((i + 1 : Nat) : Int) := (Yi (by omega) (by omega)).trans (by omega)
  have hr := ih (i + 1) (by omega) (by omega)
  have hx := hw _ (List.getElem_mem h1)
  rw [List.drop_eq_getElem_cons h1, List.find?_cons]
  refine Ev.step (fun k => by rw [qO.l0, List.length_map, hw2, tN l i h1]) (qM q1 (qM q0 ?_))
  by_cases he : l[i].f0 = n
  ·refine qM (XC.2 he) (fA (lZ _ s hs hs1 (by show -3000 ≤ l[i].f1; omega) (by show l[i].f1 ≤ 3000; omega)) (wT ?_ (Ev.now _)))
   rw [decide_eq_true he]; rfl
  ·refine uY (fun e => he (XC.1 e)) (wT ?_ hr)
   rw [decide_eq_false he]
theorem zW5 (a : ByteArray) (b : Bool) (c : Int) (l3 : List qg) (l4 : List xC) (l5 : List vk) (n : ByteArray) (s : Int) (h3 : l3.length ≤ 1000000000) (h4 : l4.length ≤ 1000000000) (h5 : l5.length ≤ 1000000000) (ha : a.size ≤ 140737488355328) (hz : ∀ x ∈ l3, x.f0.size ≤ 140737488355328) : Ev (fun k => xK.f k a b c (l3.map uJ) (l4.map jk) (l5.map uL) n s) (bT (qC a c l3 l4 l5) l3 n s) := by
 unfold bT YH
 refine Ev.congr (fun k => by rw [xK.f, dL a b c l3 l4 l5 h3 h4 h5 ha hz]) ?_
 have bad : ∀ x : Bool, x = true → Ev (fun k => xK.j0 k n s x a b c (l3.map uJ) (l4.map jk) (l5.map uL)) (0, 1) := fun x hx => Ev.step (fun k => by rw [xK.j0]) (qM hx (Ev.now _))
 by_cases h1 : s < 1
 ·refine qM h1 (wT ?_ (bad true rfl))
  rw [decide_eq_false (by omega : ¬ 1 ≤ s)]; rfl
 ·refine uY h1 ?_
  rw [decide_eq_true (by omega : 1 ≤ s)]
  by_cases h2 : s > 1000
  ·refine qM h2 (wT ?_ (bad true rfl))
   rw [decide_eq_false (by omega : ¬ s ≤ 1000)]; rfl
  ·refine uY h2 (Zu ?_)
   rw [decide_eq_true (by omega : s ≤ 1000)]
   cases hv : qC a c l3 l4 l5 with
   | false => exact bad _ rfl
   | true =>
    have hq : Ev (fun k => qO.l0 k n s 0 a b c (l3.map uJ) (l4.map jk) (l5.map uL)) _ := zQf a b c l3 (l4.map jk) (l5.map uL) n s (by omega) (by omega) h3 (dG hv) _ 0 rfl (Nat.zero_le _)
    rw [List.drop_zero] at hq
    refine Ev.step (fun k => by rw [xK.j0, qO.f]) (uY (by simp) (Ev.bind hq ?_))
    cases l3.find? (fun x => decide (x.f0 = n)) with
    | none => exact uY (by simp) (Ev.now _)
    | some x => exact qM rfl (Ev.now _)
theorem zXM (a : ByteArray) (b : Bool) (c : Int) (l3 : List zo) (l4 : List qF) (l : List vk) (n m : ByteArray) (s : Int) (hs : 1 ≤ s) (hs1 : s ≤ 1000) (hl : l.length ≤ 1000000000) (hw : ∀ x ∈ l, -500 ≤ x.f2 ∧ x.f2 ≤ 500) : ∀ d i, l.length - i = d → i ≤ l.length → Ev (fun k => qm.l0 k n m s (i : Int) a b c l3 l4 (l.map uL)) (match (l.drop i).find? (fun x => decide (x.f0 = n) && decide (x.f1 = m)) with | some x => gF s x.f2 | none => 0) := by
 intro d
 induction d with
 | zero =>
  intro i hd hi
  rw [List.drop_eq_nil_of_le (by omega)]
  refine wT (r := 0) rfl (Ev.step (fun k => by rw [qm.l0, List.length_map]) (uY (by omega) (Ev.now _)))
 | succ d ih =>
  intro i hd hi
  have h1 : i < l.length := by omega
  have q0 : (0 : Int) ≤ (i : Int) := by omega
  have q1 : (i : Int) < (l.length : Int) := by omega
  have hw2 : wrap64 ((i : Int) + 1) = ((i + 1 : Nat) : Int) := (Yi (by omega) (by omega)).trans (by omega)
  have hr := ih (i + 1) (by omega) (by omega)
  have hx := hw _ (List.getElem_mem h1)
  rw [List.drop_eq_getElem_cons h1, List.find?_cons]
  refine Ev.step (fun k => by rw [qm.l0, List.length_map, hw2, oD l i h1]) (qM q1 (qM q0 ?_))
  by_cases he : l[i].f0 = n
  ·refine qM (XC.2 he) ?_
   by_cases he2 : l[i].f1 = m
   ·refine qM (XC.2 he2) (fA (lZ _ s hs hs1 (by show -3000 ≤ l[i].f2; omega) (by show l[i].f2 ≤ 3000; omega)) (wT ?_ (Ev.now _)))
    rw [decide_eq_true he, decide_eq_true he2]; rfl
   ·refine uY (fun e => he2 (XC.1 e)) (wT ?_ hr)
    rw [decide_eq_false he2, Bool.and_false]
  ·refine uY (fun e => he (XC.1 e)) (wT ?_ hr)
   rw [decide_eq_false he, Bool.false_and]
theorem zcA (a : ByteArray) (b : Bool) (c : Int) (l3 : List qg) (l4 : List xC) (l5 : List vk) (n m : ByteArray) (s : Int) (h3 : l3.length ≤ 1000000000) (h4 : l4.length ≤ 1000000000) (h5 : l5.length ≤ 1000000000) (ha : a.size ≤ 140737488355328) (hz : ∀ x ∈ l3, x.f0.size ≤ 140737488355328) : Ev (fun k => pY.f k a b c (l3.map uJ) (l4.map jk) (l5.map uL) n m s) (W9 (qC a c l3 l4 l5) l5 n m s) := by
 unfold W9 YH
 refine Ev.congr (fun k => by rw [pY.f, dL a b c l3 l4 l5 h3 h4 h5 ha hz]) ?_
 by_cases h1 : s < 1
 ·refine qM h1 (wT ?_ (Ev.now _))
  rw [decide_eq_false (by omega : ¬ 1 ≤ s)]; rfl
 ·refine uY h1 ?_
  rw [decide_eq_true (by omega : 1 ≤ s)]
  by_cases h2 : s > 1000
  ·refine qM h2 (wT ?_ (Ev.now _))
   rw [decide_eq_false (by omega : ¬ s ≤ 1000)]; rfl
  ·refine uY h2 (Zu ?_)
   rw [decide_eq_true (by omega : s ≤ 1000)]
   cases hv : qC a c l3 l4 l5 with
   | false => exact uY (by simp) (Ev.now _)
   | true =>
    have hq : Ev (fun k => qm.l0 k n m s 0 a b c (l3.map uJ) (l4.map jk) (l5.map uL)) _ := zXM a b c (l3.map uJ) (l4.map jk) l5 n m s (by omega) (by omega) h5 (Uj hv).2 _ 0 rfl (Nat.zero_le _)
    rw [List.drop_zero] at hq
    have hq2 : Ev (fun k => qm.f k a b c (l3.map uJ) (l4.map jk) (l5.map uL) n m s) _ := Ev.congr (fun k => by rw [qm.f]) hq
    exact qM rfl (Ev.bind hq2 (Ev.now _))
theorem zXN (a : ByteArray) (b : Bool) (c : Int) (l3 : List zo) (l : List xC) (l5 : List qG) (n m : ByteArray) (hl : l.length ≤ 1000000000) : ∀ d i, l.length - i = d → i ≤ l.length → Ev (fun k => qo.l0 k n m (i : Int) a b c l3 (l.map jk) l5) (match (l.drop i).find? (fun x => decide (x.f0 = n) && decide (x.f1 = m)) with | some x => (x.f2, true) | none => ((⟨#[]⟩ : ByteArray), false)) := by
 intro d
 induction d with
 | zero =>
  intro i hd hi
  rw [List.drop_eq_nil_of_le (by omega)]
  refine wT (r := ((⟨#[]⟩ : ByteArray), false)) rfl (Ev.step (fun k => by rw [qo.l0, List.length_map]) (uY (by omega) (Ev.now _)))
 | succ d ih =>
  intro i hd hi
  have h1 : i < l.length := by omega
  have q0 : (0 : Int) ≤ (i : Int) := by omega
  have q1 : (i : Int) < (l.length : Int) := by omega
  have hw2 : wrap64 ((i : Int) + 1) = ((i + 1 : Nat) : Int) := (Yi (by omega) (by omega)).trans (by omega)
  have hr := ih (i + 1) (by omega) (by omega)
  rw [List.drop_eq_getElem_cons h1, List.find?_cons]
  refine Ev.step (fun k => by rw [qo.l0, List.length_map, hw2, oC l i h1]) (qM q1 (qM q0 ?_))
  by_cases he : l[i].f0 = n
  ·refine qM (XC.2 he) ?_
   by_cases he2 : l[i].f1 = m
   ·refine qM (XC.2 he2) (wT ?_ (Ev.now _))
    rw [decide_eq_true he, decide_eq_true he2]; rfl
   ·refine uY (fun e => he2 (XC.1 e)) (wT ?_ hr)
    rw [decide_eq_false he2, Bool.and_false]
  ·refine uY (fun e => he (XC.1 e)) (wT ?_ hr)
   rw [decide_eq_false he, Bool.false_and]
theorem zcB (a : ByteArray) (b : Bool) (c : Int) (l3 : List qg) (l4 : List xC) (l5 : List vk) (n m : ByteArray) (h3 : l3.length ≤ 1000000000) (h4 : l4.length ≤ 1000000000) (h5 : l5.length ≤ 1000000000) (ha : a.size ≤ 140737488355328) (hz : ∀ x ∈ l3, x.f0.size ≤ 140737488355328) : Ev (fun k => ZL.f k a b c (l3.map uJ) (l4.map jk) (l5.map uL) n m) (Pz (qC a c l3 l4 l5) l4 n m) := by
 unfold Pz
 refine Ev.congr (fun k => by rw [ZL.f, dL a b c l3 l4 l5 h3 h4 h5 ha hz]) (Zu ?_)
 cases hv : qC a c l3 l4 l5 with
 | false => exact uY (by simp) (Ev.now _)
 | true =>
  have hq : Ev (fun k => qo.l0 k n m 0 a b c (l3.map uJ) (l4.map jk) (l5.map uL)) _ := zXN a b c (l3.map uJ) l4 (l5.map uL) n m h4 _ 0 rfl (Nat.zero_le _)
  rw [List.drop_zero] at hq
  have hq2 : Ev (fun k => qo.f k a b c (l3.map uJ) (l4.map jk) (l5.map uL) n m) _ := Ev.congr (fun k => by rw [qo.f]) hq
  refine qM rfl (Ev.bind hq2 (wT ?_ (Ev.now _)))
  rw [if_pos rfl]
theorem zW6 (a : ByteArray) (b : Bool) (c : Int) (l : List qg) (l4 : List qF) (l5 : List qG) (hl : l.length ≤ 1000000000) : ∀ d i, l.length - i = d → i ≤ l.length → Ev (fun k => vK.l0 k (i : Int) a b c (l.map uJ) l4 l5) (nH c (l.drop i)) := by
 intro d
 induction d with
 | zero =>
  intro i hd hi
  rw [List.drop_eq_nil_of_le (by omega)]
  refine wT (r := true) rfl (Ev.step (fun k => by rw [vK.l0, List.length_map]) (uY (by omega) (Ev.now _)))
 | succ d ih =>
  intro i hd hi
  have h1 : i < l.length := by omega
  have q0 : (0 : Int) ≤ (i : Int) := by omega
  have q1 : (i : Int) < (l.length : Int) := by omega
  have hw2 : wrap64 ((i : Int) + 1) = ((i + 1 : Nat) : Int) := (Yi (by omega) (by omega)).trans (by omega)
  have hr := ih (i + 1) (by omega) (by omega)
  rw [List.drop_eq_getElem_cons h1]
  unfold nH at hr ⊢
  rw [List.any_cons]
  refine Ev.step (fun k => by rw [vK.l0, List.length_map, hw2, tN l i h1]) (qM q1 (qM q0 ?_))
  by_cases he : l[i].f1 = c
  ·refine qM he (wT ?_ hr)
   rw [bne_eq_false_iff_eq.2 he, Bool.false_or]
  ·refine uY he (wT ?_ (Ev.now _))
   rw [bne_iff_ne.2 he, Bool.true_or]; rfl
theorem zcC (a : ByteArray) (b : Bool) (c : Int) (l3 : List qg) (l4 : List qF) (l5 : List qG) (h3 : l3.length ≤ 1000000000) : Ev (fun k => vK.f k a b c (l3.map uJ) l4 l5) (nH c l3) := by
 have hq : Ev (fun k => vK.l0 k 0 a b c (l3.map uJ) l4 l5) _ := zW6 a b c l3 l4 l5 h3 _ 0 rfl (Nat.zero_le _)
 rw [List.drop_zero] at hq
 exact Ev.congr (fun k => by rw [vK.f]) hq
end Go.Proofs.YtaifemkokfoadaaGreatDoor
namespace Go.Proofs.YtaifemkokfoadaaGreatDoor
open Go.RowKit Go.Proofs.zy.zu Go.Proofs.zy.yI Go.Proofs.zy.yD Go.Proofs.YtaifemkokfoadaaGreatDoor.PX
set_option linter.unusedSimpArgs false
set_option linter.unusedVariables false
set_option maxRecDepth 100000 in
set_option maxHeartbeats 4000000 in
theorem zjH (a : ByteArray) (b : Bool) (c : Int) (A3 : Option Addr) (c3 : Nat) (l3 : List qg) (A4 : Option Addr) (c4 : Nat) (l4 : List xC) (A5 : Option Addr) (c5 : Nat) (l5 : List vk) (na nb : ByteArray) (s : Int) (w : World) (hG : GW w) (h3 : Kd.C uf w A3 l3.length l3) (g3 : l3.length ≤ c3) (h4 : Kd.C jd w A4 l4.length l4) (g4 : l4.length ≤ c4) (h5 : Kd.C jh w A5 l5.length l5) (g5 : l5.length ≤ c5) (z3 : l3.length ≤ 1000000000) (z4 : l4.length ≤ 1000000000) (z5 : l5.length ≤ 1000000000) :
  Calls Tryz.prog 69 #[.agg #[.string a, .bool b, .int .i64 c, .slice A3 l3.length c3, .slice A4 l4.length c4, .slice A5 l5.length c5], .string na, .string nb, .int .i64 s] w fun e w' => e = .returned (.tuple #[.int .i64 (W9 (qC a c l3 l4 l5) l5 na nb s).1, .int .i64 (W9 (qC a c l3 l4 l5) l5 na nb s).2]) ∧ Below w.heap.size w w' := by
 have hb0 : Below w.heap.size w (w.alloc (.cells #[.string a, .bool b, .int .i64 c, .slice A3 l3.length c3, .slice A4 l4.length c4, .slice A5 l5.length c5] 26)) := (Below.refl _ w).alloc (Nat.le_refl _) _
 have hbf := je w (.cells #[.string a, .bool b, .int .i64 c, .slice A3 l3.length c3, .slice A4 l4.length c4, .slice A5 l5.length c5] 26)
 have hfair := kI.calls a b c A3 c3 l3 A4 c4 l4 A5 c5 l5 s (YH s (qC a c l3 l4 l5)) (w.alloc (.cells #[.string a, .bool b, .int .i64 c, .slice A3 l3.length c3, .slice A4 l4.length c4, .slice A5 l5.length c5] 26)) (Kd.zY h3 hb0) g3 (Kd.zY h4 hb0) g4 (Kd.zY h5 hb0) g5 (hG.under hb0) (zjm a b c l3 l4 l5 s z3 z4 z5)
 have hval : W9 (qC a c l3 l4 l5) l5 na nb s = (if YH s (qC a c l3 l4 l5) = true then ((match l5.find? (fun x => decide (x.f0 = na) && decide (x.f1 = nb)) with | some x => gF s x.f2 | none => 0), 0) else (0, 1)) := rfl
 have hk : YH s (qC a c l3 l4 l5) = true → (1 ≤ s ∧ s ≤ 1000) ∧ ∀ x ∈ l5, -500 ≤ x.f2 ∧ x.f2 ≤ 500 := fun h => by
  obtain ⟨p, q, hv⟩ := aH h
  exact ⟨⟨p, q⟩, (Uj hv).2⟩
 generalize W9 (qC a c l3 l4 l5) l5 na nb s = R at hval ⊢
 cases bZ : YH s (qC a c l3 l4 l5) with
 | false =>
  rw [bZ, if_neg (by simp)] at hval
  rw [bZ] at hfair
  subst hval
  clear h3 h4 h5 hk
  go_enter Tryz.func69, Tryz.ntmps69
  go_wp2_with fail
  refine hfair.mono ?_; rintro e w1 ⟨rfl, hb1⟩
  go_wp2
  go_ret2
  exact ⟨rfl, hb0.trans (hb1.mono hb0.size)⟩
 | true =>
 rw [bZ, if_pos rfl] at hval
 rw [bZ] at hfair
 obtain ⟨⟨s1, s2⟩, hkn⟩ := hk bZ
 have UO := zx.mk hval
 have HK := zx.mk hkn
 have H5 := zx.mk h5
 clear h3 h4 h5 hk hval hkn
 go_enter Tryz.func69, Tryz.ntmps69
 go_wp2_with fail
 refine hfair.mono ?_; rintro e w1 ⟨rfl, hb1⟩
 have HB0 := zx.mk (hb0.trans (hb1.mono hb0.size))
 have hc5 : w1.cell? ⟨w.heap.size, 5, none⟩ = some (.slice A5 l5.length c5) := (zk (zl hbf hb1) 5).trans rfl
 clear hbf hb1 hfair
 go_wp2_with fail
 clear hc5
 go_loopw [19] (fun y W => ∃ i : Nat, y = .int .i64 (i : Int) ∧ i ≤ l5.length ∧ zx (l5.find? (fun x => decide (x.f0 = na) && decide (x.f1 = nb)) = (l5.drop i).find? (fun x => decide (x.f0 = na) && decide (x.f1 = nb))) ∧ zx (Below w.heap.size w W)) (fun y _ => l5.length - (intOf y).toNat)
 case atStart => exact ⟨0, rfl, Nat.zero_le _, ⟨by rw [List.drop_zero]⟩, HB0⟩
 case round =>
  clear HB0
  obtain ⟨i, rfl, hi, HX, HB⟩ := hrel
  by_cases hlt : i < l5.length
  ·obtain ⟨ad, e, x0, x1, x2⟩ := mq (Kd.zY H5.out HB.out) (i : Int) (by omega) (by omega)
   cases e
   have e : jq l5 (i : Int) = l5[i] := by simp [jq, List.getD_eq_getElem?_getD, hlt]
   rw [Int.toNat_natCast, e] at x0 x1 x2
   clear e
   have hx := HX.out
   rw [List.drop_eq_getElem_cons hlt, List.find?_cons] at hx
   have hm : l5[i] ∈ l5 := List.getElem_mem hlt
   generalize l5[i] = x at x0 x1 x2 hx hm
   have q1 : (i : Int) < (l5.length : Int) := by omega
   have q0 : (0 : Int) ≤ (i : Int) := by omega
   have q3 : ((i : Int)).toNat = i := Int.toNat_natCast i
   have hbX : Below wr.heap.size wr (wr.alloc (.cells #[.string x.f0, .string x.f1, .int .i64 x.f2] 76)) := (Below.refl _ wr).alloc (Nat.le_refl _) _
   have hb2 := HB.out.trans (hbX.mono HB.out.size)
   by_cases t0 : x.f0 = na
   case neg =>
    have d0 : (x.f0.toList == na.toList) = false := beq_eq_false_iff_ne.2 (fun e => t0 (XC.1 e))
    rw [decide_eq_false t0, Bool.false_and] at hx
    have HX2 := zx.mk hx
    clear hx
    clear hm t0
    go_wp2
    go_roundw
    case rel => exact ⟨i + 1, by first | rfl | (simp; done) | go_num, by omega, HX2, ⟨hb2⟩⟩
    case measure => simp [intOf]; omega
   have d0 : (x.f0.toList == na.toList) = true := beq_iff_eq.2 (XC.2 t0)
   by_cases t1 : x.f1 = nb
   case neg =>
    have d1 : (x.f1.toList == nb.toList) = false := beq_eq_false_iff_ne.2 (fun e => t1 (XC.1 e))
    rw [decide_eq_false t1, Bool.and_false] at hx
    have HX2 := zx.mk hx
    clear hx t1
    clear hm t0
    go_wp2
    go_roundw
    case rel => exact ⟨i + 1, by first | rfl | (simp; done) | go_num, by omega, HX2, ⟨hb2⟩⟩
    case measure => simp [intOf]; omega
   case pos =>
    have d1 : (x.f1.toList == nb.toList) = true := beq_iff_eq.2 (XC.2 t1)
    rw [decide_eq_true t0, decide_eq_true t1] at hx
    simp only [Bool.and_true] at hx
    rw [hx] at UO
    have hR := UO.out
    subst hR
    have hsc := fun W => uh.calls x.f2 s (gF s x.f2) W (lq x.f2 s s1 s2 (by have := HK.out x hm; omega) (by have := HK.out x hm; omega))
    clear hx UO hm t0 t1
    go_wp2_with fail
    refine (hsc _).mono ?_; rintro e w3 ⟨rfl, ⟨nd, rfl⟩⟩
    go_wp2
    go_ret2
    exact ⟨rfl, zP hb2 nd⟩
  ·obtain rfl : i = l5.length := by omega
   have q1 : decide ((l5.length : Int) < (l5.length : Int)) = false := decide_eq_false (by omega)
   have hx := HX.out
   rw [List.drop_eq_nil_of_le (Nat.le_refl _), List.find?_nil] at hx
   rw [hx] at UO
   have hR := UO.out
   subst hR
   clear hx UO
   go_wp2
   go_ret2
   exact ⟨rfl, HB.out⟩
set_option maxRecDepth 100000 in
set_option maxHeartbeats 4000000 in
theorem zXO (a : ByteArray) (b : Bool) (c : Int) (A3 : Option Addr) (c3 : Nat) (l3 : List qg) (A4 : Option Addr) (c4 : Nat) (l4 : List xC) (A5 : Option Addr) (c5 : Nat) (l5 : List vk) (na nb : ByteArray) (w : World) (hG : GW w) (h3 : Kd.C uf w A3 l3.length l3) (g3 : l3.length ≤ c3) (h4 : Kd.C jd w A4 l4.length l4) (g4 : l4.length ≤ c4) (h5 : Kd.C jh w A5 l5.length l5) (g5 : l5.length ≤ c5) (z3 : l3.length ≤ 1000000000) (z4 : l4.length ≤ 1000000000) (z5 : l5.length ≤ 1000000000) :
  Calls Tryz.prog 71 #[.agg #[.string a, .bool b, .int .i64 c, .slice A3 l3.length c3, .slice A4 l4.length c4, .slice A5 l5.length c5], .string na, .string nb] w fun e w' => e = .returned (.tuple #[.string (Pz (qC a c l3 l4 l5) l4 na nb).1, .bool (Pz (qC a c l3 l4 l5) l4 na nb).2]) ∧ Below w.heap.size w w' := by
 have hb0 : Below w.heap.size w (w.alloc (.cells #[.string a, .bool b, .int .i64 c, .slice A3 l3.length c3, .slice A4 l4.length c4, .slice A5 l5.length c5] 26)) := (Below.refl _ w).alloc (Nat.le_refl _) _
 have hbf := je w (.cells #[.string a, .bool b, .int .i64 c, .slice A3 l3.length c3, .slice A4 l4.length c4, .slice A5 l5.length c5] 26)
 have hvalid := jV.calls a b c A3 c3 l3 A4 c4 l4 A5 c5 l5 (qC a c l3 l4 l5) (w.alloc (.cells #[.string a, .bool b, .int .i64 c, .slice A3 l3.length c3, .slice A4 l4.length c4, .slice A5 l5.length c5] 26)) (Kd.zY h3 hb0) g3 (Kd.zY h4 hb0) g4 (Kd.zY h5 hb0) g5 (hG.under hb0) (by unfold jV.f; rw [if_pos ⟨z3, z4, z5⟩])
 have hval : Pz (qC a c l3 l4 l5) l4 na nb = (if qC a c l3 l4 l5 = true then (match l4.find? (fun x => decide (x.f0 = na) && decide (x.f1 = nb)) with | some x => (x.f2, true) | none => ((⟨#[]⟩ : ByteArray), false)) else ((⟨#[]⟩ : ByteArray), false)) := rfl
 generalize Pz (qC a c l3 l4 l5) l4 na nb = R at hval ⊢
 by_cases h0 : l4.length = 0
 ·have e : l4 = [] := List.eq_nil_of_length_eq_zero h0
  have hR : R = ((⟨#[]⟩ : ByteArray), false) := by rw [hval, e]; split <;> rfl
  subst hR
  have d0 : ((l4.length : Int) == 0) = true := beq_iff_eq.2 (by omega)
  have d1 : decide ((l4.length : Int) = 0) = true := decide_eq_true (by omega)
  clear h3 h4 h5 hval hvalid e h0
  go_enter Tryz.func71, Tryz.ntmps71
  go_wp2
  go_ret2
  exact ⟨rfl, hb0⟩
 have d0 : ((l4.length : Int) == 0) = false := beq_eq_false_iff_ne.2 (by omega)
 have d1 : decide ((l4.length : Int) = 0) = false := decide_eq_false (by omega)
 clear h0
 cases bZ : qC a c l3 l4 l5 with
 | false =>
  rw [bZ, if_neg (by simp)] at hval
  rw [bZ] at hvalid
  subst hval
  clear h3 h4 h5
  go_enter Tryz.func71, Tryz.ntmps71
  go_wp2_with fail
  refine hvalid.mono ?_; rintro e w1 ⟨rfl, hb1⟩
  go_wp2
  go_ret2
  exact ⟨rfl, hb0.trans (hb1.mono hb0.size)⟩
 | true =>
 rw [bZ, if_pos rfl] at hval
 rw [bZ] at hvalid
 have UO := zx.mk hval
 have H4 := zx.mk h4
 clear h3 h4 h5 hval
 go_enter Tryz.func71, Tryz.ntmps71
 go_wp2_with fail
 refine hvalid.mono ?_; rintro e w1 ⟨rfl, hb1⟩
 have HB0 := zx.mk (hb0.trans (hb1.mono hb0.size))
 have hc4 : w1.cell? ⟨w.heap.size, 4, none⟩ = some (.slice A4 l4.length c4) := (zk (zl hbf hb1) 4).trans rfl
 clear hbf hb1 hvalid
 go_wp2_with fail
 clear hc4 d0 d1
 go_loopw [22] (fun y W => ∃ i : Nat, y = .int .i64 (i : Int) ∧ i ≤ l4.length ∧ zx (l4.find? (fun x => decide (x.f0 = na) && decide (x.f1 = nb)) = (l4.drop i).find? (fun x => decide (x.f0 = na) && decide (x.f1 = nb))) ∧ zx (Below w.heap.size w W)) (fun y _ => l4.length - (intOf y).toNat)
 case atStart => exact ⟨0, rfl, Nat.zero_le _, ⟨by rw [List.drop_zero]⟩, HB0⟩
 case round =>
  clear HB0
  obtain ⟨i, rfl, hi, HX, HB⟩ := hrel
  by_cases hlt : i < l4.length
  ·obtain ⟨ad, e, x0, x1, x2⟩ := gU (Kd.zY H4.out HB.out) (i : Int) (by omega) (by omega)
   cases e
   have e : uE l4 (i : Int) = l4[i] := by simp [uE, List.getD_eq_getElem?_getD, hlt]
   rw [Int.toNat_natCast, e] at x0 x1 x2
   clear e
   have hx := HX.out
   rw [List.drop_eq_getElem_cons hlt, List.find?_cons] at hx
   have hm : l4[i] ∈ l4 := List.getElem_mem hlt
   generalize l4[i] = x at x0 x1 x2 hx hm
   have q1 : (i : Int) < (l4.length : Int) := by omega
   have q0 : (0 : Int) ≤ (i : Int) := by omega
   have q3 : ((i : Int)).toNat = i := Int.toNat_natCast i
   have hbX : Below wr.heap.size wr (wr.alloc (.cells #[.string x.f0, .string x.f1, .string x.f2] 86)) := (Below.refl _ wr).alloc (Nat.le_refl _) _
   have hb2 := HB.out.trans (hbX.mono HB.out.size)
   by_cases t0 : x.f0 = na
   case neg =>
    have d0 : (x.f0.toList == na.toList) = false := beq_eq_false_iff_ne.2 (fun e => t0 (XC.1 e))
    rw [decide_eq_false t0, Bool.false_and] at hx
    have HX2 := zx.mk hx
    clear hx
    clear hm t0
    go_wp2
    go_roundw
    case rel => exact ⟨i + 1, by first | rfl | (simp; done) | go_num, by omega, HX2, ⟨hb2⟩⟩
    case measure => simp [intOf]; omega
   have d0 : (x.f0.toList == na.toList) = true := beq_iff_eq.2 (XC.2 t0)
   by_cases t1 : x.f1 = nb
   case neg =>
    have d1 : (x.f1.toList == nb.toList) = false := beq_eq_false_iff_ne.2 (fun e => t1 (XC.1 e))
    rw [decide_eq_false t1, Bool.and_false] at hx
    have HX2 := zx.mk hx
    clear hx t1
    clear hm t0
    go_wp2
    go_roundw
    case rel => exact ⟨i + 1, by first | rfl | (simp; done) | go_num, by omega, HX2, ⟨hb2⟩⟩
    case measure => simp [intOf]; omega
   case pos =>
    have d1 : (x.f1.toList == nb.toList) = true := beq_iff_eq.2 (XC.2 t1)
    rw [decide_eq_true t0, decide_eq_true t1] at hx
    simp only [Bool.and_true] at hx
    rw [hx] at UO
    have hR := UO.out
    subst hR
    clear hx UO hm t0 t1
    go_wp2
    go_ret2
    exact ⟨rfl, hb2⟩
  ·obtain rfl : i = l4.length := by omega
   have q1 : decide ((l4.length : Int) < (l4.length : Int)) = false := decide_eq_false (by omega)
   have hx := HX.out
   rw [List.drop_eq_nil_of_le (Nat.le_refl _), List.find?_nil] at hx
   rw [hx] at UO
   have hR := UO.out
   subst hR
   clear hx UO
   go_wp2
   go_ret2
   exact ⟨rfl, HB.out⟩
end Go.Proofs.YtaifemkokfoadaaGreatDoor
namespace Go.Proofs.YtaifemkokfoadaaGreatDoor
open Go.RowKit Go.Proofs.zy.zu Go.Proofs.zy.yI Go.Proofs.zy.yD Go.Proofs.YtaifemkokfoadaaGreatDoor.PX
set_option linter.unusedSimpArgs false
set_option linter.unusedVariables false
set_option maxRecDepth 100000 in
set_option maxHeartbeats 8000000 in
theorem zQg (a : ByteArray) (b : Bool) (c : Int) (A3 : Option Addr) (c3 : Nat) (l3 : List qg) (A4 : Option Addr) (c4 : Nat) (l4 : List xC) (A5 : Option Addr) (c5 : Nat) (l5 : List vk) (m3 : List zo) (m4 : List qF) (m5 : List qG) (e3 : m3 = l3.map uJ) (e4 : m4 = l4.map jk) (e5 : m5 = l5.map uL) (na nb : ByteArray) (size n : Int) (V h m : Bool) (x1 y1 x2 y2 x3 y3 : Int) (x4 : ByteArray) (y4 : Bool) (x5 y5 : Int) (x6 : ByteArray) (y6 : Int)
  (hV1 : ∀ W, GW W → Kd.C uf W A3 l3.length l3 → Kd.C jd W A4 l4.length l4 → Kd.C jh W A5 l5.length l5 → Calls Tryz.prog 17 #[.agg #[.string a, .bool b, .int .i64 c, .slice A3 l3.length c3, .slice A4 l4.length c4, .slice A5 l5.length c5]] W fun e w' => e = .returned (.bool V) ∧ Below W.heap.size W w')
  (hV2 : ∀ W P3 p3 P4 p4 P5 p5, GW W → Kd.C qJ W P3 m3.length m3 → m3.length ≤ p3 → Kd.C jC W P4 m4.length m4 → m4.length ≤ p4 → Kd.C jS W P5 m5.length m5 → m5.length ≤ p5 → Calls Tryz.prog 61 #[.agg #[.string a, .bool b, .int .i64 c, .slice P3 m3.length p3, .slice P4 m4.length p4, .slice P5 m5.length p5]] W fun e w' => e = .returned (.bool V) ∧ Below W.heap.size W w')
  (hH1 : ∀ W, GW W → Kd.C uf W A3 l3.length l3 → Kd.C jd W A4 l4.length l4 → Kd.C jh W A5 l5.length l5 → Calls Tryz.prog 62 #[.agg #[.string a, .bool b, .int .i64 c, .slice A3 l3.length c3, .slice A4 l4.length c4, .slice A5 l5.length c5], .string na] W fun e w' => e = .returned (.bool h) ∧ Below W.heap.size W w')
  (hH2 : ∀ W P3 p3 P4 p4 P5 p5, GW W → Kd.C qJ W P3 m3.length m3 → m3.length ≤ p3 → Kd.C jC W P4 m4.length m4 → m4.length ≤ p4 → Kd.C jS W P5 m5.length m5 → m5.length ≤ p5 → Calls Tryz.prog 63 #[.agg #[.string a, .bool b, .int .i64 c, .slice P3 m3.length p3, .slice P4 m4.length p4, .slice P5 m5.length p5], .string na] W fun e w' => e = .returned (.bool h) ∧ Below W.heap.size W w')
  (hM1 : ∀ W, GW W → Kd.C uf W A3 l3.length l3 → Kd.C jd W A4 l4.length l4 → Kd.C jh W A5 l5.length l5 → Calls Tryz.prog 64 #[.agg #[.string a, .bool b, .int .i64 c, .slice A3 l3.length c3, .slice A4 l4.length c4, .slice A5 l5.length c5]] W fun e w' => e = .returned (.bool m) ∧ Below W.heap.size W w')
  (hM2 : ∀ W P3 p3 P4 p4 P5 p5, GW W → Kd.C qJ W P3 m3.length m3 → m3.length ≤ p3 → Kd.C jC W P4 m4.length m4 → m4.length ≤ p4 → Kd.C jS W P5 m5.length m5 → m5.length ≤ p5 → Calls Tryz.prog 65 #[.agg #[.string a, .bool b, .int .i64 c, .slice P3 m3.length p3, .slice P4 m4.length p4, .slice P5 m5.length p5]] W fun e w' => e = .returned (.bool m) ∧ Below W.heap.size W w')
  (hW1 : ∀ W, GW W → Kd.C uf W A3 l3.length l3 → Kd.C jd W A4 l4.length l4 → Kd.C jh W A5 l5.length l5 → Calls Tryz.prog 11 #[.agg #[.string a, .bool b, .int .i64 c, .slice A3 l3.length c3, .slice A4 l4.length c4, .slice A5 l5.length c5], .string na, .int .i64 size] W fun e w' => e = .returned (.tuple #[.int .i64 x1, .int .i64 y1]) ∧ Below W.heap.size W w')
  (hW2 : ∀ W P3 p3 P4 p4 P5 p5, GW W → Kd.C qJ W P3 m3.length m3 → m3.length ≤ p3 → Kd.C jC W P4 m4.length m4 → m4.length ≤ p4 → Kd.C jS W P5 m5.length m5 → m5.length ≤ p5 → Calls Tryz.prog 66 #[.agg #[.string a, .bool b, .int .i64 c, .slice P3 m3.length p3, .slice P4 m4.length p4, .slice P5 m5.length p5], .string na, .int .i64 size] W fun e w' => e = .returned (.tuple #[.int .i64 x1, .int .i64 y1]) ∧ Below W.heap.size W w')
  (hS1 : ∀ W, GW W → Kd.C uf W A3 l3.length l3 → Kd.C jd W A4 l4.length l4 → Kd.C jh W A5 l5.length l5 → Calls Tryz.prog 67 #[.agg #[.string a, .bool b, .int .i64 c, .slice A3 l3.length c3, .slice A4 l4.length c4, .slice A5 l5.length c5], .int .i64 size] W fun e w' => e = .returned (.tuple #[.int .i64 x2, .int .i64 y2]) ∧ Below W.heap.size W w')
  (hS2 : ∀ W P3 p3 P4 p4 P5 p5, GW W → Kd.C qJ W P3 m3.length m3 → m3.length ≤ p3 → Kd.C jC W P4 m4.length m4 → m4.length ≤ p4 → Kd.C jS W P5 m5.length m5 → m5.length ≤ p5 → Calls Tryz.prog 68 #[.agg #[.string a, .bool b, .int .i64 c, .slice P3 m3.length p3, .slice P4 m4.length p4, .slice P5 m5.length p5], .int .i64 size] W fun e w' => e = .returned (.tuple #[.int .i64 x2, .int .i64 y2]) ∧ Below W.heap.size W w')
  (hK1 : ∀ W, GW W → Kd.C uf W A3 l3.length l3 → Kd.C jd W A4 l4.length l4 → Kd.C jh W A5 l5.length l5 → Calls Tryz.prog 69 #[.agg #[.string a, .bool b, .int .i64 c, .slice A3 l3.length c3, .slice A4 l4.length c4, .slice A5 l5.length c5], .string na, .string nb, .int .i64 size] W fun e w' => e = .returned (.tuple #[.int .i64 x3, .int .i64 y3]) ∧ Below W.heap.size W w')
  (hK2 : ∀ W P3 p3 P4 p4 P5 p5, GW W → Kd.C qJ W P3 m3.length m3 → m3.length ≤ p3 → Kd.C jC W P4 m4.length m4 → m4.length ≤ p4 → Kd.C jS W P5 m5.length m5 → m5.length ≤ p5 → Calls Tryz.prog 70 #[.agg #[.string a, .bool b, .int .i64 c, .slice P3 m3.length p3, .slice P4 m4.length p4, .slice P5 m5.length p5], .string na, .string nb, .int .i64 size] W fun e w' => e = .returned (.tuple #[.int .i64 x3, .int .i64 y3]) ∧ Below W.heap.size W w')
  (hJ1 : ∀ W, GW W → Kd.C uf W A3 l3.length l3 → Kd.C jd W A4 l4.length l4 → Kd.C jh W A5 l5.length l5 → Calls Tryz.prog 71 #[.agg #[.string a, .bool b, .int .i64 c, .slice A3 l3.length c3, .slice A4 l4.length c4, .slice A5 l5.length c5], .string na, .string nb] W fun e w' => e = .returned (.tuple #[.string x4, .bool y4]) ∧ Below W.heap.size W w')
  (hJ2 : ∀ W P3 p3 P4 p4 P5 p5, GW W → Kd.C qJ W P3 m3.length m3 → m3.length ≤ p3 → Kd.C jC W P4 m4.length m4 → m4.length ≤ p4 → Kd.C jS W P5 m5.length m5 → m5.length ≤ p5 → Calls Tryz.prog 72 #[.agg #[.string a, .bool b, .int .i64 c, .slice P3 m3.length p3, .slice P4 m4.length p4, .slice P5 m5.length p5], .string na, .string nb] W fun e w' => e = .returned (.tuple #[.string x4, .bool y4]) ∧ Below W.heap.size W w')
  (hC1 : ∀ W, Calls Tryz.prog 73 #[.int .i64 n, .int .i64 size] W fun e w' => e = .returned (.tuple #[.int .i64 x5, .int .i64 y5]) ∧ Below W.heap.size W w')
  (hC2 : ∀ W, Calls Tryz.prog 74 #[.int .i64 n, .int .i64 size] W fun e w' => e = .returned (.tuple #[.int .i64 x5, .int .i64 y5]) ∧ Below W.heap.size W w')
  (hO1 : ∀ W, GW W → Kd.C uf W A3 l3.length l3 → Kd.C jd W A4 l4.length l4 → Kd.C jh W A5 l5.length l5 → Calls Tryz.prog 25 #[.agg #[.string a, .bool b, .int .i64 c, .slice A3 l3.length c3, .slice A4 l4.length c4, .slice A5 l5.length c5]] W fun e w' => e = .returned (.tuple #[.string x6, .int .i64 y6]) ∧ Below W.heap.size W w')
  (hO2 : ∀ W P3 p3 P4 p4 P5 p5, GW W → Kd.C qJ W P3 m3.length m3 → m3.length ≤ p3 → Kd.C jC W P4 m4.length m4 → m4.length ≤ p4 → Kd.C jS W P5 m5.length m5 → m5.length ≤ p5 → Calls Tryz.prog 75 #[.agg #[.string a, .bool b, .int .i64 c, .slice P3 m3.length p3, .slice P4 m4.length p4, .slice P5 m5.length p5]] W fun e w' => e = .returned (.tuple #[.string x6, .int .i64 y6]) ∧ Below W.heap.size W w')
  (w : World) (hG : GW w) (h3 : Kd.C uf w A3 l3.length l3) (h4 : Kd.C jd w A4 l4.length l4) (h5 : Kd.C jh w A5 l5.length l5) (hl3 : l3.length ≤ 1000000) (hl4 : l4.length ≤ 1000000) (hl5 : l5.length ≤ 1000000) :
  Calls Tryz.prog 20 #[.agg #[.string a, .bool b, .int .i64 c, .slice A3 l3.length c3, .slice A4 l4.length c4, .slice A5 l5.length c5], .string na, .string nb, .int .i64 size, .int .i64 n] w fun e w' => e = .returned (.bool true) ∧ Below w.heap.size w w' := by
 have hbx : Below w.heap.size w (w.alloc (.cells #[.string a, .bool b, .int .i64 c, .slice A3 l3.length c3, .slice A4 l4.length c4, .slice A5 l5.length c5] 26)) := (Below.refl _ w).alloc (Nat.le_refl _) _
 have hbf : (w.alloc (.cells #[.string a, .bool b, .int .i64 c, .slice A3 l3.length c3, .slice A4 l4.length c4, .slice A5 l5.length c5] 26)).heap[w.heap.size]? = some (.cells #[.string a, .bool b, .int .i64 c, .slice A3 l3.length c3, .slice A4 l4.length c4, .slice A5 l5.length c5] 26 (0, 0)) := je w _
 have has := zVf a b c A3 c3 l3 A4 c4 l4 A5 c5 l5 (w.alloc (.cells #[.string a, .bool b, .int .i64 c, .slice A3 l3.length c3, .slice A4 l4.length c4, .slice A5 l5.length c5] 26)) (Kd.zY h3 hbx) (Kd.zY h4 hbx) (Kd.zY h5 hbx) hl3 hl4 hl5
 rw [← e3, ← e4, ← e5] at has
 have zW7 := zx.mk hV1; have zW8 := zx.mk hV2; have zW9 := zx.mk hH1; have zaz := zx.mk hH2; have zaq := zx.mk hM1; have zax := zx.mk hM2; have hW1' := zx.mk hW1; have zaj := zx.mk hW2; have zav := zx.mk hS1; have zak := zx.mk hS2; have hK1' := zx.mk hK1; have hK2' := zx.mk hK2; have zay := zx.mk hJ1; have zaw := zx.mk hJ2; have zaZ := zx.mk hC1; have zaQ := zx.mk hC2; have zaX := zx.mk hO1; have zaJ := zx.mk hO2
 clear hV1 hV2 hH1 hH2 hM1 hM2 hW1 hW2 hS1 hS2 hK1 hK2 hJ1 hJ2 hC1 hC2 hO1 hO2
 go_enter Tryz.func20, Tryz.ntmps20
 go_wp2_with fail
 refine has.mono ?_; rintro e w1 ⟨v3, v4, v5, rfl, R3, R4, R5, hb1⟩
 obtain ⟨P3, p3, q3⟩ := Kd.y9 R3
 obtain ⟨P4, p4, q4⟩ := Kd.y9 R4
 obtain ⟨P5, p5, q5⟩ := Kd.y9 R5
 subst q3 q4 q5
 obtain ⟨_, s3, S3⟩ := Kd.qU R3
 obtain ⟨_, s4, S4⟩ := Kd.qU R4
 obtain ⟨_, s5, S5⟩ := Kd.qU R5
 clear has R3 R4 R5 e3 e4 e5
 go_upto_region 2 with (fail)
 have hb2 : Below w1.heap.size w1 (w1.alloc (.cells #[.string a, .bool b, .int .i64 c, .slice P3 m3.length p3, .slice P4 m4.length p4, .slice P5 m5.length p5] 44)) := (Below.refl _ w1).alloc (Nat.le_refl _) _
 have hbw : Below w.heap.size w (w1.alloc (.cells #[.string a, .bool b, .int .i64 c, .slice P3 m3.length p3, .slice P4 m4.length p4, .slice P5 m5.length p5] 44)) := (hbx.trans (hb1.mono hbx.size)).trans (hb2.mono (Nat.le_trans hbx.size hb1.size))
 have HFb := zl (zl hbf hb1) hb2
 have HXb := je w1 (.cells #[.string a, .bool b, .int .i64 c, .slice P3 m3.length p3, .slice P4 m4.length p4, .slice P5 m5.length p5] 44)
 have r3 := Kd.zY h3 hbw; have r4 := Kd.zY h4 hbw; have r5 := Kd.zY h5 hbw
 have t3 := Kd.zY S3 hb2; have t4 := Kd.zY S4 hb2; have t5 := Kd.zY S5 hb2
 have hG2 := hG.under hbw
 clear hbf hbx hb1 hb2 S3 S4 S5 h3 h4 h5 hG
 generalize w1.heap.size = gx at HXb ⊢
 generalize w1.alloc (.cells #[.string a, .bool b, .int .i64 c, .slice P3 m3.length p3, .slice P4 m4.length p4, .slice P5 m5.length p5] 44) = w2 at HFb HXb r3 r4 r5 t3 t4 t5 hG2 hbw ⊢
 have FF := zx.mk (fun (W : World) (k : Below w2.heap.size w2 W) => zl HFb k)
 have FX := zx.mk (fun (W : World) (k : Below w2.heap.size w2 W) => zl HXb k)
 have cV1 := zx.mk (fun (W : World) (k : Below w2.heap.size w2 W) => zW7.out W (hG2.under k) (Kd.zY r3 k) (Kd.zY r4 k) (Kd.zY r5 k))
 have cV2 := zx.mk (fun (W : World) (k : Below w2.heap.size w2 W) => zW8.out W P3 p3 P4 p4 P5 p5 (hG2.under k) (Kd.zY t3 k) s3 (Kd.zY t4 k) s4 (Kd.zY t5 k) s5)
 have cH1 := zx.mk (fun (W : World) (k : Below w2.heap.size w2 W) => zW9.out W (hG2.under k) (Kd.zY r3 k) (Kd.zY r4 k) (Kd.zY r5 k))
 have cH2 := zx.mk (fun (W : World) (k : Below w2.heap.size w2 W) => zaz.out W P3 p3 P4 p4 P5 p5 (hG2.under k) (Kd.zY t3 k) s3 (Kd.zY t4 k) s4 (Kd.zY t5 k) s5)
 have cM1 := zx.mk (fun (W : World) (k : Below w2.heap.size w2 W) => zaq.out W (hG2.under k) (Kd.zY r3 k) (Kd.zY r4 k) (Kd.zY r5 k))
 have cM2 := zx.mk (fun (W : World) (k : Below w2.heap.size w2 W) => zax.out W P3 p3 P4 p4 P5 p5 (hG2.under k) (Kd.zY t3 k) s3 (Kd.zY t4 k) s4 (Kd.zY t5 k) s5)
 have cW1 := zx.mk (fun (W : World) (k : Below w2.heap.size w2 W) => hW1'.out W (hG2.under k) (Kd.zY r3 k) (Kd.zY r4 k) (Kd.zY r5 k))
 have cW2 := zx.mk (fun (W : World) (k : Below w2.heap.size w2 W) => zaj.out W P3 p3 P4 p4 P5 p5 (hG2.under k) (Kd.zY t3 k) s3 (Kd.zY t4 k) s4 (Kd.zY t5 k) s5)
 have cS1 := zx.mk (fun (W : World) (k : Below w2.heap.size w2 W) => zav.out W (hG2.under k) (Kd.zY r3 k) (Kd.zY r4 k) (Kd.zY r5 k))
 have cS2 := zx.mk (fun (W : World) (k : Below w2.heap.size w2 W) => zak.out W P3 p3 P4 p4 P5 p5 (hG2.under k) (Kd.zY t3 k) s3 (Kd.zY t4 k) s4 (Kd.zY t5 k) s5)
 have cK1 := zx.mk (fun (W : World) (k : Below w2.heap.size w2 W) => hK1'.out W (hG2.under k) (Kd.zY r3 k) (Kd.zY r4 k) (Kd.zY r5 k))
 have cK2 := zx.mk (fun (W : World) (k : Below w2.heap.size w2 W) => hK2'.out W P3 p3 P4 p4 P5 p5 (hG2.under k) (Kd.zY t3 k) s3 (Kd.zY t4 k) s4 (Kd.zY t5 k) s5)
 have cJ1 := zx.mk (fun (W : World) (k : Below w2.heap.size w2 W) => zay.out W (hG2.under k) (Kd.zY r3 k) (Kd.zY r4 k) (Kd.zY r5 k))
 have cJ2 := zx.mk (fun (W : World) (k : Below w2.heap.size w2 W) => zaw.out W P3 p3 P4 p4 P5 p5 (hG2.under k) (Kd.zY t3 k) s3 (Kd.zY t4 k) s4 (Kd.zY t5 k) s5)
 have cC1 := zx.mk (fun (W : World) (k : Below w2.heap.size w2 W) => zaZ.out W)
 have cC2 := zx.mk (fun (W : World) (k : Below w2.heap.size w2 W) => zaQ.out W)
 have cO1 := zx.mk (fun (W : World) (k : Below w2.heap.size w2 W) => zaX.out W (hG2.under k) (Kd.zY r3 k) (Kd.zY r4 k) (Kd.zY r5 k))
 have cO2 := zx.mk (fun (W : World) (k : Below w2.heap.size w2 W) => zaJ.out W P3 p3 P4 p4 P5 p5 (hG2.under k) (Kd.zY t3 k) s3 (Kd.zY t4 k) s4 (Kd.zY t5 k) s5)
 clear zW7 zW8 zW9 zaz zaq zax hW1' zaj zav zak hK1' hK2' zay zaw zaZ zaQ zaX zaJ r3 r4 r5 t3 t4 t5 s3 s4 s5 hG2 HFb HXb
 have HS := zx.mk (fun (W : World) (k : Below w2.heap.size w2 W) => (show W.cell? ⟨w.heap.size, 0, none⟩ = some (.string a) ∧ W.cell? ⟨w.heap.size, 1, none⟩ = some (.bool b) ∧ W.cell? ⟨w.heap.size, 2, none⟩ = some (.int .i64 c) ∧ W.cell? ⟨w.heap.size, 3, none⟩ = some (.slice A3 l3.length c3) ∧ W.cell? ⟨w.heap.size, 4, none⟩ = some (.slice A4 l4.length c4) ∧ W.cell? ⟨w.heap.size, 5, none⟩ = some (.slice A5 l5.length c5) ∧ W.cell? ⟨gx, 0, none⟩ = some (.string a) ∧ W.cell? ⟨gx, 1, none⟩ = some (.bool b) ∧ W.cell? ⟨gx, 2, none⟩ = some (.int .i64 c) ∧ W.cell? ⟨gx, 3, none⟩ = some (.slice P3 m3.length p3) ∧ W.cell? ⟨gx, 4, none⟩ = some (.slice P4 m4.length p4) ∧ W.cell? ⟨gx, 5, none⟩ = some (.slice P5 m5.length p5) from ⟨(zk (FF.out W k) 0).trans rfl, (zk (FF.out W k) 1).trans rfl, (zk (FF.out W k) 2).trans rfl, (zk (FF.out W k) 3).trans rfl, (zk (FF.out W k) 4).trans rfl, (zk (FF.out W k) 5).trans rfl, (zk (FX.out W k) 0).trans rfl, (zk (FX.out W k) 1).trans rfl, (zk (FX.out W k) 2).trans rfl, (zk (FX.out W k) 3).trans rfl, (zk (FX.out W k) 4).trans rfl, (zk (FX.out W k) 5).trans rfl⟩))
 go_region_held3 (fun W => W.cell? ⟨w.heap.size, 0, none⟩ = some (.string a) ∧ W.cell? ⟨w.heap.size, 1, none⟩ = some (.bool b) ∧ W.cell? ⟨w.heap.size, 2, none⟩ = some (.int .i64 c) ∧ W.cell? ⟨w.heap.size, 3, none⟩ = some (.slice A3 l3.length c3) ∧ W.cell? ⟨w.heap.size, 4, none⟩ = some (.slice A4 l4.length c4) ∧ W.cell? ⟨w.heap.size, 5, none⟩ = some (.slice A5 l5.length c5) ∧ W.cell? ⟨gx, 0, none⟩ = some (.string a) ∧ W.cell? ⟨gx, 1, none⟩ = some (.bool b) ∧ W.cell? ⟨gx, 2, none⟩ = some (.int .i64 c) ∧ W.cell? ⟨gx, 3, none⟩ = some (.slice P3 m3.length p3) ∧ W.cell? ⟨gx, 4, none⟩ = some (.slice P4 m4.length p4) ∧ W.cell? ⟨gx, 5, none⟩ = some (.slice P5 m5.length p5)) (first | exact HS.out _ sI.out | exact HS.out _ BM1.out | exact HS.out _ BH2.out | exact HS.out _ BH1.out | exact HS.out _ BV2.out | exact HS.out _ BV1.out | exact HS.out _ (Below.refl _ _).drew) (first | (go_at_call 17; refine (cV1.out _ (Below.refl _ _).drew).mono ?_; rintro e WV1 ⟨rfl, k0⟩; have BV1 : zx (Below w2.heap.size w2 WV1) := ⟨((Below.refl _ _).drew).trans (k0.mono (Nat.le_refl _))⟩; clear k0) | (go_at_call 61; refine (cV2.out _ BV1.out).mono ?_; rintro e WV2 ⟨rfl, k0⟩; have BV2 : zx (Below w2.heap.size w2 WV2) := ⟨BV1.out.trans (k0.mono BV1.out.size)⟩; clear k0) | (go_at_call 62; refine (cH1.out _ BV2.out).mono ?_; rintro e WH1 ⟨rfl, k0⟩; have BH1 : zx (Below w2.heap.size w2 WH1) := ⟨BV2.out.trans (k0.mono BV2.out.size)⟩; clear k0) | (go_at_call 63; refine (cH2.out _ BH1.out).mono ?_; rintro e WH2 ⟨rfl, k0⟩; have BH2 : zx (Below w2.heap.size w2 WH2) := ⟨BH1.out.trans (k0.mono BH1.out.size)⟩; clear k0) | (go_at_call 64; refine (cM1.out _ BH2.out).mono ?_; rintro e WM1 ⟨rfl, k0⟩; have BM1 : zx (Below w2.heap.size w2 WM1) := ⟨BH2.out.trans (k0.mono BH2.out.size)⟩; clear k0) | (go_at_call 65; refine (cM2.out _ BM1.out).mono ?_; rintro e WM2 ⟨rfl, k0⟩; have sI : zx (Below w2.heap.size w2 WM2) := ⟨BM1.out.trans (k0.mono BM1.out.size)⟩; clear k0))
 have u0 : WM2.cell? ⟨w.heap.size, 0, none⟩ = some (.string a) := (zk (FF.out _ sI.out) 0).trans rfl; have u1 : WM2.cell? ⟨w.heap.size, 1, none⟩ = some (.bool b) := (zk (FF.out _ sI.out) 1).trans rfl; have u2 : WM2.cell? ⟨w.heap.size, 2, none⟩ = some (.int .i64 c) := (zk (FF.out _ sI.out) 2).trans rfl; have u3 : WM2.cell? ⟨w.heap.size, 3, none⟩ = some (.slice A3 l3.length c3) := (zk (FF.out _ sI.out) 3).trans rfl; have u4 : WM2.cell? ⟨w.heap.size, 4, none⟩ = some (.slice A4 l4.length c4) := (zk (FF.out _ sI.out) 4).trans rfl; have u5 : WM2.cell? ⟨w.heap.size, 5, none⟩ = some (.slice A5 l5.length c5) := (zk (FF.out _ sI.out) 5).trans rfl
 go_wp2_with fail
 refine (cW1.out _ sI.out).mono ?_; rintro e WW1 ⟨rfl, k0⟩
 have JY : zx (Below w2.heap.size w2 WW1) := ⟨sI.out.trans (k0.mono sI.out.size)⟩
 clear k0 u0 u1 u2 u3 u4 u5
 have u0 : WW1.cell? ⟨gx, 0, none⟩ = some (.string a) := (zk (FX.out _ JY.out) 0).trans rfl; have u1 : WW1.cell? ⟨gx, 1, none⟩ = some (.bool b) := (zk (FX.out _ JY.out) 1).trans rfl; have u2 : WW1.cell? ⟨gx, 2, none⟩ = some (.int .i64 c) := (zk (FX.out _ JY.out) 2).trans rfl; have u3 : WW1.cell? ⟨gx, 3, none⟩ = some (.slice P3 m3.length p3) := (zk (FX.out _ JY.out) 3).trans rfl; have u4 : WW1.cell? ⟨gx, 4, none⟩ = some (.slice P4 m4.length p4) := (zk (FX.out _ JY.out) 4).trans rfl; have u5 : WW1.cell? ⟨gx, 5, none⟩ = some (.slice P5 m5.length p5) := (zk (FX.out _ JY.out) 5).trans rfl
 go_wp2_with fail
 refine (cW2.out _ JY.out).mono ?_; rintro e WW2 ⟨rfl, k0⟩
 have Jt : zx (Below w2.heap.size w2 WW2) := ⟨JY.out.trans (k0.mono JY.out.size)⟩
 clear k0 u0 u1 u2 u3 u4 u5
 have u0 : WW2.cell? ⟨w.heap.size, 0, none⟩ = some (.string a) := (zk (FF.out _ Jt.out) 0).trans rfl; have u1 : WW2.cell? ⟨w.heap.size, 1, none⟩ = some (.bool b) := (zk (FF.out _ Jt.out) 1).trans rfl; have u2 : WW2.cell? ⟨w.heap.size, 2, none⟩ = some (.int .i64 c) := (zk (FF.out _ Jt.out) 2).trans rfl; have u3 : WW2.cell? ⟨w.heap.size, 3, none⟩ = some (.slice A3 l3.length c3) := (zk (FF.out _ Jt.out) 3).trans rfl; have u4 : WW2.cell? ⟨w.heap.size, 4, none⟩ = some (.slice A4 l4.length c4) := (zk (FF.out _ Jt.out) 4).trans rfl; have u5 : WW2.cell? ⟨w.heap.size, 5, none⟩ = some (.slice A5 l5.length c5) := (zk (FF.out _ Jt.out) 5).trans rfl
 go_wp2_with fail
 refine (cS1.out _ Jt.out).mono ?_; rintro e WS1 ⟨rfl, k0⟩
 have lQ : zx (Below w2.heap.size w2 WS1) := ⟨Jt.out.trans (k0.mono Jt.out.size)⟩
 clear k0 u0 u1 u2 u3 u4 u5
 have u0 : WS1.cell? ⟨gx, 0, none⟩ = some (.string a) := (zk (FX.out _ lQ.out) 0).trans rfl; have u1 : WS1.cell? ⟨gx, 1, none⟩ = some (.bool b) := (zk (FX.out _ lQ.out) 1).trans rfl; have u2 : WS1.cell? ⟨gx, 2, none⟩ = some (.int .i64 c) := (zk (FX.out _ lQ.out) 2).trans rfl; have u3 : WS1.cell? ⟨gx, 3, none⟩ = some (.slice P3 m3.length p3) := (zk (FX.out _ lQ.out) 3).trans rfl; have u4 : WS1.cell? ⟨gx, 4, none⟩ = some (.slice P4 m4.length p4) := (zk (FX.out _ lQ.out) 4).trans rfl; have u5 : WS1.cell? ⟨gx, 5, none⟩ = some (.slice P5 m5.length p5) := (zk (FX.out _ lQ.out) 5).trans rfl
 go_wp2_with fail
 refine (cS2.out _ lQ.out).mono ?_; rintro e WS2 ⟨rfl, k0⟩
 have lX : zx (Below w2.heap.size w2 WS2) := ⟨lQ.out.trans (k0.mono lQ.out.size)⟩
 clear k0 u0 u1 u2 u3 u4 u5
 have u0 : WS2.cell? ⟨w.heap.size, 0, none⟩ = some (.string a) := (zk (FF.out _ lX.out) 0).trans rfl; have u1 : WS2.cell? ⟨w.heap.size, 1, none⟩ = some (.bool b) := (zk (FF.out _ lX.out) 1).trans rfl; have u2 : WS2.cell? ⟨w.heap.size, 2, none⟩ = some (.int .i64 c) := (zk (FF.out _ lX.out) 2).trans rfl; have u3 : WS2.cell? ⟨w.heap.size, 3, none⟩ = some (.slice A3 l3.length c3) := (zk (FF.out _ lX.out) 3).trans rfl; have u4 : WS2.cell? ⟨w.heap.size, 4, none⟩ = some (.slice A4 l4.length c4) := (zk (FF.out _ lX.out) 4).trans rfl; have u5 : WS2.cell? ⟨w.heap.size, 5, none⟩ = some (.slice A5 l5.length c5) := (zk (FF.out _ lX.out) 5).trans rfl
 go_wp2_with fail
 refine (cK1.out _ lX.out).mono ?_; rintro e WK1 ⟨rfl, k0⟩
 have lJ : zx (Below w2.heap.size w2 WK1) := ⟨lX.out.trans (k0.mono lX.out.size)⟩
 clear k0 u0 u1 u2 u3 u4 u5
 have u0 : WK1.cell? ⟨gx, 0, none⟩ = some (.string a) := (zk (FX.out _ lJ.out) 0).trans rfl; have u1 : WK1.cell? ⟨gx, 1, none⟩ = some (.bool b) := (zk (FX.out _ lJ.out) 1).trans rfl; have u2 : WK1.cell? ⟨gx, 2, none⟩ = some (.int .i64 c) := (zk (FX.out _ lJ.out) 2).trans rfl; have u3 : WK1.cell? ⟨gx, 3, none⟩ = some (.slice P3 m3.length p3) := (zk (FX.out _ lJ.out) 3).trans rfl; have u4 : WK1.cell? ⟨gx, 4, none⟩ = some (.slice P4 m4.length p4) := (zk (FX.out _ lJ.out) 4).trans rfl; have u5 : WK1.cell? ⟨gx, 5, none⟩ = some (.slice P5 m5.length p5) := (zk (FX.out _ lJ.out) 5).trans rfl
 go_wp2_with fail
 refine (cK2.out _ lJ.out).mono ?_; rintro e WK2 ⟨rfl, k0⟩
 have lV : zx (Below w2.heap.size w2 WK2) := ⟨lJ.out.trans (k0.mono lJ.out.size)⟩
 clear k0 u0 u1 u2 u3 u4 u5
 have u0 : WK2.cell? ⟨w.heap.size, 0, none⟩ = some (.string a) := (zk (FF.out _ lV.out) 0).trans rfl; have u1 : WK2.cell? ⟨w.heap.size, 1, none⟩ = some (.bool b) := (zk (FF.out _ lV.out) 1).trans rfl; have u2 : WK2.cell? ⟨w.heap.size, 2, none⟩ = some (.int .i64 c) := (zk (FF.out _ lV.out) 2).trans rfl; have u3 : WK2.cell? ⟨w.heap.size, 3, none⟩ = some (.slice A3 l3.length c3) := (zk (FF.out _ lV.out) 3).trans rfl; have u4 : WK2.cell? ⟨w.heap.size, 4, none⟩ = some (.slice A4 l4.length c4) := (zk (FF.out _ lV.out) 4).trans rfl; have u5 : WK2.cell? ⟨w.heap.size, 5, none⟩ = some (.slice A5 l5.length c5) := (zk (FF.out _ lV.out) 5).trans rfl
 go_wp2_with fail
 refine (cJ1.out _ lV.out).mono ?_; rintro e WJ1 ⟨rfl, k0⟩
 have lK : zx (Below w2.heap.size w2 WJ1) := ⟨lV.out.trans (k0.mono lV.out.size)⟩
 clear k0 u0 u1 u2 u3 u4 u5
 have u0 : WJ1.cell? ⟨gx, 0, none⟩ = some (.string a) := (zk (FX.out _ lK.out) 0).trans rfl; have u1 : WJ1.cell? ⟨gx, 1, none⟩ = some (.bool b) := (zk (FX.out _ lK.out) 1).trans rfl; have u2 : WJ1.cell? ⟨gx, 2, none⟩ = some (.int .i64 c) := (zk (FX.out _ lK.out) 2).trans rfl; have u3 : WJ1.cell? ⟨gx, 3, none⟩ = some (.slice P3 m3.length p3) := (zk (FX.out _ lK.out) 3).trans rfl; have u4 : WJ1.cell? ⟨gx, 4, none⟩ = some (.slice P4 m4.length p4) := (zk (FX.out _ lK.out) 4).trans rfl; have u5 : WJ1.cell? ⟨gx, 5, none⟩ = some (.slice P5 m5.length p5) := (zk (FX.out _ lK.out) 5).trans rfl
 go_wp2_with fail
 refine (cJ2.out _ lK.out).mono ?_; rintro e WJ2 ⟨rfl, k0⟩
 have BJ2 : zx (Below w2.heap.size w2 WJ2) := ⟨lK.out.trans (k0.mono lK.out.size)⟩
 clear k0 u0 u1 u2 u3 u4 u5
 skip
 go_wp2_with fail
 refine (cC1.out _ BJ2.out).mono ?_; rintro e WC1 ⟨rfl, k0⟩
 have BC1 : zx (Below w2.heap.size w2 WC1) := ⟨BJ2.out.trans (k0.mono BJ2.out.size)⟩
 clear k0
 skip
 go_wp2_with fail
 refine (cC2.out _ BC1.out).mono ?_; rintro e WC2 ⟨rfl, k0⟩
 have bH : zx (Below w2.heap.size w2 WC2) := ⟨BC1.out.trans (k0.mono BC1.out.size)⟩
 clear k0
 have u0 : WC2.cell? ⟨w.heap.size, 0, none⟩ = some (.string a) := (zk (FF.out _ bH.out) 0).trans rfl; have u1 : WC2.cell? ⟨w.heap.size, 1, none⟩ = some (.bool b) := (zk (FF.out _ bH.out) 1).trans rfl; have u2 : WC2.cell? ⟨w.heap.size, 2, none⟩ = some (.int .i64 c) := (zk (FF.out _ bH.out) 2).trans rfl; have u3 : WC2.cell? ⟨w.heap.size, 3, none⟩ = some (.slice A3 l3.length c3) := (zk (FF.out _ bH.out) 3).trans rfl; have u4 : WC2.cell? ⟨w.heap.size, 4, none⟩ = some (.slice A4 l4.length c4) := (zk (FF.out _ bH.out) 4).trans rfl; have u5 : WC2.cell? ⟨w.heap.size, 5, none⟩ = some (.slice A5 l5.length c5) := (zk (FF.out _ bH.out) 5).trans rfl
 go_wp2_with fail
 refine (cO1.out _ bH.out).mono ?_; rintro e WO1 ⟨rfl, k0⟩
 have lY : zx (Below w2.heap.size w2 WO1) := ⟨bH.out.trans (k0.mono bH.out.size)⟩
 clear k0 u0 u1 u2 u3 u4 u5
 have u0 : WO1.cell? ⟨gx, 0, none⟩ = some (.string a) := (zk (FX.out _ lY.out) 0).trans rfl; have u1 : WO1.cell? ⟨gx, 1, none⟩ = some (.bool b) := (zk (FX.out _ lY.out) 1).trans rfl; have u2 : WO1.cell? ⟨gx, 2, none⟩ = some (.int .i64 c) := (zk (FX.out _ lY.out) 2).trans rfl; have u3 : WO1.cell? ⟨gx, 3, none⟩ = some (.slice P3 m3.length p3) := (zk (FX.out _ lY.out) 3).trans rfl; have u4 : WO1.cell? ⟨gx, 4, none⟩ = some (.slice P4 m4.length p4) := (zk (FX.out _ lY.out) 4).trans rfl; have u5 : WO1.cell? ⟨gx, 5, none⟩ = some (.slice P5 m5.length p5) := (zk (FX.out _ lY.out) 5).trans rfl
 go_wp2_with fail
 refine (cO2.out _ lY.out).mono ?_; rintro e WO2 ⟨rfl, k0⟩
 have BO2 : zx (Below w2.heap.size w2 WO2) := ⟨lY.out.trans (k0.mono lY.out.size)⟩
 clear k0 u0 u1 u2 u3 u4 u5
 go_wp2_with fail
 go_ret
 exact ⟨by first | rfl | (simp; done), hbw.trans (BO2.out.mono hbw.size)⟩
end Go.Proofs.YtaifemkokfoadaaGreatDoor
namespace Go.Proofs.YtaifemkokfoadaaGreatDoor.PX
open Go.RowKit Go.Proofs.zy.zu Go.Proofs.zy.yI Go.Proofs.zy.yD
attribute [local go_sem] xw xZ xP xR qD qE xQ xX   -- for this text's walks alone
set_option linter.unusedVariables false
set_option linter.unusedSimpArgs false
def qp.l0 : Nat → Int → ByteArray → Option (ByteArray)
 | 0, _, _ => none
 | k + 1, x0, x3 => if x0 > 9 then ((some (([(wrap64 (48 + (Int.tmod (wrap64 (Int.tdiv x0 10)) 10))) % 256] : List Int) : List Int)).bind fun dM => (if (strOfNums dM).size + x3.size ≤ 9223372036854775807 then (qp.l0 k (wrap64 (Int.tdiv x0 10)) ((strOfNums dM) ++ x3)) else (none))) else (some x3)
def qp.f (k : Nat) (a0 : Int) : Option (ByteArray) := qp.l0 k a0 (strOfNums (([(wrap64 (48 + (Int.tmod a0 10))) % 256] : List Int)))
set_option maxHeartbeats 8000000 in
set_option maxRecDepth 100000 in
theorem qp.calls (k : Nat) (a0 : Int) (r : ByteArray) (w : World) (h : qp.f k a0 = some r) :
  Calls Tryz.prog 113 #[.int .i64 a0] w fun e w' => e = .returned (.string r) ∧ Below w.heap.size w w' := by
 have HB := zx.mk (Below.refl w.heap.size w)
 have H : (qp.l0 k a0 (strOfNums (([(wrap64 (48 + (Int.tmod a0 10))) % 256] : List Int)))) = some r := h
 clear h
 obtain ⟨zaV, lW⟩ : ∃ y_ : List Int, y_ = (([(wrap64 (48 + (Int.tmod a0 10))) % 256] : List Int)) := ⟨_, rfl⟩
 replace H : (qp.l0 k a0 (strOfNums zaV)) = some r := by first | (rw [lW]; with_reducible exact H) | (have xJ := (Option.bind_some _ _).symm.trans H; rw [lW]; with_reducible exact xJ) | (have xJ := (Option.bind_some _ _).symm.trans H; with_reducible exact xJ) | with_reducible exact H | (rw [lW]; exact H) | exact H
 have zJH := zx.mk lW
 clear lW
 have H' := zx.mk H
 clear H
 go_enter Tryz.func113, Tryz.ntmps113
 go_wp2_with (first | ((with_reducible refine qx (N := 8) rfl ?_); refine Kd.ZP (Kd.int .u8) _ 5 ?hg (N := 8) ?hd (xs := ([(wrap64 (48 + (Int.tmod a0 10))) % 256] : List Int)) (inner := [.int .u8 ((wrap64 (48 + (Int.tmod a0 10))) % 256)]) (ok := fun _ => True) (jc := fun _ => True) ?hr ?hp (fun _ hk => hk) trivial (Below.refl _ _) (Nat.le_refl _) (by simp) ?_; (case hd => rfl); (case hg => rfl); (case hr => first | (go_simp; done) | (go_simp; rfl)); (case hp => exact (yS.one (show Kd.M (Kd.int .u8) _ _ _ ((wrap64 (48 + (Int.tmod a0 10))) % 256) [.int .u8 ((wrap64 (48 + (Int.tmod a0 10))) % 256)] from rfl) (yS.none _ _))); intro zmQ w2 ho3 hb wo ug; clear wo ug; (first | rw [← zJH.out] at ho3 | (simp only [Int.reduceToNat] at ho3; rw [← zJH.out] at ho3)); have zf := zx.mk (Kd.xI ho3 (zV (zD HB.out))); have zh := zx.mk (zI (zD HB.out) hb); clear HB; have zcD := zf; have HB := zh; clear zf zh; clear hb ho3; have zfC := wE (P := Tryz.prog) Tryz.underlying66 Tryz.underlying5 Tryz.underlying9 (Kd.ZC zcD.out)))
 go_loopg [0, 3] k (fun kq v0 v3 w' => ∃ (Zy : Int) (qh : ByteArray), v0 = .int .i64 Zy ∧ v3 = .string qh ∧ zx (qp.l0 kq Zy qh = some r) ∧ zx (kq ≤ k) ∧ zx (Below w.heap.size w w'))
 case atStart => exact ⟨(a0), (strOfNums zaV), (by first | rfl | (simp; done) | (simp [*]; done)), (by first | rfl | (simp; done) | (simp [*]; done)), H', ⟨Nat.le_refl _⟩, ⟨zD HB.out⟩⟩
 case round =>
  clear H'
  try clear c1
  try clear p2
  try clear zfC
  obtain ⟨Zy, qh, rfl, rfl, HA, jv, HB⟩ := hrel
  cases gk with
  | zero => exact absurd HA.out (by simp [qp.l0])
  | succ k1 =>
   have H := HA.out
   clear HA
   simp only [qp.l0] at H
   by_cases c5 : Zy > 9
   ·rw [if_pos c5] at H
    have p8 : decide (9 < Zy) = true := decide_eq_true c5
    clear c5
    obtain ⟨dM, lg⟩ : ∃ y_ : List Int, y_ = (([(wrap64 (48 + (Int.tmod (wrap64 (Int.tdiv Zy 10)) 10))) % 256] : List Int)) := ⟨_, rfl⟩
    replace H : (if (strOfNums dM).size + qh.size ≤ 9223372036854775807 then (qp.l0 k1 (wrap64 (Int.tdiv Zy 10)) ((strOfNums dM) ++ qh)) else (none)) = some r := by first | (rw [lg]; with_reducible exact H) | (have xJ := (Option.bind_some _ _).symm.trans H; rw [lg]; with_reducible exact xJ) | (have xJ := (Option.bind_some _ _).symm.trans H; with_reducible exact xJ) | with_reducible exact H | (rw [lg]; exact H) | exact H
    have zJI := zx.mk lg
    clear lg
    by_cases c6 : (strOfNums dM).size + qh.size ≤ 9223372036854775807
    ·rw [if_pos c6] at H
     have ZF := eq_true c6
     have tq : decide ((strOfNums dM).size + qh.size ≤ 9223372036854775807) = true := decide_eq_true c6
     try have zfD : (9223372036854775807 < (strOfNums dM).size + qh.size) = False := eq_false (Nat.not_lt.2 c6)
     have H' := zx.mk H
     clear H
     go_wp2_with (first | ((with_reducible refine qx (N := 18) rfl ?_); refine Kd.ZP (Kd.int .u8) _ 5 ?hg (N := 18) ?hd (xs := ([(wrap64 (48 + (Int.tmod (wrap64 (Int.tdiv Zy 10)) 10))) % 256] : List Int)) (inner := [.int .u8 ((wrap64 (48 + (Int.tmod (wrap64 (Int.tdiv Zy 10)) 10))) % 256)]) (ok := fun _ => True) (jc := fun _ => True) ?hr ?hp (fun _ hk => hk) trivial (Below.refl _ _) (Nat.le_refl _) (by simp) ?_; (case hd => rfl); (case hg => rfl); (case hr => first | (go_simp; done) | (go_simp; rfl)); (case hp => exact (yS.one (show Kd.M (Kd.int .u8) _ _ _ ((wrap64 (48 + (Int.tmod (wrap64 (Int.tdiv Zy 10)) 10))) % 256) [.int .u8 ((wrap64 (48 + (Int.tmod (wrap64 (Int.tdiv Zy 10)) 10))) % 256)] from rfl) (yS.none _ _))); intro zmX w7 nX hb wo ug; clear wo ug; (first | rw [← zJI.out] at nX | (simp only [Int.reduceToNat] at nX; rw [← zJI.out] at nX)); have zf := zx.mk (Kd.xI nX (zV (zD HB.out))); have zh := zx.mk (zI (zD HB.out) hb); clear HB; have zcE := zf; have HB := zh; clear zf zh; clear hb nX; have zfE := wE (P := Tryz.prog) Tryz.underlying66 Tryz.underlying5 Tryz.underlying9 (Kd.ZC zcE.out)))
     go_roundg k1
     case measure => have := jv.out; omega
     case rel => exact ⟨(wrap64 (Int.tdiv Zy 10)), ((strOfNums dM) ++ qh), (by first | rfl | (simp; done) | (simp [*]; done)), (by first | rfl | (simp; done) | (simp [*]; done)), H', ⟨by have := jv.out; omega⟩, ⟨zD HB.out⟩⟩
    ·rw [if_neg c6] at H
     exact absurd H (by simp)
   ·rw [if_neg c5] at H
    have p8 : decide (9 < Zy) = false := decide_eq_false c5
    clear c5
    obtain rfl := Option.some.inj H
    go_wp2
    go_ret
    exact ⟨by first | rfl | (simp [zU, z8] <;> rfl) | (simp [*, zU, z8] <;> rfl), by repeat (first | (with_reducible first | exact HB.out | apply yu | apply zP | apply yT) | exact HB.out)⟩
end Go.Proofs.YtaifemkokfoadaaGreatDoor.PX
