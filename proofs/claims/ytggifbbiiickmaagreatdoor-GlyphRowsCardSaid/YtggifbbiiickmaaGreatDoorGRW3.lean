/-
  Texts that lean on one another, laid in one file. No condition.
-/
import Derived.Test.YtggifbbiiickmaaGreatDoorGRW2
import Derived.Deep.CutBlock
import Derived.Shelf.SlSortCmp.WholeK
import Derived.Ground.SlsfProg
import Derived.Sort.OwnSortedInts
import Derived.Test.YtggifbbiiickmaaGreatDoorGRW1
import Derived.Laws.Runes
import Derived.ChangeAlike
namespace Go.Proofs.YtggifbbiiickmaaGreatDoor
open Go.RowKit Go.Shelf Go.Proofs.zk.zK Go.Proofs.zk.yQ Go.Proofs.zk.yX Go.Proofs.YtggifbbiiickmaaGreatDoor.PX Go.Proofs.YtggifbbiiickmaaGreatDoor.JG
set_option linter.unusedSimpArgs false
set_option linter.unusedVariables false
attribute [local go_sem] Oper.semAt_some
theorem fZ {P : Program} {c : Code} {K : Act → World → Prop} {Q' : Exit → Act → World → Prop} {a : Act} {w : World} (h : c.wp P (Exit.then K (fun _ _ _ => False)) a w) : c.wp P (Exit.then K Q') a w := by
 refine wp_mono h ?_
 intro e a' w' hq
 cases e with
 | normal => exact hq
 | _ => exact hq.elim
theorem Vo {s : ByteArray} (h : pW s = false) : s.size ≤ 10 := by
 unfold pW Y5 at h
 simp only [Bool.not_eq_false', Bool.and_eq_true, decide_eq_true_eq] at h
 have h1 := h.2.1
 rwa [show s.data.toList.length = s.size from Array.length_toList] at h1
theorem below_grown {n : Nat} {A B : World} {row : Nat} (h : A.grownBy B (some row)) (hr : n ≤ row) (hn : n ≤ A.heap.size) : Below n A B :=
 ⟨h.os, h.tape, h.output, h.size, fun k hk => h.block k (by omega) (fun e => by injection e; omega)⟩
theorem Pz {W W' : World} {m n : Nat} {f : ByteArray → Option ByteArray} {P : Program} {k e : TypeId} (h : W'.heap[m]? = W.heap[m]?) (hm : SMap P k e W m n f) : SMap P k e W' m n f := by
 obtain ⟨D, ⟨es, clock, hb, F, h1, h2⟩, h3, h4⟩ := hm
 exact ⟨D, ⟨es, clock, h.trans hb, F, h1, h2⟩, h3, h4⟩
def U2 (m base : Nat) (w4 : World) (pre : List Vl) (W : World) : Prop := SMap Tryz.prog 9 9 W m pre.length (Vm pre) ∧ Boxed W (m + 1) 82 (.map (some m)) ∧ Below m w4 W ∧ base ≤ W.heap.size
theorem zj6 (m base : Nat) (w4 : World) (hm : m ≤ w4.heap.size) (hb : m + 1 < base) : OwnFrom base (U2 m base w4) := by
 rintro pre A B row ⟨h1, h2, h3, h4⟩ hg hr
 exact ⟨h1.kept hg (fun e => by have := (hr _ e.symm).1; omega), h2.kept hg (fun e => by have := (hr _ e.symm).1; omega), ownFrom_below (β := Unit) hm (by omega) () A B row h3 hg hr, Nat.le_trans h4 hg.size⟩
theorem zj7 (m base : Nat) (w4 : World) (hm : m + 1 + 1 < base) : wK (m + 1 + 1) (U2 m base w4) := by
 rintro pre W u ⟨h1, h2, h3, h4⟩
 exact ⟨h1.kept (grownBy_setCell' W (m + 1 + 1) u) (fun e => by injection e; omega), h2.other (by omega) u, h3.setCell (p := ⟨m + 1 + 1, 0, none⟩) (by show m ≤ m + 1 + 1; omega) u, by simpa using h4⟩
theorem zql {m base : Nat} {w4 W : World} {pre : List Vl} (h : U2 m base w4 pre W) (o : Obj) : U2 m base w4 pre (W.alloc o) :=
 ⟨h.1.kept (World.grownBy_alloc _ _ none) (by simp), h.2.1.alloc _, h.2.2.1.alloc (Nat.le_trans (Nat.le_of_lt h.1.lt) (Nat.le_refl _)) _, Nat.le_trans h.2.2.2 (by simp)⟩
theorem zj8 {m base : Nat} {w4 W W' : World} {pre : List Vl} {x : Vl} (h : U2 m base w4 pre W) (hm : SMap Tryz.prog 9 9 W' m (pre.length + 1) (fun s => if s = x.2.1.f0 then some x.2.1.f1 else Vm pre s)) (hg : W.grownBy W' (some m)) : U2 m base w4 (pre ++ [x]) W' := by
 refine ⟨?_, h.2.1.kept hg (fun e => by injection e; omega), h.2.2.1.trans (below_grown hg (Nat.le_refl _) (Nat.le_of_lt h.1.lt)), Nat.le_trans h.2.2.2 hg.size⟩
 rw [zxE, List.length_append]
 exact hm
def boxes.T19 : Bool × List (List Nat × List Nat) := (true, [([], []), ([], []), ([1], [1]), ([0, 2], [0, 2]), ([3], [3]), ([], []), ([], []), ([], []), ([], []), ([8], [8]), ([7, 9], [7, 9]), ([10], [10]), ([6, 11], [6, 11]), ([4, 5, 12, 12], [4, 5, 12]), ([13], [13]), ([14], [14]), ([14], [14]), ([15, 13, 0, 1, 2, 3, 4, 5, 6, 7, 8, 9, 10, 11, 12, 13, 14, 15], [15]), ([16, 17, 0, 1, 2, 3, 4, 5, 6, 7, 8, 9, 10, 11, 12, 13, 14, 15, 16, 17], [16])])
def boxes.B19 : List Nat := [0, 0, 2, 7, 15, 0, 0, 0, 0, 256, 896, 1920, 4032, 8191, 16383, 32767, 32767, 65535, 262143]
theorem boxes.zwG : vk .any (opsOf Tryz.f13 19) = boxes.T19 := by kernel_rfl
theorem boxes.zyC : um boxes.T19.2 boxes.B19 = true := by kernel_rfl
def boxes.T24 : Bool × List (List Nat × List Nat) := (true, [([], []), ([0], [0]), ([1], [1]), ([2], [2]), ([], []), ([4], [4]), ([5], [5]), ([6], [6]), ([3, 0, 1, 2, 3], [3]), ([7, 8, 0, 1, 2, 3, 4, 5, 6, 7, 8], [7]), ([9, 0, 1, 2, 3, 4, 5, 6, 7, 8, 9], [])])
def boxes.B24 : List Nat := [0, 1, 3, 7, 0, 16, 48, 112, 15, 511, 1023]
theorem boxes.zwH : vk .any (opsOf Tryz.f13 24) = boxes.T24 := by kernel_rfl
theorem boxes.zyD : um boxes.T24.2 boxes.B24 = true := by kernel_rfl
theorem zkH (w0 : World) (base g : Nat) (Af : Option Addr) (cf : Nat) (l : List y8) (f s : Int) (zP za : Bool) (st : List vO × List ByteArray) (n : ByteArray) (w : World) (hG : GW w0) (hC : Kd.C jY w0 Af l.length l) (hl : l.length ≤ 1000000000) (hf0 : 0 ≤ f) (hf1 : f < (l.length : Int)) (hv : ∀ x ∈ l, vY x = true) (hgb : g < base) (hb : base ≤ w.heap.size) (hg0 : w0.heap.size ≤ g) (hw : Below w0.heap.size w0 w) (hlo : st.1.length ≤ 1000000) (hll : st.2.length ≤ 1000000) (hs0 : 1 ≤ s) (hs1 : s ≤ 1000) (hS : Xy base g w Af cf l f s zP za st) :
  Calls Tryz.prog 46 #[.pointer (some ⟨g, 0, none⟩), .string n] w fun e w' => (∃ v, e = .returned v) ∧ Xy base g w' Af cf l f s zP za (kr l f s za st n) ∧ vC base g w w' := by
 obtain ⟨vo, vl, hS⟩ := hS
 unfold kr
 by_cases h : uM l f n < 0
 ·rw [if_pos h]
  exact zyA w0 base g Af cf l f s zP za st n w hG hC hl hf0 hf1 hv hgb hb hg0 hw hlo hll vo vl hS h
 ·rw [if_neg h]
  exact zkD w0 base g Af cf l f s zP za st n w hG hC hl hf0 hf1 hv hgb hb hg0 hw hlo hll vo vl hS (by omega) hs0 hs1
theorem zxG (l : List y8) (s : Int) (za : Bool) (out : List vO) (a : Int) (n : ByteArray) : (p9 l s za out a n).length ≤ 1 := by
 unfold p9
 repeat' split
 all_goals first | exact Nat.zero_le _ | exact Nat.le_refl _
theorem mH (l : List y8) (f s : Int) (za : Bool) (st : List vO × List ByteArray) (n : ByteArray) : (kr l f s za st n).1.length ≤ st.1.length + 2 ∧ (kr l f s za st n).2.length ≤ st.2.length + 1 := by
 unfold kr
 split
 ·simp
 ·have := zxG l s za st.1 (uM l f n) n
  simp only [List.length_append, List.length_cons, List.length_nil]
  omega
def Zz (J : ByteArray → ByteArray → ByteArray × Bool) (zP : Bool) (A : List ByteArray) (k : Nat) : List ByteArray := if zP then Qr J (A.drop k) else A.drop k
theorem tK (J : ByteArray → ByteArray → ByteArray × Bool) (A : List ByteArray) (k : Nat) (h : k < A.length) : Zz J false A k = A[k] :: Zz J false A (k + 1) := by
 unfold Zz
 rw [if_neg Bool.false_ne_true, if_neg Bool.false_ne_true, List.drop_eq_getElem_cons h]
theorem JI (J : ByteArray → ByteArray → ByteArray × Bool) (A : List ByteArray) (k j : Nat) (c : ByteArray) (h : k < A.length) (hj : Yo J A[k] (A.drop (k + 1)) = (c, A.drop (j + 1))) : Zz J true A k = c :: Zz J true A (j + 1) := by
 unfold Zz
 rw [if_pos rfl, if_pos rfl, List.drop_eq_getElem_cons h, Qr, hj]
theorem zj9 (J : ByteArray → ByteArray → ByteArray × Bool) (A : List ByteArray) (j : Nat) (c : ByteArray) (h : A.length ≤ j + 1) : Yo J c (A.drop (j + 1)) = (c, A.drop (j + 1)) := by
 rw [List.drop_eq_nil_of_le h]; rfl
theorem zxH (J : ByteArray → ByteArray → ByteArray × Bool) (A : List ByteArray) (j : Nat) (c : ByteArray) (h : j + 1 < A.length) (hn : (J c A[j + 1]).2 = false) : Yo J c (A.drop (j + 1)) = (c, A.drop (j + 1)) := by
 rw [List.drop_eq_getElem_cons h, Yo, if_neg (by rw [hn]; exact Bool.false_ne_true)]
theorem zkI (J : ByteArray → ByteArray → ByteArray × Bool) (A : List ByteArray) (j : Nat) (c : ByteArray) (h : j + 1 < A.length) (hy : (J c A[j + 1]).2 = true) : Yo J c (A.drop (j + 1)) = Yo J (J c A[j + 1]).1 (A.drop (j + 1 + 1)) := by
 rw [List.drop_eq_getElem_cons h, Yo, if_pos hy]
theorem dI {tmps : Array Value} {W : World} {v0 v1 v2 : Value} (h0 : tmps.getD 8 undef = v0) (h1 : tmps.getD 9 undef = v1) (h2 : tmps.getD 10 undef = v2) : (results Tryz.f13 tmps).run Tryz.prog W = .ok (.tuple #[v0, v1, v2]) W := by
 subst h0 h1 h2
 simp [results, Tryz.f13, go_sem]
set_option maxRecDepth 100000 in
set_option maxHeartbeats 8000000 in
theorem zxI (Af : Option Addr) (cf : Nat) (l : List y8) (f s : Int) (zP za : Bool) (Ac : Option Addr) (cc : Nat) (chars : List ByteArray) (Ap : Option Addr) (cp : Nat) (pairs : List ko) (w : World) (hG : GW w) (hC : Kd.C jY w Af l.length l) (hz : ∀ x ∈ l, x.f3.length ≤ 1000000000 ∧ x.f4.length ≤ 1000000000 ∧ x.f5.length ≤ 1000000000) (hl : l.length ≤ 1000000000) (hS : Kd.C Kd.string w Ac chars.length chars) (hlc : chars.length ≤ 1000000000) (hP : Kd.C YG w Ap pairs.length pairs) (hlp : pairs.length ≤ 1000000000) (h1 : (l.any fun x => !vY x) = false) (h2 : jN l.length f s = false) (h3 : chars.length ≤ 2000) (h3' : pairs.length ≤ 100) (h4 : chars.any pW = false) (h5 : pairs.any Vq = false) :
  Calls Tryz.prog 13 #[.slice Af l.length cf, .agg #[.int .i64 f, .int .i64 s, .bool zP, .bool za], .slice Ac chars.length cc, .slice Ap pairs.length cp] w fun e w' => ∃ v0 v1, e = .returned (.tuple #[v0, v1, .int .i64 0]) ∧ Kd.S kE 53 w' w.heap.size (fun _ => True) v0 (jS l f s za (Yp l f zP chars pairs)).1 ∧ Kd.R Kd.string 9 w' w.heap.size (fun _ => True) v1 (jS l f s za (Yp l f zP chars pairs)).2 ∧ Below w.heap.size w w' := by
 have hps : ∀ p ∈ pairs, p.f0.size ≤ maxLen ∧ p.f1.size ≤ maxLen := fun p hp => by
  have h := List.any_eq_false.1 h5 p hp
  simp only [Vq, Bool.or_eq_true, not_or, Bool.not_eq_true] at h
  have a1 := Vo h.1
  have a2 := Vo h.2
  unfold maxLen
  omega
 have d1 : decide (f < 0) = false := by cases h : decide (f < 0) with | false => rfl | true => (unfold jN at h2; rw [h, Bool.true_or] at h2; cases h2)
 have d2 : decide ((l.length : Int) ≤ f) = false := by cases h : decide ((l.length : Int) ≤ f) with | false => rfl | true => (unfold jN at h2; rw [h, Bool.true_or, Bool.or_true] at h2; cases h2)
 have d3 : decide (s < 1) = false := by cases h : decide (s < 1) with | false => rfl | true => (unfold jN at h2; rw [h, Bool.true_or, Bool.or_true, Bool.or_true] at h2; cases h2)
 have d4 : decide (1000 < s) = false := by cases h : decide (1000 < s) with | false => rfl | true => (unfold jN at h2; rw [h, Bool.or_true, Bool.or_true, Bool.or_true] at h2; cases h2)
 have r1 := of_decide_eq_false d1
 have r2 := of_decide_eq_false d2
 have r3 := of_decide_eq_false d3
 have r4 := of_decide_eq_false d4
 clear h2
 have d5 : decide ((2000 : Int) < (chars.length : Int)) = false := decide_eq_false (by omega)
 have d6 : decide ((100 : Int) < (pairs.length : Int)) = false := decide_eq_false (by omega)
 have hF := WS Af cf l f s zP za Ac cc chars Ap cp pairs w hG hC hz hl hS hlc hP hlp
 have hQ := WT Af cf l f s zP za Ac cc chars Ap cp pairs w hG hC hz hl hS hlc hP hlp
 have hR := WU Af cf l f s zP za Ac cc chars Ap cp pairs w hG hC hz hl hS hlc hP hlp (w.heap.size + 1)
 have hb0 : Below w.heap.size w ((w.alloc (.cells #[.int .i64 f, .int .i64 s, .bool zP, .bool za] 26)).alloc (.cells #[.func (.func 35) #[] #[]] 75)) := ((Below.refl _ w).alloc (Nat.le_refl _) _).alloc (by simp) _
 have wI := vP (kH w (.cells #[.int .i64 f, .int .i64 s, .bool zP, .bool za] 26)) (.cells #[.func (.func 35) #[] #[]] 75)
 have hbad : Boxed ((w.alloc (.cells #[.int .i64 f, .int .i64 s, .bool zP, .bool za] 26)).alloc (.cells #[.func (.func 35) #[] #[]] 75)) (w.heap.size + 1) 75 (.func (.func 35) #[] #[]) := by
  have h := Boxed.new (w.alloc (.cells #[.int .i64 f, .int .i64 s, .bool zP, .bool za] 26)) 75 (.func (.func 35) #[] #[])
  rwa [World.size_alloc] at h
 rw [h1] at hF
 rw [h4] at hQ
 rw [h5] at hR
 have HT1 := zx.mk wI
 have HD1 := zx.mk hbad
 have HB1 := zx.mk hb0
 have HF := zx.mk hF
 have HQ := zx.mk hQ
 have HR := zx.mk hR
 have HP := zx.mk hP
 have HG := zx.mk hG
 have HC := zx.mk hC
 have HS := zx.mk hS
 clear wI hbad hb0 hF hQ hR
 have hmm := @run_makeMap Tryz.prog
 refine (callsIn_wide (n := 12)).1 ?_
 refine callsIn_of_wp_marks Tryz.func13 rfl trivial ?_ rfl
 simp only [Tryz.ntmps13, List.size_toArray, List.length_cons, List.length_nil, Nat.reduceAdd, Nat.reduceSub, Array.replicate_succ, Array.replicate_zero, List.push_toArray, List.append_toArray, List.nil_append, List.cons_append]
 refine wpIn_wide.2 ?_
 go_wp2_with fail
 refine (HF.out _ HB1.out).mono ?_; rintro e w2 ⟨rfl, hb2⟩
 have HT2 := zx.mk (zm HT1.out hb2)
 have HD2 := zx.mk (zm HD1.out hb2)
 have HB2 := zx.mk (HB1.out.trans (hb2.mono HB1.out.size))
 clear hb2
 have a2 : w2.cell? ⟨w.heap.size, 0, none⟩ = some (.int .i64 f) := (zy HT2.out 0).trans rfl
 have b2 : w2.cell? ⟨w.heap.size, 1, none⟩ = some (.int .i64 s) := (zy HT2.out 1).trans rfl
 have c2 : w2.cell? ⟨w.heap.size + 1, 0, none⟩ = some (.func (.func 35) #[] #[]) := (zy HD2.out 0).trans rfl
 go_wp2_with fail
 refine (HQ.out _ HB2.out).mono ?_; rintro e w3 ⟨rfl, hb3⟩
 have HT3 := zx.mk (zm HT2.out hb3)
 have HD3 := zx.mk (zm HD2.out hb3)
 have HB3 := zx.mk (HB2.out.trans (hb3.mono HB2.out.size))
 clear hb3
 have a3 : w3.cell? ⟨w.heap.size, 0, none⟩ = some (.int .i64 f) := (zy HT3.out 0).trans rfl
 have b3 : w3.cell? ⟨w.heap.size, 1, none⟩ = some (.int .i64 s) := (zy HT3.out 1).trans rfl
 have c3 : w3.cell? ⟨w.heap.size + 1, 0, none⟩ = some (.func (.func 35) #[] #[]) := (zy HD3.out 0).trans rfl
 go_wp2_with fail
 refine (HR.out _ HB3.out c3).mono ?_; rintro e w4 ⟨rfl, hb4⟩
 have HT4 := zx.mk (zm HT3.out hb4)
 have HD4 := zx.mk (zm HD3.out hb4)
 have JL := zx.mk (HB3.out.trans (hb4.mono HB3.out.size))
 clear hb4
 have a4 : w4.cell? ⟨w.heap.size, 0, none⟩ = some (.int .i64 f) := (zy HT4.out 0).trans rfl
 have b4 : w4.cell? ⟨w.heap.size, 1, none⟩ = some (.int .i64 s) := (zy HT4.out 1).trans rfl
 have c4 : w4.cell? ⟨w.heap.size + 1, 0, none⟩ = some (.func (.func 35) #[] #[]) := (zy HD4.out 0).trans rfl
 clear a2 b2 c2 a3 b3 c3 c4
 go_wp2_with fail
 refine (callsIn_wide.1 (zkG Fence.wide 5 trivial rfl Ap pairs.length cp _)).mono ?_; rintro e w5 ⟨rfl, rfl⟩
 go_wp2_with fail
 obtain ⟨W0, hW0⟩ : ∃ W0, (((w4.alloc (.map #[] 0)).alloc (.cells #[.map (some w4.heap.size)] 82)).alloc (.cells #[.slice Ap pairs.length cp] 28)) = W0 := ⟨_, rfl⟩
 have hz0 : W0.heap.size = w4.heap.size + 1 + 1 + 1 := by rw [← hW0]; simp
 have hm0 : SMap Tryz.prog 9 9 W0 w4.heap.size 0 (fun _ => none) := by
  rw [← hW0]
  have h := SMap.made (P := Tryz.prog) (k := 9) (e := 9) w4
  exact (h.kept (World.grownBy_alloc _ _ none) (by simp)).kept (World.grownBy_alloc _ _ none) (by simp)
 have hc0 : Boxed W0 (w4.heap.size + 1) 82 (.map (some w4.heap.size)) := by
  rw [← hW0]
  have h := Boxed.new (w4.alloc (.map #[] 0)) 82 (.map (some w4.heap.size))
  rw [World.size_alloc] at h
  exact h.alloc _
 have hs0 : Boxed W0 (w4.heap.size + 1 + 1) 28 (.slice Ap pairs.length cp) := by
  rw [← hW0]
  have h := Boxed.new ((w4.alloc (.map #[] 0)).alloc (.cells #[.map (some w4.heap.size)] 82)) 28 (.slice Ap pairs.length cp)
  rw [World.size_alloc, World.size_alloc] at h
  exact h
 have zqm : Below w4.heap.size w4 W0 := by rw [← hW0]; exact (((Below.refl _ _).alloc (Nat.le_refl _) _).alloc (by simp) _).alloc (by simp; omega) _
 rw [hW0]
 clear hW0
 have hle := JL.out.size
 have hlt1 : w.heap.size + 1 < w4.heap.size := kY HD4.out
 obtain ⟨zs, hzs⟩ : ∃ zs : List PS, zs.map (·.1) = pairs := ⟨pairs.attachWith _ hps, by simp⟩
 have hzl : zs.length = pairs.length := by rw [← hzs, List.length_map]
 generalize hm : w4.heap.size = m at hz0 hm0 hc0 hs0 zqm hle hlt1 ⊢
 have hCz : Kd.C YG w Ap zs.length (zs.map (·.1)) := by rw [hzs, hzl]; exact HP.out
 have hlz : zs.length ≤ 1000000000 := by omega
 have zYt : zs.length ≤ 100 := by omega
 have HZ := zx.mk hzs
 rw [← hzl] at hs0
 clear hzl
 have hw0 : Below w.heap.size w W0 := JL.out.trans (zqm.mono hle)
 refine (wpIn_wide (n := 12)).1 ?_
 refine dH rfl (by omega) (gf := 104) (lb := #[.pointer (some ⟨m + 1 + 1, 0, none⟩)]) rfl trivial (enters_of Tryz.func104 (by kernel_rfl) rfl)
  (zjO Fence.wide (12 - 1) trivial rfl (by omega) (m + 1 + 1) Ap cp zs hlz w W0 hCz hw0 hs0) (by omega) aU (zkF (by omega) (by omega)) (fun _ => rfl)
  (fun pre W => U2 m W0.heap.size w4 pre W) (fun _ _ => False) (zj6 m _ w4 (by omega) (by omega)) (fun _ _ _ _ hs _ _ => hs) (zj7 m _ w4 (by omega)) (fun _ _ _ hs => hs) ⟨hm0, hc0, zqm, Nat.le_refl _⟩
  (fun x a' W => ∃ gx, W0.heap.size ≤ gx ∧ W.heap[gx]? = some (.cells #[.string x.2.1.f0, .string x.2.1.f1] 80 (0, 0)) ∧ a' = { tmps := #[Value.slice Af l.length cf, Value.agg #[Value.int .i64 f, Value.int .i64 s, Value.bool zP, Value.bool za], Value.slice Ac chars.length cc, Value.slice Ap pairs.length cp, undef, Value.pointer (some ⟨w.heap.size, 0, none⟩), undef, undef, Value.slice none 0 0, Value.slice none 0 0, Value.int .i64 0, Value.pointer (some ⟨w.heap.size + 1, 0, none⟩), Value.pointer (some ⟨m + 1, 0, none⟩), undef, Value.pointer (some ⟨gx, 0, none⟩), undef, undef, undef, undef, undef, undef, Value.bool false, Value.slice Af l.length cf, Value.bool false, Value.pointer (some ⟨w.heap.size, 0, none⟩), Value.int .i64 f, Value.bool false, Value.bool false, Value.pointer (some ⟨w.heap.size, 0, none⟩), Value.int .i64 f, Value.slice Af l.length cf, Value.int .i64 (l.length : Int), Value.bool false, Value.bool false, Value.bool false, Value.pointer (some ⟨w.heap.size, 1, none⟩), Value.int .i64 s, Value.bool false, Value.bool false, Value.bool false, Value.pointer (some ⟨w.heap.size, 1, none⟩), Value.int .i64 s, Value.bool false, Value.bool false, Value.slice Ac chars.length cc, Value.int .i64 (chars.length : Int), Value.bool false, Value.bool false, Value.slice Ap pairs.length cp, Value.int .i64 (pairs.length : Int), Value.bool false, Value.bool false, Value.slice Ac chars.length cc, Value.func (.func 35) #[] #[], Value.bool false, Value.slice Ap pairs.length cp, Value.func (.func 42) #[] #[Value.pointer (some ⟨w.heap.size + 1, 0, none⟩)], Value.bool false, Value.map (some m), Value.slice Ap pairs.length cp, Value.func (.func 104) #[] #[Value.pointer (some ⟨m + 1 + 1, 0, none⟩)], Value.int .i64 (x.1 : Int), Value.agg #[.string x.2.1.f0, .string x.2.1.f1], undef, undef, undef, undef, undef, undef, undef, undef, undef, undef, undef, undef, undef, undef, undef, undef, undef, undef, undef, undef, undef, undef, undef, undef, undef, undef, undef, undef, undef, undef, undef, undef, undef, undef, undef, undef, undef, undef, undef, undef, undef, undef, undef, undef, undef, undef, undef, undef, undef, undef, undef, undef, undef, undef, undef, undef, undef, undef, undef, undef, undef, undef, undef, undef], defers := [] })
  (fun x a' => by rintro _ A B row ⟨gx, h1, h2, h3⟩ hg hr; exact ⟨gx, h1, zkC h2 hg (fun r e => (hr r e).2), h3⟩) ?assign ?body ?done ?stop
 case assign =>
  intro l_ pre x W K hi hK
  unfold dO
  gi_wp2
  refine hK _ _ ((KeepsOthers.alloc W _).from _) ⟨(Below.refl _ _).alloc (by have := hi.2.2.2; omega) _, (Below.heap_alloc _ _ _ (by have := hi.2.2.2; omega))⟩ (zql hi _) ⟨W.heap.size, hi.2.2.2, kH W _, rfl⟩
 case body =>
  rintro l_ pre x a' W hl_ ⟨r, hrec⟩ hI ⟨gx, hgx, hbx, rfl⟩ hlen
  have q0 : W.cell? ⟨gx, 0, none⟩ = some (.string x.2.1.f0) := (zy hbx 0).trans rfl
  have q1 : W.cell? ⟨gx, 1, none⟩ = some (.string x.2.1.f1) := (zy hbx 1).trans rfl
  have q2 : W.cell? ⟨m + 1, 0, none⟩ = some (.map (some m)) := hI.2.1.cell
  obtain ⟨w', hrun, hm', hg'⟩ := hI.1.put (t := 82) Tryz.underlying9 Tryz.underlying82 Tryz.underlying9 (by unfold maxLen; omega) x.2.1.f0 x.2.1.f1 x.2.2.1 x.2.2.2
  have HI := Lib.hid hI
  have HM := Lib.hid hm'
  have HG' := Lib.hid hg'
  clear hI hm' hg' hrec hbx
  gi_wp2
  have hsz := HI.out.2.2.2
  exact ⟨KeepsFrom.of_grownBy HG'.out (fun j e => by cases e; omega), ⟨below_grown HG'.out (by omega) (by omega), HG'.out.block _ (by omega) (fun e => by injection e; omega)⟩, zj8 HI.out HM.out HG'.out⟩
 case stop =>
  rintro D pre W hD hS hX hK
  exact hX.elim
 case done =>
  rintro D ys W hD rfl hI hK
  obtain ⟨iM, iC, iW, iS⟩ := hI
  have iW4 : Below w4.heap.size w4 W := by rw [hm]; exact iW
  have hT := zm HT4.out iW4
  have hwW : Below w.heap.size w W := JL.out.trans (iW4.mono JL.out.size)
  have y0 : W.cell? ⟨w.heap.size, 0, none⟩ = some (.int .i64 f) := (zy hT 0).trans rfl
  have y1 : W.cell? ⟨w.heap.size, 1, none⟩ = some (.int .i64 s) := (zy hT 1).trans rfl
  have y2 : W.cell? ⟨w.heap.size, 2, none⟩ = some (.bool zP) := (zy hT 2).trans rfl
  have y3 : W.cell? ⟨w.heap.size, 3, none⟩ = some (.bool za) := (zy hT 3).trans rfl
  go_upto_block 3 with (fail)
  clear y0 y1 y2 y3
  have hDl := (Array.getElem?_eq_some_iff.1 hK).1
  obtain ⟨g, hg⟩ : ∃ g, W.heap.size = g := ⟨_, rfl⟩
  obtain ⟨W9, hW9⟩ : ∃ W9, W.alloc (.cells #[.slice Af l.length cf, .int .i64 f, .int .i64 s, .bool zP, .bool za, .slice none 0 0, .slice none 0 0] 90) = W9 := ⟨_, rfl⟩
  have S9 : Xy (g + 1) g W9 Af cf l f s zP za ([], []) := by
   rw [← hW9, ← hg]
   exact ⟨_, _, kH W _, Kd.wu _ _ _ _ _, Kd.wu _ _ _ _ _⟩
  have hz9 : W9.heap.size = g + 1 := by rw [← hW9, ← hg]; simp
  have b9 : Below g W W9 := by rw [← hW9, ← hg]; exact (Below.refl _ _).alloc (Nat.le_refl _) _
  try rw [hW9]
  try rw [hg]
  have hgm : m + 1 < g := by omega
  have hDg : D < g := by omega
  have T9 : W9.heap[w.heap.size]? = some (.cells #[.int .i64 f, .int .i64 s, .bool zP, .bool za] 26 (0, 0)) := (b9.block _ (by omega)).trans hT
  have M9 := Pz (b9.block m (by omega)) iM
  have C9 : Boxed W9 (m + 1) 82 (.map (some m)) := (b9.block _ (by omega)).trans iC
  have K9 : W9.heap[D]? = some (.deferred (some [])) := (b9.block _ (by omega)).trans hK
  have hw9 : Below w.heap.size w W9 := hwW.trans (b9.mono (by omega))
  have hbl : wD zs zs.length = wD zs zs.length := rfl
  generalize hFm : Vm (wD zs zs.length) = Fm at M9
  generalize (wD zs zs.length).length = nm at M9
  have hturn : ∀ c, Z9 Fm c = aI pairs c := fun c => by
   rw [← hFm]
   unfold Z9 aI
   rw [zjM, HZ.out]
   cases pairs.find? (fun p => decide (p.f0 = c)) <;> rfl
  obtain ⟨A, hA⟩ : ∃ A, chars.map (Z9 Fm) = A := ⟨_, rfl⟩
  have hAl : A.length = chars.length := by rw [← hA, List.length_map]
  have hAg : ∀ (i : Nat) (h : i < A.length) (h' : i < chars.length), A[i] = Z9 Fm chars[i] := fun i h h' => by subst hA; simp
  have hfin : (Zz (fjoin (vw l f)) zP A 0).foldl (kr l f s za) ([], []) = jS l f s za (Yp l f zP chars pairs) := by
   unfold jS Yp Zz
   rw [List.drop_zero, ← hA, show Z9 Fm = aI pairs from funext hturn]
  generalize zyE : jS l f s za (Yp l f zP chars pairs) = FIN at hfin
  have hcs : ∀ c ∈ chars, c.size ≤ maxLen := fun c hc => by
   have h := List.any_eq_false.1 h4 c hc
   simp only [Bool.not_eq_true] at h
   have := Vo h
   unfold maxLen
   omega
  have hv : ∀ x ∈ l, vY x = true := fun x hx => by
   have h := List.any_eq_false.1 h1 x hx
   simpa using h
  have hf0 : 0 ≤ f := by omega
  have hf1 : f < (l.length : Int) := by omega
  have zQp : 1 ≤ s := by omega
  have zQr : s ≤ 1000 := by omega
  have hx := XU hv hf0 hf1
  have hzx := XA hx
  obtain ⟨ad, A3, c3, A4, c4, A5, c5, e, x0, x1, x2, x3, x4, x5, g3, q3, g4, q4, g5, q5⟩ := XL HC.out f hf0 (by omega)
  subst e
  have e : xU l f = vw l f := rfl
  rw [e] at x0 x1 x2 x3 x4 x5 g3 q3 g4 q4 g5 q5
  clear e
  generalize vw l f = x at x0 x1 x2 x3 x4 x5 g3 q3 g4 q4 g5 q5 hx hzx hfin
  have HJN := zx.mk (fun (a b : ByteArray) (V : World) (h : Below w.heap.size w V) => zjH x.f0 x.f1 x.f2 A3 c3 x.f3 A4 c4 x.f4 A5 c5 x.f5 a b V (HG.out.under h) (Kd.zC q3 h) g3 (Kd.zC q4 h) g4 (Kd.zC q5 h) g5 (by omega) (by omega) (by omega))
  have HFT := zx.mk (fun (V : World) (h : Below w.heap.size w V) => (show V.cell? (ad.add (f.toNat * 6)) = some (.string x.f0) ∧ V.cell? ⟨(ad.add (f.toNat * 6)).block, (ad.add (f.toNat * 6)).off + 1, none⟩ = some (.bool x.f1) ∧ V.cell? ⟨(ad.add (f.toNat * 6)).block, (ad.add (f.toNat * 6)).off + 2, none⟩ = some (.int .i64 x.f2) ∧ V.cell? ⟨(ad.add (f.toNat * 6)).block, (ad.add (f.toNat * 6)).off + 3, none⟩ = some (.slice A3 x.f3.length c3) ∧ V.cell? ⟨(ad.add (f.toNat * 6)).block, (ad.add (f.toNat * 6)).off + 4, none⟩ = some (.slice A4 x.f4.length c4) ∧ V.cell? ⟨(ad.add (f.toNat * 6)).block, (ad.add (f.toNat * 6)).off + 5, none⟩ = some (.slice A5 x.f5.length c5) from ⟨(h.cell (World.block_lt_of_cell? w _ x0)).trans x0, (h.cell (World.block_lt_of_cell? w _ x1)).trans x1, (h.cell (World.block_lt_of_cell? w _ x2)).trans x2, (h.cell (World.block_lt_of_cell? w _ x3)).trans x3, (h.cell (World.block_lt_of_cell? w _ x4)).trans x4, (h.cell (World.block_lt_of_cell? w _ x5)).trans x5⟩))
  have zQs := zx.mk (fun (st : List vO × List ByteArray) (n : ByteArray) (V : World) (h2 : g + 1 ≤ V.heap.size) (h3 : Below w.heap.size w V) (h4 : st.1.length ≤ 1000000) (h5 : st.2.length ≤ 1000000) (h6 : Xy (g + 1) g V (some ad) cf l f s zP za st) => zkH w (g + 1) g (some ad) cf l f s zP za st n V HG.out HC.out hl hf0 hf1 hv (Nat.lt_succ_self _) h2 (by omega) h3 h4 h5 zQp zQr h6)
  have HT9 := zx.mk T9
  have HM9 := zx.mk M9
  have HC9 := zx.mk C9
  have HK9 := zx.mk K9
  have HW9 := zx.mk hw9
  have HAG := zx.mk hAg
  have HCS := zx.mk hcs
  have zyF := zx.mk zyE
  have HFI := zx.mk hfin
  have HS9 := zx.mk S9
  clear hT iM iC iW iS iW4 hwW T9 M9 C9 K9 hw9 S9 x0 x1 x2 x3 x4 x5 q3 q4 q5 g3 g4 g5 hx hzx hcs hAg hA hturn hFm hfin zyE hv hK b9 hW9 hbl hm0 hc0 hs0 hCz hw0 zqm h1 h4 h5 hps hzs hm
  go_wp2_with fail
  go_loopw [17] (fun i V => ∃ (k : Nat) (st : List vO × List ByteArray), i = .int .i64 (k : Int) ∧ k ≤ chars.length ∧ st.1.length ≤ 2 * k ∧ st.2.length ≤ k ∧ zx ((Zz (fjoin x) zP A k).foldl (kr l f s za) st = FIN) ∧ zx (Xy (g + 1) g V (some ad) cf l f s zP za st) ∧ zx (vC (g + 1) g W9 V)) (fun i _ => chars.length - (intOf i).toNat)
  case atStart => exact ⟨0, ([], []), rfl, Nat.zero_le _, Nat.le_refl _, Nat.le_refl _, HFI, HS9, ⟨vC.refl _ _ _⟩⟩
  case round =>
   obtain ⟨k, st, rfl, hk, zYu, zYA, JB, HS2, HL2⟩ := hrel
   obtain ⟨W2, hW2⟩ : ∃ W2 : World, W2 = wr := ⟨_, rfl⟩
   subst hW2
   have hwr : Below w.heap.size w W2 := HW9.out.trans (Uo HL2.out (by omega) (by omega))
   have hbr : g + 1 ≤ W2.heap.size := by have := HL2.out.1.size; omega
   by_cases hlt : k < chars.length
   ·obtain ⟨cd, e, c0⟩ := Kd.wQ (Kd.zC HS.out hwr) (k : Int) (by omega) (by omega)
    subst e
    have e : jH ByteArray.empty chars (k : Int) = chars[k] := by simp [jH, List.getD_eq_getElem?_getD, hlt]
    rw [e, Int.toNat_natCast] at c0
    have hcs := HCS.out _ (List.getElem_mem hlt)
    have hak := HAG.out k (by omega) hlt
    generalize chars[k] = ch at c0 hcs hak
    have hcell : Boxed W2 (m + 1) 82 (.map (some m)) := (HL2.out.2.2 _ (by omega) (by omega)).trans HC9.out
    have hmap := Pz (HL2.out.2.2 m (by omega) (by omega)) HM9.out
    have htn := JH (m + 1) m nm Fm ch W2 hcs hcell.cell hmap
    have wI := (HL2.out.2.2 w.heap.size (by omega) (by omega)).trans HT9.out
    have q1 : (k : Int) < (chars.length : Int) := by omega
    have q0 : (0 : Int) ≤ (k : Int) := by omega
    have q3 : ((k : Int)).toNat = k := Int.toNat_natCast k
    have HTN := zx.mk htn
    have mI := zx.mk hwr
    have HAK := zx.mk hak
    have HMP := zx.mk hmap
    have HCL := zx.mk hcell
    have HSY := zx.mk wI
    clear htn hwr hak hmap hcell wI hcs e
    go_upto_block 5 with (refine HTN.out.mono ?_; rintro e w8 ⟨rfl, rfl⟩)
    clear c0
    go_cut [17, 18] from 73 to 118 (fun i c V => ∃ (j : Nat) (cn : ByteArray), i = .int .i64 (j : Int) ∧ c = .string cn ∧ k ≤ j ∧ j < chars.length ∧ zx (Zz (fjoin x) zP A k = cn :: Zz (fjoin x) zP A (j + 1)) ∧ zx (Below W2.heap.size W2 V))
    case first =>
     go_wp2_with fail
     go_loopw [17, 18] (fun i c V => ∃ (j : Nat) (cn : ByteArray), i = .int .i64 (j : Int) ∧ c = .string cn ∧ k ≤ j ∧ j < chars.length ∧ zx (zP = true → ∃ h : k < A.length, Yo (fjoin x) A[k] (A.drop (k + 1)) = Yo (fjoin x) cn (A.drop (j + 1))) ∧ zx (zP = false → j = k ∧ ∃ h : k < A.length, A[k] = cn) ∧ zx (Below W2.heap.size W2 V)) (fun i _ _ => chars.length - (intOf i).toNat)
     case atStart => exact ⟨k, Z9 Fm ch, rfl, rfl, Nat.le_refl _, hlt, ⟨fun _ => ⟨by omega, by rw [HAK.out]⟩⟩, ⟨fun _ => ⟨rfl, by omega, HAK.out⟩⟩, ⟨Below.refl _ _⟩⟩
     case round =>
      obtain ⟨j, cn, rfl, rfl, hkj, hj, HE, HN, HB3⟩ := hrel
      obtain ⟨W3, hW3⟩ : ∃ W3 : World, W3 = wr := ⟨_, rfl⟩
      subst hW3
      have zqn := zm HSY.out HB3.out
      have z2 : W3.cell? ⟨w.heap.size, 2, none⟩ = some (.bool zP) := (zy zqn 2).trans rfl
      have zYB := hAl
      cases zP with
      | false =>
       obtain ⟨rfl, hka, hc⟩ := HN.out rfl
       have Qs := zx.mk (show Zz (fjoin x) false A j = cn :: Zz (fjoin x) false A (j + 1) by rw [tK _ A j hka, hc])
       clear hc
       go_wp2_with fail
       go_meet
       exact ⟨j, cn, rfl, rfl, Nat.le_refl _, hj, Qs, HB3⟩
      | true =>
      obtain ⟨hka, hea⟩ := HE.out rfl
      by_cases hj1 : j + 1 < chars.length
      ·have hjA : j + 1 < A.length := by omega
       have hw3 : Below w.heap.size w W3 := mI.out.trans (HB3.out.mono mI.out.size)
       obtain ⟨cd', e, c0⟩ := Kd.wQ (Kd.zC HS.out hw3) (((j + 1 : Nat) : Int)) (by omega) (by omega)
       cases e
       have e : jH ByteArray.empty chars ((j + 1 : Nat) : Int) = chars[j + 1] := by simp [jH, List.getD_eq_getElem?_getD, hj1]
       rw [e, Int.toNat_natCast, show cd.add (j + 1) = ⟨cd.block, cd.off + (j + 1), none⟩ from by simp [Addr.add]] at c0
       have hcs2 := HCS.out _ (List.getElem_mem hj1)
       have zvz := HAG.out (j + 1) hjA hj1
       generalize chars[j + 1] = dK at c0 hcs2 zvz
       have zQt := zx.mk (fun (V : World) (h : Below W3.heap.size W3 V) => JH (m + 1) m nm Fm dK V hcs2 (zm (zm HCL.out HB3.out) h |> Boxed.cell) (Pz (((HB3.out.trans (h.mono HB3.out.size)).block m (by have := HMP.out.lt; omega))) HMP.out))
       have r1 : (j : Int) + 1 < (chars.length : Int) := by omega
       have r0 : (0 : Int) ≤ (j : Int) + 1 := by omega
       have r4 : decide ((j : Int) + 1 < (chars.length : Int)) = true := decide_eq_true r1
       have HJ := zx.mk hj
       have HJ1 := zx.mk hj1
       have HJA := zx.mk hjA
       have z0 : W3.cell? ⟨w.heap.size, 0, none⟩ = some (.int .i64 f) := (zy zqn 0).trans rfl
       have HC0 := zx.mk c0
       have HZ0 := zx.mk z0
       have HW3 := zx.mk hw3
       have HEA := zx.mk hea
       have zQu := zx.mk zvz
       have HHK := zx.mk hka
       clear zqn z0 c0 hw3 hea zvz hcs2 e hj hj1
       go_wp2_with fail
       clear z2 r4
       have r5 : wrap64 ((j : Int) + 1) = (j : Int) + 1 := ZG (by omega) (by omega)
       have VK := zx.mk (fun (V : World) (h : Below W3.heap.size W3 V) => (show V.cell? ⟨w.heap.size, 0, none⟩ = some (.int .i64 f) ∧ V.cell? ⟨cd.block, cd.off + (j + 1), none⟩ = some (.string dK) ∧ (V.cell? (ad.add (f.toNat * 6)) = some (.string x.f0) ∧ V.cell? ⟨(ad.add (f.toNat * 6)).block, (ad.add (f.toNat * 6)).off + 1, none⟩ = some (.bool x.f1) ∧ V.cell? ⟨(ad.add (f.toNat * 6)).block, (ad.add (f.toNat * 6)).off + 2, none⟩ = some (.int .i64 x.f2) ∧ V.cell? ⟨(ad.add (f.toNat * 6)).block, (ad.add (f.toNat * 6)).off + 3, none⟩ = some (.slice A3 x.f3.length c3) ∧ V.cell? ⟨(ad.add (f.toNat * 6)).block, (ad.add (f.toNat * 6)).off + 4, none⟩ = some (.slice A4 x.f4.length c4) ∧ V.cell? ⟨(ad.add (f.toNat * 6)).block, (ad.add (f.toNat * 6)).off + 5, none⟩ = some (.slice A5 x.f5.length c5)) from
        ⟨(h.cell (World.block_lt_of_cell? _ _ HZ0.out)).trans HZ0.out, (h.cell (World.block_lt_of_cell? _ _ HC0.out)).trans HC0.out, HFT.out V (HW3.out.trans (h.mono HW3.out.size))⟩))
       refine fZ ?_
       refine RW.rS (n := 19) VK boxes.zwG boxes.zyC (by kernel_rfl) rfl rfl (fun w5 H5 T U h => ?_)
       refine RW.rP 0 (some 95) T ?_
       refine RW.rP 1 (some 96) T ?_
       refine RW.rT 2 (some 97) T U h ?_
       refine RW.rP 3 (some 98) T ?_
       refine RW.rT 4 (some 99) T U h ?_
       refine RW.rP 5 (some 100) T ?_
       refine RW.rP 6 (some 101) T ?_
       refine RW.rP 7 (some 102) T ?_
       refine RW.rP 8 (some 103) T ?_
       refine RW.rP 9 (some 104) T ?_
       refine RW.rP 10 (some 105) T ?_
       refine RW.rT 11 (some 106) T U h ?_
       clear h
       refine Ye (i := 12) (N := some 107) #[true, true, true, true, true, true, true, true, true, true, true, true, true, false, false, false, false, false, false] rfl rfl (kL T.out (by kernel_rfl)) (by decide) (fun K hK => ?_)
       refine call_ 44 #[.string dK, .pointer (some ⟨m + 1, 0, none⟩)] (by rfl) rfl (by have he := pR Tryz.func44 (by kernel_rfl) rfl #[.string dK, .pointer (some ⟨m + 1, 0, none⟩)] w5; go_simp) ?_
       refine (zQt.out w5 H5.out).mono ?_
       rintro e w6 ⟨rfl, rfl⟩
       refine ⟨_, rfl, ?_⟩
       refine hK.out _ _ (VK.out _ H5.out) (fun h => ?_)
       clear hK K h
       refine wB (a' := ?_) ?_ ?_
       rotate_left
       ·show Act.put _ (some 107) _ = _
        simp only [Act.put, List.setIfInBounds_toArray, List.set_cons_zero, List.set_cons_succ]
        rfl
       have hjn := HJN.out cn (Z9 Fm dK) w5 (HW3.out.trans (H5.out.mono HW3.out.size))
       have hjv : Uz (xM x.f0 x.f2 x.f3 x.f4 x.f5) x.f4 cn (Z9 Fm dK) = fjoin x cn (Z9 Fm dK) := rfl
       rw [hjv] at hjn
       have hgo := @zkI (fjoin x) A j cn hjA
       have hstop := @zxH (fjoin x) A j cn hjA
       rw [zQu.out] at hgo hstop
       generalize fjoin x cn (Z9 Fm dK) = jv at hjn hgo hstop
       obtain ⟨j1, j2⟩ := jv
       dsimp only at hgo hstop
       have HGO := zx.mk hgo
       have HST := zx.mk hstop
       clear hjv hgo hstop
       refine RW.rC 13 (some 108) T VK H5 Tryz.func45 hjn (fun w7 H7 h => ?_) (by kernel_rfl)
       refine RW.rP 14 (some 94) T ?_
       refine RW.rP 15 (some 109) T ?_
       refine RW.rP 16 (some 110) T ?_
       refine RW.rP 17 (some 19) T ?_
       refine RW.rP 18 (some 20) T ?_
       refine wX (jA T.out (by kernel_rfl)) ?_
       clear h hjn r5
       have HB7 := zx.mk (HB3.out.trans (H7.out.mono HB3.out.size))
       cases j2 with
       | false =>
        have Qs := zx.mk (JI (fjoin x) A k j cn HHK.out (HEA.out.trans (HST.out rfl)))
        go_wp2_with fail
        go_meet
        exact ⟨j, cn, rfl, rfl, hkj, HJ.out, Qs, HB7⟩
       | true =>
        have Qs := zx.mk (HEA.out.trans (HGO.out rfl))
        go_wp2_with fail
        go_roundw
        case rel => exact ⟨j + 1, j1, by first | rfl | go_num, rfl, by omega, HJ1.out, ⟨fun _ => ⟨HHK.out, Qs.out⟩⟩, ⟨fun h => by cases h⟩, HB7⟩
        case measure => (have := HJ1.out; simp [intOf]; omega)
      ·have Qs := zx.mk (JI (fjoin x) A k j cn hka (hea.trans (zj9 _ A j cn (by omega))))
       have r4 : decide ((j : Int) + 1 < (chars.length : Int)) = false := decide_eq_false (by omega)
       have hjb : (j : Int) ≤ 1000000 := by omega
       have HJ := zx.mk hj
       clear hea zqn hj1 hj
       go_wp2_with fail
       go_meet
       exact ⟨j, cn, rfl, rfl, hkj, HJ.out, Qs, HB3⟩
    case rest =>
     obtain ⟨j, cn, e1, e2, hkj, hj, Qs, HB3⟩ := hcut
     subst e1 e2
     obtain ⟨vo_, vl_, mM⟩ := HS2.out
     have hput := zQs.out st cn wc (Nat.le_trans hbr HB3.out.size) (mI.out.trans (HB3.out.mono mI.out.size)) (by omega) (by omega) ⟨vo_, vl_, mM.below HB3.out⟩
     have hlen := mH l f s za st cn
     have hfl := JB.out
     rw [Qs.out, List.foldl_cons] at hfl
     generalize kr l f s za st cn = st2 at hput hlen hfl
     have HFL := zx.mk hfl
     have HLK := zx.mk (HL2.out.trans (vC.below (B := g) HB3.out hbr))
     clear hfl mM
     go_wp2_with fail
     refine hput.mono ?_; rintro e w8 ⟨⟨v, rfl⟩, hS8, hL8⟩
     have HS8 := zx.mk hS8
     have HL8 := zx.mk (HLK.out.trans hL8)
     clear hput hS8 hL8
     go_wp2_with fail
     go_roundw
     case rel => exact ⟨j + 1, st2, by first | rfl | go_num, by omega, by omega, by omega, HFL, HS8, HL8⟩
     case measure => simp [intOf]; omega
   ·obtain rfl : k = chars.length := by omega
    have hfe : st = FIN := by
     have h := JB.out
     unfold Zz at h
     rw [List.drop_eq_nil_of_le (by omega), Qr] at h
     have h2 : (if zP = true then ([] : List ByteArray) else []) = [] := by split <;> rfl
     rw [h2] at h
     exact h
    subst hfe
    obtain ⟨vo, vl, mM⟩ := HS2.out
    have t5 : W2.cell? ⟨g, 5, none⟩ = some vo := (zy mM.1 5).trans rfl
    have t6 : W2.cell? ⟨g, 6, none⟩ = some vl := (zy mM.1 6).trans rfl
    have HSA := zx.mk mM
    have mI := zx.mk hwr
    have q1 : decide ((chars.length : Int) < (chars.length : Int)) = false := decide_eq_false (by omega)
    clear mM hwr
    have VK := zx.mk (fun (V : World) (h : Below W2.heap.size W2 V) => (show V.cell? ⟨g, 5, none⟩ = some vo ∧ V.cell? ⟨g, 6, none⟩ = some vl from ⟨(h.cell (World.block_lt_of_cell? _ _ t5)).trans t5, (h.cell (World.block_lt_of_cell? _ _ t6)).trans t6⟩))
    clear t5 t6
    go_wp2_with fail
    refine fZ ?_
    refine RW.rS (n := 11) VK boxes.zwH boxes.zyD (by kernel_rfl) rfl rfl (fun w5 H5 T U h => ?_)
    refine RW.rP 0 (some 119) T ?_
    refine RW.rP 1 (some 120) T ?_
    refine RW.rP 2 (some 121) T ?_
    refine RW.rT 3 (some 122) T U h ?_
    refine RW.rP 4 (some 123) T ?_
    refine RW.rP 5 (some 124) T ?_
    refine RW.rP 6 (some 125) T ?_
    refine RW.rT 7 (some 126) T U h ?_
    refine RW.rP 8 (some 8) T ?_
    refine RW.rP 9 (some 9) T ?_
    refine RW.rP 10 (some 10) T ?_
    refine wX (jA T.out (by kernel_rfl)) ?_
    clear h
    have hK5 : w5.heap[D]? = some (.deferred (some [])) := (H5.out.block D (by omega)).trans ((HL2.out.2.2 D (by omega) (by omega)).trans HK9.out)
    have S5 := HSA.out.below H5.out
    have hw5 := mI.out.trans (H5.out.mono mI.out.size)
    clear VK
    go_wp2_with fail
    refine ⟨by simp, .inl ⟨_, _, rfl, run_takeDeferred hK5, ?_⟩⟩
    refine ⟨_, dI rfl rfl rfl, vo, vl, rfl, ?_, ?_, ?_⟩
    ·rw [zyF.out]
     exact Kd.zyQ (Kd.vv (aM S5.2.1 (grownBy_putObj' _ D (.deferred none)) (fun r er => by cases er; exact ⟨_, hK5, rfl⟩)) (by omega))
    ·rw [zyF.out]
     exact Kd.vv (aM S5.2.2 (grownBy_putObj' _ D (.deferred none)) (fun r er => by cases er; exact ⟨_, hK5, rfl⟩)) (by omega)
    ·exact hw5.trans (belowK_b (w := w) (Nat.le_refl _) _ D _ _ (by omega) hK5 rfl rfl)
end Go.Proofs.YtggifbbiiickmaaGreatDoor
namespace Go.Proofs.YtggifbbiiickmaaGreatDoor
open Go.RowKit Go.Proofs.zk.zK Go.Proofs.zk.yQ Go.Proofs.zk.yX Go.Proofs.YtggifbbiiickmaaGreatDoor.PX
set_option linter.unusedSimpArgs false
set_option linter.unusedVariables false
def okF (x : y8) : Bool := decide (x.f3.length ≤ 1000000000 ∧ x.f4.length ≤ 1000000000 ∧ x.f5.length ≤ 1000000000)
def yE.f (l0 : List uR) (xE xG : Int) (xO xP : Bool) (l2 : List ByteArray) (l3 : List uI) : Option (List jR × List ByteArray × Int) :=
 if l0.all okF = true ∧ l0.length ≤ 1000000000 ∧ l2.length ≤ 1000000000 ∧ l3.length ≤ 1000000000 then some (JF l0 xE xG xO xP l2 l3) else none
theorem yE.calls (A0 : Option Addr) (c0 : Nat) (l0 : List uR) (xE xG : Int) (xO xP : Bool) (A2 : Option Addr) (c2 : Nat) (l2 : List ByteArray) (A3 : Option Addr) (c3 : Nat) (l3 : List uI) (r1 : List jR) (r2 : List ByteArray) (r3 : Int) (w : World) (hr0 : Kd.C jY w A0 l0.length l0) (hc0 : l0.length ≤ c0) (hr2 : Kd.C Kd.string w A2 l2.length l2) (hc2 : l2.length ≤ c2) (hr3 : Kd.C YG w A3 l3.length l3) (hc3 : l3.length ≤ c3) (hG : GW w) (h : yE.f l0 xE xG xO xP l2 l3 = some (r1, r2, r3)) :
  Calls Tryz.prog 13 #[.slice A0 l0.length c0, .agg #[.int .i64 xE, .int .i64 xG, .bool xO, .bool xP], .slice A2 l2.length c2, .slice A3 l3.length c3] w fun e w' => ∃ Ve v1_ : Value, e = .returned (.tuple #[Ve, v1_, .int .i64 r3]) ∧ Kd.S kE 53 w' w.heap.size (fun _ => True) Ve r1 ∧ Kd.R Kd.string 9 w' w.heap.size (fun _ => True) v1_ r2 ∧ Below w.heap.size w w' := by
 unfold yE.f at h
 split at h
 ·rename_i hl
  have hz : ∀ x ∈ l0, x.f3.length ≤ 1000000000 ∧ x.f4.length ≤ 1000000000 ∧ x.f5.length ≤ 1000000000 := fun x hx => of_decide_eq_true (List.all_eq_true.1 hl.1 x hx)
  have he := Option.some.inj h
  unfold JF at he
  cases hb : YS l0 xE xG l2 l3 with
  | true =>
   rw [hb, if_pos rfl] at he
   cases he
   exact (zj5 A0 c0 l0 xE xG xO xP A2 c2 l2 A3 c3 l3 w hG hr0 hz hl.2.1 hr2 hl.2.2.1 hr3 hl.2.2.2 hb).mono fun e w' ⟨h1, h2⟩ => ⟨_, _, h1, Kd.zwl _ _ _ _ _, Kd.wu _ _ _ _ _, h2⟩
  | false =>
   rw [hb, if_neg Bool.false_ne_true] at he
   cases he
   rw [Vj] at hb
   simp only [Bool.or_eq_false_iff, decide_eq_false_iff_not, Nat.not_lt] at hb
   exact zxI A0 c0 l0 xE xG xO xP A2 c2 l2 A3 c3 l3 w hG hr0 hz hl.2.1 hr2 hl.2.2.1 hr3 hl.2.2.2 hb.1.1.1.1 hb.1.1.1.2 hb.1.1.2.1 hb.1.1.2.2 hb.1.2 hb.2
 ·cases h
end Go.Proofs.YtggifbbiiickmaaGreatDoor
namespace Go.Proofs
end Go.Proofs
namespace Go.Proofs.YtggifbbiiickmaaGreatDoor
open Go.RowKit Go.Shelf Go.Sort Go.Proofs.zk.zK Go.Proofs.zk.yX Go.Proofs.YtggifbbiiickmaaGreatDoor.PX
theorem zvq (x : yB) : (kQ x).length = 2 := rfl
theorem zvx (x : yB) : ∀ v ∈ kQ x, v.oneCell' = true := by
 intro v hv
 simp only [kQ, List.mem_cons, List.mem_nil_iff, or_false] at hv
 rcases hv with rfl | rfl <;> rfl
theorem zyG {w : World} {g : Nat} {cur : Array Value} {e : TypeId} {F : Array Value} (hb : w.heap[g]? = some (.cells cur e (0, 0))) (ht : cur.toList.take F.size = F.toList) : Holds id w g 0 F := by
 intro j hj
 refine ⟨?_, by simp [World.frozen?, hb]⟩
 have h1 : (cur.toList.take F.size)[j]? = F.toList[j]? := by rw [ht]
 rw [List.getElem?_take_of_lt hj] at h1
 simp only [World.cell?, hb, Nat.zero_add]
 simp only [Option.isSome_none, Bool.false_eq_true, if_false]
 rw [← Array.getElem?_toList, h1]
 simp [hj]
theorem zwI {w : World} {g n : Nat} {os : Array Obj} {cur : Array Value} {e : TypeId} {fr : Nat × Nat} (d : Array Value) (hb : w.heap[g]? = some (.cells cur e fr)) :
  (Sort.grow (Sort.putRow id (Sort.ahead w n) g 0 d) os).heap[g]? = some (.cells (Sort.putCells id 0 d cur) e fr) := by
 have hg : g < w.heap.size := (Array.getElem?_eq_some_iff.1 hb).1
 rw [heap_grow_old _ _ (by simpa using hg)]
 simp [Sort.putRow, Sort.mapBlock, Sort.ahead, Array.getElem?_modify, hb, Sort.onCells]
theorem zyH {w : World} {g n : Nat} {os : Array Obj} (d : Array Value) : w.grownBy (Sort.grow (Sort.putRow id (Sort.ahead w n) g 0 d) os) (some g) := by
 refine ⟨rfl, rfl, rfl, by simp, fun k hk hne => ?_⟩
 rw [heap_grow_old _ _ (by simpa using hk)]
 have : g ≠ k := fun e => hne (by rw [e])
 simp [Sort.putRow, Sort.mapBlock, Sort.ahead, Array.getElem?_modify, this]
theorem zwL (cur : Array Value) (F : Array Value) (h : F.size ≤ cur.size) : (Sort.putCells id 0 F cur).toList.take F.size = F.toList := by
 apply List.ext_getElem?
 intro j
 by_cases hj : j < F.size
 ·rw [List.getElem?_take_of_lt hj, Array.getElem?_toList]
  simp [Sort.putCells, hj, show j < cur.size by omega]
 ·rw [List.getElem?_take_eq_none (by omega), List.getElem?_eq_none (by simp; omega)]
theorem flat_get (xs : List yB) (j : Nat) (hj : j < xs.length) : ((flatK kQ 2 xs.toArray).toList.drop (j * 2)).take 2 = kQ xs[j] := by
 have hsz : (flatK kQ 2 xs.toArray).toList.length = xs.length * 2 := by simp
 have key : ∀ t, t < xs.length * 2 → (flatK kQ 2 xs.toArray).toList[t]? = some ((kQ xs.toArray[t / 2]!)[t % 2]!) := by
  intro t ht
  have h := get_flatK kQ 2 xs.toArray t (by simpa using ht)
  rw [Array.getElem?_toList]
  rw [← h]
  simp [show t < xs.length * 2 by omega]
 apply List.ext_getElem?
 intro i
 rcases Nat.lt_or_ge i 2 with hi | hi
 ·rw [List.getElem?_take_of_lt hi, List.getElem?_drop, key _ (by omega)]
  have e1 : (j * 2 + i) / 2 = j := by omega
  have e2 : (j * 2 + i) % 2 = i := by omega
  rw [e1, e2]
  have e3 : xs.toArray[j]! = xs[j] := by simp [hj]
  rw [e3]
  rcases i with _ | _ | i
  ·rfl
  ·rfl
  ·omega
 ·rw [List.getElem?_take_eq_none hi, List.getElem?_eq_none (by simp [kQ]; omega)]
theorem zqo {w : World} {b : Nat} {ok : Nat → Prop} {xs : List yB} {inner : List Value} (h : yD (xB.M w b ok) 2 xs inner) : inner = (flatK kQ 2 xs.toArray).toList := by
 have hsz : (flatK kQ 2 xs.toArray).toList.length = xs.length * 2 := by simp
 apply List.ext_getElem?
 intro t
 rcases Nat.lt_or_ge t (xs.length * 2) with ht | ht
 ·have hj : t / 2 < xs.length := by omega
  have h1 := h.2 (t / 2) _ (List.getElem?_eq_getElem hj)
  have h2 : (inner.drop (t / 2 * 2)).take 2 = kQ xs[t / 2] := zqX h1
  have h3 := flat_get xs (t / 2) hj
  have h4 := h2.trans h3.symm
  have h5 := congrArg (fun l : List Value => l[t % 2]?) h4
  simp only [List.getElem?_take_of_lt (show t % 2 < 2 by omega), List.getElem?_drop] at h5
  rw [show t / 2 * 2 + t % 2 = t by omega] at h5
  exact h5
 ·rw [List.getElem?_eq_none (by have := h.1; omega), List.getElem?_eq_none (by omega)]
theorem zxL (w : World) (b : Nat) (ok : Nat → Prop) (xs : List yB) : yD (xB.M w b ok) 2 xs (flatK kQ 2 xs.toArray).toList := by
 refine ⟨by simp, fun j p hj => ?_⟩
 obtain ⟨hl, rfl⟩ := List.getElem?_eq_some_iff.1 hj
 rw [flat_get xs j hl]
 exact YM _ _ _ _
set_option maxRecDepth 100000 in
theorem tY (x y : yB) (w : World) :
  Calls Tryz.prog 111 #[.agg #[.string x.f0, .int .i64 x.f1], .agg #[.string y.f0, .int .i64 y.f1]] w fun e w' => e = .returned (.int .i64 (xD x.f0 y.f0)) ∧ ∃ q os, w' = Sort.grow (w.drewN q) os := by
 have hc := xL.calls x.f0 y.f0 _ ((w.alloc (.cells #[.string x.f0, .int .i64 x.f1] 105)).alloc (.cells #[.string y.f0, .int .i64 y.f1] 105)) (YV x.f0 y.f0)
 generalize xD x.f0 y.f0 = r at hc ⊢
 go_enter Tryz.func111, Tryz.ntmps111
 go_wp2_with (go_at_call 91; refine hc.mono ?_; rintro e w2 ⟨rfl, nd, rfl⟩)
 go_ret
 refine ⟨rfl, nd, #[.cells #[.string x.f0, .int .i64 x.f1] 105] ++ #[.cells #[.string y.f0, .int .i64 y.f1] 105], ?_⟩
 rw [← Sort.grow_grow, Sort.alloc_eq_grow, Sort.alloc_eq_grow]
 rfl
theorem zkL (a b : ByteArray) : decide (xD a b < 0) = Op.bytesLess a.toList b.toList := by
 unfold xD
 cases h1 : Op.bytesLess a.toList b.toList
 ·cases h2 : Op.bytesLess b.toList a.toList <;> simp
 ·simp
theorem mO (x y : yB) : ltOf (fun x y : yB => xD x.f0 y.f0) x y = decide (x.f0.toList < y.f0.toList) := by
 show decide (xD x.f0 y.f0 < 0) = _
 rw [zkL, bytesLess_eq]
theorem zvj : SWO (ltOf (fun x y : yB => xD x.f0 y.f0)) where
 irrefl x := by rw [mO]; simp [List.lt_irrefl]
 trans x y z h1 h2 := by
  rw [mO] at *
  simp only [decide_eq_true_eq] at *
  exact List.lt_trans h1 h2
 ntrans x y z h1 h2 := by
  rw [mO] at *
  simp only [decide_eq_false_iff_not, List.not_lt] at *
  exact List.le_trans h2 h1
theorem zqp (xs ys : List yB) (d' : Array yB) (hp : ys.Perm xs) (hs : ys.Pairwise fun a b => xD a.f0 b.f0 < 0)
  (hP : PermIn 0 xs.toArray.size xs.toArray d') (hS : SortedIn (ltOf (fun x y : yB => xD x.f0 y.f0)) 0 xs.toArray.size d') : d'.toList = ys := by
 obtain ⟨hsz, _, hperm⟩ := hP
 have e1 : d'.extract 0 xs.toArray.size = d' := by rw [← hsz]; exact Array.extract_size
 rw [e1, Array.extract_size] at hperm
 refine List.Perm.eq_of_pairwise (le := fun x y => (!ltOf (fun x y : yB => xD x.f0 y.f0) y x) = true) ?_ ?_ ?_ (hperm.trans hp.symm)
 ·intro a b ha hb h1 h2
  have ha' : a ∈ ys := (hperm.trans hp.symm).mem_iff.1 ha
  obtain ⟨i, hi, rfl⟩ := List.getElem_of_mem ha'
  obtain ⟨j, hj, rfl⟩ := List.getElem_of_mem hb
  simp only [Bool.not_eq_true', ltOf, decide_eq_false_iff_not] at h1 h2
  rcases Nat.lt_trichotomy i j with h | h | h
  ·exact absurd (List.pairwise_iff_getElem.1 hs i j hi hj h) h2
  ·subst h; rfl
  ·exact absurd (List.pairwise_iff_getElem.1 hs j i hj hi h) h1
 ·rw [List.pairwise_iff_getElem]
  intro i j hi hj hij
  have h := hS i j (Nat.zero_le _) hij (by rw [← hsz]; simpa using hj)
  have hi' : i < d'.size := by simpa using hi
  have hj' : j < d'.size := by simpa using hj
  rw [getElem!_pos d' i hi', getElem!_pos d' j hj'] at h
  simpa using h
 ·refine hs.imp ?_
  intro a b h
  have h1 : ltOf (fun x y : yB => xD x.f0 y.f0) a b = true := decide_eq_true h
  cases h2 : ltOf (fun x y : yB => xD x.f0 y.f0) b a with
  | false => rfl
  | true => exact absurd (zvj.trans _ _ _ h1 h2) (by rw [zvj.irrefl]; simp)
theorem zkM (w : World) (b0 : Nat) (u : Value) (xs ys : List yB) (hR : Kd.R xB 105 w b0 (fun _ => True) u xs) (h0 : 0 < xs.length) (hl : xs.length ≤ 1000) (hp : ys.Perm xs) (hs : ys.Pairwise fun a b => xD a.f0 b.f0 < 0) :
  Calls Tryz.prog 110 #[u, .func (.func 111) #[] #[]] w fun e w' => e = .returned (.tuple #[]) ∧ Kd.R xB 105 w' b0 (fun _ => True) u ys ∧ w.grownBy w' u.ownBlock := by
 obtain ⟨hok, inner, ho, hr⟩ := hR
 have hin := zqo hr
 subst hin
 rcases ho.2 with ⟨_, h⟩ | ⟨g, cap, cur, rfl, hbase, hb, h1, h2, h3, h4⟩
 ·omega
 have hg : g < w.heap.size := (Array.getElem?_eq_some_iff.1 hb).1
 have hk2 : xB.sz = 2 := rfl
 rw [hk2] at h3 h4
 have hH : HoldsK kQ 2 w g 0 xs.toArray := zyG hb (by rw [size_flatK]; exact h4)
 have hlen := hp.length_eq
 refine (AnyQ.slices_SortFunc Tryz.sortG 2 (fun w => by kernel_rfl) (fun w => by kernel_rfl) kQ zvq zvx (fun x y => xD x.f0 y.f0) zvj 111 #[] g 0 cap xs.toArray w (Go.Proofs.zk.yQ.pR Tryz.func111 (by kernel_rfl) rfl)
  (fun m os dk hdk x y => tY x y _) hH hg (by simp; omega)).mono fun e w' ⟨he, d', n, os, hP, hS, hw⟩ => ?_
 have hd := zqp xs ys d' hp hs hP hS
 have hd' : d' = ys.toArray := by rw [← hd]
 subst hd'
 subst hw
 refine ⟨he, ⟨fun _ _ => trivial, (flatK kQ 2 ys.toArray).toList, ⟨by rw [hk2]; simp, .inr ⟨g, cap, _, by rw [hlen], hbase, zwI _ hb, by rw [hlen]; exact h1, h2, by rw [hk2]; simp [Sort.putCells, h3], ?_⟩⟩, zxL _ _ _ _⟩, ?_⟩
 ·have := zwL cur (flatK kQ 2 ys.toArray) (by rw [size_flatK, h3]; simp; omega)
  rw [size_flatK] at this
  rw [hk2]
  simpa using this
 ·exact zyH (w := w) (g := g) (n := n) (os := os) (flatK kQ 2 ys.toArray)
end Go.Proofs.YtggifbbiiickmaaGreatDoor
namespace Go.Proofs.YtggifbbiiickmaaGreatDoor.PX
open Go.RowKit
theorem fQ : (Tryz.prog.info? 105).map (fun i => (i.zero, i.size, i.bytes)) = some (some (.agg #[(.string ⟨#[]⟩), (.int .i64 0)]), 2, 24) := by kernel_rfl
end Go.Proofs.YtggifbbiiickmaaGreatDoor.PX
namespace Go.Proofs.YtggifbbiiickmaaGreatDoor
open Go.RowKit Go.Shelf Go.Proofs.zk.zK Go.Proofs.zk.yQ Go.Proofs.zk.yX Go.Proofs.YtggifbbiiickmaaGreatDoor.PX
set_option linter.unusedSimpArgs false
theorem fJ {w W w1 : World} {r r' : Option Nat} (h : w.grownBy W r) (g : W.grownBy w1 r') (hr : r' = r ∨ ∃ b, r' = some b ∧ w.heap.size ≤ b) : w.grownBy w1 r := by
 refine ⟨g.os.trans h.os, g.tape.trans h.tape, g.output.trans h.output, Nat.le_trans h.size g.size, fun k hk hne => ?_⟩
 refine (g.block k (Nat.lt_of_lt_of_le hk h.size) ?_).trans (h.block k hk hne)
 rcases hr with rfl | ⟨b, rfl, hb⟩
 ·exact hne
 ·intro e
  injection e with e
  omega
theorem Vv {w W w1 : World} {r : Option Nat} (h : w.grownBy W r) (g : Below W.heap.size W w1) : w.grownBy w1 r :=
 ⟨g.os.trans h.os, g.tape.trans h.tape, g.output.trans h.output, Nat.le_trans h.size g.size, fun k hk hne => (g.block k (Nat.lt_of_lt_of_le hk h.size)).trans (h.block k hk hne)⟩
theorem wL {w W : World} {r : Option Nat} {g i : Nat} (h : w.grownBy W r) (hg : w.heap.size ≤ g) (v : Value) : w.grownBy (W.setCell ⟨g, i, none⟩ v) r :=
 ⟨h.os, h.tape, h.output, by simpa using h.size, fun k hk hne => (Below.heap_setCell W ⟨g, i, none⟩ v k (by show k ≠ g; omega)).trans (h.block k hk hne)⟩
theorem zkN {w W : World} {r : Option Nat} (h : w.grownBy W r) : w.grownBy W.drew r := Vv h ⟨rfl, rfl, rfl, Nat.le_refl _, fun _ _ => rfl⟩
theorem JM {α : Type} {d : Kd α} {e b0 : Nat} {w wr w2 : World} {ok : Nat → Prop} {u : Value} {xs : List α} (hB : Below b0 w wr) (hs : b0 ≤ wr.heap.size) (hR : d.R e wr b0 ok u xs) (hg : wr.grownBy w2 u.ownBlock) : Below b0 w w2 := by
 refine hB.trans ⟨hg.os, hg.tape, hg.output, hg.size, fun k hk => hg.block k (Nat.lt_of_lt_of_le hk hs) ?_⟩
 intro e
 obtain ⟨inner, ho⟩ := Kd.QS hR
 have := Zw ho k e.symm
 omega
def chr (c : Nat) : ByteArray := Utf8.encode (c : Int)
def kN (wd : Nat → Int) (c : Nat) : List yB := (List.range (c - 33)).map fun i => ⟨chr (33 + i), wd (33 + i)⟩
theorem zyI (c : Nat) : Utf8.encode (c : Int) = chr c := rfl
attribute [irreducible] chr
theorem zxM (wd : Nat → Int) (c : Nat) (h : 33 ≤ c) : kN wd (c + 1) = kN wd c ++ [⟨chr c, wd c⟩] := by
 obtain ⟨m, rfl⟩ : ∃ m, c = 33 + m := ⟨c - 33, by omega⟩
 unfold kN
 rw [show 33 + m + 1 - 33 = m + 1 by omega, show 33 + m - 33 = m by omega, List.range_succ, List.map_append]
 rfl
theorem U3 (wd : Nat → Int) (c : Nat) : (kN wd c).length = c - 33 := by simp [kN]
def made.T5 : Bool × List (List Nat × List Nat) := (true, [([], []), ([0], [0]), ([], []), ([2], [2]), ([3], [3]), ([], []), ([], []), ([5, 6], [5, 6]), ([4, 7], [4, 7]), ([8], [8]), ([1, 9, 7], [1, 9]), ([0, 1, 2, 3, 4, 5, 6, 7, 8, 9, 10], []), ([11, 10, 10, 0, 1, 2, 3, 4, 5, 6, 7, 8, 9, 10], [10, 11])])
theorem made.mh : vk .any (opsOf Tryz.f54 5) = made.T5 := by kernel_rfl
def zwM (name : ByteArray) (space : Int) (more : List yB) (wd : Nat → Int) (u0 : Value) (b0 : Nat) (w : World) (gr gf : Nat) (x : Value) (wr : World) : Prop :=
 ∃ (c : Nat) (u : Value), x = .int .u8 (c : Int) ∧ 33 ≤ c ∧ c ≤ 127 ∧ Kd.R xB 105 wr b0 (fun _ => True) u (more ++ kN wd c) ∧
  wr.heap[gr]? = some (.cells #[.string (⟨#[]⟩ : ByteArray), .bool false, .int .i64 0, .slice none 0 0, .slice none 0 0, .slice none 0 0] 60 (0, 0)) ∧
  wr.heap[gf]? = some (.cells #[.string name, .bool false, .int .i64 space, u, .slice none 0 0, .slice none 0 0] 60 (0, 0)) ∧
  Below b0 w wr ∧ w.grownBy wr u0.ownBlock ∧ (u.ownBlock = u0.ownBlock ∨ ∃ b, u.ownBlock = some b ∧ w.heap.size ≤ b)
set_option maxHeartbeats 8000000 in
set_option maxRecDepth 100000 in
theorem Vk (F : FuncId) (fn : Func) (hfn : Tryz.prog.funcs[F]? = some fn) (hname : (fn.name == "runtime.NumGoroutine") = false) (hbody : fn.body.isSome = true) (wd : Nat → Int)
  (hwd : ∀ (c : Nat) (W : World), 33 ≤ c → c ≤ 126 → Calls Tryz.prog F #[.int .u8 (c : Int)] W fun e w' => e = .returned (.int .i64 (wd c)) ∧ Below W.heap.size W w')
  (name : ByteArray) (space : Int) (b0 : Nat) (u0 : Value) (more ys : List yB) (w : World) (hb0 : b0 ≤ w.heap.size) (hR : Kd.R xB 105 w b0 (fun _ => True) u0 more) (hm : more.length ≤ 10)
  (hp : ys.Perm (more ++ kN wd 127)) (hs : ys.Pairwise fun a b => xD a.f0 b.f0 < 0) :
  Calls Tryz.prog 54 #[.string name, .int .i64 space, .func (.func F) #[] #[], u0] w fun e w' => ∃ v, e = .returned (.agg #[.string name, .bool false, .int .i64 space, v, .slice none 0 0, .slice none 0 0]) ∧
   Kd.R xB 105 w' b0 (fun _ => True) v ys ∧ Below b0 w w' ∧ w.grownBy w' u0.ownBlock ∧ (v.ownBlock = u0.ownBlock ∨ ∃ b, v.ownBlock = some b ∧ w.heap.size ≤ b) := by
 have zvv := Tryz.underlying60
 have HB := zx.mk (Below.refl b0 w)
 have HG := zx.mk (World.grownBy.refl w u0.ownBlock)
 have XP := zx.mk hR
 have HWD := zx.mk hwd
 have HP := zx.mk hp
 have HS := zx.mk hs
 have zQA := zx.mk (pR hfn hname hbody)
 clear hR hwd hp hs hfn hname hbody
 obtain ⟨A0, c0, e0⟩ := Kd.qA XP.out
 subst e0
 go_enter Tryz.func54, Tryz.ntmps54
 go_wp2_with (first
  | ((with_reducible refine qw (N := 8) rfl ?_); refine qL ?hg (N := 8) ?hd (cs := #[.string (⟨#[]⟩ : ByteArray), .bool false, .int .i64 0, .slice none 0 0, .slice none 0 0, .slice none 0 0]) (t := 60) ?hr ?_; (case hd => rfl); (case hg => rfl); (case hr => first | (go_simp; done) | (go_simp; rfl)); intro gr hgr w2 BR hb2; have Kr := zx.mk (Nat.le_of_eq hgr.symm); have zX := zx.mk (HB.out.trans (hb2.mono hb0)); have zV := zx.mk (Vv HG.out hb2); clear HB HG; have HB := zX; have HG := zV; have HR1 := zx.mk (Kd.yU XP.out hb2); have fV := zx.mk BR; clear zX zV BR hb2 hgr)
  | ((with_reducible refine qw (N := 9) rfl ?_); refine qL ?hg (N := 9) ?hd (cs := #[.string (⟨#[]⟩ : ByteArray), .bool false, .int .i64 0, .slice none 0 0, .slice none 0 0, .slice none 0 0]) (t := 60) ?hr ?_; (case hd => rfl); (case hg => rfl); (case hr => first | (go_simp; done) | (go_simp; rfl)); intro gf hgf w3 BF hb3; have Kf := zx.mk (Nat.le_trans HG.out.size (Nat.le_of_eq hgf.symm)); have zX := zx.mk (HB.out.trans (hb3.mono (Nat.le_trans hb0 HG.out.size))); have zV := zx.mk (Vv HG.out hb3); have zf := zx.mk (zm fV.out hb3); have zu := zx.mk (Kd.yU HR1.out hb3); have mP := zx.mk (show gr ≠ gf by rw [hgf]; exact Nat.ne_of_lt (kY fV.out)); clear HB HG fV HR1 XP; have HB := zX; have HG := zV; have fV := zf; have HR1 := zu; clear zX zV zf zu hgf hb3; have zyL : w3.cell? ⟨gf, 0, none⟩ = some (.string (⟨#[]⟩ : ByteArray)) := (zy BF 0).trans rfl; have zyM : w3.cell? ⟨gf, 1, none⟩ = some (.bool false) := (zy BF 1).trans rfl; have zyN : w3.cell? ⟨gf, 2, none⟩ = some (.int .i64 0) := (zy BF 2).trans rfl; have zyO : w3.cell? ⟨gf, 3, none⟩ = some (.slice none 0 0) := (zy BF 3).trans rfl; have zyP : w3.cell? ⟨gf, 4, none⟩ = some (.slice none 0 0) := (zy BF 4).trans rfl; have zyR : w3.cell? ⟨gf, 5, none⟩ = some (.slice none 0 0) := (zy BF 5).trans rfl; have zYC := zw BF 0; have zYD := zw BF 1; have zYE := zw BF 2; have zYF := zw BF 3; have zYG := zw BF 4; have zYH := zw BF 5; have BFA := zx.mk BF; clear BF))
 have mR := zx.mk (Nat.le_trans hb0 Kf.out)
 go_loopw [10] (fun x wr => zwM name space more wd (.slice A0 more.length c0) b0 w gr gf x wr) (fun x _ => 127 - (intOf x).toNat)
 case atStart =>
  refine ⟨33, .slice A0 more.length c0, rfl, by omega, by omega, ?_, ?_, ?_, ?_, ?_, Or.inl rfl⟩
  ·rw [show kN wd 33 = [] from rfl, List.append_nil]
   have h := Kd.KX HR1.out BFA.out (by decide)
   exact Kd.xQ (Kd.Zb (p := ⟨gf, 5, none⟩) (Kd.Zb (p := ⟨gf, 4, none⟩) (Kd.Zb (p := ⟨gf, 3, none⟩) (Kd.Zb (p := ⟨gf, 2, none⟩) (Kd.Zb (p := ⟨gf, 1, none⟩) (Kd.Zb (p := ⟨gf, 0, none⟩) h (fun _ hk => hk.2) _) (fun _ hk => hk.2) _) (fun _ hk => hk.2) _) (fun _ hk => hk.2) _) (fun _ hk => hk.2) _) (fun _ hk => hk.2) _) (fun _ _ => trivial)
  ·refine Za ?_ mP.out _
   refine Za ?_ mP.out _
   refine Za ?_ mP.out _
   refine Za ?_ mP.out _
   refine Za ?_ mP.out _
   refine Za ?_ mP.out _
   exact fV.out
  ·refine xX (cs := #[.string name, .bool false, .int .i64 space, .slice A0 more.length c0, .slice none 0 0, .slice none 0 0]) ?_ 5 _ rfl
   refine xX (cs := #[.string name, .bool false, .int .i64 space, .slice A0 more.length c0, .slice none 0 0, .slice none 0 0]) ?_ 4 _ rfl
   refine xX (cs := #[.string name, .bool false, .int .i64 space, .slice none 0 0, .slice none 0 0, .slice none 0 0]) ?_ 3 _ rfl
   refine xX (cs := #[.string name, .bool false, .int .i64 0, .slice none 0 0, .slice none 0 0, .slice none 0 0]) ?_ 2 _ rfl
   refine xX (cs := #[.string name, .bool false, .int .i64 0, .slice none 0 0, .slice none 0 0, .slice none 0 0]) ?_ 1 _ rfl
   refine xX (cs := #[.string (⟨#[]⟩ : ByteArray), .bool false, .int .i64 0, .slice none 0 0, .slice none 0 0, .slice none 0 0]) ?_ 0 _ rfl
   exact BFA.out
  ·exact (((((HB.out.setCell mR.out _).setCell mR.out _).setCell mR.out _).setCell mR.out _).setCell mR.out _).setCell mR.out _
  ·exact wL (wL (wL (wL (wL (wL HG.out Kf.out _) Kf.out _) Kf.out _) Kf.out _) Kf.out _) Kf.out _
 case round =>
  obtain ⟨c, u, rfl, h33, h127, zyS, BR0, BF0, zyT, zyU, zy0⟩ := hrel
  have j4 := zx.mk zyS
  have BR := zx.mk BR0
  have BF := zx.mk BF0
  have kP := zx.mk zyT
  have YH := zx.mk zyU
  have mU := zx.mk zy0
  clear zyS BR0 BF0 zyT zyU zy0 fV BFA HR1 HB HG
  by_cases hlt : c < 127
  ·have hw32 : IntKind.i32.wrap (c : Int) = c := by unfold IntKind.wrap; simp [IntKind.bits, IntKind.signed]; omega
   have q1 : decide ((c : Int) < 127) = true := decide_eq_true (by omega)
   go_wp2
   have zX := zx.mk (Kd.wF j4.out)
   have zV := zx.mk (uX BR.out)
   have zf := zx.mk (uX BF.out)
   have zu := zx.mk (kP.out.drew)
   have yZ := zx.mk (zkN YH.out)
   clear j4 BR BF kP YH
   have j4 := zX
   have BR := zV
   have BF := zf
   have kP := zu
   have YH := yZ
   clear zX zV zf zu yZ
   refine pG (n := 13) (S := fun w' => w'.cell? ⟨gf, 3, none⟩ = some u) (ds := [12]) #[false, false, false, false, false, false, false, false, false, false, false, false, false] (by kernel_rfl) rfl rfl ((zy BF.out 3).trans rfl) (fun hHeld => ?_)
   refine QU made.mh (fun qz => ?_)
   generalize wr.drew = w16 at j4 BR BF kP YH hHeld ⊢
   refine qU (i := 0) (N := some 19) (v := ?_) (a' := ?_) #[true, false, false, false, false, false, false, false, false, false, false, false, false] rfl rfl (qC qz.out (by kernel_rfl)) (fun _ _ _ h => h) (Or.inl ⟨by rfl, ?_⟩) ?_ ?_
   rotate_left
   ·intro w'
    go_simp
    with_reducible rfl
   rotate_left
   ·simp only [Act.put, List.setIfInBounds_toArray, List.set_cons_zero, List.set_cons_succ]
    rfl
   refine qU (i := 2) (N := some 21) (v := ?_) (a' := ?_) #[true, false, true, false, false, false, false, false, false, false, false, false, false] rfl rfl (qC qz.out (by kernel_rfl)) (fun _ _ _ h => h) (Or.inl ⟨by rfl, ?_⟩) ?_ ?_
   rotate_left
   ·intro w'
    go_simp
    with_reducible rfl
   rotate_left
   ·simp only [Act.put, List.setIfInBounds_toArray, List.set_cons_zero, List.set_cons_succ]
    rfl
   refine qU (i := 3) (N := some 22) (v := ?_) (a' := ?_) #[true, false, true, true, false, false, false, false, false, false, false, false, false] rfl rfl (qC qz.out (by kernel_rfl)) (fun _ _ _ h => h) (Or.inl ⟨by rfl, ?_⟩) ?_ ?_
   rotate_left
   ·intro w'
    go_simp
    with_reducible rfl
   rotate_left
   ·simp only [Act.put, List.setIfInBounds_toArray, List.set_cons_zero, List.set_cons_succ, hw32]
    rfl
   refine qU (i := 4) (N := some 23) (v := ?_) (a' := ?_) #[true, false, true, true, true, false, false, false, false, false, false, false, false] rfl rfl (qC qz.out (by kernel_rfl)) (fun _ _ _ h => h) (Or.inl ⟨by rfl, ?_⟩) ?_ ?_
   rotate_left
   ·intro w'
    go_simp
    with_reducible rfl
   rotate_left
   ·simp only [Act.put, List.setIfInBounds_toArray, List.set_cons_zero, List.set_cons_succ, zyI]
    rfl
   refine qU (i := 5) (N := some 24) (v := ?_) (a' := ?_) #[true, false, true, true, true, true, false, false, false, false, false, false, false] rfl rfl (qC qz.out (by kernel_rfl)) (fun _ _ _ h => h) (Or.inl ⟨by rfl, ?_⟩) ?_ ?_
   rotate_left
   ·intro w'
    go_simp
    with_reducible rfl
   rotate_left
   ·simp only [Act.put, List.setIfInBounds_toArray, List.set_cons_zero, List.set_cons_succ]
    rfl
   refine qU (i := 6) (N := some 25) (v := ?_) (a' := ?_) #[true, false, true, true, true, true, true, false, false, false, false, false, false] rfl rfl (qC qz.out (by kernel_rfl)) (fun _ _ _ h => h) (Or.inl ⟨by rfl, ?_⟩) ?_ ?_
   rotate_left
   ·intro w'
    go_simp
    with_reducible rfl
   rotate_left
   ·simp only [Act.put, List.setIfInBounds_toArray, List.set_cons_zero, List.set_cons_succ]
    rfl
   refine Z4 (i := 1) (N := some 20) (v := ?_) (a' := ?_) #[true, true, true, true, true, true, true, false, false, false, false, false, false] rfl rfl (V7 qz.out (by kernel_rfl)) (fun _ _ _ h => h) (Or.inl ⟨by rfl, ?_⟩) hHeld ?_ ?_
   rotate_left
   ·rintro w' s0
    go_simp
    with_reducible rfl
   rotate_left
   ·simp only [Act.put, List.setIfInBounds_toArray, List.set_cons_zero, List.set_cons_succ]
    rfl
   refine Ye (i := 7) (N := some 26) #[true, true, true, true, true, true, true, true, false, false, false, false, false] rfl rfl (kL qz.out (by kernel_rfl)) (by decide) (fun K hK => ?_)
   refine call_ F #[.int .u8 (c : Int)] (by rfl) rfl (by have he := zQA.out #[.int .u8 (c : Int)] w16; go_simp) ?_
   refine (HWD.out c _ h33 (by omega)).mono ?_
   rintro e Um ⟨rfl, hb⟩
   refine ⟨_, rfl, ?_⟩
   have zX := zx.mk (Kd.yU j4.out hb)
   have zV := zx.mk (zm BR.out hb)
   have zf := zx.mk (zm BF.out hb)
   have zu := zx.mk (kP.out.trans (hb.mono (Nat.le_trans hb0 YH.out.size)))
   have yZ := zx.mk (Vv YH.out hb)
   clear j4 BR BF kP YH hHeld hb
   have j4 := zX
   have BR := zV
   have BF := zf
   have kP := zu
   have YH := yZ
   clear zX zV zf zu yZ
   refine hK.out _ _ ((zy BF.out 3).trans rfl) (fun hHeld => ?_)
   clear hK K
   refine wB (a' := ?_) ?_ ?_
   rotate_left
   ·show Act.put _ (some 26) _ = _
    simp only [Act.put, List.setIfInBounds_toArray, List.set_cons_zero, List.set_cons_succ]
    rfl
   refine qU (i := 8) (N := some 27) (v := ?_) (a' := ?_) #[true, true, true, true, true, true, true, true, true, false, false, false, false] rfl rfl (qC qz.out (by kernel_rfl)) (fun _ _ _ h => h) (Or.inl ⟨by rfl, ?_⟩) ?_ ?_
   rotate_left
   ·intro w'
    go_simp
    with_reducible rfl
   rotate_left
   ·simp only [Act.put, List.setIfInBounds_toArray, List.set_cons_zero, List.set_cons_succ]
    rfl
   refine Ye (i := 9) (N := some 28) #[true, true, true, true, true, true, true, true, true, true, false, false, false] rfl rfl (kL qz.out (by kernel_rfl)) (by decide) (fun K hK => ?_)
   refine gu (w1 := ?_) (v := ?_) (by rfl) rfl ?_ ?_
   rotate_left 2
   ·go_simp
    constructor
    ·rfl
    ·rfl
   refine hK.out _ _ ((zy (vP BF.out _) 3).trans rfl) (fun hHeld => ?_)
   clear hK K
   refine wB (a' := ?_) ?_ ?_
   rotate_left
   ·show Act.put _ (some 28) _ = _
    simp only [Act.put, List.setIfInBounds_toArray, List.set_cons_zero, List.set_cons_succ]
    rfl
   refine Ye (i := 10) (N := some 29) #[true, true, true, true, true, true, true, true, true, true, true, false, false] rfl rfl (kL qz.out (by kernel_rfl)) (by decide) (fun K hK => ?_)
   refine Kd.Xf xB (w0 := w) b0 (by rfl) (.tmp 20) (.tmp 28) 56 105 (.agg #[(.string ⟨#[]⟩), (.int .i64 0)]) 24 rfl Tryz.underlying56 fQ rfl (by decide) (by omega) u (more ++ kN wd c) (⟨chr c, wd c⟩ : yB) [.string (chr c), .int .i64 (wd c)] (fun _ => True) (fun _ => False) rfl rfl ?aP (fun _ hk => hk.elim) ?aF ?aO ?aB ?aS ?aL ?_
   (case aP => exact YM _ _ _ (⟨chr c, wd c⟩ : yB))
   (case aF => exact (fun _ _ => trivial))
   (case aO => exact j4.out)
   (case aB => exact kP.out)
   (case aS => exact Nat.le_trans hb0 YH.out.size)
   (case aL => have := U3 wd c; rw [List.length_append]; omega)
   intro v1 nk ho hb hg hat
   rw [List.append_assoc, ← zxM wd c h33] at ho
   obtain ⟨Ao, co, eo⟩ := Kd.qA ho
   subst eo
   generalize (more ++ kN wd (c + 1)).length = nn at ho hat ⊢
   have zX := zx.mk (qj BR.out hg (Kd.wW j4.out BR.out (by decide)))
   have zV := zx.mk (qj BF.out hg (Kd.wW j4.out BF.out (by decide)))
   have zf := zx.mk hb
   have zu := zx.mk (fJ YH.out hg mU.out)
   have yZ := zx.mk ho
   have yT : zx ((Value.slice Ao nn co).ownBlock = (Value.slice A0 more.length c0).ownBlock ∨ ∃ b, (Value.slice Ao nn co).ownBlock = some b ∧ w.heap.size ≤ b) := zx.mk (by
    rcases hat with hat | ⟨b, h1, h2⟩
    ·rw [hat]; exact mU.out
    ·exact Or.inr ⟨b, h1, Nat.le_trans YH.out.size h2⟩)
   clear BR BF kP YH j4 mU ho hb hg hat hHeld
   have BR := zX
   have BF := zV
   have kP := zf
   have YH := zu
   have j4 := yZ
   have mU := yT
   clear zX zV zf zu yZ yT
   refine hK.out _ _ ((zy BF.out 3).trans rfl) (fun hHeld => ?_)
   clear hK K
   refine wB (a' := ?_) ?_ ?_
   rotate_left
   ·show Act.put _ (some 29) _ = _
    simp only [Act.put, List.setIfInBounds_toArray, List.set_cons_zero, List.set_cons_succ]
    rfl
   refine qU (i := 11) (N := some 30) (v := ?_) (a' := ?_) #[true, true, true, true, true, true, true, true, true, true, true, true, false] rfl rfl (qC qz.out (by kernel_rfl)) (fun _ _ _ h => h) (Or.inl ⟨by rfl, ?_⟩) ?_ ?_
   rotate_left
   ·intro w'
    go_simp
    with_reducible rfl
   rotate_left
   ·simp only [Act.put, List.setIfInBounds_toArray, List.set_cons_zero, List.set_cons_succ]
    rfl
   refine zqj (i := 12) (N := none) #[true, true, true, true, true, true, true, true, true, true, true, true, true] rfl rfl (kL qz.out (by kernel_rfl)) (by decide) (fun K hK => ?_)
   have zvk : nk.cell? ⟨gf, 3, none⟩ = some u := (zy BF.out 3).trans rfl
   have zqr := zw BF.out 3
   refine zqv (w1 := ?_) (by rfl) rfl ?_ ?_
   rotate_left
   ·go_simp
    rfl
   refine hK.out _ _ ?_
   clear hK K
   refine wX (jA qz.out (by kernel_rfl)) ?_
   have zX := zx.mk (Za BR.out (p := ⟨gf, 3, none⟩) mP.out (.slice Ao nn co : Value))
   have zV := zx.mk (xX (cs' := #[.string name, .bool false, .int .i64 space, (.slice Ao nn co : Value), .slice none 0 0, .slice none 0 0]) BF.out 3 (.slice Ao nn co : Value) rfl)
   have zf := zx.mk (kP.out.setCell (p := ⟨gf, 3, none⟩) mR.out (.slice Ao nn co : Value))
   have zu := zx.mk (wL (i := 3) YH.out Kf.out (.slice Ao nn co : Value))
   have yZ := zx.mk (Kd.Zc j4.out BF.out (by decide) 3 (.slice Ao nn co : Value))
   clear BR BF kP YH j4 hHeld zvk zqr
   generalize nk.setCell ⟨gf, 3, none⟩ (.slice Ao nn co : Value) = dQ at zX zV zf zu yZ ⊢
   go_wp2
   go_roundw
   case rel => exact ⟨c + 1, (.slice Ao nn co : Value), by first | rfl | (simp; done) | go_num, by omega, by omega, yZ.out, zX.out, zV.out, zf.out, zu.out, mU.out⟩
   case measure => simp [intOf]; omega
  ·have hc : c = 127 := by omega
   have q1 : decide ((c : Int) < 127) = false := decide_eq_false (by omega)
   obtain ⟨Au, cu, eu⟩ := Kd.qA j4.out
   generalize (more ++ kN wd c).length = nu at eu
   subst eu
   have hRs := j4.out
   rw [hc] at hRs
   have hsort := zkM wr b0 (.slice Au nu cu) _ ys hRs (by rw [List.length_append, U3]; omega) (by rw [List.length_append, U3]; omega) HP.out HS.out
   have zvP := zx.mk hsort
   have hcu : wr.cell? ⟨gf, 3, none⟩ = some (.slice Au nu cu) := (zy BF.out 3).trans rfl
   clear hsort hRs hlt h33 h127
   go_wp2_with (go_at_call 110; refine zvP.out.mono ?_; rintro e w2 ⟨rfl, hR2, hg2⟩; clear zvP hcu; have hne1 := Kd.wW j4.out BF.out (by decide); have zV := zx.mk (qj BR.out hg2 (Kd.wW j4.out BR.out (by decide))); have zf := zx.mk (qj BF.out hg2 hne1); have zu := zx.mk hR2; have yZ := zx.mk (fJ YH.out hg2 mU.out); have yT := zx.mk (JM kP.out (Nat.le_trans hb0 YH.out.size) j4.out hg2); clear j4 BR BF kP YH hne1 hR2 hg2; have BR := zV; have BF := zf; have HR2 := zu; have HG2 := yZ; have HB2 := yT; clear zV zf zu yZ yT; have zyL : w2.cell? ⟨gf, 0, none⟩ = some (.string name) := (zy BF.out 0).trans rfl; have zyM : w2.cell? ⟨gf, 1, none⟩ = some (.bool false) := (zy BF.out 1).trans rfl; have zyN : w2.cell? ⟨gf, 2, none⟩ = some (.int .i64 space) := (zy BF.out 2).trans rfl; have zyO : w2.cell? ⟨gf, 3, none⟩ = some (.slice Au nu cu) := (zy BF.out 3).trans rfl; have zyP : w2.cell? ⟨gf, 4, none⟩ = some (.slice none 0 0) := (zy BF.out 4).trans rfl; have zyR : w2.cell? ⟨gf, 5, none⟩ = some (.slice none 0 0) := (zy BF.out 5).trans rfl; have zQB : w2.cell? ⟨gr, 0, none⟩ = some (.string (⟨#[]⟩ : ByteArray)) := (zy BR.out 0).trans rfl; have zQC : w2.cell? ⟨gr, 1, none⟩ = some (.bool false) := (zy BR.out 1).trans rfl; have zQD : w2.cell? ⟨gr, 2, none⟩ = some (.int .i64 0) := (zy BR.out 2).trans rfl; have zQE : w2.cell? ⟨gr, 3, none⟩ = some (.slice none 0 0) := (zy BR.out 3).trans rfl; have zQF : w2.cell? ⟨gr, 4, none⟩ = some (.slice none 0 0) := (zy BR.out 4).trans rfl; have zQG : w2.cell? ⟨gr, 5, none⟩ = some (.slice none 0 0) := (zy BR.out 5).trans rfl; have zQH := zw BR.out 0; have zQI := zw BR.out 1; have zQL := zw BR.out 2; have zQM := zw BR.out 3; have zQN := zw BR.out 4; have zQO := zw BR.out 5)
   have zX := (xX (cs' := #[.string name, .bool false, .int .i64 space, .slice Au nu cu, .slice none 0 0, .slice none 0 0]) (xX (cs' := #[.string name, .bool false, .int .i64 space, .slice Au nu cu, .slice none 0 0, .slice none 0 0]) (xX (cs' := #[.string name, .bool false, .int .i64 space, .slice Au nu cu, .slice none 0 0, .slice none 0 0]) (xX (cs' := #[.string name, .bool false, .int .i64 space, .slice none 0 0, .slice none 0 0, .slice none 0 0]) (xX (cs' := #[.string name, .bool false, .int .i64 0, .slice none 0 0, .slice none 0 0, .slice none 0 0]) (xX (cs' := #[.string name, .bool false, .int .i64 0, .slice none 0 0, .slice none 0 0, .slice none 0 0]) BR.out 0 (.string name) rfl) 1 (.bool false) rfl) 2 (.int .i64 space) rfl) 3 (.slice Au nu cu) rfl) 4 (.slice none 0 0) rfl) 5 (.slice none 0 0) rfl)
   have zV := Kd.xQ (Kd.Zb (p := ⟨gr, 5, none⟩) (Kd.Zb (p := ⟨gr, 4, none⟩) (Kd.Zb (p := ⟨gr, 3, none⟩) (Kd.Zb (p := ⟨gr, 2, none⟩) (Kd.Zb (p := ⟨gr, 1, none⟩) (Kd.Zb (p := ⟨gr, 0, none⟩) (Kd.KX HR2.out BR.out (by decide)) (fun _ hk => hk.2) (.string name)) (fun _ hk => hk.2) (.bool false)) (fun _ hk => hk.2) (.int .i64 space)) (fun _ hk => hk.2) (.slice Au nu cu)) (fun _ hk => hk.2) (.slice none 0 0)) (fun _ hk => hk.2) (.slice none 0 0)) (fun _ _ => trivial)
   have zf := (wL (i := 5) (wL (i := 4) (wL (i := 3) (wL (i := 2) (wL (i := 1) (wL (i := 0) HG2.out Kr.out (.string name)) Kr.out (.bool false)) Kr.out (.int .i64 space)) Kr.out (.slice Au nu cu)) Kr.out (.slice none 0 0)) Kr.out (.slice none 0 0))
   have zu := (Below.setCell (p := ⟨gr, 5, none⟩) (Below.setCell (p := ⟨gr, 4, none⟩) (Below.setCell (p := ⟨gr, 3, none⟩) (Below.setCell (p := ⟨gr, 2, none⟩) (Below.setCell (p := ⟨gr, 1, none⟩) (Below.setCell (p := ⟨gr, 0, none⟩) HB2.out (Nat.le_trans hb0 Kr.out) (.string name)) (Nat.le_trans hb0 Kr.out) (.bool false)) (Nat.le_trans hb0 Kr.out) (.int .i64 space)) (Nat.le_trans hb0 Kr.out) (.slice Au nu cu)) (Nat.le_trans hb0 Kr.out) (.slice none 0 0)) (Nat.le_trans hb0 Kr.out) (.slice none 0 0))
   clear zyL zyM zyN zyO zyP zyR zQB zQC zQD zQE zQF zQG zQH zQI zQL zQM zQN zQO
   generalize ((((((w2.setCell ⟨gr, 0, none⟩ (.string name)).setCell ⟨gr, 1, none⟩ (.bool false)).setCell ⟨gr, 2, none⟩ (.int .i64 space)).setCell ⟨gr, 3, none⟩ (.slice Au nu cu)).setCell ⟨gr, 4, none⟩ (.slice none 0 0)).setCell ⟨gr, 5, none⟩ (.slice none 0 0)) = w5 at zX zV zf zu ⊢
   refine bodyPost_ret (results_cell_row rfl _ _ gr 60 #[.string name, .bool false, .int .i64 space, .slice Au nu cu, .slice none 0 0, .slice none 0 0] (0, 0) _ rfl zX Tryz.underlying60 rfl (by kernel_rfl)) rfl ?_
   exact ⟨_, rfl, zV, zu, zf, mU.out⟩
end Go.Proofs.YtggifbbiiickmaaGreatDoor
namespace Go.Proofs.YtggifbbiiickmaaGreatDoor
open Go.RowKit Go.Shelf
def X0 (l : List UInt8) (c : UInt8) : Bool := decide (0 ≤ Lib.indexByte l c)
def ZT (c : UInt8) : Int :=
 if (X0 [105, 106, 108, 116, 102, 46, 44, 58, 59, 39, 124, 33] c || (c.toNat : Int) == 96) = true then 250
 else if X0 [40, 41, 91, 93, 123, 125, 45, 114, 115, 47, 92, 34] c = true then 350
 else if X0 [109, 119] c = true then 750
 else if X0 [77, 87, 64, 37] c = true then 900
 else if (decide (65 ≤ (c.toNat : Int)) && decide ((c.toNat : Int) ≤ 90)) = true then 650 else 500
set_option maxRecDepth 100000 in
theorem Xw (s : ByteArray) (c : UInt8) (B : Nat) (w : World) (hc : w.cell? ⟨B, 0, none⟩ = some (.int .u8 c.toNat)) :
  Calls Tryz.prog 112 #[.string s, .pointer (some ⟨B, 0, none⟩)] w fun e w' => e = .returned (.bool (X0 s.data.toList c)) ∧ w' = w := by
 have hi := Tryz.strings_IndexByte s (c.toNat : Int) w
 have hc8 : ((c.toNat : Int).toNat.toUInt8) = c := by rw [Int.toNat_natCast]; exact UInt8.ofNat_toNat
 rw [hc8] at hi
 have hx : X0 s.data.toList c = decide (0 ≤ Lib.indexByte s.data.toList c) := rfl
 generalize Lib.indexByte s.data.toList c = ix at hi hx
 generalize X0 s.data.toList c = b at hx ⊢
 subst hx
 clear hc8
 go_enter Tryz.func112, Tryz.ntmps112
 go_wp2_with (go_at_call 113; refine hi.mono ?_; rintro e w2 ⟨rfl, rfl⟩)
 go_ret
 exact ⟨rfl, rfl⟩
set_option maxRecDepth 100000 in
set_option maxHeartbeats 1000000 in
theorem zxN (c : UInt8) (w : World) :
  Calls Tryz.prog 55 #[.int .u8 c.toNat] w fun e w' => e = .returned (.int .i64 (ZT c)) ∧ Below w.heap.size w w' := by
 have hb0 : Below w.heap.size w (w.alloc (.cells #[.int .u8 c.toNat] 5)) := (Below.refl _ w).alloc (Nat.le_refl _) _
 have hcell : (w.alloc (.cells #[.int .u8 c.toNat] 5)).cell? ⟨w.heap.size, 0, none⟩ = some (.int .u8 c.toNat) := by simp
 have h1 := Xw ⟨#[105, 106, 108, 116, 102, 46, 44, 58, 59, 39, 124, 33]⟩ c w.heap.size _ hcell
 have h2 := Xw ⟨#[40, 41, 91, 93, 123, 125, 45, 114, 115, 47, 92, 34]⟩ c w.heap.size _ hcell
 have h3 := Xw ⟨#[109, 119]⟩ c w.heap.size _ hcell
 have h4 := Xw ⟨#[77, 87, 64, 37]⟩ c w.heap.size _ hcell
 have hv : ZT c = if (X0 (⟨#[105, 106, 108, 116, 102, 46, 44, 58, 59, 39, 124, 33]⟩ : ByteArray).data.toList c || (c.toNat : Int) == 96) = true then 250
  else if X0 (⟨#[40, 41, 91, 93, 123, 125, 45, 114, 115, 47, 92, 34]⟩ : ByteArray).data.toList c = true then 350
  else if X0 (⟨#[109, 119]⟩ : ByteArray).data.toList c = true then 750
  else if X0 (⟨#[77, 87, 64, 37]⟩ : ByteArray).data.toList c = true then 900
  else if (decide (65 ≤ (c.toNat : Int)) && decide ((c.toNat : Int) ≤ 90)) = true then 650 else 500 := rfl
 rw [hv]
 clear hv
 generalize X0 (⟨#[105, 106, 108, 116, 102, 46, 44, 58, 59, 39, 124, 33]⟩ : ByteArray).data.toList c = b1 at h1 ⊢
 generalize X0 (⟨#[40, 41, 91, 93, 123, 125, 45, 114, 115, 47, 92, 34]⟩ : ByteArray).data.toList c = b2 at h2 ⊢
 generalize X0 (⟨#[109, 119]⟩ : ByteArray).data.toList c = b3 at h3 ⊢
 generalize X0 (⟨#[77, 87, 64, 37]⟩ : ByteArray).data.toList c = b4 at h4 ⊢
 have hx0 := c.toNat_lt
 generalize (c.toNat : Int) = x at hb0 hcell h1 h2 h3 h4 ⊢
 generalize h96 : (x == 96) = b96
 generalize h65 : decide (65 ≤ x) = b65
 generalize h90 : decide (x ≤ 90) = b90
 cases b1 with
 | true =>
  go_enter Tryz.func55, Tryz.ntmps55
  go_wp2_with (first
   | (go_at_call 112; ((with_reducible refine h1.mono ?_); rintro e w2 ⟨rfl, rfl⟩))
   | (go_at_call 112; ((with_reducible refine h2.mono ?_); rintro e w2 ⟨rfl, rfl⟩))
   | (go_at_call 112; ((with_reducible refine h3.mono ?_); rintro e w2 ⟨rfl, rfl⟩))
   | (go_at_call 112; ((with_reducible refine h4.mono ?_); rintro e w2 ⟨rfl, rfl⟩)))
  go_ret
  exact ⟨rfl, hb0⟩
 | false =>
  cases b96 with
  | true =>
   go_enter Tryz.func55, Tryz.ntmps55
   go_wp2_with (first
    | (go_at_call 112; ((with_reducible refine h1.mono ?_); rintro e w2 ⟨rfl, rfl⟩))
    | (go_at_call 112; ((with_reducible refine h2.mono ?_); rintro e w2 ⟨rfl, rfl⟩))
    | (go_at_call 112; ((with_reducible refine h3.mono ?_); rintro e w2 ⟨rfl, rfl⟩))
    | (go_at_call 112; ((with_reducible refine h4.mono ?_); rintro e w2 ⟨rfl, rfl⟩)))
   go_ret
   exact ⟨rfl, hb0⟩
  | false =>
   cases b2 with
   | true =>
    go_enter Tryz.func55, Tryz.ntmps55
    go_wp2_with (first
     | (go_at_call 112; ((with_reducible refine h1.mono ?_); rintro e w2 ⟨rfl, rfl⟩))
     | (go_at_call 112; ((with_reducible refine h2.mono ?_); rintro e w2 ⟨rfl, rfl⟩))
     | (go_at_call 112; ((with_reducible refine h3.mono ?_); rintro e w2 ⟨rfl, rfl⟩))
     | (go_at_call 112; ((with_reducible refine h4.mono ?_); rintro e w2 ⟨rfl, rfl⟩)))
    go_ret
    exact ⟨rfl, hb0⟩
   | false =>
    cases b3 with
    | true =>
     go_enter Tryz.func55, Tryz.ntmps55
     go_wp2_with (first
      | (go_at_call 112; ((with_reducible refine h1.mono ?_); rintro e w2 ⟨rfl, rfl⟩))
      | (go_at_call 112; ((with_reducible refine h2.mono ?_); rintro e w2 ⟨rfl, rfl⟩))
      | (go_at_call 112; ((with_reducible refine h3.mono ?_); rintro e w2 ⟨rfl, rfl⟩))
      | (go_at_call 112; ((with_reducible refine h4.mono ?_); rintro e w2 ⟨rfl, rfl⟩)))
     go_ret
     exact ⟨rfl, hb0⟩
    | false =>
     cases b4 with
     | true =>
      go_enter Tryz.func55, Tryz.ntmps55
      go_wp2_with (first
       | (go_at_call 112; ((with_reducible refine h1.mono ?_); rintro e w2 ⟨rfl, rfl⟩))
       | (go_at_call 112; ((with_reducible refine h2.mono ?_); rintro e w2 ⟨rfl, rfl⟩))
       | (go_at_call 112; ((with_reducible refine h3.mono ?_); rintro e w2 ⟨rfl, rfl⟩))
       | (go_at_call 112; ((with_reducible refine h4.mono ?_); rintro e w2 ⟨rfl, rfl⟩)))
      go_ret
      exact ⟨rfl, hb0⟩
     | false =>
      cases b65 with
      | false =>
       go_enter Tryz.func55, Tryz.ntmps55
       go_wp2_with (first
        | (go_at_call 112; ((with_reducible refine h1.mono ?_); rintro e w2 ⟨rfl, rfl⟩))
        | (go_at_call 112; ((with_reducible refine h2.mono ?_); rintro e w2 ⟨rfl, rfl⟩))
        | (go_at_call 112; ((with_reducible refine h3.mono ?_); rintro e w2 ⟨rfl, rfl⟩))
        | (go_at_call 112; ((with_reducible refine h4.mono ?_); rintro e w2 ⟨rfl, rfl⟩)))
       go_ret
       exact ⟨rfl, hb0⟩
      | true =>
       cases b90 with
       | false =>
        go_enter Tryz.func55, Tryz.ntmps55
        go_wp2_with (first
         | (go_at_call 112; ((with_reducible refine h1.mono ?_); rintro e w2 ⟨rfl, rfl⟩))
         | (go_at_call 112; ((with_reducible refine h2.mono ?_); rintro e w2 ⟨rfl, rfl⟩))
         | (go_at_call 112; ((with_reducible refine h3.mono ?_); rintro e w2 ⟨rfl, rfl⟩))
         | (go_at_call 112; ((with_reducible refine h4.mono ?_); rintro e w2 ⟨rfl, rfl⟩)))
        go_ret
        exact ⟨rfl, hb0⟩
       | true =>
        go_enter Tryz.func55, Tryz.ntmps55
        go_wp2_with (first
         | (go_at_call 112; ((with_reducible refine h1.mono ?_); rintro e w2 ⟨rfl, rfl⟩))
         | (go_at_call 112; ((with_reducible refine h2.mono ?_); rintro e w2 ⟨rfl, rfl⟩))
         | (go_at_call 112; ((with_reducible refine h3.mono ?_); rintro e w2 ⟨rfl, rfl⟩))
         | (go_at_call 112; ((with_reducible refine h4.mono ?_); rintro e w2 ⟨rfl, rfl⟩)))
        go_ret
        exact ⟨rfl, hb0⟩
end Go.Proofs.YtggifbbiiickmaaGreatDoor
namespace Go.Proofs.YtggifbbiiickmaaGreatDoor
open Go.RowKit Go.Shelf Go.Proofs.zk.zK Go.Proofs.zk.yQ Go.Proofs.zk.yX Go.Proofs.YtggifbbiiickmaaGreatDoor.PX
set_option linter.unusedSimpArgs false
def Vp (s : ByteArray) : Int × Bool := if 6 < s.size then (0, false) else (dN s.data.toList, Jt s.data.toList)
def number.T4 : Bool × List (List Nat × List Nat) := (true, [([], []), ([], []), ([1], [1]), ([0, 0], [0]), ([2, 3, 0, 1, 2, 3], [2])])
theorem number.zqs : vk .any (opsOf Tryz.f61 4) = number.T4 := by kernel_rfl
set_option maxRecDepth 100000 in
theorem zqt (s : ByteArray) (w : World) (hs : s.size ≤ 140737488355328) (hG : GW w) :
  Calls Tryz.prog 61 #[.string s] w fun e w' => e = .returned (.tuple #[.int .i64 (Vp s).1, .bool (Vp s).2]) ∧ Below w.heap.size w w' := by
 unfold Vp
 by_cases h6 : 6 < s.size
 ·rw [if_pos h6]
  have q1 : decide ((6 : Int) < (s.size : Int)) = true := decide_eq_true (by omega)
  go_enter Tryz.func61, Tryz.ntmps61
  go_wp2
  go_ret2
  exact ⟨rfl, Below.refl _ _⟩
 ·rw [if_neg h6]
  have q1 : decide ((6 : Int) < (s.size : Int)) = false := decide_eq_false (by omega)
  have ha := zjd s w hs hG
  generalize dN s.data.toList = N at ha ⊢
  generalize Jt s.data.toList = B at ha ⊢
  cases B with
  | true =>
   go_enter Tryz.func61, Tryz.ntmps61
   go_wp2_with fail
   refine ha.mono ?_; rintro e w2 ⟨ev, rfl, h1, _, hb⟩
   obtain rfl := h1 (by simp)
   clear ha h1
   go_wp2
   refine pG (n := 5) (S := fun _ => True) (ds := []) #[false, false, false, false, false] (by kernel_rfl) rfl rfl trivial (fun hHeld => ?_)
   refine QU number.zqs (fun qz => ?_)
   refine qU (i := 0) (N := some 14) (v := ?_) (a' := ?_) #[true, false, false, false, false] rfl rfl (qC qz.out (by kernel_rfl)) (fun _ _ _ h => h) (Or.inl ⟨by rfl, ?_⟩) ?_ ?_
   rotate_left
   ·intro w'
    go_simp
    with_reducible rfl
   rotate_left
   ·simp only [Act.put, List.setIfInBounds_toArray, List.set_cons_zero, List.set_cons_succ]
    rfl
   refine qU (i := 1) (N := some 15) (v := ?_) (a' := ?_) #[true, true, false, false, false] rfl rfl (qC qz.out (by kernel_rfl)) (fun _ _ _ h => h) (Or.inl ⟨by rfl, ?_⟩) ?_ ?_
   rotate_left
   ·intro w'
    go_simp
    with_reducible rfl
   rotate_left
   ·simp only [Act.put, List.setIfInBounds_toArray, List.set_cons_zero, List.set_cons_succ]
    rfl
   refine qU (i := 2) (N := some 16) (v := ?_) (a' := ?_) #[true, true, true, false, false] rfl rfl (qC qz.out (by kernel_rfl)) (fun _ _ _ h => h) (Or.inl ⟨by rfl, ?_⟩) ?_ ?_
   rotate_left
   ·intro w'
    go_simp
    with_reducible rfl
   rotate_left
   ·simp only [Act.put, List.setIfInBounds_toArray, List.set_cons_zero, List.set_cons_succ]
    rfl
   refine qU (i := 3) (N := some 2) (v := ?_) (a' := ?_) #[true, true, true, true, false] rfl rfl (qC qz.out (by kernel_rfl)) (fun _ _ _ h => h) (Or.inl ⟨by rfl, ?_⟩) ?_ ?_
   rotate_left
   ·intro w'
    go_simp
    with_reducible rfl
   rotate_left
   ·simp only [Act.put, List.setIfInBounds_toArray, List.set_cons_zero, List.set_cons_succ]
    rfl
   refine qU (i := 4) (N := some 3) (v := ?_) (a' := ?_) #[true, true, true, true, true] rfl rfl (qC qz.out (by kernel_rfl)) (fun _ _ _ h => h) (Or.inl ⟨by rfl, ?_⟩) ?_ ?_
   rotate_left
   ·intro w'
    go_simp
    with_reducible rfl
   rotate_left
   ·simp only [Act.put, List.setIfInBounds_toArray, List.set_cons_zero, List.set_cons_succ]
    rfl
   clear hHeld
   refine wX (jA qz.out (by kernel_rfl)) ?_
   go_wp2
   go_ret2
   exact ⟨rfl, hb.drew⟩
  | false =>
   go_enter Tryz.func61, Tryz.ntmps61
   go_wp2_with fail
   refine ha.mono ?_; rintro e w2 ⟨ev, rfl, _, h1, hb⟩
   obtain ⟨te, pe, rfl⟩ := h1 (by simp)
   clear ha h1
   go_wp2
   refine pG (n := 5) (S := fun _ => True) (ds := []) #[false, false, false, false, false] (by kernel_rfl) rfl rfl trivial (fun hHeld => ?_)
   refine QU number.zqs (fun qz => ?_)
   refine qU (i := 0) (N := some 14) (v := ?_) (a' := ?_) #[true, false, false, false, false] rfl rfl (qC qz.out (by kernel_rfl)) (fun _ _ _ h => h) (Or.inl ⟨by rfl, ?_⟩) ?_ ?_
   rotate_left
   ·intro w'
    go_simp
    with_reducible rfl
   rotate_left
   ·simp only [Act.put, List.setIfInBounds_toArray, List.set_cons_zero, List.set_cons_succ]
    rfl
   refine qU (i := 1) (N := some 15) (v := ?_) (a' := ?_) #[true, true, false, false, false] rfl rfl (qC qz.out (by kernel_rfl)) (fun _ _ _ h => h) (Or.inl ⟨by rfl, ?_⟩) ?_ ?_
   rotate_left
   ·intro w'
    go_simp
    with_reducible rfl
   rotate_left
   ·simp only [Act.put, List.setIfInBounds_toArray, List.set_cons_zero, List.set_cons_succ]
    rfl
   refine qU (i := 2) (N := some 16) (v := ?_) (a' := ?_) #[true, true, true, false, false] rfl rfl (qC qz.out (by kernel_rfl)) (fun _ _ _ h => h) (Or.inl ⟨by rfl, ?_⟩) ?_ ?_
   rotate_left
   ·intro w'
    go_simp
    with_reducible rfl
   rotate_left
   ·simp only [Act.put, List.setIfInBounds_toArray, List.set_cons_zero, List.set_cons_succ]
    rfl
   refine qU (i := 3) (N := some 2) (v := ?_) (a' := ?_) #[true, true, true, true, false] rfl rfl (qC qz.out (by kernel_rfl)) (fun _ _ _ h => h) (Or.inl ⟨by rfl, ?_⟩) ?_ ?_
   rotate_left
   ·intro w'
    go_simp
    with_reducible rfl
   rotate_left
   ·simp only [Act.put, List.setIfInBounds_toArray, List.set_cons_zero, List.set_cons_succ]
    rfl
   refine qU (i := 4) (N := some 3) (v := ?_) (a' := ?_) #[true, true, true, true, true] rfl rfl (qC qz.out (by kernel_rfl)) (fun _ _ _ h => h) (Or.inl ⟨by rfl, ?_⟩) ?_ ?_
   rotate_left
   ·intro w'
    go_simp
    with_reducible rfl
   rotate_left
   ·simp only [Act.put, List.setIfInBounds_toArray, List.set_cons_zero, List.set_cons_succ]
    rfl
   clear hHeld
   refine wX (jA qz.out (by kernel_rfl)) ?_
   go_wp2
   go_ret2
   exact ⟨rfl, hb.drew⟩
theorem u8n (c : Nat) (h : c ≤ 126) : ((UInt8.ofNat c).toNat : Int) = c := by
 have : (UInt8.ofNat c).toNat = c := by simp; omega
 rw [this]
def JN (c : Nat) : Int := ZT (UInt8.ofNat c)
def ny (c : Nat) : Int := max 0 (ZT (UInt8.ofNat c) - 20)
def dY (c : Nat) : Int := ZT (UInt8.ofNat c) + 50
def nZ (_ : Nat) : Int := 600
theorem Vr (c : UInt8) : 0 ≤ ZT c ∧ ZT c ≤ 900 := by unfold ZT; repeat' split <;> try omega
theorem Pq (c : Nat) (W : World) (_ : 33 ≤ c) (h : c ≤ 126) : Calls Tryz.prog 55 #[.int .u8 (c : Int)] W fun e w' => e = .returned (.int .i64 (JN c)) ∧ Below W.heap.size W w' := by
 have h := zxN (UInt8.ofNat c) W
 rw [u8n c (by assumption)] at h
 exact h
set_option maxRecDepth 100000 in
theorem zkO (c : Nat) (W : World) (h0 : 33 ≤ c) (h : c ≤ 126) : Calls Tryz.prog 57 #[.int .u8 (c : Int)] W fun e w' => e = .returned (.int .i64 (ny c)) ∧ Below W.heap.size W w' := by
 have hr := Pq c W h0 h
 have hv := Vr (UInt8.ofNat c)
 unfold ny
 unfold JN at hr
 generalize ZT (UInt8.ofNat c) = v at hr hv ⊢
 go_enter Tryz.func57, Tryz.ntmps57
 have e1 : IntKind.i64.wrap (v - 20) = v - 20 := IntWalk.i64_in _ (by omega)
 go_wp2_with (go_at_call 55; refine hr.mono ?_; rintro e w2 ⟨rfl, hb2⟩)
 go_ret
 exact ⟨by first | rfl | (simp; done) | (simp [Int.max_def]; done), hb2⟩
set_option maxRecDepth 100000 in
theorem zkP (c : Nat) (W : World) (h0 : 33 ≤ c) (h : c ≤ 126) : Calls Tryz.prog 58 #[.int .u8 (c : Int)] W fun e w' => e = .returned (.int .i64 (dY c)) ∧ Below W.heap.size W w' := by
 have hr := Pq c W h0 h
 have hv := Vr (UInt8.ofNat c)
 unfold dY
 unfold JN at hr
 generalize ZT (UInt8.ofNat c) = v at hr hv ⊢
 have e1 : IntKind.i64.wrap (v + 50) = v + 50 := IntWalk.i64_in _ (by omega)
 go_enter Tryz.func58, Tryz.ntmps58
 go_wp2_with (go_at_call 55; refine hr.mono ?_; rintro e w2 ⟨rfl, hb2⟩)
 go_ret
 exact ⟨by first | rfl | (rw [e1]; done), hb2⟩
theorem zkR (c : Nat) (W : World) (_ : 33 ≤ c) (_ : c ≤ 126) : Calls Tryz.prog 59 #[.int .u8 (c : Int)] W fun e w' => e = .returned (.int .i64 (nZ c)) ∧ Below W.heap.size W w' := by
 unfold nZ
 go_enter Tryz.func59, Tryz.ntmps59
 go_wp2
 go_ret
 exact ⟨rfl, Below.refl _ _⟩
end Go.Proofs.YtggifbbiiickmaaGreatDoor
namespace Go.Proofs.YtggifbbiiickmaaGreatDoor
open Go.RowKit Go.Shelf Go.Proofs.zk.zK Go.Proofs.zk.yX Go.Proofs.YtggifbbiiickmaaGreatDoor.PX
def Yr (wd : Nat → Int) (a n : Nat) : List yB := (List.range n).map fun i => ⟨chr (a + i), wd (a + i)⟩
def fK : ByteArray := ⟨#[102, 105]⟩
def fu : ByteArray := ⟨#[102, 108]⟩
def fA : ByteArray := ⟨#[102, 102]⟩
def kR (x : Int) : List yB := [⟨fK, x⟩, ⟨fu, x⟩, ⟨fA, x⟩]
def X3 (wd : Nat → Int) (x : Int) : List yB := Yr wd 33 70 ++ ([⟨fA, x⟩, ⟨fK, x⟩, ⟨fu, x⟩] ++ Yr wd 103 24)
theorem zvy (wd : Nat → Int) : kN wd 127 = Yr wd 33 70 ++ Yr wd 103 24 := by
 have e0 : List.range (127 - 33) = List.range 70 ++ (List.range 24).map (70 + ·) := List.range_add (n := 70) (m := 24)
 have e1 : ((List.range 24).map (70 + ·)).map (fun i => (⟨chr (33 + i), wd (33 + i)⟩ : yB)) = Yr wd 103 24 := by
  rw [List.map_map]
  apply List.map_congr_left
  intro i _
  show (⟨chr (33 + (70 + i)), wd (33 + (70 + i))⟩ : yB) = ⟨chr (103 + i), wd (103 + i)⟩
  rw [show 33 + (70 + i) = 103 + i by omega]
 unfold kN
 rw [e0, List.map_append, e1]
 unfold Yr
 exact rfl
theorem fB (wd : Nat → Int) (x : Int) : (X3 wd x).Perm (kR x ++ kN wd 127) := by
 rw [zvy]
 unfold X3 kR
 have h1 : ([⟨fA, x⟩, ⟨fK, x⟩, ⟨fu, x⟩] : List yB).Perm [⟨fK, x⟩, ⟨fu, x⟩, ⟨fA, x⟩] := by
  refine (List.Perm.swap _ _ _).trans ?_
  exact List.Perm.cons _ (List.Perm.swap _ _ _)
 generalize Yr wd 33 70 = A
 generalize Yr wd 103 24 = B
 refine (List.Perm.append_left A (List.Perm.append_right B h1)).trans ?_
 rw [← List.append_assoc, ← List.append_assoc]
 exact List.Perm.append_right B List.perm_append_comm
def XF (n : Nat) : List ByteArray := if n = 0 then (List.range 94).map (fun i => chr (33 + i)) else (List.range 70).map (fun i => chr (33 + i)) ++ ([fA, fK, fu] ++ (List.range 24).map (fun i => chr (103 + i)))
theorem zqu : (XF 0).Pairwise fun a b => xD a b < 0 := by decide +kernel
theorem zqA : (XF 1).Pairwise fun a b => xD a b < 0 := by decide +kernel
theorem zxO (wd : Nat → Int) (x : Int) : (X3 wd x).Pairwise fun a b => xD a.f0 b.f0 < 0 := by
 have h : ((X3 wd x).map (·.f0)) = XF 1 := by
  simp [X3, XF, Yr, List.map_map, Function.comp_def]
 have h2 := zqA
 rw [← h, List.pairwise_map] at h2
 exact h2
theorem zxP (wd : Nat → Int) : (kN wd 127).Pairwise fun a b => xD a.f0 b.f0 < 0 := by
 have h : ((kN wd 127).map (·.f0)) = XF 0 := by
  simp [kN, XF, List.map_map, Function.comp_def]
 have h2 := zqu
 rw [← h, List.pairwise_map] at h2
 exact h2
end Go.Proofs.YtggifbbiiickmaaGreatDoor
namespace Go.Proofs.YtggifbbiiickmaaGreatDoor
open Go.RowKit Go.Shelf Go.Proofs.zk.zK Go.Proofs.zk.yQ Go.Proofs.zk.yX Go.Proofs.YtggifbbiiickmaaGreatDoor.PX
set_option linter.unusedSimpArgs false
set_option linter.unusedVariables false
abbrev Uq : ByteArray := ⟨(([33, 61, 32, 54, 48, 48, 32, 42, 97, 32, 53, 53, 48, 32, 42, 98, 32, 53, 53, 48, 32, 42, 100, 32, 53, 48, 48, 32, 42, 103, 32, 53, 48, 48, 32, 42, 108, 32, 53, 53, 48, 32, 42, 112, 32, 54, 48, 48, 32, 42, 115, 32, 54, 48, 48, 32, 42, 119, 32, 55, 48].append [48, 32, 45, 62, 32, 49, 48, 48, 48, 32, 60, 45, 32, 49, 48, 48, 48, 32, 60, 61, 32, 54, 48, 48, 32, 62, 61, 32, 54, 48, 48, 32, 98, 114, 32, 49, 48, 32, 98, 117, 32, 52, 54, 48, 32, 99, 111, 32, 56, 48, 48, 32, 100, 103, 32, 53, 48, 48, 32, 100, 105, 32]).append ([54, 48, 48, 32, 101, 109, 32, 49, 48, 48, 48, 32, 101, 110, 32, 53, 48, 48, 32, 101, 113, 32, 54, 48, 48, 32, 104, 121, 32, 51, 53, 48, 32, 105, 102, 32, 55, 48, 48, 32, 105, 115, 32, 52, 48, 48, 32, 109, 105, 32, 54, 48, 48, 32, 109, 117, 32, 54, 48, 48, 32, 112].append [100, 32, 55, 48, 48, 32, 112, 108, 32, 54, 48, 48, 32, 114, 104, 32, 49, 48, 48, 48, 32, 114, 117, 32, 53, 48, 48, 32, 115, 99, 32, 53, 48, 48, 32, 115, 113, 32, 54, 48, 48, 32, 115, 114, 32, 53, 48, 48, 32, 115, 117, 32, 55, 48, 48, 32, 117, 108, 32, 53, 48, 48])).toArray⟩
def U4 : List (List UInt8) := Lib.fields Uq.data.toList
theorem nQ : U4.length = 70 := by decide +kernel
theorem zqB : ∀ x ∈ U4, x.length ≤ 6 := by decide +kernel
theorem tu : ∀ (j : Nat) (b : UInt8), Uq.data.toList[j]? = some b → b.toNat < 128 := by
 have h : ∀ b ∈ Uq.data.toList, b.toNat < 128 := by decide +kernel
 intro j b hj
 exact h b (List.mem_of_getElem? hj)
theorem nX (x : Int) (W : World) (b : Nat) (ok : Nat → Prop) : yD (xB.M W b ok) xB.sz (kR x) [.string (⟨#[102, 105]⟩ : ByteArray), .int .i64 x, .string (⟨#[102, 108]⟩ : ByteArray), .int .i64 x, .string (⟨#[102, 102]⟩ : ByteArray), .int .i64 x] := by
 have h : ∀ (j : Nat) (p : yB), (kR x)[j]? = some p → xB.M W b ok p (([.string (⟨#[102, 105]⟩ : ByteArray), .int .i64 x, .string (⟨#[102, 108]⟩ : ByteArray), .int .i64 x, .string (⟨#[102, 102]⟩ : ByteArray), .int .i64 x].drop (j * 2)).take 2) := by
  intro j p hj
  rcases j with _ | _ | _ | j
  ·obtain rfl := Option.some.inj hj
   exact YM W b ok ⟨fK, x⟩
  ·obtain rfl := Option.some.inj hj
   exact YM W b ok ⟨fu, x⟩
  ·obtain rfl := Option.some.inj hj
   exact YM W b ok ⟨fA, x⟩
  ·simp [kR] at hj
 exact ⟨rfl, h⟩
def Ux : List qJ := [⟨⟨#[102]⟩, ⟨#[102]⟩, ⟨#[102, 102]⟩⟩, ⟨⟨#[102]⟩, ⟨#[105]⟩, ⟨#[102, 105]⟩⟩, ⟨⟨#[102]⟩, ⟨#[108]⟩, ⟨#[102, 108]⟩⟩]
def X4 : List qB := [(⟨(⟨#[65]⟩ : ByteArray), (⟨#[86]⟩ : ByteArray), (-80)⟩ : qB), (⟨(⟨#[65]⟩ : ByteArray), (⟨#[87]⟩ : ByteArray), (-60)⟩ : qB), (⟨(⟨#[84]⟩ : ByteArray), (⟨#[111]⟩ : ByteArray), (-70)⟩ : qB), (⟨(⟨#[86]⟩ : ByteArray), (⟨#[65]⟩ : ByteArray), (-80)⟩ : qB), (⟨(⟨#[89]⟩ : ByteArray), (⟨#[111]⟩ : ByteArray), (-90)⟩ : qB)]
def FB (W : World) (lo hi g : Nat) (x : uR) : Prop :=
 ∃ v3 v4 v5, W.heap[g]? = some (.cells #[.string x.f0, .bool x.f1, .int .i64 x.f2, v3, v4, v5] 60 (0, 0)) ∧ lo ≤ g ∧ g < hi ∧ Kd.R xB 105 W lo (fun k => lo ≤ k ∧ k < hi) v3 x.f3 ∧
  Kd.R uV 108 W lo (fun k => lo ≤ k ∧ k < hi) v4 x.f4 ∧ Kd.R ug 111 W lo (fun k => lo ≤ k ∧ k < hi) v5 x.f5
theorem Ji {α : Type} {d : Kd α} {e lo hi : Nat} {W W' : World} {v : Value} {xs : List α} (h : d.R e W lo (fun k => lo ≤ k ∧ k < hi) v xs) (hb : Below hi W W') : d.R e W' lo (fun k => lo ≤ k ∧ k < hi) v xs :=
 Kd.Qe h (fun k hk _ => hb.block k hk.2)
theorem zvw {α : Type} {d : Kd α} {e lo : Nat} {W : World} {v : Value} {xs : List α} (h : d.R e W lo (fun _ => True) v xs) : d.R e W lo (fun k => lo ≤ k ∧ k < W.heap.size) v xs :=
 Kd.xQ (Kd.wz h) (fun k hk => ⟨hk.2.1, hk.2.2.1⟩)
theorem FB.keep {W W' : World} {lo hi g : Nat} {x : uR} (h : FB W lo hi g x) (hb : Below hi W W') : FB W' lo hi g x := by
 obtain ⟨v3, v4, v5, h1, h2, h3, h4, h5, h6⟩ := h
 exact ⟨v3, v4, v5, (hb.block g h3).trans h1, h2, h3, Ji h4 hb, Ji h5 hb, Ji h6 hb⟩
theorem FB.mk {W : World} {lo g : Nat} (x : uR) {v3 v4 v5 : Value} (h1 : W.heap[g]? = some (.cells #[.string x.f0, .bool x.f1, .int .i64 x.f2, v3, v4, v5] 60 (0, 0))) (h2 : lo ≤ g) (h3 : Kd.R xB 105 W lo (fun _ => True) v3 x.f3)
  (h4 : Kd.R uV 108 W lo (fun _ => True) v4 x.f4) (h5 : Kd.R ug 111 W lo (fun _ => True) v5 x.f5) : FB W lo W.heap.size g x :=
 ⟨v3, v4, v5, h1, h2, kY h1, zvw h3, zvw h4, zvw h5⟩
def zvR : uR := ⟨⟨#[82]⟩, false, 250, X3 JN 550, Ux, X4⟩
def zvS : uR := ⟨⟨#[73]⟩, false, 250, kN ny 127, [], []⟩
def zvT : uR := ⟨⟨#[66]⟩, false, 250, X3 dY 600, Ux, []⟩
def zvU : uR := ⟨⟨#[77]⟩, false, 600, kN nZ 127, [], []⟩
theorem zxR (W : World) (b : Nat) (ok : Nat → Prop) : yD (ug.M W b ok) ug.sz X4 [.string (⟨#[65]⟩ : ByteArray), .string (⟨#[86]⟩ : ByteArray), .int .i64 (-80), .string (⟨#[65]⟩ : ByteArray), .string (⟨#[87]⟩ : ByteArray), .int .i64 (-60), .string (⟨#[84]⟩ : ByteArray), .string (⟨#[111]⟩ : ByteArray), .int .i64 (-70), .string (⟨#[86]⟩ : ByteArray), .string (⟨#[65]⟩ : ByteArray), .int .i64 (-80), .string (⟨#[89]⟩ : ByteArray), .string (⟨#[111]⟩ : ByteArray), .int .i64 (-90)] := by
 have h : ∀ (j : Nat) (p : qB), X4[j]? = some p → ug.M W b ok p ((([.string (⟨#[65]⟩ : ByteArray), .string (⟨#[86]⟩ : ByteArray), .int .i64 (-80), .string (⟨#[65]⟩ : ByteArray), .string (⟨#[87]⟩ : ByteArray), .int .i64 (-60), .string (⟨#[84]⟩ : ByteArray), .string (⟨#[111]⟩ : ByteArray), .int .i64 (-70), .string (⟨#[86]⟩ : ByteArray), .string (⟨#[65]⟩ : ByteArray), .int .i64 (-80), .string (⟨#[89]⟩ : ByteArray), .string (⟨#[111]⟩ : ByteArray), .int .i64 (-90)] : List Value).drop (j * 3)).take 3) := by
  intro j p hj
  rcases j with _ | _ | _ | _ | _ | j
  ·obtain rfl := Option.some.inj hj
   exact XI W b ok (⟨(⟨#[65]⟩ : ByteArray), (⟨#[86]⟩ : ByteArray), (-80)⟩ : qB)
  ·obtain rfl := Option.some.inj hj
   exact XI W b ok (⟨(⟨#[65]⟩ : ByteArray), (⟨#[87]⟩ : ByteArray), (-60)⟩ : qB)
  ·obtain rfl := Option.some.inj hj
   exact XI W b ok (⟨(⟨#[84]⟩ : ByteArray), (⟨#[111]⟩ : ByteArray), (-70)⟩ : qB)
  ·obtain rfl := Option.some.inj hj
   exact XI W b ok (⟨(⟨#[86]⟩ : ByteArray), (⟨#[65]⟩ : ByteArray), (-80)⟩ : qB)
  ·obtain rfl := Option.some.inj hj
   exact XI W b ok (⟨(⟨#[89]⟩ : ByteArray), (⟨#[111]⟩ : ByteArray), (-90)⟩ : qB)
  ·simp [X4] at hj
 exact ⟨rfl, h⟩
theorem FB.cells {W : World} {lo hi g : Nat} {x : uR} (h : FB W lo hi g x) : ∃ A3 n3 c3 A4 n4 c4 A5 n5 c5, W.heap[g]? = some (.cells #[.string x.f0, .bool x.f1, .int .i64 x.f2, .slice A3 n3 c3, .slice A4 n4 c4, .slice A5 n5 c5] 60 (0, 0)) ∧
  ∀ (W' : World) (base : Nat) (ok : Nat → Prop), Below W.heap.size W W' → base ≤ lo → (∀ k, lo ≤ k → k < hi → ok k) → jY.M W' base ok x [.string x.f0, .bool x.f1, .int .i64 x.f2, .slice A3 n3 c3, .slice A4 n4 c4, .slice A5 n5 c5] := by
 obtain ⟨v3, v4, v5, h1, h2, h3, h4, h5, h6⟩ := h
 obtain ⟨A3, c3, rfl⟩ := Kd.qA h4
 obtain ⟨A4, c4, rfl⟩ := Kd.qA h5
 obtain ⟨A5, c5, rfl⟩ := Kd.qA h6
 refine ⟨A3, _, c3, A4, _, c4, A5, _, c5, h1, fun W' base ok hb hl hok => ?_⟩
 exact zkt W' base ok x (Kd.xQ (Kd.vv (Kd.yU h4 hb) hl) (fun k hk => hok k hk.1 hk.2)) (Kd.xQ (Kd.vv (Kd.yU h5 hb) hl) (fun k hk => hok k hk.1 hk.2)) (Kd.xQ (Kd.vv (Kd.yU h6 hb) hl) (fun k hk => hok k hk.1 hk.2))
theorem Yt {W : World} {g : Nat} (h : W.heap[g]? = some (.cells #[.string (⟨#[]⟩ : ByteArray), .bool false, .int .i64 0, .slice none 0 0, .slice none 0 0, .slice none 0 0] 60 (0, 0))) (a : ByteArray) (b : Bool) (c : Int) (v3 v4 v5 : Value) :
  ((((((W.setCell ⟨g, 0, none⟩ (.string a)).setCell ⟨g, 1, none⟩ (.bool b)).setCell ⟨g, 2, none⟩ (.int .i64 c)).setCell ⟨g, 3, none⟩ v3).setCell ⟨g, 4, none⟩ v4).setCell ⟨g, 5, none⟩ v5).heap[g]? = some (.cells #[.string a, .bool b, .int .i64 c, v3, v4, v5] 60 (0, 0)) :=
 xX (xX (xX (xX (xX (xX (cs' := #[.string a, .bool false, .int .i64 0, .slice none 0 0, .slice none 0 0, .slice none 0 0]) h 0 _ rfl) (cs' := #[.string a, .bool b, .int .i64 0, .slice none 0 0, .slice none 0 0, .slice none 0 0]) 1 _ rfl)
  (cs' := #[.string a, .bool b, .int .i64 c, .slice none 0 0, .slice none 0 0, .slice none 0 0]) 2 _ rfl) (cs' := #[.string a, .bool b, .int .i64 c, v3, .slice none 0 0, .slice none 0 0]) 3 _ rfl) (cs' := #[.string a, .bool b, .int .i64 c, v3, v4, .slice none 0 0]) 4 _ rfl) 5 _ rfl
theorem Xd {W0 W : World} {B g : Nat} (h : Below B W0 W) (hg : B ≤ g) (u0 u1 u2 u3 u4 u5 : Value) :
  Below B W0 ((((((W.setCell ⟨g, 0, none⟩ u0).setCell ⟨g, 1, none⟩ u1).setCell ⟨g, 2, none⟩ u2).setCell ⟨g, 3, none⟩ u3).setCell ⟨g, 4, none⟩ u4).setCell ⟨g, 5, none⟩ u5) :=
 (((((h.setCell hg _).setCell hg _).setCell hg _).setCell hg _).setCell hg _).setCell hg _
def kW (j : Nat) : ByteArray := ⟨(U4.getD j []).toArray⟩
theorem tC (j : Nat) : (kW j).size ≤ 6 := by
 show ((U4.getD j []).toArray).size ≤ 6
 rw [List.size_toArray, List.getD_eq_getElem?_getD]
 cases h : U4[j]? with
 | none => simp
 | some x => exact zqB x (List.mem_of_getElem? h)
def Vy (m : Nat) : List yB := (List.range m).map fun i => ⟨kW (2 * i), (Vp (kW (2 * i + 1))).1⟩
theorem zxS (m : Nat) : Vy (m + 1) = Vy m ++ [⟨kW (2 * m), (Vp (kW (2 * m + 1))).1⟩] := by unfold Vy; rw [List.range_succ, List.map_append]; rfl
theorem zvZ (m : Nat) : (Vy m).length = m := by simp [Vy]
def zv0 : uR := ⟨⟨#[83]⟩, true, 250, Vy 35, [], []⟩
def Ya : Array Value := (U4.map fun l => Value.string ⟨l.toArray⟩).toArray
theorem Vw (j : Nat) (h : j < 70) : Ya[j]? = some (.string (kW j)) := by
 have hl : j < U4.length := by rw [nQ]; exact h
 unfold Ya kW
 simp [List.getD_eq_getElem?_getD, hl]
def YU : List uR := [zvR, zvS, zvT, zvU, zv0]
def std.T14 : Bool × List (List Nat × List Nat) := (true, [([], []), ([0], [0]), ([], []), ([], []), ([2, 3], [2, 3]), ([4], [4]), ([], []), ([5, 6], [5, 6]), ([7], [7]), ([1, 8], [1, 8]), ([0, 1, 2, 3, 4, 5, 6, 7, 8, 9], []), ([10, 9, 9, 0, 1, 2, 3, 4, 5, 6, 7, 8, 9], [9, 10])])
theorem std.zwN : vk .any (opsOf Tryz.f19 14) = std.T14 := by kernel_rfl
def zQP (W4 : World) (g5 bw : Nat) (x : Value) (wr : World) : Prop :=
 ∃ (m k : Nat) (u : Value), x = .int .i64 (k : Int) ∧ k = 2 * m ∧ m ≤ 35 ∧ Kd.R xB 105 wr W4.heap.size (fun _ => True) u (Vy m) ∧ wr.heap[g5]? = some (.cells #[.string (⟨#[83]⟩ : ByteArray), .bool true, .int .i64 250, u, .slice none 0 0, .slice none 0 0] 60 (0, 0)) ∧
  wr.heap[bw]? = some (.cells Ya 9 (0, 0)) ∧ Below W4.heap.size W4 wr
set_option maxHeartbeats 8000000 in
set_option maxRecDepth 100000 in
theorem zkS (w : World) (hG : GW w) : Calls Tryz.prog 19 #[] w fun e w' => ∃ v : Value, e = .returned v ∧ Kd.S jY 60 w' w.heap.size (fun _ => True) v YU ∧ Below w.heap.size w w' := by
 have zvv := Tryz.underlying60
 have HGW := zx.mk hG
 clear hG
 have zqC := zx.mk (Below.refl w.heap.size w)
 generalize hW0 : w = Vs at zqC HGW
 go_enter Tryz.func19, Tryz.ntmps19
 go_wp2_with (first | ((with_reducible refine qw (N := 13) rfl ?_); refine Kd.Yc xB Vs.heap.size 105 ?hg (N := 13) ?hd (w0 := Vs) (xs := (kR 550)) (inner := [.string (⟨#[102, 105]⟩ : ByteArray), .int .i64 550, .string (⟨#[102, 108]⟩ : ByteArray), .int .i64 550, .string (⟨#[102, 102]⟩ : ByteArray), .int .i64 550]) (ok := fun _ => True) (vW := fun _ => True) ?hr ?hp (fun _ hk => hk) trivial zqC.out zqC.out.size (by simp [kR]) ?_; (case hd => rfl); (case hg => rfl); (case hr => first | (go_simp; done) | (go_simp; rfl)); (case hp => exact nX 550 _ _ _); intro u0 wl hol hbl hgl U5; have HL_ := zx.mk hol; have U6 := zx.mk hbl; have zvQ := zx.mk U5; clear hol hbl hgl U5 zqC))
 refine (Vk 55 _ Tryz.func55 (by kernel_rfl) rfl JN Pq (⟨#[82]⟩ : ByteArray) 250 Vs.heap.size u0 (kR 550) (X3 JN 550) wl U6.out.size HL_.out (by simp [kR]) (fB JN 550) (zxO JN 550)).mono ?_
 rintro e w1 ⟨v1, rfl, hr, hb, -, -⟩
 have HR1 := zx.mk hr
 have HB1 := zx.mk (U6.out.trans hb)
 clear hr hb HL_ U6 zvQ
 obtain ⟨A1, c1, e1⟩ := Kd.qA HR1.out
 generalize (X3 JN 550).length = n1 at e1
 subst e1
 go_wp2_with (first | ((with_reducible refine qw (N := 1) rfl ?_); refine qL ?hg (N := 1) ?hd (cs := #[.string (⟨#[]⟩ : ByteArray), .bool false, .int .i64 0, .slice none 0 0, .slice none 0 0, .slice none 0 0]) (t := 60) ?hr ?_; (case hd => rfl); (case hg => rfl); (case hr => first | (go_simp; done) | (go_simp; rfl)); intro g1 QJ w2 hbx hbq; have Zq := zx.mk hbx; have zv1 := zx.mk hbq; have zqD := zx.mk QJ; clear hbx hbq QJ; have zwO : w2.cell? ⟨g1, 0, none⟩ = some (.string (⟨#[]⟩ : ByteArray)) := (zy Zq.out 0).trans rfl; have zwP : w2.cell? ⟨g1, 1, none⟩ = some (.bool false) := (zy Zq.out 1).trans rfl; have zwR : w2.cell? ⟨g1, 2, none⟩ = some (.int .i64 0) := (zy Zq.out 2).trans rfl; have zwS : w2.cell? ⟨g1, 3, none⟩ = some (.slice none 0 0) := (zy Zq.out 3).trans rfl; have zwT : w2.cell? ⟨g1, 4, none⟩ = some (.slice none 0 0) := (zy Zq.out 4).trans rfl; have zwU : w2.cell? ⟨g1, 5, none⟩ = some (.slice none 0 0) := (zy Zq.out 5).trans rfl; have zw0 := zw Zq.out 0; have zw1 := zw Zq.out 1; have zw2 := zw Zq.out 2; have zw3 := zw Zq.out 3; have zw4 := zw Zq.out 4; have zw5 := zw Zq.out 5))
 have zX := zx.mk (Yt Zq.out (⟨#[82]⟩ : ByteArray) false 250 (.slice A1 n1 c1) (.slice none 0 0) (.slice none 0 0))
 have zf := zx.mk (Xd (zv1.out) (Nat.le_of_eq zqD.out.symm) (.string (⟨#[82]⟩ : ByteArray)) (.bool false) (.int .i64 250) (.slice A1 n1 c1) (.slice none 0 0) (.slice none 0 0))
 have LG1 := zx.mk (Nat.le_trans HB1.out.size (Nat.le_of_eq zqD.out.symm))
 clear zwO zwP zwR zwS zwT zwU zw0 zw1 zw2 zw3 zw4 zw5
 generalize ((((((w2.setCell ⟨g1, 0, none⟩ (.string (⟨#[82]⟩ : ByteArray))).setCell ⟨g1, 1, none⟩ (.bool false)).setCell ⟨g1, 2, none⟩ (.int .i64 250)).setCell ⟨g1, 3, none⟩ (.slice A1 n1 c1)).setCell ⟨g1, 4, none⟩ (.slice none 0 0)).setCell ⟨g1, 5, none⟩ (.slice none 0 0)) = w3 at zX zf ⊢
 have zV := zx.mk (Kd.yU HR1.out zf.out)
 have zu := zx.mk (HB1.out.trans (zf.out.mono HB1.out.size))
 clear HR1 HB1 Zq zv1 zqD zf
 have ZU := zX
 have HR1 := zV
 have HB1 := zu
 clear zX zV zu
 refine (Zd.calls Ux w3 rfl).mono ?_
 rintro e w4 ⟨v4, rfl, hr, hb⟩
 have zX := zx.mk (zm ZU.out hb)
 have zV := zx.mk (Kd.yU HR1.out hb)
 have zf := zx.mk (Kd.vv hr HB1.out.size)
 have zu := zx.mk (HB1.out.trans (hb.mono HB1.out.size))
 clear ZU HR1 HB1 hr hb
 have ZU := zX
 have HR1 := zV
 have Us := zf
 have HB1 := zu
 clear zX zV zf zu
 obtain ⟨A4, c4, e4⟩ := Kd.qA Us.out
 generalize Ux.length = n4 at e4
 subst e4
 have hq4 : w4.cell? ⟨g1, 4, none⟩ = some (.slice none 0 0) := (zy ZU.out 4).trans rfl
 have zvX := zw ZU.out 4
 go_wp2_with (first | ((with_reducible refine qw (N := 22) rfl ?_); have zX := zx.mk (xX (cs' := #[.string (⟨#[82]⟩ : ByteArray), .bool false, .int .i64 250, .slice A1 n1 c1, .slice A4 n4 c4, .slice none 0 0]) ZU.out 4 (.slice A4 n4 c4) rfl); have zV := zx.mk (Kd.Zc HR1.out ZU.out (by decide) 4 (.slice A4 n4 c4)); have zf := zx.mk (Kd.Zc Us.out ZU.out (by decide) 4 (.slice A4 n4 c4)); have zu := zx.mk (HB1.out.setCell (p := ⟨g1, 4, none⟩) LG1.out (.slice A4 n4 c4)); clear ZU HR1 Us HB1 hq4 zvX; have ZU := zX; have HR1 := zV; have Us := zf; have HB1 := zu; clear zX zV zf zu; generalize w4.setCell ⟨g1, 4, none⟩ (.slice A4 n4 c4) = w5 at ZU HR1 Us HB1 ⊢; refine Kd.Yc ug Vs.heap.size 111 ?hg (N := 22) ?hd (w0 := Vs) (xs := X4) (inner := [.string (⟨#[65]⟩ : ByteArray), .string (⟨#[86]⟩ : ByteArray), .int .i64 (-80), .string (⟨#[65]⟩ : ByteArray), .string (⟨#[87]⟩ : ByteArray), .int .i64 (-60), .string (⟨#[84]⟩ : ByteArray), .string (⟨#[111]⟩ : ByteArray), .int .i64 (-70), .string (⟨#[86]⟩ : ByteArray), .string (⟨#[65]⟩ : ByteArray), .int .i64 (-80), .string (⟨#[89]⟩ : ByteArray), .string (⟨#[111]⟩ : ByteArray), .int .i64 (-90)]) (ok := fun _ => True) (vW := fun _ => True) ?hr ?hp (fun _ hk => hk) trivial HB1.out HB1.out.size (by simp [X4]) ?_; (case hd => rfl); (case hg => rfl); (case hr => first | (go_simp; done) | (go_simp; rfl)); (case hp => exact zxR _ _ _); intro v5 wk hol hbl hgl U5; obtain ⟨A5, c5, e5⟩ := Kd.qA hol; generalize X4.length = n5 at e5; subst e5; have zX := zx.mk (qj ZU.out hgl (by simp)); have zV := zx.mk (Kd.V4 HR1.out hgl (fun _ _ => by simp)); have zf := zx.mk (Kd.V4 Us.out hgl (fun _ _ => by simp)); have zu := zx.mk hol; have yZ := zx.mk hbl; clear ZU HR1 Us HB1 hol hbl hgl U5; have ZU := zX; have HR1 := zV; have Us := zf; have Xc := zu; have HB1 := yZ; clear zX zV zf zu yZ; have hq5 : wk.cell? ⟨g1, 5, none⟩ = some (.slice none 0 0) := (zy ZU.out 5).trans rfl; have zQR := zw ZU.out 5))
 have zX := zx.mk (xX (cs' := #[.string (⟨#[82]⟩ : ByteArray), .bool false, .int .i64 250, .slice A1 n1 c1, .slice A4 n4 c4, .slice A5 n5 c5]) ZU.out 5 (.slice A5 n5 c5) rfl)
 have zV := zx.mk (Kd.Zc HR1.out ZU.out (by decide) 5 (.slice A5 n5 c5))
 have zf := zx.mk (Kd.Zc Us.out ZU.out (by decide) 5 (.slice A5 n5 c5))
 have zu := zx.mk (Kd.Zc Xc.out ZU.out (by decide) 5 (.slice A5 n5 c5))
 have yZ := zx.mk (HB1.out.setCell (p := ⟨g1, 5, none⟩) LG1.out (.slice A5 n5 c5))
 clear ZU HR1 Us Xc HB1 hq5 zQR
 generalize wk.setCell ⟨g1, 5, none⟩ (.slice A5 n5 c5) = dW at zX zV zf zu yZ ⊢
 have FB1 := zx.mk (FB.mk zvR zX.out LG1.out zV.out zf.out zu.out)
 have dh := zx.mk yZ.out
 clear zX zV zf zu yZ LG1
 refine (Vk 57 _ Tryz.func57 (by kernel_rfl) rfl ny zkO (⟨#[73]⟩ : ByteArray) 250 dW.heap.size (.slice none 0 0) [] (kN ny 127) dW (Nat.le_refl _) (Kd.wu _ _ _ _ _) (by simp [kR]) (by rw [List.nil_append]) (zxP ny)).mono ?_
 rintro e w6 ⟨v6, rfl, hr, hb, -, -⟩
 have HR2 := zx.mk hr
 have HB2 := zx.mk hb
 clear hr hb
 obtain ⟨A6, c6, e6⟩ := Kd.qA HR2.out
 generalize (kN ny 127).length = n6 at e6
 subst e6
 go_wp2_with (first | ((with_reducible refine qw (N := 2) rfl ?_); refine qL ?hg (N := 2) ?hd (cs := #[.string (⟨#[]⟩ : ByteArray), .bool false, .int .i64 0, .slice none 0 0, .slice none 0 0, .slice none 0 0]) (t := 60) ?hr ?_; (case hd => rfl); (case hg => rfl); (case hr => first | (go_simp; done) | (go_simp; rfl)); intro g2 QJ w7 hbx hbq; have Zx := zx.mk hbx; have zv2 := zx.mk hbq; have zqE := zx.mk QJ; clear hbx hbq QJ; have zw6 : w7.cell? ⟨g2, 0, none⟩ = some (.string (⟨#[]⟩ : ByteArray)) := (zy Zx.out 0).trans rfl; have zw7 : w7.cell? ⟨g2, 1, none⟩ = some (.bool false) := (zy Zx.out 1).trans rfl; have zw8 : w7.cell? ⟨g2, 2, none⟩ = some (.int .i64 0) := (zy Zx.out 2).trans rfl; have zw9 : w7.cell? ⟨g2, 3, none⟩ = some (.slice none 0 0) := (zy Zx.out 3).trans rfl; have zZz : w7.cell? ⟨g2, 4, none⟩ = some (.slice none 0 0) := (zy Zx.out 4).trans rfl; have zZq : w7.cell? ⟨g2, 5, none⟩ = some (.slice none 0 0) := (zy Zx.out 5).trans rfl; have zZx := zw Zx.out 0; have zZj := zw Zx.out 1; have zZv := zw Zx.out 2; have zZk := zw Zx.out 3; have zZy := zw Zx.out 4; have zZw := zw Zx.out 5) | ((with_reducible refine qw (N := 28) rfl ?_); have zX := zx.mk (Yt Zx.out (⟨#[73]⟩ : ByteArray) false 250 (.slice A6 n6 c6) (.slice none 0 0) (.slice none 0 0)); have zf := zx.mk (Xd (zv2.out) (Nat.le_of_eq zqE.out.symm) (.string (⟨#[73]⟩ : ByteArray)) (.bool false) (.int .i64 250) (.slice A6 n6 c6) (.slice none 0 0) (.slice none 0 0)); have LG2 := zx.mk (Nat.le_trans HB2.out.size (Nat.le_of_eq zqE.out.symm)); clear zw6 zw7 zw8 zw9 zZz zZq zZx zZj zZv zZk zZy zZw; generalize ((((((w7.setCell ⟨g2, 0, none⟩ (.string (⟨#[73]⟩ : ByteArray))).setCell ⟨g2, 1, none⟩ (.bool false)).setCell ⟨g2, 2, none⟩ (.int .i64 250)).setCell ⟨g2, 3, none⟩ (.slice A6 n6 c6)).setCell ⟨g2, 4, none⟩ (.slice none 0 0)).setCell ⟨g2, 5, none⟩ (.slice none 0 0)) = JO at zX zf ⊢; have FB2 := zx.mk (FB.mk zvS zX.out LG2.out (Kd.yU HR2.out zf.out) (Kd.wu _ _ _ _ _) (Kd.wu _ _ _ _ _)); have nJ := zx.mk (HB2.out.trans (zf.out.mono HB2.out.size)); clear HR2 HB2 Zx zv2 zqE LG2 zX zf; refine Kd.Yc xB JO.heap.size 105 ?hg (N := 28) ?hd (w0 := JO) (xs := (kR 600)) (inner := [.string (⟨#[102, 105]⟩ : ByteArray), .int .i64 600, .string (⟨#[102, 108]⟩ : ByteArray), .int .i64 600, .string (⟨#[102, 102]⟩ : ByteArray), .int .i64 600]) (ok := fun _ => True) (vW := fun _ => True) ?hr ?hp (fun _ hk => hk) trivial (Below.refl _ _) (Nat.le_refl _) (by simp [kR]) ?_; (case hd => rfl); (case hg => rfl); (case hr => first | (go_simp; done) | (go_simp; rfl)); (case hp => exact nX 600 _ _ _); intro u0 wl hol hbl hgl U5; have HL_ := zx.mk hol; have U6 := zx.mk hbl; have zvQ := zx.mk U5; clear hol hbl hgl U5))
 refine (Vk 58 _ Tryz.func58 (by kernel_rfl) rfl dY zkP (⟨#[66]⟩ : ByteArray) 250 JO.heap.size u0 (kR 600) (X3 dY 600) wl U6.out.size HL_.out (by simp [kR]) (fB dY 600) (zxO dY 600)).mono ?_
 rintro e w9 ⟨v9, rfl, hr, hb, -, -⟩
 have HR3 := zx.mk hr
 have HB3 := zx.mk (U6.out.trans hb)
 clear hr hb HL_ U6 zvQ
 obtain ⟨A9, c9, e9⟩ := Kd.qA HR3.out
 generalize (X3 dY 600).length = n9 at e9
 subst e9
 go_wp2_with (first | ((with_reducible refine qw (N := 3) rfl ?_); refine qL ?hg (N := 3) ?hd (cs := #[.string (⟨#[]⟩ : ByteArray), .bool false, .int .i64 0, .slice none 0 0, .slice none 0 0, .slice none 0 0]) (t := 60) ?hr ?_; (case hd => rfl); (case hg => rfl); (case hr => first | (go_simp; done) | (go_simp; rfl)); intro g3 QJ Uh hbx hbq; have Zj := zx.mk hbx; have zv3 := zx.mk hbq; have zqF := zx.mk QJ; clear hbx hbq QJ; have zZZ : Uh.cell? ⟨g3, 0, none⟩ = some (.string (⟨#[]⟩ : ByteArray)) := (zy Zj.out 0).trans rfl; have zZQ : Uh.cell? ⟨g3, 1, none⟩ = some (.bool false) := (zy Zj.out 1).trans rfl; have zZX : Uh.cell? ⟨g3, 2, none⟩ = some (.int .i64 0) := (zy Zj.out 2).trans rfl; have zZJ : Uh.cell? ⟨g3, 3, none⟩ = some (.slice none 0 0) := (zy Zj.out 3).trans rfl; have zZV : Uh.cell? ⟨g3, 4, none⟩ = some (.slice none 0 0) := (zy Zj.out 4).trans rfl; have zZK : Uh.cell? ⟨g3, 5, none⟩ = some (.slice none 0 0) := (zy Zj.out 5).trans rfl; have zZY := zw Zj.out 0; have zZW := zw Zj.out 1; have zZa := zw Zj.out 2; have zZb := zw Zj.out 3; have zZc := zw Zj.out 4; have zZd := zw Zj.out 5))
 have zX := zx.mk (Yt Zj.out (⟨#[66]⟩ : ByteArray) false 250 (.slice A9 n9 c9) (.slice none 0 0) (.slice none 0 0))
 have zf := zx.mk (Xd (zv3.out) (Nat.le_of_eq zqF.out.symm) (.string (⟨#[66]⟩ : ByteArray)) (.bool false) (.int .i64 250) (.slice A9 n9 c9) (.slice none 0 0) (.slice none 0 0))
 have LG3 := zx.mk (Nat.le_trans HB3.out.size (Nat.le_of_eq zqF.out.symm))
 clear zZZ zZQ zZX zZJ zZV zZK zZY zZW zZa zZb zZc zZd
 generalize ((((((Uh.setCell ⟨g3, 0, none⟩ (.string (⟨#[66]⟩ : ByteArray))).setCell ⟨g3, 1, none⟩ (.bool false)).setCell ⟨g3, 2, none⟩ (.int .i64 250)).setCell ⟨g3, 3, none⟩ (.slice A9 n9 c9)).setCell ⟨g3, 4, none⟩ (.slice none 0 0)).setCell ⟨g3, 5, none⟩ (.slice none 0 0)) = Ul at zX zf ⊢
 have zV := zx.mk (Kd.yU HR3.out zf.out)
 have zu := zx.mk (HB3.out.trans (zf.out.mono HB3.out.size))
 clear HR3 HB3 Zj zv3 zqF zf
 have JR := zX
 have HR3 := zV
 have HB3 := zu
 clear zX zV zu
 refine (Zd.calls Ux Ul rfl).mono ?_
 rintro e w12 ⟨v12, rfl, hr, hb⟩
 have zX := zx.mk (zm JR.out hb)
 have zV := zx.mk (Kd.yU HR3.out hb)
 have zf := zx.mk (Kd.vv hr HB3.out.size)
 have zu := zx.mk (HB3.out.trans (hb.mono HB3.out.size))
 clear JR HR3 HB3 hr hb
 have JR := zX
 have HR3 := zV
 have HL3 := zf
 have HB3 := zu
 clear zX zV zf zu
 obtain ⟨fC, c12, e12⟩ := Kd.qA HL3.out
 generalize Ux.length = n12 at e12
 subst e12
 have hq4 : w12.cell? ⟨g3, 4, none⟩ = some (.slice none 0 0) := (zy JR.out 4).trans rfl
 have zvX := zw JR.out 4
 go_wp2_with fail
 have zX := zx.mk (xX (cs' := #[.string (⟨#[66]⟩ : ByteArray), .bool false, .int .i64 250, .slice A9 n9 c9, .slice fC n12 c12, .slice none 0 0]) JR.out 4 (.slice fC n12 c12) rfl)
 have zV := zx.mk (Kd.Zc HR3.out JR.out (by decide) 4 (.slice fC n12 c12))
 have zf := zx.mk (Kd.Zc HL3.out JR.out (by decide) 4 (.slice fC n12 c12))
 have zu := zx.mk (HB3.out.setCell (p := ⟨g3, 4, none⟩) LG3.out (.slice fC n12 c12))
 clear JR HR3 HL3 HB3 hq4 zvX
 generalize w12.setCell ⟨g3, 4, none⟩ (.slice fC n12 c12) = dn at zX zV zf zu ⊢
 have FB3 := zx.mk (FB.mk zvT zX.out LG3.out zV.out zf.out (Kd.wu _ _ _ _ _))
 have fD := zx.mk zu.out
 clear zX zV zf zu LG3
 refine (Vk 59 _ Tryz.func59 (by kernel_rfl) rfl nZ zkR (⟨#[77]⟩ : ByteArray) 600 dn.heap.size (.slice none 0 0) [] (kN nZ 127) dn (Nat.le_refl _) (Kd.wu _ _ _ _ _) (by simp [kR]) (by rw [List.nil_append]) (zxP nZ)).mono ?_
 rintro e mQ ⟨v13, rfl, hr, hb, -, -⟩
 have HR4 := zx.mk hr
 have JL := zx.mk hb
 clear hr hb
 obtain ⟨A13, c13, e13⟩ := Kd.qA HR4.out
 generalize (kN nZ 127).length = n13 at e13
 subst e13
 go_wp2_with (first | ((with_reducible refine qw (N := 4) rfl ?_); refine qL ?hg (N := 4) ?hd (cs := #[.string (⟨#[]⟩ : ByteArray), .bool false, .int .i64 0, .slice none 0 0, .slice none 0 0, .slice none 0 0]) (t := 60) ?hr ?_; (case hd => rfl); (case hg => rfl); (case hr => first | (go_simp; done) | (go_simp; rfl)); intro g4 QJ dA hbx hbq; have Zv := zx.mk hbx; have zv4 := zx.mk hbq; have zqG := zx.mk QJ; clear hbx hbq QJ; have zZe : dA.cell? ⟨g4, 0, none⟩ = some (.string (⟨#[]⟩ : ByteArray)) := (zy Zv.out 0).trans rfl; have zZf : dA.cell? ⟨g4, 1, none⟩ = some (.bool false) := (zy Zv.out 1).trans rfl; have zZg : dA.cell? ⟨g4, 2, none⟩ = some (.int .i64 0) := (zy Zv.out 2).trans rfl; have zZh : dA.cell? ⟨g4, 3, none⟩ = some (.slice none 0 0) := (zy Zv.out 3).trans rfl; have zZi : dA.cell? ⟨g4, 4, none⟩ = some (.slice none 0 0) := (zy Zv.out 4).trans rfl; have zZl : dA.cell? ⟨g4, 5, none⟩ = some (.slice none 0 0) := (zy Zv.out 5).trans rfl; have zZm := zw Zv.out 0; have zZn := zw Zv.out 1; have zZo := zw Zv.out 2; have zZp := zw Zv.out 3; have zZr := zw Zv.out 4; have zZs := zw Zv.out 5) | ((with_reducible refine qw (N := 5) rfl ?_); have zX := zx.mk (Yt Zv.out (⟨#[77]⟩ : ByteArray) false 600 (.slice A13 n13 c13) (.slice none 0 0) (.slice none 0 0)); have zf := zx.mk (Xd (zv4.out) (Nat.le_of_eq zqG.out.symm) (.string (⟨#[77]⟩ : ByteArray)) (.bool false) (.int .i64 600) (.slice A13 n13 c13) (.slice none 0 0) (.slice none 0 0)); have LG4 := zx.mk (Nat.le_trans JL.out.size (Nat.le_of_eq zqG.out.symm)); clear zZe zZf zZg zZh zZi zZl zZm zZn zZo zZp zZr zZs; generalize ((((((dA.setCell ⟨g4, 0, none⟩ (.string (⟨#[77]⟩ : ByteArray))).setCell ⟨g4, 1, none⟩ (.bool false)).setCell ⟨g4, 2, none⟩ (.int .i64 600)).setCell ⟨g4, 3, none⟩ (.slice A13 n13 c13)).setCell ⟨g4, 4, none⟩ (.slice none 0 0)).setCell ⟨g4, 5, none⟩ (.slice none 0 0)) = Vt at zX zf ⊢; have FB4 := zx.mk (FB.mk zvU zX.out LG4.out (Kd.yU HR4.out zf.out) (Kd.wu _ _ _ _ _) (Kd.wu _ _ _ _ _)); have BW3 := zx.mk (JL.out.trans (zf.out.mono JL.out.size)); clear HR4 JL Zv zv4 zqG LG4 zX zf; refine qL ?hg (N := 5) ?hd (cs := #[.string (⟨#[]⟩ : ByteArray), .bool false, .int .i64 0, .slice none 0 0, .slice none 0 0, .slice none 0 0]) (t := 60) ?hr ?_; (case hd => rfl); (case hg => rfl); (case hr => first | (go_simp; done) | (go_simp; rfl)); intro g5 QJ XT hbx hbq; have Zk := zx.mk hbx; have zv5 := zx.mk hbq; have zqH := zx.mk QJ; clear hbx hbq QJ; have zZt : XT.cell? ⟨g5, 0, none⟩ = some (.string (⟨#[]⟩ : ByteArray)) := (zy Zk.out 0).trans rfl; have zZu : XT.cell? ⟨g5, 1, none⟩ = some (.bool false) := (zy Zk.out 1).trans rfl; have zZA : XT.cell? ⟨g5, 2, none⟩ = some (.int .i64 0) := (zy Zk.out 2).trans rfl; have zZB : XT.cell? ⟨g5, 3, none⟩ = some (.slice none 0 0) := (zy Zk.out 3).trans rfl; have zZC : XT.cell? ⟨g5, 4, none⟩ = some (.slice none 0 0) := (zy Zk.out 4).trans rfl; have zZD : XT.cell? ⟨g5, 5, none⟩ = some (.slice none 0 0) := (zy Zk.out 5).trans rfl; have zZE := zw Zk.out 0; have zZF := zw Zk.out 1; have zZG := zw Zk.out 2; have zZH := zw Zk.out 3; have zZI := zw Zk.out 4; have zZL := zw Zk.out 5))
 have zX := zx.mk (Yt Zk.out (⟨#[83]⟩ : ByteArray) true 250 (.slice none 0 0) (.slice none 0 0) (.slice none 0 0))
 have zf := zx.mk (Xd (zv5.out) (Nat.le_of_eq zqH.out.symm) (.string (⟨#[83]⟩ : ByteArray)) (.bool true) (.int .i64 250) (.slice none 0 0) (.slice none 0 0) (.slice none 0 0))
 have LG5 := zx.mk (Nat.le_of_eq zqH.out.symm)
 clear zZt zZu zZA zZB zZC zZD zZE zZF zZG zZH zZI zZL
 generalize ((((((XT.setCell ⟨g5, 0, none⟩ (.string (⟨#[83]⟩ : ByteArray))).setCell ⟨g5, 1, none⟩ (.bool true)).setCell ⟨g5, 2, none⟩ (.int .i64 250)).setCell ⟨g5, 3, none⟩ (.slice none 0 0)).setCell ⟨g5, 4, none⟩ (.slice none 0 0)).setCell ⟨g5, 5, none⟩ (.slice none 0 0)) = w16 at zX zf ⊢
 clear Zk zv5 zqH
 have BX5 := zX
 have nV := zf
 clear zX zf
 have GWS := zx.mk (HGW.out.under (dh.out.trans ((nJ.out.mono dh.out.size).trans ((fD.out.mono (Nat.le_trans dh.out.size nJ.out.size)).trans (BW3.out.mono (Nat.le_trans dh.out.size (Nat.le_trans nJ.out.size fD.out.size)))))))
 refine (Tryz.strings_Fields Uq w16 (by decide +kernel) tu (GWS.out.under nV.out).spc).mono ?_
 rintro e Um ⟨rfl, nK⟩
 have hlen : (Lib.fields Uq.data.toList).length = 70 := nQ
 rw [hlen]
 clear hlen
 have hcw : ((Lib.fields Uq.data.toList).map fun l => Value.string ⟨l.toArray⟩).toArray = Ya := rfl
 rw [hcw] at nK
 have BKW := zx.mk (show Um.heap[w16.heap.size]? = some (.cells Ya 9 (0, 0)) by rw [nK]; exact kH _ _)
 have zX := vP BX5.out (.cells Ya 9)
 rw [← nK] at zX
 have zV := zx.mk (show Below Vt.heap.size Vt Um by rw [nK]; exact nV.out.alloc nV.out.size _)
 clear BX5 nV nK hcw
 have BX5 := zx.mk zX
 have nV := zV
 clear zX zV
 generalize w16.heap.size = bw at BKW ⊢
 go_wp2
 go_loopw [7, 8, 9] (fun x y z wr => zQP Vt g5 bw x wr) (fun x y z _ => 70 - (intOf x).toNat)
 case atStart => exact ⟨0, 0, _, rfl, rfl, by omega, Kd.wu _ _ _ _ _, BX5.out, BKW.out, nV.out⟩
 case round =>
  obtain ⟨m, k, u, rfl, hk0, hm, XP, BX0, BK0, HB0⟩ := hrel
  have HKK := zx.mk hk0
  have hkm : k ≤ 2 * m := by omega
  have hmk : 2 * m ≤ k := by omega
  clear hk0
  have j4 := zx.mk XP
  have BX := zx.mk BX0
  have BK := zx.mk BK0
  have kP := zx.mk HB0
  clear XP BX0 BK0 HB0 BX5 BKW nV
  by_cases hlt : m < 35
  ·have q1 : decide ((k : Int) < 70) = true := decide_eq_true (by omega)
   have q2 : IntKind.i64.wrap ((k : Int) + 1) = (k : Int) + 1 := IntWalk.i64_in _ (by omega)
   have hcell : wr.cell? ⟨bw, k + 1, none⟩ = some (.string (kW (k + 1))) := (zy BK.out _).trans (Vw _ (by omega))
   go_wp2_with fail
   have zy1 := zqt (kW (k + 1)) wr (by have := tC (k + 1); omega) (GWS.out.under kP.out)
   refine zy1.mono ?_
   rintro e nk ⟨rfl, hb⟩
   clear zy1 hcell q2
   have zX := zx.mk (Kd.wF (Kd.yU j4.out hb))
   have zV := zx.mk (uX (zm BX.out hb))
   have zf := zx.mk (uX (zm BK.out hb))
   have zu := zx.mk ((kP.out.trans (hb.mono kP.out.size)).drew)
   clear j4 BX BK kP hb
   have j4 := zX
   have BX := zV
   have BK := zf
   have kP := zu
   clear zX zV zf zu
   have zvJ : k < 70 := by omega
   have q5 : ((k : Int) < 70) = True := eq_true (by omega)
   go_wp2
   refine pG (n := 12) (S := fun w' => w'.cell? ⟨g5, 3, none⟩ = some u ∧ w'.cell? ⟨bw, k, none⟩ = some (.string (kW k))) (ds := [11]) #[false, false, false, false, false, false, false, false, false, false, false, false] (by kernel_rfl) rfl rfl ⟨(zy BX.out 3).trans rfl, (zy BK.out _).trans (Vw _ zvJ)⟩ (fun hHeld => ?_)
   refine QU std.zwN (fun qz => ?_)
   generalize nk.drew = w16 at j4 BX BK kP hHeld ⊢
   refine qU (i := 0) (N := some 50) (v := ?_) (a' := ?_) #[true, false, false, false, false, false, false, false, false, false, false, false] rfl rfl (qC qz.out (by kernel_rfl)) (fun _ _ _ h => h) (Or.inl ⟨by rfl, ?_⟩) ?_ ?_
   rotate_left
   ·intro w'
    go_simp
    with_reducible rfl
   rotate_left
   ·simp only [Act.put, List.setIfInBounds_toArray, List.set_cons_zero, List.set_cons_succ]
    rfl
   refine qU (i := 2) (N := some 52) (v := ?_) (a' := ?_) #[true, false, true, false, false, false, false, false, false, false, false, false] rfl rfl (qC qz.out (by kernel_rfl)) (fun _ _ _ h => h) (Or.inl ⟨by rfl, ?_⟩) ?_ ?_
   rotate_left
   ·intro w'
    go_simp
    with_reducible rfl
   rotate_left
   ·simp only [Act.put, List.setIfInBounds_toArray, List.set_cons_zero, List.set_cons_succ]
    rfl
   refine qU (i := 3) (N := some 53) (v := ?_) (a' := ?_) #[true, false, true, true, false, false, false, false, false, false, false, false] rfl rfl (qC qz.out (by kernel_rfl)) (fun _ _ _ h => h) (Or.inl ⟨by rfl, ?_⟩) ?_ ?_
   rotate_left
   ·intro w'
    go_simp
    with_reducible rfl
   rotate_left
   ·simp only [Act.put, List.setIfInBounds_toArray, List.set_cons_zero, List.set_cons_succ]
    rfl
   refine qU (i := 4) (N := some 54) (v := ?_) (a' := ?_) #[true, false, true, true, true, false, false, false, false, false, false, false] rfl rfl (qC qz.out (by kernel_rfl)) (fun _ _ _ h => h) (Or.inl ⟨by rfl, ?_⟩) ?_ ?_
   rotate_left
   ·intro w'
    go_simp
    with_reducible rfl
   rotate_left
   ·simp only [Act.put, List.setIfInBounds_toArray, List.set_cons_zero, List.set_cons_succ]
    rfl
   refine qU (i := 6) (N := some 56) (v := ?_) (a' := ?_) #[true, false, true, true, true, false, true, false, false, false, false, false] rfl rfl (qC qz.out (by kernel_rfl)) (fun _ _ _ h => h) (Or.inl ⟨by rfl, ?_⟩) ?_ ?_
   rotate_left
   ·intro w'
    go_simp
    with_reducible rfl
   rotate_left
   ·simp only [Act.put, List.setIfInBounds_toArray, List.set_cons_zero, List.set_cons_succ]
    rfl
   refine Z4 (i := 1) (N := some 51) (v := ?_) (a' := ?_) #[true, true, true, true, true, false, true, false, false, false, false, false] rfl rfl (V7 qz.out (by kernel_rfl)) (fun _ _ _ h => h) (Or.inl ⟨by rfl, ?_⟩) hHeld ?_ ?_
   rotate_left
   ·rintro w' ⟨s0, s1⟩
    go_simp
    with_reducible rfl
   rotate_left
   ·simp only [Act.put, List.setIfInBounds_toArray, List.set_cons_zero, List.set_cons_succ]
    rfl
   refine Z4 (i := 5) (N := some 55) (v := ?_) (a' := ?_) #[true, true, true, true, true, true, true, false, false, false, false, false] rfl rfl (V7 qz.out (by kernel_rfl)) (fun _ _ _ h => h) (Or.inl ⟨by rfl, ?_⟩) hHeld ?_ ?_
   rotate_left
   ·rintro w' ⟨s0, s1⟩
    go_simp
    with_reducible rfl
   rotate_left
   ·simp only [Act.put, List.setIfInBounds_toArray, List.set_cons_zero, List.set_cons_succ]
    rfl
   refine qU (i := 7) (N := some 57) (v := ?_) (a' := ?_) #[true, true, true, true, true, true, true, true, false, false, false, false] rfl rfl (qC qz.out (by kernel_rfl)) (fun _ _ _ h => h) (Or.inl ⟨by rfl, ?_⟩) ?_ ?_
   rotate_left
   ·intro w'
    go_simp
    with_reducible rfl
   rotate_left
   ·simp only [Act.put, List.setIfInBounds_toArray, List.set_cons_zero, List.set_cons_succ]
    rfl
   refine Ye (i := 8) (N := some 58) #[true, true, true, true, true, true, true, true, true, false, false, false] rfl rfl (kL qz.out (by kernel_rfl)) (by decide) (fun K hK => ?_)
   refine gu (w1 := ?_) (v := ?_) (by rfl) rfl ?_ ?_
   rotate_left 2
   ·go_simp
    constructor
    ·rfl
    ·rfl
   refine hK.out _ _ ⟨(zy (vP BX.out _) 3).trans rfl, (zy (vP BK.out _) _).trans (Vw _ zvJ)⟩ (fun hHeld => ?_)
   clear hK K
   refine wB (a' := ?_) ?_ ?_
   rotate_left
   ·show Act.put _ (some 58) _ = _
    simp only [Act.put, List.setIfInBounds_toArray, List.set_cons_zero, List.set_cons_succ]
    rfl
   refine Ye (i := 9) (N := some 59) #[true, true, true, true, true, true, true, true, true, true, false, false] rfl rfl (kL qz.out (by kernel_rfl)) (by decide) (fun K hK => ?_)
   refine Kd.Xf xB (w0 := Vt) Vt.heap.size (by rfl) (.tmp 51) (.tmp 58) 56 105 (.agg #[(.string ⟨#[]⟩), (.int .i64 0)]) 24 rfl Tryz.underlying56 fQ rfl (by decide) (by omega) u (Vy m) (⟨kW k, (Vp (kW (k + 1))).1⟩ : yB) [.string (kW k), .int .i64 (Vp (kW (k + 1))).1] (fun _ => True) (fun _ => False) rfl rfl ?aP (fun _ hk => hk.elim) ?aF ?aO ?aB ?aS ?aL ?_
   (case aP => exact YM _ _ _ (⟨kW k, (Vp (kW (k + 1))).1⟩ : yB))
   (case aF => exact (fun _ _ => trivial))
   (case aO => exact j4.out)
   (case aB => exact kP.out)
   (case aS => exact kP.out.size)
   (case aL => rw [zvZ]; omega)
   intro v1 nk ho hb hg hat
   rw [HKK.out, ← zxS] at ho
   obtain ⟨Ao, co, eo⟩ := Kd.qA ho
   subst eo
   generalize (Vy (m + 1)).length = nn at ho hat ⊢
   have zX := zx.mk (qj BX.out hg (Kd.wW j4.out BX.out (by decide)))
   have zV := zx.mk (qj BK.out hg (Kd.wW j4.out BK.out (by decide)))
   have zf := zx.mk hb
   have zu := zx.mk ho
   clear BX BK kP j4 ho hb hg hat hHeld
   have BX := zX
   have BK := zV
   have kP := zf
   have j4 := zu
   clear zX zV zf zu
   refine hK.out _ _ ⟨(zy BX.out 3).trans rfl, (zy BK.out _).trans (Vw _ zvJ)⟩ (fun hHeld => ?_)
   clear hK K
   refine wB (a' := ?_) ?_ ?_
   rotate_left
   ·show Act.put _ (some 59) _ = _
    simp only [Act.put, List.setIfInBounds_toArray, List.set_cons_zero, List.set_cons_succ]
    rfl
   refine qU (i := 10) (N := some 60) (v := ?_) (a' := ?_) #[true, true, true, true, true, true, true, true, true, true, true, false] rfl rfl (qC qz.out (by kernel_rfl)) (fun _ _ _ h => h) (Or.inl ⟨by rfl, ?_⟩) ?_ ?_
   rotate_left
   ·intro w'
    go_simp
    with_reducible rfl
   rotate_left
   ·simp only [Act.put, List.setIfInBounds_toArray, List.set_cons_zero, List.set_cons_succ]
    rfl
   refine zqj (i := 11) (N := none) #[true, true, true, true, true, true, true, true, true, true, true, true] rfl rfl (kL qz.out (by kernel_rfl)) (by decide) (fun K hK => ?_)
   have zvk : nk.cell? ⟨g5, 3, none⟩ = some u := (zy BX.out 3).trans rfl
   have zqr := zw BX.out 3
   refine zqv (w1 := ?_) (by rfl) rfl ?_ ?_
   rotate_left
   ·go_simp
    rfl
   refine hK.out _ _ ?_
   clear hK K
   refine wX (jA qz.out (by kernel_rfl)) ?_
   have zX := zx.mk (xX (cs' := #[.string (⟨#[83]⟩ : ByteArray), .bool true, .int .i64 250, .slice Ao nn co, .slice none 0 0, .slice none 0 0]) BX.out 3 (.slice Ao nn co) rfl)
   have zV := zx.mk (Za BK.out (p := ⟨g5, 3, none⟩) (zk7 BK.out BX.out (by decide)) (.slice Ao nn co))
   have zf := zx.mk (kP.out.setCell (p := ⟨g5, 3, none⟩) LG5.out (.slice Ao nn co))
   have zu := zx.mk (Kd.Zc j4.out BX.out (by decide) 3 (.slice Ao nn co))
   clear BX BK kP j4 hHeld zvk zqr
   generalize nk.setCell ⟨g5, 3, none⟩ (.slice Ao nn co) = dQ at zX zV zf zu ⊢
   have q4 : IntKind.i64.wrap ((k : Int) + 2) = ((k + 2 : Nat) : Int) := (IntWalk.i64_in _ (by omega)).trans (by omega)
   go_wp2
   go_roundw
   case rel => exact ⟨m + 1, k + 2, .slice Ao nn co, by first | rfl | (rw [q4]; done) | (simp; done), by have := HKK.out; omega, by omega, zu.out, zX.out, zV.out, zf.out⟩
   case measure => first | (simp [intOf]; omega) | (rw [q4]; simp [intOf]; omega)
  ·have zy2 : m = 35 := by omega
   have q1 : decide ((k : Int) < 70) = false := decide_eq_false (by omega)
   have hR5 := j4.out
   rw [zy2] at hR5
   have BC3 := BW3.out.trans (kP.out.mono BW3.out.size)
   have BC2 := fD.out.trans (BC3.mono fD.out.size)
   have BC1 := nJ.out.trans (BC2.mono nJ.out.size)
   have BC0 := dh.out.trans (BC1.mono dh.out.size)
   obtain ⟨nY, nW, ng, ni, nA, nC, nD, nE, nG, bk1, KM1⟩ := (FB1.out.keep BC1).cells
   obtain ⟨nH, nI, nL, nM, nN, nO, nP, nR, nS, bk2, KM2⟩ := (FB2.out.keep BC2).cells
   obtain ⟨nT, nU, rz, rZ, rQ, rX, rJ, rV, rY, rW, KM3⟩ := (FB3.out.keep BC3).cells
   obtain ⟨ru, rA, rD, rE, rF, rG, rH, rM, rO, rR, KM4⟩ := (FB4.out.keep kP.out).cells
   obtain ⟨rU, r9, sj, sw, sZ, sQ, sJ, sV, sK, sW, KM5⟩ := (FB.mk zv0 BX.out LG5.out hR5 (Kd.wu _ _ _ _ _) (Kd.wu _ _ _ _ _)).cells
   have BCA := zx.mk BC0
   have KA1 := zx.mk KM1
   have KA2 := zx.mk KM2
   have KA3 := zx.mk KM3
   have KA4 := zx.mk KM4
   have KA5 := zx.mk KM5
   have S0 := zx.mk dh.out.size
   have S1 := zx.mk nJ.out.size
   have S2 := zx.mk fD.out.size
   have S3 := zx.mk BW3.out.size
   have S4 := zx.mk kP.out.size
   have zQS : wr.cell? ⟨g1, 0, none⟩ = some (.string (⟨#[82]⟩ : ByteArray)) := (zy bk1 0).trans rfl
   have zQT : wr.cell? ⟨g1, 1, none⟩ = some (.bool false) := (zy bk1 1).trans rfl
   have zQU : wr.cell? ⟨g1, 2, none⟩ = some (.int .i64 250) := (zy bk1 2).trans rfl
   have zQ0 : wr.cell? ⟨g1, 3, none⟩ = some (.slice nY nW ng) := (zy bk1 3).trans rfl
   have zQ1 : wr.cell? ⟨g1, 4, none⟩ = some (.slice ni nA nC) := (zy bk1 4).trans rfl
   have zQ2 : wr.cell? ⟨g1, 5, none⟩ = some (.slice nD nE nG) := (zy bk1 5).trans rfl
   have zQ3 : wr.cell? ⟨g2, 0, none⟩ = some (.string (⟨#[73]⟩ : ByteArray)) := (zy bk2 0).trans rfl
   have zQ4 : wr.cell? ⟨g2, 1, none⟩ = some (.bool false) := (zy bk2 1).trans rfl
   have zQ5 : wr.cell? ⟨g2, 2, none⟩ = some (.int .i64 250) := (zy bk2 2).trans rfl
   have zQ6 : wr.cell? ⟨g2, 3, none⟩ = some (.slice nH nI nL) := (zy bk2 3).trans rfl
   have hx24 : wr.cell? ⟨g2, 4, none⟩ = some (.slice nM nN nO) := (zy bk2 4).trans rfl
   have hx25 : wr.cell? ⟨g2, 5, none⟩ = some (.slice nP nR nS) := (zy bk2 5).trans rfl
   have zQ7 : wr.cell? ⟨g3, 0, none⟩ = some (.string (⟨#[66]⟩ : ByteArray)) := (zy rW 0).trans rfl
   have hx31 : wr.cell? ⟨g3, 1, none⟩ = some (.bool false) := (zy rW 1).trans rfl
   have hx32 : wr.cell? ⟨g3, 2, none⟩ = some (.int .i64 250) := (zy rW 2).trans rfl
   have zQ8 : wr.cell? ⟨g3, 3, none⟩ = some (.slice nT nU rz) := (zy rW 3).trans rfl
   have hx34 : wr.cell? ⟨g3, 4, none⟩ = some (.slice rZ rQ rX) := (zy rW 4).trans rfl
   have zQ9 : wr.cell? ⟨g3, 5, none⟩ = some (.slice rJ rV rY) := (zy rW 5).trans rfl
   have zXz : wr.cell? ⟨g4, 0, none⟩ = some (.string (⟨#[77]⟩ : ByteArray)) := (zy rR 0).trans rfl
   have zXq : wr.cell? ⟨g4, 1, none⟩ = some (.bool false) := (zy rR 1).trans rfl
   have zXx : wr.cell? ⟨g4, 2, none⟩ = some (.int .i64 600) := (zy rR 2).trans rfl
   have zXj : wr.cell? ⟨g4, 3, none⟩ = some (.slice ru rA rD) := (zy rR 3).trans rfl
   have zXv : wr.cell? ⟨g4, 4, none⟩ = some (.slice rE rF rG) := (zy rR 4).trans rfl
   have zXk : wr.cell? ⟨g4, 5, none⟩ = some (.slice rH rM rO) := (zy rR 5).trans rfl
   have zXy : wr.cell? ⟨g5, 0, none⟩ = some (.string (⟨#[83]⟩ : ByteArray)) := (zy sW 0).trans rfl
   have zXw : wr.cell? ⟨g5, 1, none⟩ = some (.bool true) := (zy sW 1).trans rfl
   have zXZ : wr.cell? ⟨g5, 2, none⟩ = some (.int .i64 250) := (zy sW 2).trans rfl
   have zXQ : wr.cell? ⟨g5, 3, none⟩ = some (.slice rU r9 sj) := (zy sW 3).trans rfl
   have zXX : wr.cell? ⟨g5, 4, none⟩ = some (.slice sw sZ sQ) := (zy sW 4).trans rfl
   have zXJ : wr.cell? ⟨g5, 5, none⟩ = some (.slice sJ sV sK) := (zy sW 5).trans rfl
   clear hR5 BC0 BC1 BC2 BC3 KM1 KM2 KM3 KM4 KM5 bk1 bk2 rW rR sW j4 BX BK kP hkm hmk zy2 hm hlt HKK FB1 FB2 FB3 FB4 dh nJ fD BW3 GWS HGW LG5
   go_wp2
   clear zQS zQT zQU zQ0 zQ1 zQ2 zQ3 zQ4 zQ5 zQ6 hx24 hx25 zQ7 hx31 hx32 zQ8 hx34 zQ9 zXz zXq zXx zXj zXv zXk zXy zXw zXZ zXQ zXX zXJ
   have hbn := yj (Below.refl wr.heap.size wr) (.cells #[.string (⟨#[82]⟩ : ByteArray), .bool false, .int .i64 250, .slice nY nW ng, .slice ni nA nC, .slice nD nE nG, .string (⟨#[73]⟩ : ByteArray), .bool false, .int .i64 250, .slice nH nI nL, .slice nM nN nO, .slice nP nR nS, .string (⟨#[66]⟩ : ByteArray), .bool false, .int .i64 250, .slice nT nU rz, .slice rZ rQ rX, .slice rJ rV rY, .string (⟨#[77]⟩ : ByteArray), .bool false, .int .i64 600, .slice ru rA rD, .slice rE rF rG, .slice rH rM rO, .string (⟨#[83]⟩ : ByteArray), .bool true, .int .i64 250, .slice rU r9 sj, .slice sw sZ sQ, .slice sJ sV sK] 60)
   have hnew := kH wr (.cells #[.string (⟨#[82]⟩ : ByteArray), .bool false, .int .i64 250, .slice nY nW ng, .slice ni nA nC, .slice nD nE nG, .string (⟨#[73]⟩ : ByteArray), .bool false, .int .i64 250, .slice nH nI nL, .slice nM nN nO, .slice nP nR nS, .string (⟨#[66]⟩ : ByteArray), .bool false, .int .i64 250, .slice nT nU rz, .slice rZ rQ rX, .slice rJ rV rY, .string (⟨#[77]⟩ : ByteArray), .bool false, .int .i64 600, .slice ru rA rD, .slice rE rF rG, .slice rH rM rO, .string (⟨#[83]⟩ : ByteArray), .bool true, .int .i64 250, .slice rU r9 sj, .slice sw sZ sQ, .slice sJ sV sK] 60 (0, 0))
   have hbw := BCA.out.alloc BCA.out.size (.cells #[.string (⟨#[82]⟩ : ByteArray), .bool false, .int .i64 250, .slice nY nW ng, .slice ni nA nC, .slice nD nE nG, .string (⟨#[73]⟩ : ByteArray), .bool false, .int .i64 250, .slice nH nI nL, .slice nM nN nO, .slice nP nR nS, .string (⟨#[66]⟩ : ByteArray), .bool false, .int .i64 250, .slice nT nU rz, .slice rZ rQ rX, .slice rJ rV rY, .string (⟨#[77]⟩ : ByteArray), .bool false, .int .i64 600, .slice ru rA rD, .slice rE rF rG, .slice rH rM rO, .string (⟨#[83]⟩ : ByteArray), .bool true, .int .i64 250, .slice rU r9 sj, .slice sw sZ sQ, .slice sJ sV sK] 60)
   have hS : Kd.S jY 60 (wr.alloc (.cells #[.string (⟨#[82]⟩ : ByteArray), .bool false, .int .i64 250, .slice nY nW ng, .slice ni nA nC, .slice nD nE nG, .string (⟨#[73]⟩ : ByteArray), .bool false, .int .i64 250, .slice nH nI nL, .slice nM nN nO, .slice nP nR nS, .string (⟨#[66]⟩ : ByteArray), .bool false, .int .i64 250, .slice nT nU rz, .slice rZ rQ rX, .slice rJ rV rY, .string (⟨#[77]⟩ : ByteArray), .bool false, .int .i64 600, .slice ru rA rD, .slice rE rF rG, .slice rH rM rO, .string (⟨#[83]⟩ : ByteArray), .bool true, .int .i64 250, .slice rU r9 sj, .slice sw sZ sQ, .slice sJ sV sK] 60)) Vs.heap.size (fun _ => True) (.slice (some ⟨wr.heap.size, 0, none⟩) 5 5) YU := by
    generalize wr.alloc (.cells #[.string (⟨#[82]⟩ : ByteArray), .bool false, .int .i64 250, .slice nY nW ng, .slice ni nA nC, .slice nD nE nG, .string (⟨#[73]⟩ : ByteArray), .bool false, .int .i64 250, .slice nH nI nL, .slice nM nN nO, .slice nP nR nS, .string (⟨#[66]⟩ : ByteArray), .bool false, .int .i64 250, .slice nT nU rz, .slice rZ rQ rX, .slice rJ rV rY, .string (⟨#[77]⟩ : ByteArray), .bool false, .int .i64 600, .slice ru rA rD, .slice rE rF rG, .slice rH rM rO, .string (⟨#[83]⟩ : ByteArray), .bool true, .int .i64 250, .slice rU r9 sj, .slice sw sZ sQ, .slice sJ sV sK] 60) = w' at hbn hnew ⊢
    have s0 := S0.out
    have s1 := S1.out
    have s2 := S2.out
    have s3 := S3.out
    have s4 := S4.out
    refine ⟨fun k => if k < dW.heap.size then 0 else if k < JO.heap.size then 1 else if k < dn.heap.size then 2 else if k < Vt.heap.size then 3 else 4, fun _ _ => trivial, [.string (⟨#[82]⟩ : ByteArray), .bool false, .int .i64 250, .slice nY nW ng, .slice ni nA nC, .slice nD nE nG, .string (⟨#[73]⟩ : ByteArray), .bool false, .int .i64 250, .slice nH nI nL, .slice nM nN nO, .slice nP nR nS, .string (⟨#[66]⟩ : ByteArray), .bool false, .int .i64 250, .slice nT nU rz, .slice rZ rQ rX, .slice rJ rV rY, .string (⟨#[77]⟩ : ByteArray), .bool false, .int .i64 600, .slice ru rA rD, .slice rE rF rG, .slice rH rM rO, .string (⟨#[83]⟩ : ByteArray), .bool true, .int .i64 250, .slice rU r9 sj, .slice sw sZ sQ, .slice sJ sV sK], ⟨rfl, .inr ⟨wr.heap.size, 5, _, rfl, BCA.out.size, hnew, by decide, by decide, rfl, rfl⟩⟩, rfl, fun j p hj => ?_⟩
    have hne : ∀ q, q < wr.heap.size → some q ≠ (Value.slice (some ⟨wr.heap.size, 0, none⟩) 5 5).ownBlock := by
     intro q hq e
     have : wr.heap.size = q := by simpa [Value.ownBlock] using e.symm
     omega
    rcases j with _ | _ | _ | _ | _ | j
    ·obtain rfl := Option.some.inj hj
     refine KA1.out w' Vs.heap.size _ hbn (by omega) (fun q h1 h2 => ⟨⟨trivial, hne q (by omega)⟩, ?_⟩)
     show (if q < dW.heap.size then 0 else if q < JO.heap.size then 1 else if q < dn.heap.size then 2 else if q < Vt.heap.size then 3 else 4) = 0
     repeat' split
     all_goals omega
    ·obtain rfl := Option.some.inj hj
     refine KA2.out w' Vs.heap.size _ hbn (by omega) (fun q h1 h2 => ⟨⟨trivial, hne q (by omega)⟩, ?_⟩)
     show (if q < dW.heap.size then 0 else if q < JO.heap.size then 1 else if q < dn.heap.size then 2 else if q < Vt.heap.size then 3 else 4) = 1
     repeat' split
     all_goals omega
    ·obtain rfl := Option.some.inj hj
     refine KA3.out w' Vs.heap.size _ hbn (by omega) (fun q h1 h2 => ⟨⟨trivial, hne q (by omega)⟩, ?_⟩)
     show (if q < dW.heap.size then 0 else if q < JO.heap.size then 1 else if q < dn.heap.size then 2 else if q < Vt.heap.size then 3 else 4) = 2
     repeat' split
     all_goals omega
    ·obtain rfl := Option.some.inj hj
     refine KA4.out w' Vs.heap.size _ hbn (by omega) (fun q h1 h2 => ⟨⟨trivial, hne q (by omega)⟩, ?_⟩)
     show (if q < dW.heap.size then 0 else if q < JO.heap.size then 1 else if q < dn.heap.size then 2 else if q < Vt.heap.size then 3 else 4) = 3
     repeat' split
     all_goals omega
    ·obtain rfl := Option.some.inj hj
     refine KA5.out w' Vs.heap.size _ hbn (by omega) (fun q h1 h2 => ⟨⟨trivial, hne q (by omega)⟩, ?_⟩)
     show (if q < dW.heap.size then 0 else if q < JO.heap.size then 1 else if q < dn.heap.size then 2 else if q < Vt.heap.size then 3 else 4) = 4
     repeat' split
     all_goals omega
    ·simp [YU] at hj
   clear hbn hnew
   go_ret
   exact ⟨_, rfl, hS, hbw⟩
def uw.f : Option (List uR) := some YU
theorem uw.calls (r : List uR) (w : World) (hG : GW w) (h : uw.f = some r) :
  Calls Tryz.prog 19 #[] w fun e w' => ∃ Ve : Value, e = .returned Ve ∧ Kd.S jY 60 w' w.heap.size (fun _ => True) Ve r ∧ Below w.heap.size w w' := by
 obtain rfl := Option.some.inj h
 exact zkS w hG
end Go.Proofs.YtggifbbiiickmaaGreatDoor
namespace Go.Proofs.YtggifbbiiickmaaGreatDoor.PX
open Go.RowKit Go.Proofs.zk.zK Go.Proofs.zk.yQ Go.Proofs.zk.yX
attribute [local go_sem] jZ jQ jL jM uD uE jX jJ   -- for this text's walks alone
set_option linter.unusedVariables false
set_option linter.unusedSimpArgs false
def yC.f  : Option (Bool) := (uw.f).bind fun pU => ((yE.f pU 0 10 true false (([(⟨#[102]⟩ : ByteArray), (⟨#[105]⟩ : ByteArray)] : List ByteArray)) ([] : List (uI))).bind fun jg => (if jg.2.2 = 0 then (if (jg.2.1.length : Int) = 0 then (if (jg.1.length : Int) = 1 then (if 0 < (jg.1.length : Int) then (some (((zn jg.1 0).f4).toList == ([102, 105] : List UInt8))) else (none)) else (some false)) else (some false)) else (some false)))
set_option maxHeartbeats 8000000 in
set_option maxRecDepth 100000 in
theorem yC.calls  (r : Bool) (w : World) (hG : GW w) (h : yC.f  = some r) :
  Calls Tryz.prog 11 #[] w fun e w' => e = .returned (.bool r) ∧ Below w.heap.size w w' := by
 have zvv := Tryz.underlying26
 have HG := zx.mk hG
 clear hG
 have HB := zx.mk (Below.refl w.heap.size w)
 have H : ((uw.f).bind fun pU => ((yE.f pU 0 10 true false (([(⟨#[102]⟩ : ByteArray), (⟨#[105]⟩ : ByteArray)] : List ByteArray)) ([] : List (uI))).bind fun jg => (if jg.2.2 = 0 then (if (jg.2.1.length : Int) = 0 then (if (jg.1.length : Int) = 1 then (if 0 < (jg.1.length : Int) then (some (((zn jg.1 0).f4).toList == ([102, 105] : List UInt8))) else (none)) else (some false)) else (some false)) else (some false)))) = some r := h
 clear h
 replace H := Option.bind_eq_some_iff.mp H
 obtain ⟨pU, A10, H⟩ := H
 replace H : ((yE.f pU 0 10 true false (([(⟨#[102]⟩ : ByteArray), (⟨#[105]⟩ : ByteArray)] : List ByteArray)) ([] : List (uI))).bind fun jg => (if jg.2.2 = 0 then (if (jg.2.1.length : Int) = 0 then (if (jg.1.length : Int) = 1 then (if 0 < (jg.1.length : Int) then (some (((zn jg.1 0).f4).toList == ([102, 105] : List UInt8))) else (none)) else (some false)) else (some false)) else (some false))) = some r := H
 have A1 := zx.mk A10
 clear A10
 obtain ⟨y114, hy114⟩ : ∃ y_ : List ByteArray, y_ = (([(⟨#[102]⟩ : ByteArray), (⟨#[105]⟩ : ByteArray)] : List ByteArray)) := ⟨_, rfl⟩
 replace H : ((yE.f pU 0 10 true false y114 ([] : List (uI))).bind fun jg => (if jg.2.2 = 0 then (if (jg.2.1.length : Int) = 0 then (if (jg.1.length : Int) = 1 then (if 0 < (jg.1.length : Int) then (some (((zn jg.1 0).f4).toList == ([102, 105] : List UInt8))) else (none)) else (some false)) else (some false)) else (some false))) = some r := by first | (rw [hy114]; with_reducible exact H) | (have uF := (Option.bind_some _ _).symm.trans H; rw [hy114]; with_reducible exact uF) | (have uF := (Option.bind_some _ _).symm.trans H; with_reducible exact uF) | with_reducible exact H | (rw [hy114]; exact H) | exact H
 have QV := zx.mk hy114
 clear hy114
 replace H := Option.bind_eq_some_iff.mp H
 obtain ⟨⟨t117, X5, Qc⟩, A20, H⟩ := H
 replace H : (if Qc = 0 then (if (X5.length : Int) = 0 then (if (t117.length : Int) = 1 then (if 0 < (t117.length : Int) then (some (((zn t117 0).f4).toList == ([102, 105] : List UInt8))) else (none)) else (some false)) else (some false)) else (some false)) = some r := H
 have A2 := zx.mk A20
 clear A20
 by_cases c3 : Qc = 0
 ·rw [if_pos c3] at H
  have Yh : (Qc == 0) = true := beq_iff_eq.mpr c3
  have U7 : (Qc != 0) = false := bne_eq_false_iff_eq.mpr c3
  clear c3
  by_cases c4 : (X5.length : Int) = 0
  ·rw [if_pos c4] at H
   have Xg : ((X5.length : Int) == 0) = true := beq_iff_eq.mpr c4
   have zyn : ((X5.length : Int) != 0) = false := bne_eq_false_iff_eq.mpr c4
   clear c4
   by_cases c5 : (t117.length : Int) = 1
   ·rw [if_pos c5] at H
    have UG : ((t117.length : Int) == 1) = true := beq_iff_eq.mpr c5
    have zqa : ((t117.length : Int) != 1) = false := bne_eq_false_iff_eq.mpr c5
    clear c5
    by_cases c6 : 0 < (t117.length : Int)
    ·rw [if_pos c6] at H
     have YO : decide (0 < (t117.length : Int)) = true := decide_eq_true c6
     have zqI : decide (0 < t117.length) = true := decide_eq_true (by omega)
     clear c6
     obtain rfl := Option.some.inj H
     go_enter Tryz.func11, Tryz.ntmps11
     go_wp2_with (first | ((with_reducible refine yL (f := 19) rfl ?_); refine kF (some 5) Tryz.func19 #[] ?_; (with_reducible refine (uw.calls  pU _ ?yO A1.out).mono ?_); (case yO => exact GW.under HG.out (zB HB.out)); rintro e w7 ⟨zvV, rfl, ho0, hb⟩; refine ⟨_, rfl, ?_⟩; have zX := zx.mk (Kd.YZ ho0 (zW (zB HB.out))); have zV := zx.mk (zA (zB HB.out) hb); clear HB; have xH := zX; have HB := zV; clear zX zV; (try clear hb); (try clear hb2); (try clear hk); (try clear hi); (try clear ho0)) | ((with_reducible refine qw (N := 7) rfl ?_); (try (refine qV (by rfl) ?_; dsimp only)); refine Kd.Yc Kd.string _ 9 ?hg (N := 7) ?hd (xs := ([(⟨#[102]⟩ : ByteArray), (⟨#[105]⟩ : ByteArray)] : List ByteArray)) (inner := [.string (⟨#[102]⟩ : ByteArray), .string (⟨#[105]⟩ : ByteArray)]) (ok := fun _ => True) (vW := fun _ => True) ?hr ?hp (fun _ hk => hk) trivial (Below.refl _ _) (Nat.le_refl _) (by simp) ?_; (case hd => rfl); (case hg => rfl); (case hr => first | (go_simp; done) | (go_simp; rfl)); (case hp => exact (yD.one (show Kd.M Kd.string _ _ _ (⟨#[102]⟩ : ByteArray) [.string (⟨#[102]⟩ : ByteArray)] from rfl) (yD.one (show Kd.M Kd.string _ _ _ (⟨#[105]⟩ : ByteArray) [.string (⟨#[105]⟩ : ByteArray)] from rfl) (yD.none _ _)))); intro zvK w8 ho9 hb ZJ jd; clear ZJ jd; (first | rw [← QV.out] at ho9 | (simp only [Int.reduceToNat] at ho9; rw [← QV.out] at ho9)); have zX := zx.mk (Kd.wG (by (with_reducible repeat (first | apply Kd.YQ | apply Kd.YX | apply Kd.XW)); exact xH.out) hb); have zV := zx.mk (Kd.vv ho9 (zW (zB HB.out))); have zf := zx.mk (zA (zB HB.out) hb); clear xH; clear HB; have xH := zX; have uz := zV; have HB := zf; clear zX zV zf; clear hb ho9; obtain ⟨zXV, zXK, zXY⟩ := Kd.XE xH.out; subst zXY; obtain ⟨zXW, zXa, zXb⟩ := Kd.qA uz.out; subst zXb) | ((with_reducible refine yL (f := 13) rfl ?_); refine kF (some 8) Tryz.func13 #[.slice zXV pU.length zXK, .agg #[.int .i64 0, .int .i64 10, .bool true, .bool false], .slice zXW y114.length zXa, .slice none 0 0] ?_; (refine (yE.calls _ _ pU 0 10 true false _ _ y114 _ _ ([] : List (uI)) t117 X5 Qc _ ?yO ?qd ?q8 ?q9 ?uK ?uY ?uW A2.out).mono ?_); (case yO => repeat (first | exact (Kd.wh xH.out).2.2 | (with_reducible refine Kd.yJ ?_ _) | (with_reducible refine Kd.yV ?_ _) | (with_reducible refine Kd.yH ?_))); (case qd => exact (Kd.wh xH.out).2.1); (case q8 => repeat (first | exact (Kd.qO uz.out).2.2 | (with_reducible refine Kd.yJ ?_ _) | (with_reducible refine Kd.yV ?_ _) | (with_reducible refine Kd.yH ?_))); (case q9 => exact (Kd.qO uz.out).2.1); (case uK => exact Kd.QT _ _); (case uY => exact Nat.le_refl _); (case uW => exact GW.under HG.out (zB HB.out)); rintro e w12 ⟨zvY, zvW, rfl, ho0, ho1, hb⟩; refine ⟨_, rfl, ?_⟩; have zX := zx.mk (Kd.wG (by (with_reducible repeat (first | apply Kd.YQ | apply Kd.YX | apply Kd.XW)); exact xH.out) hb); have zV := zx.mk (Kd.uJ (zR uz.out) (Kd.qQ ho1) hb); have zf := zx.mk (Kd.YZ ho0 (zW (zB HB.out))); have zu := zx.mk (Kd.vv (Kd.jF ho1 (Kd.qW (zR uz.out))) (zW (zB HB.out))); have yZ := zx.mk (zA (zB HB.out) hb); clear xH; clear uz; clear HB; have xH := zX; have uz := zV; have QK := zf; have Uj := zu; have HB := yZ; clear zX zV zf zu yZ; (try clear hb); (try clear hb2); (try clear hk); (try clear hi); (try clear ho0); (try clear ho1); obtain ⟨zYI, zYL, zXc⟩ := Kd.qA Uj.out; subst zXc; obtain ⟨zYM, zYN, zXd⟩ := Kd.XE QK.out; subst zXd; have zqL : 0 ≤ (0 : Int) := (by omega); have zqM : 0 < (t117.length : Int) := of_decide_eq_true (by first | (with_reducible assumption) | assumption); obtain ⟨zK5, zKt, zKu, zXe, Px, Pj, Pv, Pk, Py, Pw, Uv, fE, fF⟩ := XM (Kd.wh QK.out).2.2 0 zqL zqM; cases zXe; obtain ⟨zK6, zy3, zy4, zxT⟩ := Kd.zwm QK.out z53 0 zqL (by first | exact zqM | exact of_decide_eq_true (by first | (with_reducible assumption) | assumption) | (have e_ := (Kd.wh QK.out).1; omega)); obtain ⟨zJI, rfl, PZ⟩ := zxb zy4; have Qt := zxT 6 _ rfl; rw [vF _ _ 6 (by omega)] at Qt; replace Qt := Option.some.inj (Qt.symm.trans Uv); rw [Qt] at PZ; have zJL := zx.mk (show Kd.R (Kd.int .i64) 3 _ _ _ _ ((zn t117 0).f6) from PZ); clear Qt PZ; clear zxT zy3; have zK7 : (0 < t117.length) = True := eq_true (by omega); (try rw [show ((0 : Int)).toNat = 0 from rfl] at Px); (try rw [show 0 * 7 = 0 from rfl] at Px); (try rw [Addr.add_zero'] at Px); (try rw [show ((0 : Int)).toNat = 0 from rfl] at Pj); (try rw [show 0 * 7 = 0 from rfl] at Pj); (try rw [Addr.add_zero'] at Pj); (try rw [show ((0 : Int)).toNat = 0 from rfl] at Pv); (try rw [show 0 * 7 = 0 from rfl] at Pv); (try rw [Addr.add_zero'] at Pv); (try rw [show ((0 : Int)).toNat = 0 from rfl] at Pk); (try rw [show 0 * 7 = 0 from rfl] at Pk); (try rw [Addr.add_zero'] at Pk); (try rw [show ((0 : Int)).toNat = 0 from rfl] at Py); (try rw [show 0 * 7 = 0 from rfl] at Py); (try rw [Addr.add_zero'] at Py); (try rw [show ((0 : Int)).toNat = 0 from rfl] at Pw); (try rw [show 0 * 7 = 0 from rfl] at Pw); (try rw [Addr.add_zero'] at Pw); (try rw [show ((0 : Int)).toNat = 0 from rfl] at Uv); (try rw [show 0 * 7 = 0 from rfl] at Uv); (try rw [Addr.add_zero'] at Uv); have zJM := zx.mk fF; have zJN := zx.mk fE; clear fF fE; replace zqL := eq_true zqL; replace zqM := eq_true zqM))
     go_ret
     exact ⟨by first | rfl | (simp [zG, zH] <;> rfl) | (simp [*, zG, zH] <;> rfl), by repeat (first | (with_reducible first | exact HB.out | apply yj | apply zN | apply yY) | exact HB.out)⟩
    ·rw [if_neg c6] at H
     exact absurd H (by simp)
   ·rw [if_neg c5] at H
    have UG : ((t117.length : Int) == 1) = false := beq_eq_false_iff_ne.mpr c5
    have zqa : ((t117.length : Int) != 1) = true := bne_iff_ne.mpr c5
    obtain rfl := Option.some.inj H
    go_enter Tryz.func11, Tryz.ntmps11
    go_wp2_with (first | ((with_reducible refine yL (f := 19) rfl ?_); refine kF (some 5) Tryz.func19 #[] ?_; (with_reducible refine (uw.calls  pU _ ?yO A1.out).mono ?_); (case yO => exact GW.under HG.out (zB HB.out)); rintro e XT ⟨zvV, rfl, ho0, hb⟩; refine ⟨_, rfl, ?_⟩; have zX := zx.mk (Kd.YZ ho0 (zW (zB HB.out))); have zV := zx.mk (zA (zB HB.out) hb); clear HB; have xH := zX; have HB := zV; clear zX zV; (try clear hb); (try clear hb2); (try clear hk); (try clear hi); (try clear ho0)) | ((with_reducible refine qw (N := 7) rfl ?_); (try (refine qV (by rfl) ?_; dsimp only)); refine Kd.Yc Kd.string _ 9 ?hg (N := 7) ?hd (xs := ([(⟨#[102]⟩ : ByteArray), (⟨#[105]⟩ : ByteArray)] : List ByteArray)) (inner := [.string (⟨#[102]⟩ : ByteArray), .string (⟨#[105]⟩ : ByteArray)]) (ok := fun _ => True) (vW := fun _ => True) ?hr ?hp (fun _ hk => hk) trivial (Below.refl _ _) (Nat.le_refl _) (by simp) ?_; (case hd => rfl); (case hg => rfl); (case hr => first | (go_simp; done) | (go_simp; rfl)); (case hp => exact (yD.one (show Kd.M Kd.string _ _ _ (⟨#[102]⟩ : ByteArray) [.string (⟨#[102]⟩ : ByteArray)] from rfl) (yD.one (show Kd.M Kd.string _ _ _ (⟨#[105]⟩ : ByteArray) [.string (⟨#[105]⟩ : ByteArray)] from rfl) (yD.none _ _)))); intro zvK w16 su hb ZJ jd; clear ZJ jd; (first | rw [← QV.out] at su | (simp only [Int.reduceToNat] at su; rw [← QV.out] at su)); have zX := zx.mk (Kd.wG (by (with_reducible repeat (first | apply Kd.YQ | apply Kd.YX | apply Kd.XW)); exact xH.out) hb); have zV := zx.mk (Kd.vv su (zW (zB HB.out))); have zf := zx.mk (zA (zB HB.out) hb); clear xH; clear HB; have xH := zX; have uz := zV; have HB := zf; clear zX zV zf; clear hb su; obtain ⟨zXf, zXg, zXh⟩ := Kd.XE xH.out; subst zXh; obtain ⟨zXi, zXl, zXm⟩ := Kd.qA uz.out; subst zXm) | ((with_reducible refine yL (f := 13) rfl ?_); refine kF (some 8) Tryz.func13 #[.slice zXf pU.length zXg, .agg #[.int .i64 0, .int .i64 10, .bool true, .bool false], .slice zXi y114.length zXl, .slice none 0 0] ?_; (refine (yE.calls _ _ pU 0 10 true false _ _ y114 _ _ ([] : List (uI)) t117 X5 Qc _ ?yO ?qd ?q8 ?q9 ?uK ?uY ?uW A2.out).mono ?_); (case yO => repeat (first | exact (Kd.wh xH.out).2.2 | (with_reducible refine Kd.yJ ?_ _) | (with_reducible refine Kd.yV ?_ _) | (with_reducible refine Kd.yH ?_))); (case qd => exact (Kd.wh xH.out).2.1); (case q8 => repeat (first | exact (Kd.qO uz.out).2.2 | (with_reducible refine Kd.yJ ?_ _) | (with_reducible refine Kd.yV ?_ _) | (with_reducible refine Kd.yH ?_))); (case q9 => exact (Kd.qO uz.out).2.1); (case uK => exact Kd.QT _ _); (case uY => exact Nat.le_refl _); (case uW => exact GW.under HG.out (zB HB.out)); rintro e w20 ⟨zvY, zvW, rfl, ho0, ho1, hb⟩; refine ⟨_, rfl, ?_⟩; have zX := zx.mk (Kd.wG (by (with_reducible repeat (first | apply Kd.YQ | apply Kd.YX | apply Kd.XW)); exact xH.out) hb); have zV := zx.mk (Kd.uJ (zR uz.out) (Kd.qQ ho1) hb); have zf := zx.mk (Kd.YZ ho0 (zW (zB HB.out))); have zu := zx.mk (Kd.vv (Kd.jF ho1 (Kd.qW (zR uz.out))) (zW (zB HB.out))); have yZ := zx.mk (zA (zB HB.out) hb); clear xH; clear uz; clear HB; have xH := zX; have uz := zV; have QK := zf; have Uj := zu; have HB := yZ; clear zX zV zf zu yZ; (try clear hb); (try clear hb2); (try clear hk); (try clear hi); (try clear ho0); (try clear ho1); obtain ⟨zYO, zYP, zXn⟩ := Kd.qA Uj.out; subst zXn; obtain ⟨zYR, zYS, zXo⟩ := Kd.XE QK.out; subst zXo))
    go_ret
    exact ⟨by first | rfl | (simp [zG, zH] <;> rfl) | (simp [*, zG, zH] <;> rfl), by repeat (first | (with_reducible first | exact HB.out | apply yj | apply zN | apply yY) | exact HB.out)⟩
  ·rw [if_neg c4] at H
   have Xg : ((X5.length : Int) == 0) = false := beq_eq_false_iff_ne.mpr c4
   have zyn : ((X5.length : Int) != 0) = true := bne_iff_ne.mpr c4
   have zYT : ¬ (X5 = []) := fun h_ => c4 (by rw [h_]; rfl)
   obtain rfl := Option.some.inj H
   go_enter Tryz.func11, Tryz.ntmps11
   go_wp2_with (first | ((with_reducible refine yL (f := 19) rfl ?_); refine kF (some 5) Tryz.func19 #[] ?_; (with_reducible refine (uw.calls  pU _ ?yO A1.out).mono ?_); (case yO => exact GW.under HG.out (zB HB.out)); rintro e w23 ⟨zvV, rfl, ho0, hb⟩; refine ⟨_, rfl, ?_⟩; have zX := zx.mk (Kd.YZ ho0 (zW (zB HB.out))); have zV := zx.mk (zA (zB HB.out) hb); clear HB; have xH := zX; have HB := zV; clear zX zV; (try clear hb); (try clear hb2); (try clear hk); (try clear hi); (try clear ho0)) | ((with_reducible refine qw (N := 7) rfl ?_); (try (refine qV (by rfl) ?_; dsimp only)); refine Kd.Yc Kd.string _ 9 ?hg (N := 7) ?hd (xs := ([(⟨#[102]⟩ : ByteArray), (⟨#[105]⟩ : ByteArray)] : List ByteArray)) (inner := [.string (⟨#[102]⟩ : ByteArray), .string (⟨#[105]⟩ : ByteArray)]) (ok := fun _ => True) (vW := fun _ => True) ?hr ?hp (fun _ hk => hk) trivial (Below.refl _ _) (Nat.le_refl _) (by simp) ?_; (case hd => rfl); (case hg => rfl); (case hr => first | (go_simp; done) | (go_simp; rfl)); (case hp => exact (yD.one (show Kd.M Kd.string _ _ _ (⟨#[102]⟩ : ByteArray) [.string (⟨#[102]⟩ : ByteArray)] from rfl) (yD.one (show Kd.M Kd.string _ _ _ (⟨#[105]⟩ : ByteArray) [.string (⟨#[105]⟩ : ByteArray)] from rfl) (yD.none _ _)))); intro zvK Un sD hb ZJ jd; clear ZJ jd; (first | rw [← QV.out] at sD | (simp only [Int.reduceToNat] at sD; rw [← QV.out] at sD)); have zX := zx.mk (Kd.wG (by (with_reducible repeat (first | apply Kd.YQ | apply Kd.YX | apply Kd.XW)); exact xH.out) hb); have zV := zx.mk (Kd.vv sD (zW (zB HB.out))); have zf := zx.mk (zA (zB HB.out) hb); clear xH; clear HB; have xH := zX; have uz := zV; have HB := zf; clear zX zV zf; clear hb sD; obtain ⟨zXp, zXr, zXs⟩ := Kd.XE xH.out; subst zXs; obtain ⟨zXt, zXu, zXA⟩ := Kd.qA uz.out; subst zXA) | ((with_reducible refine yL (f := 13) rfl ?_); refine kF (some 8) Tryz.func13 #[.slice zXp pU.length zXr, .agg #[.int .i64 0, .int .i64 10, .bool true, .bool false], .slice zXt y114.length zXu, .slice none 0 0] ?_; (refine (yE.calls _ _ pU 0 10 true false _ _ y114 _ _ ([] : List (uI)) t117 X5 Qc _ ?yO ?qd ?q8 ?q9 ?uK ?uY ?uW A2.out).mono ?_); (case yO => repeat (first | exact (Kd.wh xH.out).2.2 | (with_reducible refine Kd.yJ ?_ _) | (with_reducible refine Kd.yV ?_ _) | (with_reducible refine Kd.yH ?_))); (case qd => exact (Kd.wh xH.out).2.1); (case q8 => repeat (first | exact (Kd.qO uz.out).2.2 | (with_reducible refine Kd.yJ ?_ _) | (with_reducible refine Kd.yV ?_ _) | (with_reducible refine Kd.yH ?_))); (case q9 => exact (Kd.qO uz.out).2.1); (case uK => exact Kd.QT _ _); (case uY => exact Nat.le_refl _); (case uW => exact GW.under HG.out (zB HB.out)); rintro e w28 ⟨zvY, zvW, rfl, ho0, ho1, hb⟩; refine ⟨_, rfl, ?_⟩; have zX := zx.mk (Kd.wG (by (with_reducible repeat (first | apply Kd.YQ | apply Kd.YX | apply Kd.XW)); exact xH.out) hb); have zV := zx.mk (Kd.uJ (zR uz.out) (Kd.qQ ho1) hb); have zf := zx.mk (Kd.YZ ho0 (zW (zB HB.out))); have zu := zx.mk (Kd.vv (Kd.jF ho1 (Kd.qW (zR uz.out))) (zW (zB HB.out))); have yZ := zx.mk (zA (zB HB.out) hb); clear xH; clear uz; clear HB; have xH := zX; have uz := zV; have QK := zf; have Uj := zu; have HB := yZ; clear zX zV zf zu yZ; (try clear hb); (try clear hb2); (try clear hk); (try clear hi); (try clear ho0); (try clear ho1); obtain ⟨zYU, zY0, zXB⟩ := Kd.qA Uj.out; subst zXB))
   go_ret
   exact ⟨by first | rfl | (simp [zG, zH] <;> rfl) | (simp [*, zG, zH] <;> rfl), by repeat (first | (with_reducible first | exact HB.out | apply yj | apply zN | apply yY) | exact HB.out)⟩
 ·rw [if_neg c3] at H
  have Yh : (Qc == 0) = false := beq_eq_false_iff_ne.mpr c3
  have U7 : (Qc != 0) = true := bne_iff_ne.mpr c3
  obtain rfl := Option.some.inj H
  go_enter Tryz.func11, Tryz.ntmps11
  go_wp2_with (first | ((with_reducible refine yL (f := 19) rfl ?_); refine kF (some 5) Tryz.func19 #[] ?_; (with_reducible refine (uw.calls  pU _ ?yO A1.out).mono ?_); (case yO => exact GW.under HG.out (zB HB.out)); rintro e w30 ⟨zvV, rfl, ho0, hb⟩; refine ⟨_, rfl, ?_⟩; have zX := zx.mk (Kd.YZ ho0 (zW (zB HB.out))); have zV := zx.mk (zA (zB HB.out) hb); clear HB; have xH := zX; have HB := zV; clear zX zV; (try clear hb); (try clear hb2); (try clear hk); (try clear hi); (try clear ho0)) | ((with_reducible refine qw (N := 7) rfl ?_); (try (refine qV (by rfl) ?_; dsimp only)); refine Kd.Yc Kd.string _ 9 ?hg (N := 7) ?hd (xs := ([(⟨#[102]⟩ : ByteArray), (⟨#[105]⟩ : ByteArray)] : List ByteArray)) (inner := [.string (⟨#[102]⟩ : ByteArray), .string (⟨#[105]⟩ : ByteArray)]) (ok := fun _ => True) (vW := fun _ => True) ?hr ?hp (fun _ hk => hk) trivial (Below.refl _ _) (Nat.le_refl _) (by simp) ?_; (case hd => rfl); (case hg => rfl); (case hr => first | (go_simp; done) | (go_simp; rfl)); (case hp => exact (yD.one (show Kd.M Kd.string _ _ _ (⟨#[102]⟩ : ByteArray) [.string (⟨#[102]⟩ : ByteArray)] from rfl) (yD.one (show Kd.M Kd.string _ _ _ (⟨#[105]⟩ : ByteArray) [.string (⟨#[105]⟩ : ByteArray)] from rfl) (yD.none _ _)))); intro zvK w31 sF hb ZJ jd; clear ZJ jd; (first | rw [← QV.out] at sF | (simp only [Int.reduceToNat] at sF; rw [← QV.out] at sF)); have zX := zx.mk (Kd.wG (by (with_reducible repeat (first | apply Kd.YQ | apply Kd.YX | apply Kd.XW)); exact xH.out) hb); have zV := zx.mk (Kd.vv sF (zW (zB HB.out))); have zf := zx.mk (zA (zB HB.out) hb); clear xH; clear HB; have xH := zX; have uz := zV; have HB := zf; clear zX zV zf; clear hb sF; obtain ⟨zXC, zXD, zXE⟩ := Kd.XE xH.out; subst zXE; obtain ⟨kX, kJ, zqN⟩ := Kd.qA uz.out; subst zqN) | ((with_reducible refine yL (f := 13) rfl ?_); refine kF (some 8) Tryz.func13 #[.slice zXC pU.length zXD, .agg #[.int .i64 0, .int .i64 10, .bool true, .bool false], .slice kX y114.length kJ, .slice none 0 0] ?_; (refine (yE.calls _ _ pU 0 10 true false _ _ y114 _ _ ([] : List (uI)) t117 X5 Qc _ ?yO ?qd ?q8 ?q9 ?uK ?uY ?uW A2.out).mono ?_); (case yO => repeat (first | exact (Kd.wh xH.out).2.2 | (with_reducible refine Kd.yJ ?_ _) | (with_reducible refine Kd.yV ?_ _) | (with_reducible refine Kd.yH ?_))); (case qd => exact (Kd.wh xH.out).2.1); (case q8 => repeat (first | exact (Kd.qO uz.out).2.2 | (with_reducible refine Kd.yJ ?_ _) | (with_reducible refine Kd.yV ?_ _) | (with_reducible refine Kd.yH ?_))); (case q9 => exact (Kd.qO uz.out).2.1); (case uK => exact Kd.QT _ _); (case uY => exact Nat.le_refl _); (case uW => exact GW.under HG.out (zB HB.out)); rintro e w35 ⟨zvY, zvW, rfl, ho0, ho1, hb⟩; refine ⟨_, rfl, ?_⟩; have zX := zx.mk (Kd.wG (by (with_reducible repeat (first | apply Kd.YQ | apply Kd.YX | apply Kd.XW)); exact xH.out) hb); have zV := zx.mk (Kd.uJ (zR uz.out) (Kd.qQ ho1) hb); have zf := zx.mk (Kd.YZ ho0 (zW (zB HB.out))); have zu := zx.mk (Kd.vv (Kd.jF ho1 (Kd.qW (zR uz.out))) (zW (zB HB.out))); have yZ := zx.mk (zA (zB HB.out) hb); clear xH; clear uz; clear HB; have xH := zX; have uz := zV; have QK := zf; have Uj := zu; have HB := yZ; clear zX zV zf zu yZ; (try clear hb); (try clear hb2); (try clear hk); (try clear hi); (try clear ho0); (try clear ho1)))
  go_ret
  exact ⟨by first | rfl | (simp [zG, zH] <;> rfl) | (simp [*, zG, zH] <;> rfl), by repeat (first | (with_reducible first | exact HB.out | apply yj | apply zN | apply yY) | exact HB.out)⟩
end Go.Proofs.YtggifbbiiickmaaGreatDoor.PX
namespace Go.Proofs.YtggifbbiiickmaaGreatDoor.PX
open Go.RowKit Go.Proofs.zk.zK Go.Proofs.zk.yQ Go.Proofs.zk.yX
attribute [local go_sem] jZ jQ jL jM uD uE jX jJ   -- for this text's walks alone
set_option linter.unusedVariables false
set_option linter.unusedSimpArgs false
end Go.Proofs.YtggifbbiiickmaaGreatDoor.PX
namespace Go.Proofs.YtggifbbiiickmaaGreatDoor
open Go.RowKit Go.Proofs.zk.zK Go.Proofs.zk.yQ Go.Proofs.zk.yX Go.Proofs.YtggifbbiiickmaaGreatDoor.PX
set_option linter.unusedSimpArgs false
set_option linter.unusedVariables false
theorem zy5 : YU.all (fun x => vY x && okF x) = true := by decide +kernel
theorem PV : YU.length = 5 := rfl
theorem zkT : YU.all okF = true := List.all_eq_true.2 fun x hx => by
 have h := List.all_eq_true.1 zy5 x hx
 simp only [Bool.and_eq_true] at h
 exact h.2
theorem sG : yC.f = some true := by decide +kernel
theorem PK (l : List y8) (f s : Int) (zP za : Bool) (chars : List ByteArray) (pairs : List ko) (h1 : l.all okF = true) (h2 : l.length ≤ 1000000000) (h3 : chars.length ≤ 1000000000) (h4 : pairs.length ≤ 1000000000) :
  yE.f l f s zP za chars pairs = some (JF l f s zP za chars pairs) := by
 unfold yE.f
 rw [if_pos ⟨h1, h2, h3, h4⟩]
theorem rdB (l : List vO) (i : Nat) (b : vO) (h : l[i]? = some b) : zn l (i : Int) = b := by
 simp [zn, List.getD_eq_getElem?_getD, h]
def JU (l : List y8) (s : Int) (b : vO) (a : Int) (n : ByteArray) : Prop := 0 ≤ a ∧ a < (l.length : Int) ∧ YR (vw l a) n = true ∧ b = Vz (Qk (vw l a) n s).1 a s n
def GoodAt (l : List y8) (s : Int) (za : Bool) (out : List vO) (i : Nat) : Prop :=
 (∃ b a n, out[i]? = some b ∧ JU l s b a n) ∨
 (∃ Qy b b' a n n', 0 < i ∧ out[i]? = some (Qb Qy) ∧ out[i - 1]? = some b ∧ JU l s b a n ∧ out[i + 1]? = some b' ∧ JU l s b' a n' ∧ za = true ∧ (Z6 (vw l a) n n' s).1 = Qy ∧ Qy ≠ 0)
def Qu (l : List y8) (s : Int) (za : Bool) (out : List vO) : Prop :=
 (∀ i, i < out.length → GoodAt l s za out i) ∧ (out = [] ∨ ∃ b a n, out.getLast? = some b ∧ JU l s b a n)
theorem QA {α : Type} {l m : List α} {i : Nat} {x : α} (h : l[i]? = some x) : (l ++ m)[i]? = some x := by
 rw [List.getElem?_append_left (List.getElem?_eq_some_iff.1 h).1]; exact h
theorem GoodAt.app {l : List y8} {s : Int} {za : Bool} {out : List vO} {i : Nat} (m : List vO) (h : GoodAt l s za out i) : GoodAt l s za (out ++ m) i := by
 rcases h with ⟨b, a, n, h1, h2⟩ | ⟨y, b, b', a, n, n', h0, h1, h2, h3, h4, h5, h6⟩
 ·exact Or.inl ⟨b, a, n, QA h1, h2⟩
 ·exact Or.inr ⟨y, b, b', a, n, n', h0, QA h1, QA h2, h3, QA h4, h5, h6⟩
theorem zxU {l : List y8} {f : Int} {n : ByteArray} (h : 0 ≤ uM l f n) : YR (vw l (uM l f n)) n = true := by
 unfold uM at h ⊢
 split
 ·rename_i h1; exact h1
 ·rename_i h1
  rw [if_neg h1] at h
  have key : ∀ (m : List y8) (i : Nat) (pre : List y8), pre.length = i → 0 ≤ Z7 n m i → YR (vw (pre ++ m) (Z7 n m i)) n = true := by
   intro m
   induction m with
   | nil => intro i pre _ h; unfold Z7 at h; omega
   | cons x r ih =>
    intro i pre hp h
    unfold Z7 at h ⊢
    by_cases hx : (x.f1 && YR x n) = true
    ·rw [if_pos hx]
     rw [Bool.and_eq_true] at hx
     have e : vw (pre ++ x :: r) (i : Int) = x := by
      unfold vw xU
      rw [Int.toNat_natCast, List.getD_eq_getElem?_getD, List.getElem?_append_right (by omega), hp, Nat.sub_self]
      rfl
     rw [e]; exact hx.2
    ·rw [if_neg hx] at h ⊢
     have := ih (i + 1) (pre ++ [x]) (by simp [hp]) h
     simpa using this
  exact key l 0 [] rfl h
theorem zx0 (l : List y8) (f s : Int) (za : Bool) (st : List vO × List ByteArray) (n : ByteArray) (hf0 : 0 ≤ f) (hf1 : f < (l.length : Int)) (h : Qu l s za st.1) : Qu l s za (kr l f s za st n).1 := by
 unfold kr
 by_cases h0 : uM l f n < 0
 ·rw [if_pos h0]; exact h
 ·rw [if_neg h0]
  have hlt := mY (l := l) n hf0 hf1
  have hh := zxU (l := l) (f := f) (n := n) (by omega)
  generalize uM l f n = a at h0 hlt hh ⊢
  have hG : JU l s (Vz (Qk (vw l a) n s).1 a s n) a n := ⟨by omega, by omega, hh, rfl⟩
  generalize Vz (Qk (vw l a) n s).1 a s n = g at hG ⊢
  have hlast : ∀ (pre : List vO), (pre ++ [g]).getLast? = some g := fun pre => by simp
  obtain ⟨h1, h2⟩ := h
  have hk : p9 l s za st.1 a n = [] ∨ ∃ y b, p9 l s za st.1 a n = [Qb y] ∧ st.1.getLast? = some b ∧ b.f2 = a ∧ za = true ∧ (Z6 (vw l a) b.f4 n s).1 = y ∧ y ≠ 0 := by
   unfold p9
   cases hl : st.1.getLast? with
   | none => exact Or.inl rfl
   | some b =>
    dsimp only
    by_cases hc : (za && decide (b.f2 = a)) = true
    ·rw [if_pos hc]
     by_cases hz : (Z6 (vw l a) b.f4 n s).1 = 0
     ·rw [if_pos hz]; exact Or.inl rfl
     ·rw [if_neg hz]
      simp only [Bool.and_eq_true, decide_eq_true_eq] at hc
      exact Or.inr ⟨_, b, rfl, rfl, hc.2, hc.1, rfl, hz⟩
    ·rw [if_neg hc]; exact Or.inl rfl
  rcases hk with hk | ⟨y, b, hk, hb, hba, hkt, hy, hy0⟩
  ·rw [hk, List.append_nil]
   refine ⟨fun i hi => ?_, Or.inr ⟨g, a, n, hlast _, hG⟩⟩
   by_cases e : i < st.1.length
   ·exact (h1 i e).app _
   ·have : i = st.1.length := by simp at hi; omega
    subst this
    exact Or.inl ⟨g, a, n, by simp, hG⟩
  ·rw [hk]
   rcases h2 with h2 | ⟨b0, a0, n0, hb0, hG0⟩
   ·rw [h2] at hb; cases hb
   rw [hb] at hb0
   obtain rfl := Option.some.inj hb0
   have ea : a0 = a := by rw [← hba, hG0.2.2.2]; rfl
   subst ea
   have en : b.f4 = n0 := by rw [hG0.2.2.2]; rfl
   rw [en] at hy
   have hpos : 0 < st.1.length := by
    rcases Nat.eq_zero_or_pos st.1.length with h | h
    ·rw [List.eq_nil_of_length_eq_zero h] at hb; cases hb
    ·exact h
   have hget : st.1[st.1.length - 1]? = some b := by rw [← List.getLast?_eq_getElem?]; exact hb
   refine ⟨fun i hi => ?_, Or.inr ⟨g, a0, n, hlast _, hG⟩⟩
   by_cases e : i < st.1.length
   ·rw [List.append_assoc]; exact (h1 i e).app _
   ·have hi2 : i = st.1.length ∨ i = st.1.length + 1 := by simp at hi; omega
    rcases hi2 with rfl | rfl
    ·refine Or.inr ⟨y, b, g, a0, n0, n, hpos, by simp, ?_, hG0, ?_, hG, hkt, hy, hy0⟩
     ·rw [List.append_assoc]; exact QA hget
     ·simp
    ·exact Or.inl ⟨g, a0, n, by simp, hG⟩
theorem zx1 (l : List y8) (f s : Int) (za : Bool) (ns : List ByteArray) (hf0 : 0 ≤ f) (hf1 : f < (l.length : Int)) : Qu l s za (jS l f s za ns).1 := by
 have key : ∀ (ns : List ByteArray) (st : List vO × List ByteArray), Qu l s za st.1 → Qu l s za (ns.foldl (kr l f s za) st).1 := by
  intro ns
  induction ns with
  | nil => intro st h; exact h
  | cons n r ih => intro st h; exact ih _ (zx0 l f s za st n hf0 hf1 h)
 exact key ns ([], []) ⟨fun i hi => absurd hi (Nat.not_lt_zero _), Or.inl rfl⟩
theorem sH (l : List y8) (f s : Int) (za : Bool) (ns : List ByteArray) : (jS l f s za ns).1.length ≤ 2 * ns.length ∧ (jS l f s za ns).2.length ≤ ns.length := by
 have key : ∀ (ns : List ByteArray) (st : List vO × List ByteArray), (ns.foldl (kr l f s za) st).1.length ≤ st.1.length + 2 * ns.length ∧ (ns.foldl (kr l f s za) st).2.length ≤ st.2.length + ns.length := by
  intro ns
  induction ns with
  | nil => intro st; exact ⟨Nat.le_refl _, Nat.le_refl _⟩
  | cons n r ih =>
   intro st
   have h1 := ih (kr l f s za st n)
   have h2 := mH l f s za st n
   simp only [List.foldl_cons, List.length_cons]
   omega
 have := key ns ([], [])
 simpa [jS] using this
end Go.Proofs.YtggifbbiiickmaaGreatDoor
namespace Go.Proofs.YtggifbbiiickmaaGreatDoor.PX
open Go.RowKit Go.Proofs.zk.zK Go.Proofs.zk.yQ Go.Proofs.zk.yX
attribute [local go_sem] jZ jQ jL jM uD uE jX jJ   -- for this text's walks alone
set_option linter.unusedVariables false
set_option linter.unusedSimpArgs false
mutual
def zl.j0 : Nat → Bool → Int → Int → Int → Int → ByteArray → ByteArray → List Int → Int → Int → Int → Int → ByteArray → ByteArray → List Int → Option (Bool)
 | 0, _, _, _, _, _, _, _, _, _, _, _, _, _, _, _ => none
 | k + 1, x54, PY, PW, Pb, Pf, Pg, Ph, QB, Pm, Pn, Po, Pp, Pt, PD, QC => if x54 = true then (some false) else (zl.l0 k 0 PY PW Pb Pf Pg Ph QB Pm Pn Po Pp Pt PD QC)
def zl.l0 : Nat → Int → Int → Int → Int → Int → ByteArray → ByteArray → List Int → Int → Int → Int → Int → ByteArray → ByteArray → List Int → Option (Bool)
 | 0, _, _, _, _, _, _, _, _, _, _, _, _, _, _, _ => none
 | k + 1, x5, PY, PW, Pb, Pf, Pg, Ph, QB, Pm, Pn, Po, Pp, Pt, PD, QC => if x5 < (QB.length : Int) then (if 0 ≤ x5 then (if x5 < (QC.length : Int) then (if (rd QB x5) = (rd QC x5) then (zl.l0 k (wrap64 (x5 + 1)) PY PW Pb Pf Pg Ph QB Pm Pn Po Pp Pt PD QC) else (some false)) else (none)) else (none)) else (some true)
end
def zl.f (k : Nat) (zI : Int) (zM : Int) (zL : Int) (xW : Int) (xg : ByteArray) (xu : ByteArray) (qI : List Int) (xE : Int) (xG : Int) (xO : Int) (xP : Int) (vL : ByteArray) (vM : ByteArray) (xI : List Int) : Option (Bool) := if zI = xE then (if zM = xG then (if zL = xO then (if xW = xP then (if xg.toList = vL.toList then (if xu.toList = vM.toList then (zl.j0 k ((qI.length : Int) != (xI.length : Int)) zI zM zL xW xg xu qI xE xG xO xP vL vM xI) else (zl.j0 k true zI zM zL xW xg xu qI xE xG xO xP vL vM xI)) else (zl.j0 k true zI zM zL xW xg xu qI xE xG xO xP vL vM xI)) else (zl.j0 k true zI zM zL xW xg xu qI xE xG xO xP vL vM xI)) else (zl.j0 k true zI zM zL xW xg xu qI xE xG xO xP vL vM xI)) else (zl.j0 k true zI zM zL xW xg xu qI xE xG xO xP vL vM xI)) else (zl.j0 k true zI zM zL xW xg xu qI xE xG xO xP vL vM xI)
set_option maxHeartbeats 8000000 in
set_option maxRecDepth 100000 in
theorem zl.calls (k : Nat) (zI : Int) (zM : Int) (zL : Int) (xW : Int) (xg : ByteArray) (xu : ByteArray) (jT : Option Addr) (jU : Nat) (qI : List Int) (xE : Int) (xG : Int) (xO : Int) (xP : Int) (vL : ByteArray) (vM : ByteArray) (ZH : Option Addr) (ZI : Nat) (xI : List Int) (r : Bool) (w : World) (zv6 : Kd.C (Kd.int .i64) w jT qI.length qI) (zv7 : qI.length ≤ jU) (zv8 : Kd.C (Kd.int .i64) w ZH xI.length xI) (zv9 : xI.length ≤ ZI) (h : zl.f k zI zM zL xW xg xu qI xE xG xO xP vL vM xI = some r) :
  Calls Tryz.prog 53 #[.agg #[.int .i64 zI, .int .i64 zM, .int .i64 zL, .int .i64 xW, .string xg, .string xu, .slice jT qI.length jU], .agg #[.int .i64 xE, .int .i64 xG, .int .i64 xO, .int .i64 xP, .string vL, .string vM, .slice ZH xI.length ZI]] w fun e w' => e = .returned (.bool r) ∧ Below w.heap.size w w' := by
 have zXF := Tryz.underlying53
 have zkz := zx.mk zv6
 have zK8 := zx.mk zv7
 clear zv6 zv7
 have zkq := zx.mk zv8
 have zK9 := zx.mk zv9
 clear zv8 zv9
 have HB := zx.mk (Below.refl w.heap.size w)
 have H : (if zI = xE then (if zM = xG then (if zL = xO then (if xW = xP then (if xg.toList = vL.toList then (if xu.toList = vM.toList then (zl.j0 k ((qI.length : Int) != (xI.length : Int)) zI zM zL xW xg xu qI xE xG xO xP vL vM xI) else (zl.j0 k true zI zM zL xW xg xu qI xE xG xO xP vL vM xI)) else (zl.j0 k true zI zM zL xW xg xu qI xE xG xO xP vL vM xI)) else (zl.j0 k true zI zM zL xW xg xu qI xE xG xO xP vL vM xI)) else (zl.j0 k true zI zM zL xW xg xu qI xE xG xO xP vL vM xI)) else (zl.j0 k true zI zM zL xW xg xu qI xE xG xO xP vL vM xI)) else (zl.j0 k true zI zM zL xW xg xu qI xE xG xO xP vL vM xI)) = some r := h
 clear h
 have Qs := zx.mk H
 clear H
 go_enter Tryz.func53, Tryz.ntmps53
 go_upto_region 1 with (first | ((with_reducible refine qw (N := 2) rfl ?_); (try (refine qV (by rfl) ?_; dsimp only)); refine qL ?hg (N := 2) ?hd (cs := #[.int .i64 zI, .int .i64 zM, .int .i64 zL, .int .i64 xW, .string xg, .string xu, .slice jT qI.length jU]) (t := 53) ?hr ?_; (case hd => rfl); (case hg => rfl); (case hr => first | (go_simp; done) | (go_simp; rfl)); intro zT hg w4 qN hb; have zX := zx.mk (zA (zB HB.out) hb); have zV := zx.mk (qN); have zf := zx.mk ((by rw [hg]; exact (zW (zB HB.out)) : w.heap.size ≤ zT)); have zu := zx.mk ((by rw [hg]; exact (zW (zB HB.out)) : w.heap.size ≤ zT)); clear HB; have HB := zX; have ze := zV; have zkx := zf; have J2 := zu; clear zX zV zf zu; clear hb qN hg) | ((with_reducible refine qw (N := 3) rfl ?_); (try (refine qV (by rfl) ?_; dsimp only)); refine qL ?hg (N := 3) ?hd (cs := #[.int .i64 xE, .int .i64 xG, .int .i64 xO, .int .i64 xP, .string vL, .string vM, .slice ZH xI.length ZI]) (t := 53) ?hr ?_; (case hd => rfl); (case hg => rfl); (case hr => first | (go_simp; done) | (go_simp; rfl)); intro yc hg w5 qN hb; have zX := zx.mk (zm (g := zT) (o := .cells #[.int .i64 zI, .int .i64 zM, .int .i64 zL, .int .i64 xW, .string xg, .string xu, .slice jT qI.length jU] 53 (0, 0)) (zU ze.out) hb); have zV := zx.mk (zA (zB HB.out) hb); have zf := zx.mk (qN); have zu := zx.mk ((by rw [hg]; exact (zW (zB HB.out)) : w.heap.size ≤ yc)); have yZ := zx.mk ((by rw [hg]; exact (zW (zB HB.out)) : w.heap.size ≤ yc)); have yT := zx.mk ((by rw [hg]; exact Nat.ne_of_lt (kY (g := zT) (o := .cells #[.int .i64 zI, .int .i64 zM, .int .i64 zL, .int .i64 xW, .string xg, .string xu, .slice jT qI.length jU] 53 (0, 0)) (zU ze.out)) : zT ≠ yc)); have qX := zx.mk ((by rw [hg]; exact Nat.ne_of_gt (kY (g := zT) (o := .cells #[.int .i64 zI, .int .i64 zM, .int .i64 zL, .int .i64 xW, .string xg, .string xu, .slice jT qI.length jU] 53 (0, 0)) (zU ze.out)) : yc ≠ zT)); clear ze; clear HB; have ze := zX; have HB := zV; have zo := zf; have zkj := zu; have J3 := yZ; have jB := yT; have jC := qX; clear zX zV zf zu yZ yT qX; clear hb qN hg))
 repeat (go_quiet (first | ((with_reducible refine qw (N := 2) rfl ?_); (try (refine qV (by rfl) ?_; dsimp only)); refine qL ?hg (N := 2) ?hd (cs := #[.int .i64 zI, .int .i64 zM, .int .i64 zL, .int .i64 xW, .string xg, .string xu, .slice jT qI.length jU]) (t := 53) ?hr ?_; (case hd => rfl); (case hg => rfl); (case hr => first | (go_simp; done) | (go_simp; rfl)); intro zT hg w4 qN hb; have zX := zx.mk (zA (zB HB.out) hb); have zV := zx.mk (qN); have zf := zx.mk ((by rw [hg]; exact (zW (zB HB.out)) : w.heap.size ≤ zT)); have zu := zx.mk ((by rw [hg]; exact (zW (zB HB.out)) : w.heap.size ≤ zT)); clear HB; have HB := zX; have ze := zV; have zkx := zf; have J2 := zu; clear zX zV zf zu; clear hb qN hg) | ((with_reducible refine qw (N := 3) rfl ?_); (try (refine qV (by rfl) ?_; dsimp only)); refine qL ?hg (N := 3) ?hd (cs := #[.int .i64 xE, .int .i64 xG, .int .i64 xO, .int .i64 xP, .string vL, .string vM, .slice ZH xI.length ZI]) (t := 53) ?hr ?_; (case hd => rfl); (case hg => rfl); (case hr => first | (go_simp; done) | (go_simp; rfl)); intro yc hg w5 qN hb; have zX := zx.mk (zm (g := zT) (o := .cells #[.int .i64 zI, .int .i64 zM, .int .i64 zL, .int .i64 xW, .string xg, .string xu, .slice jT qI.length jU] 53 (0, 0)) (zU ze.out) hb); have zV := zx.mk (zA (zB HB.out) hb); have zf := zx.mk (qN); have zu := zx.mk ((by rw [hg]; exact (zW (zB HB.out)) : w.heap.size ≤ yc)); have yZ := zx.mk ((by rw [hg]; exact (zW (zB HB.out)) : w.heap.size ≤ yc)); have yT := zx.mk ((by rw [hg]; exact Nat.ne_of_lt (kY (g := zT) (o := .cells #[.int .i64 zI, .int .i64 zM, .int .i64 zL, .int .i64 xW, .string xg, .string xu, .slice jT qI.length jU] 53 (0, 0)) (zU ze.out)) : zT ≠ yc)); have qX := zx.mk ((by rw [hg]; exact Nat.ne_of_gt (kY (g := zT) (o := .cells #[.int .i64 zI, .int .i64 zM, .int .i64 zL, .int .i64 xW, .string xg, .string xu, .slice jT qI.length jU] 53 (0, 0)) (zU ze.out)) : yc ≠ zT)); clear ze; clear HB; have ze := zX; have HB := zV; have zo := zf; have zkj := zu; have J3 := yZ; have jB := yT; have jC := qX; clear zX zV zf zu yZ yT qX; clear hb qN hg)); go_upto_region 1 with (first | ((with_reducible refine qw (N := 2) rfl ?_); (try (refine qV (by rfl) ?_; dsimp only)); refine qL ?hg (N := 2) ?hd (cs := #[.int .i64 zI, .int .i64 zM, .int .i64 zL, .int .i64 xW, .string xg, .string xu, .slice jT qI.length jU]) (t := 53) ?hr ?_; (case hd => rfl); (case hg => rfl); (case hr => first | (go_simp; done) | (go_simp; rfl)); intro zT hg w4 qN hb; have zX := zx.mk (zA (zB HB.out) hb); have zV := zx.mk (qN); have zf := zx.mk ((by rw [hg]; exact (zW (zB HB.out)) : w.heap.size ≤ zT)); have zu := zx.mk ((by rw [hg]; exact (zW (zB HB.out)) : w.heap.size ≤ zT)); clear HB; have HB := zX; have ze := zV; have zkx := zf; have J2 := zu; clear zX zV zf zu; clear hb qN hg) | ((with_reducible refine qw (N := 3) rfl ?_); (try (refine qV (by rfl) ?_; dsimp only)); refine qL ?hg (N := 3) ?hd (cs := #[.int .i64 xE, .int .i64 xG, .int .i64 xO, .int .i64 xP, .string vL, .string vM, .slice ZH xI.length ZI]) (t := 53) ?hr ?_; (case hd => rfl); (case hg => rfl); (case hr => first | (go_simp; done) | (go_simp; rfl)); intro yc hg w5 qN hb; have zX := zx.mk (zm (g := zT) (o := .cells #[.int .i64 zI, .int .i64 zM, .int .i64 zL, .int .i64 xW, .string xg, .string xu, .slice jT qI.length jU] 53 (0, 0)) (zU ze.out) hb); have zV := zx.mk (zA (zB HB.out) hb); have zf := zx.mk (qN); have zu := zx.mk ((by rw [hg]; exact (zW (zB HB.out)) : w.heap.size ≤ yc)); have yZ := zx.mk ((by rw [hg]; exact (zW (zB HB.out)) : w.heap.size ≤ yc)); have yT := zx.mk ((by rw [hg]; exact Nat.ne_of_lt (kY (g := zT) (o := .cells #[.int .i64 zI, .int .i64 zM, .int .i64 zL, .int .i64 xW, .string xg, .string xu, .slice jT qI.length jU] 53 (0, 0)) (zU ze.out)) : zT ≠ yc)); have qX := zx.mk ((by rw [hg]; exact Nat.ne_of_gt (kY (g := zT) (o := .cells #[.int .i64 zI, .int .i64 zM, .int .i64 zL, .int .i64 xW, .string xg, .string xu, .slice jT qI.length jU] 53 (0, 0)) (zU ze.out)) : yc ≠ zT)); clear ze; clear HB; have ze := zX; have HB := zV; have zo := zf; have zkj := zu; have J3 := yZ; have jB := yT; have jC := qX; clear zX zV zf zu yZ yT qX; clear hb qN hg)))
 (try simp only [Act.put, List.setIfInBounds_toArray, List.set_cons_zero, List.set_cons_succ])
 go_cut [54] (fun v54 wc => ∃ (kq : Nat) (dP : Bool), v54 = .bool dP ∧ zx (zl.j0 kq dP zI zM zL xW xg xu qI xE xG xO xP vL vM xI = some r) ∧ zx (kq ≤ k) ∧ zx (wc.heap[zT]? = some (.cells #[.int .i64 zI, .int .i64 zM, .int .i64 zL, .int .i64 xW, .string xg, .string xu, (.slice jT qI.length jU)] 53 (0, 0))) ∧ zx (wc.heap[yc]? = some (.cells #[.int .i64 xE, .int .i64 xG, .int .i64 xO, .int .i64 xP, .string vL, .string vM, (.slice ZH xI.length ZI)] 53 (0, 0))) ∧ zx (Below w.heap.size w wc))
 case first =>
  have H := Qs.out
  clear Qs
  by_cases c6 : zI = xE
  ·rw [if_pos c6] at H
   have YO : (zI == xE) = true := beq_iff_eq.mpr c6
   have zqI : (zI != xE) = false := bne_eq_false_iff_eq.mpr c6
   clear c6
   (first | rw [YO] | (simp only [vJ, vV]; rw [YO]) | skip)
   by_cases c7 : zM = xG
   ·rw [if_pos c7] at H
    have sI : (zM == xG) = true := beq_iff_eq.mpr c7
    have sM : (zM != xG) = false := bne_eq_false_iff_eq.mpr c7
    clear c7
    by_cases c8 : zL = xO
    ·rw [if_pos c8] at H
     have Ko : (zL == xO) = true := beq_iff_eq.mpr c8
     have zva : (zL != xO) = false := bne_eq_false_iff_eq.mpr c8
     clear c8
     by_cases c9 : xW = xP
     ·rw [if_pos c9] at H
      have Kt : (xW == xP) = true := beq_iff_eq.mpr c9
      have zvb : (xW != xP) = false := bne_eq_false_iff_eq.mpr c9
      clear c9
      by_cases c10 : xg.toList = vL.toList
      ·rw [if_pos c10] at H
       have zqO : (xg.toList == vL.toList) = true := beq_iff_eq.mpr c10
       have zqP : (xg.toList != vL.toList) = false := bne_eq_false_iff_eq.mpr c10
       clear c10
       by_cases c11 : xu.toList = vM.toList
       ·rw [if_pos c11] at H
        have zqR : (xu.toList == vM.toList) = true := beq_iff_eq.mpr c11
        have zqS : (xu.toList != vM.toList) = false := bne_eq_false_iff_eq.mpr c11
        clear c11
        have H' := zx.mk H
        clear H
        have zYz := jB.out
        have zYq := jC.out
        have fG : w5.cell? ⟨zT, 0, none⟩ = some (.int .i64 zI) := (zy ze.out 0).trans rfl
        have fH : w5.cell? ⟨zT, 1, none⟩ = some (.int .i64 zM) := (zy ze.out 1).trans rfl
        have fI : w5.cell? ⟨zT, 2, none⟩ = some (.int .i64 zL) := (zy ze.out 2).trans rfl
        have fM : w5.cell? ⟨zT, 3, none⟩ = some (.int .i64 xW) := (zy ze.out 3).trans rfl
        have fO : w5.cell? ⟨zT, 4, none⟩ = some (.string xg) := (zy ze.out 4).trans rfl
        have fP : w5.cell? ⟨zT, 5, none⟩ = some (.string xu) := (zy ze.out 5).trans rfl
        have fT : w5.cell? ⟨zT, 6, none⟩ = some (.slice jT qI.length jU) := (zy ze.out 6).trans rfl
        have fU := zw ze.out 0
        have eZ := zw ze.out 1
        have eX := zw ze.out 2
        have eY := zw ze.out 3
        have eB := zw ze.out 4
        have eD := zw ze.out 5
        have eF := zw ze.out 6
        have KE : w5.cell? ⟨yc, 0, none⟩ = some (.int .i64 xE) := (zy zo.out 0).trans rfl
        have KF : w5.cell? ⟨yc, 1, none⟩ = some (.int .i64 xG) := (zy zo.out 1).trans rfl
        have KG : w5.cell? ⟨yc, 2, none⟩ = some (.int .i64 xO) := (zy zo.out 2).trans rfl
        have KH : w5.cell? ⟨yc, 3, none⟩ = some (.int .i64 xP) := (zy zo.out 3).trans rfl
        have KI : w5.cell? ⟨yc, 4, none⟩ = some (.string vL) := (zy zo.out 4).trans rfl
        have KL : w5.cell? ⟨yc, 5, none⟩ = some (.string vM) := (zy zo.out 5).trans rfl
        have eG : w5.cell? ⟨yc, 6, none⟩ = some (.slice ZH xI.length ZI) := (zy zo.out 6).trans rfl
        have KM := zw zo.out 0
        have KN := zw zo.out 1
        have KO := zw zo.out 2
        have KP := zw zo.out 3
        have KR := zw zo.out 4
        have KS := zw zo.out 5
        have eH := zw zo.out 6
        go_wp2
        repeat (go_quiet (fail); try go_wp2)
        go_meet
        case rel => exact ⟨_, (((qI.length : Int) != (xI.length : Int))), (by first | rfl | (simp; done) | (simp [*]; done)), H', ⟨by first | omega | exact Nat.le_refl _⟩, ⟨zU ze.out⟩, ⟨zU zo.out⟩, ⟨zB HB.out⟩⟩
       ·rw [if_neg c11] at H
        have zqR : (xu.toList == vM.toList) = false := beq_eq_false_iff_ne.mpr c11
        have zqS : (xu.toList != vM.toList) = true := bne_iff_ne.mpr c11
        have H' := zx.mk H
        clear H
        have zYx := jB.out
        have zYj := jC.out
        have KT : w5.cell? ⟨zT, 0, none⟩ = some (.int .i64 zI) := (zy ze.out 0).trans rfl
        have KU : w5.cell? ⟨zT, 1, none⟩ = some (.int .i64 zM) := (zy ze.out 1).trans rfl
        have K8 : w5.cell? ⟨zT, 2, none⟩ = some (.int .i64 zL) := (zy ze.out 2).trans rfl
        have Wz : w5.cell? ⟨zT, 3, none⟩ = some (.int .i64 xW) := (zy ze.out 3).trans rfl
        have Wq : w5.cell? ⟨zT, 4, none⟩ = some (.string xg) := (zy ze.out 4).trans rfl
        have Wx : w5.cell? ⟨zT, 5, none⟩ = some (.string xu) := (zy ze.out 5).trans rfl
        have eO : w5.cell? ⟨zT, 6, none⟩ = some (.slice jT qI.length jU) := (zy ze.out 6).trans rfl
        have Wj := zw ze.out 0
        have Wv := zw ze.out 1
        have Wy := zw ze.out 2
        have Ww := zw ze.out 3
        have WZ := zw ze.out 4
        have WQ := zw ze.out 5
        have eP := zw ze.out 6
        have eT : w5.cell? ⟨yc, 0, none⟩ = some (.int .i64 xE) := (zy zo.out 0).trans rfl
        have eU : w5.cell? ⟨yc, 1, none⟩ = some (.int .i64 xG) := (zy zo.out 1).trans rfl
        have iq : w5.cell? ⟨yc, 2, none⟩ = some (.int .i64 xO) := (zy zo.out 2).trans rfl
        have iy : w5.cell? ⟨yc, 3, none⟩ = some (.int .i64 xP) := (zy zo.out 3).trans rfl
        have iw : w5.cell? ⟨yc, 4, none⟩ = some (.string vL) := (zy zo.out 4).trans rfl
        have iZ : w5.cell? ⟨yc, 5, none⟩ = some (.string vM) := (zy zo.out 5).trans rfl
        have iQ : w5.cell? ⟨yc, 6, none⟩ = some (.slice ZH xI.length ZI) := (zy zo.out 6).trans rfl
        have iX := zw zo.out 0
        have iJ := zw zo.out 1
        have iV := zw zo.out 2
        have iK := zw zo.out 3
        have iY := zw zo.out 4
        have ig := zw zo.out 5
        have iA := zw zo.out 6
        go_wp2
        repeat (go_quiet (fail); try go_wp2)
        go_meet
        case rel => exact ⟨_, (true), (by first | rfl | (simp; done) | (simp [*]; done)), H', ⟨by first | omega | exact Nat.le_refl _⟩, ⟨zU ze.out⟩, ⟨zU zo.out⟩, ⟨zB HB.out⟩⟩
      ·rw [if_neg c10] at H
       have zqO : (xg.toList == vL.toList) = false := beq_eq_false_iff_ne.mpr c10
       have zqP : (xg.toList != vL.toList) = true := bne_iff_ne.mpr c10
       have H' := zx.mk H
       clear H
       have zYv := jB.out
       have zYk := jC.out
       have iB : w5.cell? ⟨zT, 0, none⟩ = some (.int .i64 zI) := (zy ze.out 0).trans rfl
       have iD : w5.cell? ⟨zT, 1, none⟩ = some (.int .i64 zM) := (zy ze.out 1).trans rfl
       have iE : w5.cell? ⟨zT, 2, none⟩ = some (.int .i64 zL) := (zy ze.out 2).trans rfl
       have iF : w5.cell? ⟨zT, 3, none⟩ = some (.int .i64 xW) := (zy ze.out 3).trans rfl
       have iG : w5.cell? ⟨zT, 4, none⟩ = some (.string xg) := (zy ze.out 4).trans rfl
       have iH : w5.cell? ⟨zT, 5, none⟩ = some (.string xu) := (zy ze.out 5).trans rfl
       have iI : w5.cell? ⟨zT, 6, none⟩ = some (.slice jT qI.length jU) := (zy ze.out 6).trans rfl
       have iL := zw ze.out 0
       have iN := zw ze.out 1
       have iO := zw ze.out 2
       have iP := zw ze.out 3
       have iR := zw ze.out 4
       have iT := zw ze.out 5
       have iU := zw ze.out 6
       have WV : w5.cell? ⟨yc, 0, none⟩ = some (.int .i64 xE) := (zy zo.out 0).trans rfl
       have WK : w5.cell? ⟨yc, 1, none⟩ = some (.int .i64 xG) := (zy zo.out 1).trans rfl
       have WY : w5.cell? ⟨yc, 2, none⟩ = some (.int .i64 xO) := (zy zo.out 2).trans rfl
       have WW : w5.cell? ⟨yc, 3, none⟩ = some (.int .i64 xP) := (zy zo.out 3).trans rfl
       have Wd : w5.cell? ⟨yc, 4, none⟩ = some (.string vL) := (zy zo.out 4).trans rfl
       have Wh : w5.cell? ⟨yc, 5, none⟩ = some (.string vM) := (zy zo.out 5).trans rfl
       have lq : w5.cell? ⟨yc, 6, none⟩ = some (.slice ZH xI.length ZI) := (zy zo.out 6).trans rfl
       have Wi := zw zo.out 0
       have Wm := zw zo.out 1
       have Wn := zw zo.out 2
       have Wo := zw zo.out 3
       have Wp := zw zo.out 4
       have Ws := zw zo.out 5
       have lZ := zw zo.out 6
       go_wp2
       repeat (go_quiet (fail); try go_wp2)
       go_meet
       case rel => exact ⟨_, (true), (by first | rfl | (simp; done) | (simp [*]; done)), H', ⟨by first | omega | exact Nat.le_refl _⟩, ⟨zU ze.out⟩, ⟨zU zo.out⟩, ⟨zB HB.out⟩⟩
     ·rw [if_neg c9] at H
      have Kt : (xW == xP) = false := beq_eq_false_iff_ne.mpr c9
      have zvb : (xW != xP) = true := bne_iff_ne.mpr c9
      have H' := zx.mk H
      clear H
      have zYy := jB.out
      have zYw := jC.out
      have lQ : w5.cell? ⟨zT, 0, none⟩ = some (.int .i64 zI) := (zy ze.out 0).trans rfl
      have lX : w5.cell? ⟨zT, 1, none⟩ = some (.int .i64 zM) := (zy ze.out 1).trans rfl
      have lJ : w5.cell? ⟨zT, 2, none⟩ = some (.int .i64 zL) := (zy ze.out 2).trans rfl
      have lV : w5.cell? ⟨zT, 3, none⟩ = some (.int .i64 xW) := (zy ze.out 3).trans rfl
      have lK : w5.cell? ⟨zT, 4, none⟩ = some (.string xg) := (zy ze.out 4).trans rfl
      have lY : w5.cell? ⟨zT, 5, none⟩ = some (.string xu) := (zy ze.out 5).trans rfl
      have lW : w5.cell? ⟨zT, 6, none⟩ = some (.slice jT qI.length jU) := (zy ze.out 6).trans rfl
      have lg := zw ze.out 0
      have lu := zw ze.out 1
      have lC := zw ze.out 2
      have lD := zw ze.out 3
      have lF := zw ze.out 4
      have lG := zw ze.out 5
      have lH := zw ze.out 6
      have Wt : w5.cell? ⟨yc, 0, none⟩ = some (.int .i64 xE) := (zy zo.out 0).trans rfl
      have Wu : w5.cell? ⟨yc, 1, none⟩ = some (.int .i64 xG) := (zy zo.out 1).trans rfl
      have WA : w5.cell? ⟨yc, 2, none⟩ = some (.int .i64 xO) := (zy zo.out 2).trans rfl
      have WB : w5.cell? ⟨yc, 3, none⟩ = some (.int .i64 xP) := (zy zo.out 3).trans rfl
      have WC : w5.cell? ⟨yc, 4, none⟩ = some (.string vL) := (zy zo.out 4).trans rfl
      have WE : w5.cell? ⟨yc, 5, none⟩ = some (.string vM) := (zy zo.out 5).trans rfl
      have lI : w5.cell? ⟨yc, 6, none⟩ = some (.slice ZH xI.length ZI) := (zy zo.out 6).trans rfl
      have WG := zw zo.out 0
      have WH := zw zo.out 1
      have WI := zw zo.out 2
      have WL := zw zo.out 3
      have WM := zw zo.out 4
      have WO := zw zo.out 5
      have lM := zw zo.out 6
      go_wp2
      repeat (go_quiet (fail); try go_wp2)
      go_meet
      case rel => exact ⟨_, (true), (by first | rfl | (simp; done) | (simp [*]; done)), H', ⟨by first | omega | exact Nat.le_refl _⟩, ⟨zU ze.out⟩, ⟨zU zo.out⟩, ⟨zB HB.out⟩⟩
    ·rw [if_neg c8] at H
     have Ko : (zL == xO) = false := beq_eq_false_iff_ne.mpr c8
     have zva : (zL != xO) = true := bne_iff_ne.mpr c8
     have H' := zx.mk H
     clear H
     have zYZ := jB.out
     have zYQ := jC.out
     have lN : w5.cell? ⟨zT, 0, none⟩ = some (.int .i64 zI) := (zy ze.out 0).trans rfl
     have lS : w5.cell? ⟨zT, 1, none⟩ = some (.int .i64 zM) := (zy ze.out 1).trans rfl
     have lT : w5.cell? ⟨zT, 2, none⟩ = some (.int .i64 zL) := (zy ze.out 2).trans rfl
     have lU : w5.cell? ⟨zT, 3, none⟩ = some (.int .i64 xW) := (zy ze.out 3).trans rfl
     have l7 : w5.cell? ⟨zT, 4, none⟩ = some (.string xg) := (zy ze.out 4).trans rfl
     have l8 : w5.cell? ⟨zT, 5, none⟩ = some (.string xu) := (zy ze.out 5).trans rfl
     have l9 : w5.cell? ⟨zT, 6, none⟩ = some (.slice jT qI.length jU) := (zy ze.out 6).trans rfl
     have oz := zw ze.out 0
     have oq := zw ze.out 1
     have ow := zw ze.out 2
     have oZ := zw ze.out 3
     have oQ := zw ze.out 4
     have oJ := zw ze.out 5
     have oV := zw ze.out 6
     have PE : w5.cell? ⟨yc, 0, none⟩ = some (.int .i64 xE) := (zy zo.out 0).trans rfl
     have PG : w5.cell? ⟨yc, 1, none⟩ = some (.int .i64 xG) := (zy zo.out 1).trans rfl
     have PI : w5.cell? ⟨yc, 2, none⟩ = some (.int .i64 xO) := (zy zo.out 2).trans rfl
     have PL : w5.cell? ⟨yc, 3, none⟩ = some (.int .i64 xP) := (zy zo.out 3).trans rfl
     have oK : w5.cell? ⟨yc, 4, none⟩ = some (.string vL) := (zy zo.out 4).trans rfl
     have oW : w5.cell? ⟨yc, 5, none⟩ = some (.string vM) := (zy zo.out 5).trans rfl
     have oh : w5.cell? ⟨yc, 6, none⟩ = some (.slice ZH xI.length ZI) := (zy zo.out 6).trans rfl
     have PN := zw zo.out 0
     have PO := zw zo.out 1
     have PU := zw zo.out 2
     have P5 := zw zo.out 3
     have om := zw zo.out 4
     have oo := zw zo.out 5
     have ou := zw zo.out 6
     go_wp2
     repeat (go_quiet (fail); try go_wp2)
     go_meet
     case rel => exact ⟨_, (true), (by first | rfl | (simp; done) | (simp [*]; done)), H', ⟨by first | omega | exact Nat.le_refl _⟩, ⟨zU ze.out⟩, ⟨zU zo.out⟩, ⟨zB HB.out⟩⟩
   ·rw [if_neg c7] at H
    have sI : (zM == xG) = false := beq_eq_false_iff_ne.mpr c7
    have sM : (zM != xG) = true := bne_iff_ne.mpr c7
    have H' := zx.mk H
    clear H
    have zYX := jB.out
    have zYJ := jC.out
    have oC : w5.cell? ⟨zT, 0, none⟩ = some (.int .i64 zI) := (zy ze.out 0).trans rfl
    have oD : w5.cell? ⟨zT, 1, none⟩ = some (.int .i64 zM) := (zy ze.out 1).trans rfl
    have oF : w5.cell? ⟨zT, 2, none⟩ = some (.int .i64 zL) := (zy ze.out 2).trans rfl
    have oG : w5.cell? ⟨zT, 3, none⟩ = some (.int .i64 xW) := (zy ze.out 3).trans rfl
    have oH : w5.cell? ⟨zT, 4, none⟩ = some (.string xg) := (zy ze.out 4).trans rfl
    have oI : w5.cell? ⟨zT, 5, none⟩ = some (.string xu) := (zy ze.out 5).trans rfl
    have oL : w5.cell? ⟨zT, 6, none⟩ = some (.slice jT qI.length jU) := (zy ze.out 6).trans rfl
    have oM := zw ze.out 0
    have oN := zw ze.out 1
    have oO := zw ze.out 2
    have oP := zw ze.out 3
    have oU := zw ze.out 4
    have o7 := zw ze.out 5
    have o8 := zw ze.out 6
    have o9 : w5.cell? ⟨yc, 0, none⟩ = some (.int .i64 xE) := (zy zo.out 0).trans rfl
    have zzq : w5.cell? ⟨yc, 1, none⟩ = some (.int .i64 xG) := (zy zo.out 1).trans rfl
    have zzx : w5.cell? ⟨yc, 2, none⟩ = some (.int .i64 xO) := (zy zo.out 2).trans rfl
    have zzj : w5.cell? ⟨yc, 3, none⟩ = some (.int .i64 xP) := (zy zo.out 3).trans rfl
    have zzv : w5.cell? ⟨yc, 4, none⟩ = some (.string vL) := (zy zo.out 4).trans rfl
    have zzk : w5.cell? ⟨yc, 5, none⟩ = some (.string vM) := (zy zo.out 5).trans rfl
    have zzy : w5.cell? ⟨yc, 6, none⟩ = some (.slice ZH xI.length ZI) := (zy zo.out 6).trans rfl
    have zzw := zw zo.out 0
    have zzZ := zw zo.out 1
    have zzQ := zw zo.out 2
    have zzX := zw zo.out 3
    have zzJ := zw zo.out 4
    have zzV := zw zo.out 5
    have zzK := zw zo.out 6
    go_wp2
    repeat (go_quiet (fail); try go_wp2)
    go_meet
    case rel => exact ⟨_, (true), (by first | rfl | (simp; done) | (simp [*]; done)), H', ⟨by first | omega | exact Nat.le_refl _⟩, ⟨zU ze.out⟩, ⟨zU zo.out⟩, ⟨zB HB.out⟩⟩
  ·rw [if_neg c6] at H
   have YO : (zI == xE) = false := beq_eq_false_iff_ne.mpr c6
   have zqI : (zI != xE) = true := bne_iff_ne.mpr c6
   (first | rw [YO] | (simp only [vJ, vV]; rw [YO]) | skip)
   have H' := zx.mk H
   clear H
   have zYV := jB.out
   have zYK := jC.out
   have zzY : w5.cell? ⟨zT, 0, none⟩ = some (.int .i64 zI) := (zy ze.out 0).trans rfl
   have zzW : w5.cell? ⟨zT, 1, none⟩ = some (.int .i64 zM) := (zy ze.out 1).trans rfl
   have zza : w5.cell? ⟨zT, 2, none⟩ = some (.int .i64 zL) := (zy ze.out 2).trans rfl
   have zzb : w5.cell? ⟨zT, 3, none⟩ = some (.int .i64 xW) := (zy ze.out 3).trans rfl
   have zzc : w5.cell? ⟨zT, 4, none⟩ = some (.string xg) := (zy ze.out 4).trans rfl
   have zzd : w5.cell? ⟨zT, 5, none⟩ = some (.string xu) := (zy ze.out 5).trans rfl
   have zze : w5.cell? ⟨zT, 6, none⟩ = some (.slice jT qI.length jU) := (zy ze.out 6).trans rfl
   have zzf := zw ze.out 0
   have zzg := zw ze.out 1
   have zzh := zw ze.out 2
   have zzi := zw ze.out 3
   have zzl := zw ze.out 4
   have zzm := zw ze.out 5
   have zzn := zw ze.out 6
   have zzo : w5.cell? ⟨yc, 0, none⟩ = some (.int .i64 xE) := (zy zo.out 0).trans rfl
   have zzp : w5.cell? ⟨yc, 1, none⟩ = some (.int .i64 xG) := (zy zo.out 1).trans rfl
   have zzr : w5.cell? ⟨yc, 2, none⟩ = some (.int .i64 xO) := (zy zo.out 2).trans rfl
   have zzs : w5.cell? ⟨yc, 3, none⟩ = some (.int .i64 xP) := (zy zo.out 3).trans rfl
   have zzt : w5.cell? ⟨yc, 4, none⟩ = some (.string vL) := (zy zo.out 4).trans rfl
   have zzu : w5.cell? ⟨yc, 5, none⟩ = some (.string vM) := (zy zo.out 5).trans rfl
   have zzA : w5.cell? ⟨yc, 6, none⟩ = some (.slice ZH xI.length ZI) := (zy zo.out 6).trans rfl
   have zzB := zw zo.out 0
   have zzC := zw zo.out 1
   have zzD := zw zo.out 2
   have zzE := zw zo.out 3
   have zzF := zw zo.out 4
   have zzG := zw zo.out 5
   have zzH := zw zo.out 6
   go_wp2
   repeat (go_quiet (fail); try go_wp2)
   go_meet
   case rel => exact ⟨_, (true), (by first | rfl | (simp; done) | (simp [*]; done)), H', ⟨by first | omega | exact Nat.le_refl _⟩, ⟨zU ze.out⟩, ⟨zU zo.out⟩, ⟨zB HB.out⟩⟩
 case rest =>
  clear Qs
  try clear c1
  try clear c2
  try clear p2
  try clear c3
  try clear c5
  try clear c6
  try clear YO
  try clear zqI
  try clear c7
  try clear sI
  try clear sM
  try clear c8
  try clear Ko
  try clear zva
  try clear c9
  try clear Kt
  try clear zvb
  try clear c10
  try clear zqO
  try clear zqP
  try clear c11
  try clear zqR
  try clear zqS
  try clear c12
  try clear c15
  try clear c18
  try clear c21
  try clear c24
  try clear c27
  try clear c30
  try clear fG
  try clear fH
  try clear fI
  try clear fM
  try clear fO
  try clear fP
  try clear fT
  try clear KE
  try clear KF
  try clear KG
  try clear KH
  try clear KI
  try clear KL
  try clear eG
  try clear KT
  try clear KU
  try clear K8
  try clear Wz
  try clear Wq
  try clear Wx
  try clear eO
  try clear eT
  try clear eU
  try clear iq
  try clear iy
  try clear iw
  try clear iZ
  try clear iQ
  try clear iB
  try clear iD
  try clear iE
  try clear iF
  try clear iG
  try clear iH
  try clear iI
  try clear WV
  try clear WK
  try clear WY
  try clear WW
  try clear Wd
  try clear Wh
  try clear lq
  try clear lQ
  try clear lX
  try clear lJ
  try clear lV
  try clear lK
  try clear lY
  try clear lW
  try clear Wt
  try clear Wu
  try clear WA
  try clear WB
  try clear WC
  try clear WE
  try clear lI
  try clear lN
  try clear lS
  try clear lT
  try clear lU
  try clear l7
  try clear l8
  try clear l9
  try clear PE
  try clear PG
  try clear PI
  try clear PL
  try clear oK
  try clear oW
  try clear oh
  try clear oC
  try clear oD
  try clear oF
  try clear oG
  try clear oH
  try clear oI
  try clear oL
  try clear o9
  try clear zzq
  try clear zzx
  try clear zzj
  try clear zzv
  try clear zzk
  try clear zzy
  try clear zzY
  try clear zzW
  try clear zza
  try clear zzb
  try clear zzc
  try clear zzd
  try clear zze
  try clear zzo
  try clear zzp
  try clear zzr
  try clear zzs
  try clear zzt
  try clear zzu
  try clear zzA
  try clear fU
  try clear eZ
  try clear eX
  try clear eY
  try clear eB
  try clear eD
  try clear eF
  try clear KM
  try clear KN
  try clear KO
  try clear KP
  try clear KR
  try clear KS
  try clear eH
  try clear Wj
  try clear Wv
  try clear Wy
  try clear Ww
  try clear WZ
  try clear WQ
  try clear eP
  try clear iX
  try clear iJ
  try clear iV
  try clear iK
  try clear iY
  try clear ig
  try clear iA
  try clear iL
  try clear iN
  try clear iO
  try clear iP
  try clear iR
  try clear iT
  try clear iU
  try clear Wi
  try clear Wm
  try clear Wn
  try clear Wo
  try clear Wp
  try clear Ws
  try clear lZ
  try clear lg
  try clear lu
  try clear lC
  try clear lD
  try clear lF
  try clear lG
  try clear lH
  try clear WG
  try clear WH
  try clear WI
  try clear WL
  try clear WM
  try clear WO
  try clear lM
  try clear oz
  try clear oq
  try clear ow
  try clear oZ
  try clear oQ
  try clear oJ
  try clear oV
  try clear PN
  try clear PO
  try clear PU
  try clear P5
  try clear om
  try clear oo
  try clear ou
  try clear oM
  try clear oN
  try clear oO
  try clear oP
  try clear oU
  try clear o7
  try clear o8
  try clear zzw
  try clear zzZ
  try clear zzQ
  try clear zzX
  try clear zzJ
  try clear zzV
  try clear zzK
  try clear zzf
  try clear zzg
  try clear zzh
  try clear zzi
  try clear zzl
  try clear zzm
  try clear zzn
  try clear zzB
  try clear zzC
  try clear zzD
  try clear zzE
  try clear zzF
  try clear zzG
  try clear zzH
  obtain ⟨kq, dP, rfl, HA, HJ2, ze, zo, HB⟩ := hcut
  cases kq with
  | zero => exact absurd HA.out (by simp [zl.j0])
  | succ kj2 =>
   have H := HA.out
   clear HA
   simp only [zl.j0] at H
   by_cases c33 : dP = true
   ·subst c33
    have H1 : (some false) = some r := by rw [if_pos rfl] at H; exact H
    clear H
    have H := H1
    clear H1
    obtain rfl := Option.some.inj H
    go_wp2
    repeat (go_quiet (fail); try go_wp2)
    go_ret
    exact ⟨by first | rfl | (simp [zG, zH] <;> rfl) | (simp [*, zG, zH] <;> rfl), by repeat (first | (with_reducible first | exact HB.out | apply yj | apply zN | apply yY | refine qb ?_ J2.out | refine qb ?_ J3.out) | exact HB.out)⟩
   ·replace c33 := Bool.eq_false_iff.mpr c33
    subst c33
    have H1 : (zl.l0 kj2 0 zI zM zL xW xg xu qI xE xG xO xP vL vM xI) = some r := by rw [if_neg (show ¬ (false = true) by decide)] at H; exact H
    clear H
    have H := H1
    clear H1
    have H' := zx.mk H
    clear H
    go_wp2
    repeat (go_quiet (fail); try go_wp2)
    go_loopg [5] kj2 (fun kq v5 w' => ∃ (uT : Int), v5 = .int .i64 uT ∧ zx (zl.l0 kq uT zI zM zL xW xg xu qI xE xG xO xP vL vM xI = some r) ∧ zx (kq ≤ kj2) ∧ zx (w'.heap[zT]? = some (.cells #[.int .i64 zI, .int .i64 zM, .int .i64 zL, .int .i64 xW, .string xg, .string xu, (.slice jT qI.length jU)] 53 (0, 0))) ∧ zx (w'.heap[yc]? = some (.cells #[.int .i64 xE, .int .i64 xG, .int .i64 xO, .int .i64 xP, .string vL, .string vM, (.slice ZH xI.length ZI)] 53 (0, 0))) ∧ zx (Below w.heap.size w w'))
    case atStart => exact ⟨(0), (by first | rfl | (simp; done) | (simp [*]; done)), H', ⟨Nat.le_refl _⟩, ⟨zU ze.out⟩, ⟨zU zo.out⟩, ⟨zB HB.out⟩⟩
    case round =>
     clear H'
     try clear c1
     try clear c2
     try clear p2
     try clear c3
     try clear c5
     try clear c6
     try clear YO
     try clear zqI
     try clear c7
     try clear sI
     try clear sM
     try clear c8
     try clear Ko
     try clear zva
     try clear c9
     try clear Kt
     try clear zvb
     try clear c10
     try clear zqO
     try clear zqP
     try clear c11
     try clear zqR
     try clear zqS
     try clear c12
     try clear c15
     try clear c18
     try clear c21
     try clear c24
     try clear c27
     try clear c30
     try clear c33
     try clear fG
     try clear fH
     try clear fI
     try clear fM
     try clear fO
     try clear fP
     try clear fT
     try clear KE
     try clear KF
     try clear KG
     try clear KH
     try clear KI
     try clear KL
     try clear eG
     try clear KT
     try clear KU
     try clear K8
     try clear Wz
     try clear Wq
     try clear Wx
     try clear eO
     try clear eT
     try clear eU
     try clear iq
     try clear iy
     try clear iw
     try clear iZ
     try clear iQ
     try clear iB
     try clear iD
     try clear iE
     try clear iF
     try clear iG
     try clear iH
     try clear iI
     try clear WV
     try clear WK
     try clear WY
     try clear WW
     try clear Wd
     try clear Wh
     try clear lq
     try clear lQ
     try clear lX
     try clear lJ
     try clear lV
     try clear lK
     try clear lY
     try clear lW
     try clear Wt
     try clear Wu
     try clear WA
     try clear WB
     try clear WC
     try clear WE
     try clear lI
     try clear lN
     try clear lS
     try clear lT
     try clear lU
     try clear l7
     try clear l8
     try clear l9
     try clear PE
     try clear PG
     try clear PI
     try clear PL
     try clear oK
     try clear oW
     try clear oh
     try clear oC
     try clear oD
     try clear oF
     try clear oG
     try clear oH
     try clear oI
     try clear oL
     try clear o9
     try clear zzq
     try clear zzx
     try clear zzj
     try clear zzv
     try clear zzk
     try clear zzy
     try clear zzY
     try clear zzW
     try clear zza
     try clear zzb
     try clear zzc
     try clear zzd
     try clear zze
     try clear zzo
     try clear zzp
     try clear zzr
     try clear zzs
     try clear zzt
     try clear zzu
     try clear zzA
     try clear fU
     try clear eZ
     try clear eX
     try clear eY
     try clear eB
     try clear eD
     try clear eF
     try clear KM
     try clear KN
     try clear KO
     try clear KP
     try clear KR
     try clear KS
     try clear eH
     try clear Wj
     try clear Wv
     try clear Wy
     try clear Ww
     try clear WZ
     try clear WQ
     try clear eP
     try clear iX
     try clear iJ
     try clear iV
     try clear iK
     try clear iY
     try clear ig
     try clear iA
     try clear iL
     try clear iN
     try clear iO
     try clear iP
     try clear iR
     try clear iT
     try clear iU
     try clear Wi
     try clear Wm
     try clear Wn
     try clear Wo
     try clear Wp
     try clear Ws
     try clear lZ
     try clear lg
     try clear lu
     try clear lC
     try clear lD
     try clear lF
     try clear lG
     try clear lH
     try clear WG
     try clear WH
     try clear WI
     try clear WL
     try clear WM
     try clear WO
     try clear lM
     try clear oz
     try clear oq
     try clear ow
     try clear oZ
     try clear oQ
     try clear oJ
     try clear oV
     try clear PN
     try clear PO
     try clear PU
     try clear P5
     try clear om
     try clear oo
     try clear ou
     try clear oM
     try clear oN
     try clear oO
     try clear oP
     try clear oU
     try clear o7
     try clear o8
     try clear zzw
     try clear zzZ
     try clear zzQ
     try clear zzX
     try clear zzJ
     try clear zzV
     try clear zzK
     try clear zzf
     try clear zzg
     try clear zzh
     try clear zzi
     try clear zzl
     try clear zzm
     try clear zzn
     try clear zzB
     try clear zzC
     try clear zzD
     try clear zzE
     try clear zzF
     try clear zzG
     try clear zzH
     try clear p2
     obtain ⟨uT, rfl, HA, HK2, ze, zo, HB⟩ := hrel
     cases gk with
     | zero => exact absurd HA.out (by simp [zl.l0])
     | succ k2 =>
      have H := HA.out
      clear HA
      simp only [zl.l0] at H
      by_cases c34 : uT < (qI.length : Int)
      ·rw [if_pos c34] at H
       have zZM : decide (uT < (qI.length : Int)) = true := decide_eq_true c34
       clear c34
       by_cases c35 : 0 ≤ uT
       ·rw [if_pos c35] at H
        have zYY : decide (0 ≤ uT) = true := decide_eq_true c35
        clear c35
        by_cases c36 : uT < (xI.length : Int)
        ·rw [if_pos c36] at H
         have zYW : decide (uT < (xI.length : Int)) = true := decide_eq_true c36
         clear c36
         by_cases c37 : (rd qI uT) = (rd xI uT)
         ·rw [if_pos c37] at H
          have zZN : ((rd qI uT) == (rd xI uT)) = true := beq_iff_eq.mpr c37
          have zZO : ((rd qI uT) != (rd xI uT)) = false := bne_eq_false_iff_eq.mpr c37
          clear c37
          have H' := zx.mk H
          clear H
          have zYa := jB.out
          have zYb := jC.out
          have zJO : wr.cell? ⟨zT, 0, none⟩ = some (.int .i64 zI) := (zy ze.out 0).trans rfl
          have zJP : wr.cell? ⟨zT, 1, none⟩ = some (.int .i64 zM) := (zy ze.out 1).trans rfl
          have zJR : wr.cell? ⟨zT, 2, none⟩ = some (.int .i64 zL) := (zy ze.out 2).trans rfl
          have zJS : wr.cell? ⟨zT, 3, none⟩ = some (.int .i64 xW) := (zy ze.out 3).trans rfl
          have zJT : wr.cell? ⟨zT, 4, none⟩ = some (.string xg) := (zy ze.out 4).trans rfl
          have zJU : wr.cell? ⟨zT, 5, none⟩ = some (.string xu) := (zy ze.out 5).trans rfl
          have zJ0 : wr.cell? ⟨zT, 6, none⟩ = some (.slice jT qI.length jU) := (zy ze.out 6).trans rfl
          have zJ1 := zw ze.out 0
          have zJ2 := zw ze.out 1
          have zJ3 := zw ze.out 2
          have zJ4 := zw ze.out 3
          have zJ5 := zw ze.out 4
          have zJ6 := zw ze.out 5
          have zJ7 := zw ze.out 6
          have U8 : 0 ≤ (uT : Int) := of_decide_eq_true (by first | (with_reducible assumption) | assumption)
          have U9 : uT < (qI.length : Int) := of_decide_eq_true (by first | (with_reducible assumption) | assumption)
          obtain ⟨zZP, e291, Y0⟩ := Kd.Qf zkz.out uT U8 U9
          cases e291
          replace Y0 := (HB.out.cell (World.block_lt_of_cell? w _ Y0)).trans Y0
          replace U8 := eq_true U8
          replace U9 := eq_true U9
          have zJ8 : wr.cell? ⟨yc, 0, none⟩ = some (.int .i64 xE) := (zy zo.out 0).trans rfl
          have zJ9 : wr.cell? ⟨yc, 1, none⟩ = some (.int .i64 xG) := (zy zo.out 1).trans rfl
          have zVz : wr.cell? ⟨yc, 2, none⟩ = some (.int .i64 xO) := (zy zo.out 2).trans rfl
          have zVq : wr.cell? ⟨yc, 3, none⟩ = some (.int .i64 xP) := (zy zo.out 3).trans rfl
          have zVx : wr.cell? ⟨yc, 4, none⟩ = some (.string vL) := (zy zo.out 4).trans rfl
          have zVj : wr.cell? ⟨yc, 5, none⟩ = some (.string vM) := (zy zo.out 5).trans rfl
          have zVv : wr.cell? ⟨yc, 6, none⟩ = some (.slice ZH xI.length ZI) := (zy zo.out 6).trans rfl
          have zVk := zw zo.out 0
          have zVy := zw zo.out 1
          have zVw := zw zo.out 2
          have zVZ := zw zo.out 3
          have zVQ := zw zo.out 4
          have zVX := zw zo.out 5
          have zVJ := zw zo.out 6
          have Jz : 0 ≤ (uT : Int) := of_decide_eq_true (by first | (with_reducible assumption) | assumption)
          have Jq : uT < (xI.length : Int) := of_decide_eq_true (by first | (with_reducible assumption) | assumption)
          obtain ⟨zZR, zvc, Y1⟩ := Kd.Qf zkq.out uT Jz Jq
          cases zvc
          replace Y1 := (HB.out.cell (World.block_lt_of_cell? w _ Y1)).trans Y1
          replace Jz := eq_true Jz
          replace Jq := eq_true Jq
          go_wp2
          repeat (go_quiet (fail); try go_wp2)
          go_roundg k2
          case measure => have := HJ2.out; have := HK2.out; omega
          case rel => exact ⟨(wrap64 (uT + 1)), (by first | rfl | (simp; done) | (simp [*]; done)), H', ⟨by have := HJ2.out; have := HK2.out; omega⟩, ⟨zU ze.out⟩, ⟨zU zo.out⟩, ⟨zB HB.out⟩⟩
         ·rw [if_neg c37] at H
          have zZN : ((rd qI uT) == (rd xI uT)) = false := beq_eq_false_iff_ne.mpr c37
          have zZO : ((rd qI uT) != (rd xI uT)) = true := bne_iff_ne.mpr c37
          obtain rfl := Option.some.inj H
          have zYc := jB.out
          have zYd := jC.out
          have zVV : wr.cell? ⟨zT, 0, none⟩ = some (.int .i64 zI) := (zy ze.out 0).trans rfl
          have zVK : wr.cell? ⟨zT, 1, none⟩ = some (.int .i64 zM) := (zy ze.out 1).trans rfl
          have zVY : wr.cell? ⟨zT, 2, none⟩ = some (.int .i64 zL) := (zy ze.out 2).trans rfl
          have zVW : wr.cell? ⟨zT, 3, none⟩ = some (.int .i64 xW) := (zy ze.out 3).trans rfl
          have zVa : wr.cell? ⟨zT, 4, none⟩ = some (.string xg) := (zy ze.out 4).trans rfl
          have zVb : wr.cell? ⟨zT, 5, none⟩ = some (.string xu) := (zy ze.out 5).trans rfl
          have zVc : wr.cell? ⟨zT, 6, none⟩ = some (.slice jT qI.length jU) := (zy ze.out 6).trans rfl
          have zVd := zw ze.out 0
          have zVe := zw ze.out 1
          have zVf := zw ze.out 2
          have zVg := zw ze.out 3
          have zVh := zw ze.out 4
          have zVi := zw ze.out 5
          have zVl := zw ze.out 6
          have U8 : 0 ≤ (uT : Int) := of_decide_eq_true (by first | (with_reducible assumption) | assumption)
          have U9 : uT < (qI.length : Int) := of_decide_eq_true (by first | (with_reducible assumption) | assumption)
          obtain ⟨zZP, e291, Y0⟩ := Kd.Qf zkz.out uT U8 U9
          cases e291
          replace Y0 := (HB.out.cell (World.block_lt_of_cell? w _ Y0)).trans Y0
          replace U8 := eq_true U8
          replace U9 := eq_true U9
          have zVm : wr.cell? ⟨yc, 0, none⟩ = some (.int .i64 xE) := (zy zo.out 0).trans rfl
          have zVn : wr.cell? ⟨yc, 1, none⟩ = some (.int .i64 xG) := (zy zo.out 1).trans rfl
          have zVo : wr.cell? ⟨yc, 2, none⟩ = some (.int .i64 xO) := (zy zo.out 2).trans rfl
          have zVp : wr.cell? ⟨yc, 3, none⟩ = some (.int .i64 xP) := (zy zo.out 3).trans rfl
          have zVr : wr.cell? ⟨yc, 4, none⟩ = some (.string vL) := (zy zo.out 4).trans rfl
          have zVs : wr.cell? ⟨yc, 5, none⟩ = some (.string vM) := (zy zo.out 5).trans rfl
          have zVt : wr.cell? ⟨yc, 6, none⟩ = some (.slice ZH xI.length ZI) := (zy zo.out 6).trans rfl
          have zVu := zw zo.out 0
          have zVA := zw zo.out 1
          have zVB := zw zo.out 2
          have zVC := zw zo.out 3
          have zVD := zw zo.out 4
          have zVE := zw zo.out 5
          have zVF := zw zo.out 6
          have Jz : 0 ≤ (uT : Int) := of_decide_eq_true (by first | (with_reducible assumption) | assumption)
          have Jq : uT < (xI.length : Int) := of_decide_eq_true (by first | (with_reducible assumption) | assumption)
          obtain ⟨zZR, zvc, Y1⟩ := Kd.Qf zkq.out uT Jz Jq
          cases zvc
          replace Y1 := (HB.out.cell (World.block_lt_of_cell? w _ Y1)).trans Y1
          replace Jz := eq_true Jz
          replace Jq := eq_true Jq
          go_wp2
          repeat (go_quiet (fail); try go_wp2)
          go_ret
          exact ⟨by first | rfl | (simp [zG, zH] <;> rfl) | (simp [*, zG, zH] <;> rfl), by repeat (first | (with_reducible first | exact HB.out | apply yj | apply zN | apply yY | refine qb ?_ J2.out | refine qb ?_ J3.out) | exact HB.out)⟩
        ·rw [if_neg c36] at H
         exact absurd H (by simp)
       ·rw [if_neg c35] at H
        exact absurd H (by simp)
      ·rw [if_neg c34] at H
       have zZM : decide (uT < (qI.length : Int)) = false := decide_eq_false c34
       clear c34
       obtain rfl := Option.some.inj H
       have zYe := jB.out
       have zYf := jC.out
       have zVG : wr.cell? ⟨zT, 0, none⟩ = some (.int .i64 zI) := (zy ze.out 0).trans rfl
       have zVH : wr.cell? ⟨zT, 1, none⟩ = some (.int .i64 zM) := (zy ze.out 1).trans rfl
       have zVI : wr.cell? ⟨zT, 2, none⟩ = some (.int .i64 zL) := (zy ze.out 2).trans rfl
       have zVL : wr.cell? ⟨zT, 3, none⟩ = some (.int .i64 xW) := (zy ze.out 3).trans rfl
       have zVM : wr.cell? ⟨zT, 4, none⟩ = some (.string xg) := (zy ze.out 4).trans rfl
       have zVN : wr.cell? ⟨zT, 5, none⟩ = some (.string xu) := (zy ze.out 5).trans rfl
       have zVO : wr.cell? ⟨zT, 6, none⟩ = some (.slice jT qI.length jU) := (zy ze.out 6).trans rfl
       have zVP := zw ze.out 0
       have zVR := zw ze.out 1
       have zVS := zw ze.out 2
       have zVT := zw ze.out 3
       have zVU := zw ze.out 4
       have zV0 := zw ze.out 5
       have zV1 := zw ze.out 6
       go_wp2
       repeat (go_quiet (fail); try go_wp2)
       go_ret
       exact ⟨by first | rfl | (simp [zG, zH] <;> rfl) | (simp [*, zG, zH] <;> rfl), by repeat (first | (with_reducible first | exact HB.out | apply yj | apply zN | apply yY | refine qb ?_ J2.out | refine qb ?_ J3.out) | exact HB.out)⟩
end Go.Proofs.YtggifbbiiickmaaGreatDoor.PX
namespace Go.Proofs.YtggifbbiiickmaaGreatDoor.PX
open Go.RowKit Go.Proofs.zk.zK Go.Proofs.zk.yQ Go.Proofs.zk.yX
attribute [local go_sem] jZ jQ jL jM uD uE jX jJ   -- for this text's walks alone
set_option linter.unusedVariables false
set_option linter.unusedSimpArgs false
def zF.l0 : Nat → List (jR) → List (jR) → Int → Option (Bool)
 | 0, _, _, _ => none
 | k + 1, x0, x1, x5 => if x5 < (x0.length : Int) then (if 0 ≤ x5 then (if x5 < (x1.length : Int) then ((zl.f k ((zn x0 x5).f0) ((zn x0 x5).f1) ((zn x0 x5).f2) ((zn x0 x5).f3) ((zn x0 x5).f4) ((zn x0 x5).f5) ((zn x0 x5).f6) ((zn x1 x5).f0) ((zn x1 x5).f1) ((zn x1 x5).f2) ((zn x1 x5).f3) ((zn x1 x5).f4) ((zn x1 x5).f5) ((zn x1 x5).f6)).bind fun zqT => (if zqT = true then (zF.l0 k x0 x1 (wrap64 (x5 + 1))) else (some false))) else (none)) else (none)) else (some true)
def zF.f (k : Nat) (l0 : List (jR)) (l1 : List (jR)) : Option (Bool) := if (l0.length : Int) = (l1.length : Int) then (zF.l0 k l0 l1 0) else (some false)
def zF.T6 : Bool × List (List Nat × List Nat) := (true, [([], []), ([], []), ([0, 1], [0, 1]), ([2], [2]), ([], []), ([], []), ([4, 5], [4, 5]), ([6], [6]), ([3, 7], [3, 7]), ([8], [8])])
def zF.B6 : List Nat := [0, 0, 3, 7, 0, 0, 48, 112, 255, 511]
theorem zF.zqU : vk .any (opsOf Tryz.f18 6) = zF.T6 := by kernel_rfl
theorem zF.dR : um zF.T6.2 zF.B6 = true := by kernel_rfl
set_option maxHeartbeats 8000000 in
set_option maxRecDepth 100000 in
theorem zF.calls (k : Nat) (A0 : Option Addr) (c0 : Nat) (l0 : List (jR)) (A1 : Option Addr) (c1 : Nat) (l1 : List (jR)) (r : Bool) (w : World) (hr0 : Kd.C kE w A0 l0.length l0) (hc0 : l0.length ≤ c0) (hr1 : Kd.C kE w A1 l1.length l1) (hc1 : l1.length ≤ c1) (h : zF.f k l0 l1 = some r) :
  Calls Tryz.prog 18 #[.slice A0 l0.length c0, .slice A1 l1.length c1] w fun e w' => e = .returned (.bool r) ∧ Below w.heap.size w w' := by
 have zXF := Tryz.underlying53
 have XP := zx.mk hr0
 have HC0 := zx.mk hc0
 clear hr0 hc0
 have HR1 := zx.mk hr1
 have HC1 := zx.mk hc1
 clear hr1 hc1
 have HB := zx.mk (Below.refl w.heap.size w)
 have H : (if (l0.length : Int) = (l1.length : Int) then (zF.l0 k l0 l1 0) else (some false)) = some r := h
 clear h
 by_cases c3 : (l0.length : Int) = (l1.length : Int)
 ·rw [if_pos c3] at H
  have Yh : ((l0.length : Int) == (l1.length : Int)) = true := beq_iff_eq.mpr c3
  have U7 : ((l0.length : Int) != (l1.length : Int)) = false := bne_eq_false_iff_eq.mpr c3
  have sN : (l0.length == l1.length) = true := by first | simpa using c3 | (simp at c3 ⊢; omega)
  clear c3
  have H' := zx.mk H
  clear H
  go_enter Tryz.func18, Tryz.ntmps18
  go_wp2
  go_loopg [5] k (fun kq v5 w' => ∃ (zi : Int), v5 = .int .i64 zi ∧ zx (zF.l0 kq l0 l1 zi = some r) ∧ zx (kq ≤ k) ∧ zx (Below w.heap.size w w'))
  case atStart => exact ⟨(0), (by first | rfl | (simp; done) | (simp [*]; done)), H', ⟨Nat.le_refl _⟩, ⟨zB HB.out⟩⟩
  case round =>
   clear H'
   try clear c1
   try clear p2
   try clear c3
   try clear Yh
   try clear U7
   try clear sN
   obtain ⟨zi, rfl, HA, Xc, HB⟩ := hrel
   cases gk with
   | zero => exact absurd HA.out (by simp [zF.l0])
   | succ k1 =>
    have H := HA.out
    clear HA
    simp only [zF.l0] at H
    by_cases c4 : zi < (l0.length : Int)
    ·rw [if_pos c4] at H
     have Xg : decide (zi < (l0.length : Int)) = true := decide_eq_true c4
     clear c4
     by_cases c5 : 0 ≤ zi
     ·rw [if_pos c5] at H
      have UG : decide (0 ≤ zi) = true := decide_eq_true c5
      clear c5
      by_cases c6 : zi < (l1.length : Int)
      ·rw [if_pos c6] at H
       have YO : decide (zi < (l1.length : Int)) = true := decide_eq_true c6
       clear c6
       replace H := Option.bind_eq_some_iff.mp H
       obtain ⟨zqT, A70, H⟩ := H
       replace H : (if zqT = true then (zF.l0 k1 l0 l1 (wrap64 (zi + 1))) else (some false)) = some r := H
       have A7 := zx.mk A70
       clear A70
       by_cases c8 : zqT = true
       ·subst c8
        have H1 : (zF.l0 k1 l0 l1 (wrap64 (zi + 1))) = some r := by rw [if_pos rfl] at H; exact H
        clear H
        have H := H1
        clear H1
        have H' := zx.mk H
        clear H
        try go_wp2
        have zX := zx.mk (yY HB.out)
        clear HB
        have HB := zX
        clear zX
        have Jj : 0 ≤ (zi : Int) := of_decide_eq_true (by first | (with_reducible assumption) | assumption)
        have Jv : zi < (l0.length : Int) := of_decide_eq_true (by first | (with_reducible assumption) | assumption)
        obtain ⟨uN, Vu, VA, zvd, wM, wN, wO, wP, wR, wS, wT, QD, QE⟩ := XM XP.out zi Jj Jv
        have Zg := wT
        have Zh := wS
        have Zi := wR
        have Zl := wP
        have Zm := wO
        have Zn := wN
        have Zo := wM
        cases zvd
        replace wM := (HB.out.cell (World.block_lt_of_cell? w _ wM)).trans wM
        replace wN := (HB.out.cell (World.block_lt_of_cell? w _ wN)).trans wN
        replace wO := (HB.out.cell (World.block_lt_of_cell? w _ wO)).trans wO
        replace wP := (HB.out.cell (World.block_lt_of_cell? w _ wP)).trans wP
        replace wR := (HB.out.cell (World.block_lt_of_cell? w _ wR)).trans wR
        replace wS := (HB.out.cell (World.block_lt_of_cell? w _ wS)).trans wS
        replace wT := (HB.out.cell (World.block_lt_of_cell? w _ wT)).trans wT
        have QF := zx.mk QE
        have P6 := zx.mk QD
        clear QE QD
        replace Jj := eq_true Jj
        replace Jv := eq_true Jv
        have Jk : 0 ≤ (zi : Int) := of_decide_eq_true (by first | (with_reducible assumption) | assumption)
        have Jy : zi < (l1.length : Int) := of_decide_eq_true (by first | (with_reducible assumption) | assumption)
        obtain ⟨uO, VB, VD, e294, wU, pz, pq, pQ, pX, pJ, pV, QG, QH⟩ := XM HR1.out zi Jk Jy
        have Zp := pV
        have Zr := pJ
        have Zt := pX
        have Zu := pQ
        have ZA := pq
        have ZB := pz
        have ZC := wU
        cases e294
        replace wU := (HB.out.cell (World.block_lt_of_cell? w _ wU)).trans wU
        replace pz := (HB.out.cell (World.block_lt_of_cell? w _ pz)).trans pz
        replace pq := (HB.out.cell (World.block_lt_of_cell? w _ pq)).trans pq
        replace pQ := (HB.out.cell (World.block_lt_of_cell? w _ pQ)).trans pQ
        replace pX := (HB.out.cell (World.block_lt_of_cell? w _ pX)).trans pX
        replace pJ := (HB.out.cell (World.block_lt_of_cell? w _ pJ)).trans pJ
        replace pV := (HB.out.cell (World.block_lt_of_cell? w _ pV)).trans pV
        have QI := zx.mk QH
        have P7 := zx.mk QG
        clear QH QG
        replace Jk := eq_true Jk
        replace Jy := eq_true Jy
        refine pG (n := 10) (S := fun w' => w'.cell? (uN.add ((zi).toNat * 7)) = some (.int .i64 ((zn l0 zi).f0)) ∧ w'.cell? ⟨(uN.add ((zi).toNat * 7)).block, (uN.add ((zi).toNat * 7)).off + 1, none⟩ = some (.int .i64 ((zn l0 zi).f1)) ∧ w'.cell? ⟨(uN.add ((zi).toNat * 7)).block, (uN.add ((zi).toNat * 7)).off + 2, none⟩ = some (.int .i64 ((zn l0 zi).f2)) ∧ w'.cell? ⟨(uN.add ((zi).toNat * 7)).block, (uN.add ((zi).toNat * 7)).off + 3, none⟩ = some (.int .i64 ((zn l0 zi).f3)) ∧ w'.cell? ⟨(uN.add ((zi).toNat * 7)).block, (uN.add ((zi).toNat * 7)).off + 4, none⟩ = some (.string ((zn l0 zi).f4)) ∧ w'.cell? ⟨(uN.add ((zi).toNat * 7)).block, (uN.add ((zi).toNat * 7)).off + 5, none⟩ = some (.string ((zn l0 zi).f5)) ∧ w'.cell? ⟨(uN.add ((zi).toNat * 7)).block, (uN.add ((zi).toNat * 7)).off + 6, none⟩ = some (.slice Vu ((zn l0 zi).f6).length VA) ∧ w'.cell? (uO.add ((zi).toNat * 7)) = some (.int .i64 ((zn l1 zi).f0)) ∧ w'.cell? ⟨(uO.add ((zi).toNat * 7)).block, (uO.add ((zi).toNat * 7)).off + 1, none⟩ = some (.int .i64 ((zn l1 zi).f1)) ∧ w'.cell? ⟨(uO.add ((zi).toNat * 7)).block, (uO.add ((zi).toNat * 7)).off + 2, none⟩ = some (.int .i64 ((zn l1 zi).f2)) ∧ w'.cell? ⟨(uO.add ((zi).toNat * 7)).block, (uO.add ((zi).toNat * 7)).off + 3, none⟩ = some (.int .i64 ((zn l1 zi).f3)) ∧ w'.cell? ⟨(uO.add ((zi).toNat * 7)).block, (uO.add ((zi).toNat * 7)).off + 4, none⟩ = some (.string ((zn l1 zi).f4)) ∧ w'.cell? ⟨(uO.add ((zi).toNat * 7)).block, (uO.add ((zi).toNat * 7)).off + 5, none⟩ = some (.string ((zn l1 zi).f5)) ∧ w'.cell? ⟨(uO.add ((zi).toNat * 7)).block, (uO.add ((zi).toNat * 7)).off + 6, none⟩ = some (.slice VB ((zn l1 zi).f6).length VD)) (ds := []) #[false, false, false, false, false, false, false, false, false, false] (by kernel_rfl) rfl rfl ⟨((HB.out.cell (World.block_lt_of_cell? w _ Zo)).trans Zo), ((HB.out.cell (World.block_lt_of_cell? w _ Zn)).trans Zn), ((HB.out.cell (World.block_lt_of_cell? w _ Zm)).trans Zm), ((HB.out.cell (World.block_lt_of_cell? w _ Zl)).trans Zl), ((HB.out.cell (World.block_lt_of_cell? w _ Zi)).trans Zi), ((HB.out.cell (World.block_lt_of_cell? w _ Zh)).trans Zh), ((HB.out.cell (World.block_lt_of_cell? w _ Zg)).trans Zg), ((HB.out.cell (World.block_lt_of_cell? w _ ZC)).trans ZC), ((HB.out.cell (World.block_lt_of_cell? w _ ZB)).trans ZB), ((HB.out.cell (World.block_lt_of_cell? w _ ZA)).trans ZA), ((HB.out.cell (World.block_lt_of_cell? w _ Zu)).trans Zu), ((HB.out.cell (World.block_lt_of_cell? w _ Zt)).trans Zt), ((HB.out.cell (World.block_lt_of_cell? w _ Zr)).trans Zr), ((HB.out.cell (World.block_lt_of_cell? w _ Zp)).trans Zp)⟩ (fun hHeld => ?_); refine XY zF.zqU zF.dR (fun qz QY => ?_)
        generalize wr.drew = w9 at HB QF QI wM wN wO wP wR wS wT wU pz pq pQ pX pJ pV hHeld ⊢
        refine qU (i := 0) (N := some 17) (v := ?_) (a' := ?_) #[true, false, false, false, false, false, false, false, false, false] rfl rfl (qC qz.out (by kernel_rfl)) (fun _ _ _ h => h) (Or.inl ⟨by rfl, ?_⟩) ?_ ?_
        rotate_left
        ·intro w'
         go_simp
         with_reducible rfl
        rotate_left
        ·simp only [Act.put, List.setIfInBounds_toArray, List.set_cons_zero, List.set_cons_succ, vJ, vV]
         rfl
        refine qU (i := 1) (N := some 18) (v := ?_) (a' := ?_) #[true, true, false, false, false, false, false, false, false, false] rfl rfl (qC qz.out (by kernel_rfl)) (fun _ _ _ h => h) (Or.inl ⟨by rfl, ?_⟩) ?_ ?_
        rotate_left
        ·intro w'
         go_simp
         with_reducible rfl
        rotate_left
        ·simp only [Act.put, List.setIfInBounds_toArray, List.set_cons_zero, List.set_cons_succ, vJ, vV]
         rfl
        refine qU (i := 2) (N := some 19) (v := ?_) (a' := ?_) #[true, true, true, false, false, false, false, false, false, false] rfl rfl (qC qz.out (by kernel_rfl)) (fun _ _ _ h => h) (Or.inl ⟨by rfl, ?_⟩) ?_ ?_
        rotate_left
        ·intro w'
         go_simp
         with_reducible rfl
        rotate_left
        ·simp only [Act.put, List.setIfInBounds_toArray, List.set_cons_zero, List.set_cons_succ, vJ, vV]
         rfl
        refine qU (i := 4) (N := some 21) (v := ?_) (a' := ?_) #[true, true, true, false, true, false, false, false, false, false] rfl rfl (qC qz.out (by kernel_rfl)) (fun _ _ _ h => h) (Or.inl ⟨by rfl, ?_⟩) ?_ ?_
        rotate_left
        ·intro w'
         go_simp
         with_reducible rfl
        rotate_left
        ·simp only [Act.put, List.setIfInBounds_toArray, List.set_cons_zero, List.set_cons_succ, vJ, vV]
         rfl
        refine qU (i := 5) (N := some 22) (v := ?_) (a' := ?_) #[true, true, true, false, true, true, false, false, false, false] rfl rfl (qC qz.out (by kernel_rfl)) (fun _ _ _ h => h) (Or.inl ⟨by rfl, ?_⟩) ?_ ?_
        rotate_left
        ·intro w'
         go_simp
         with_reducible rfl
        rotate_left
        ·simp only [Act.put, List.setIfInBounds_toArray, List.set_cons_zero, List.set_cons_succ, vJ, vV]
         rfl
        refine qU (i := 6) (N := some 23) (v := ?_) (a' := ?_) #[true, true, true, false, true, true, true, false, false, false] rfl rfl (qC qz.out (by kernel_rfl)) (fun _ _ _ h => h) (Or.inl ⟨by rfl, ?_⟩) ?_ ?_
        rotate_left
        ·intro w'
         go_simp
         with_reducible rfl
        rotate_left
        ·simp only [Act.put, List.setIfInBounds_toArray, List.set_cons_zero, List.set_cons_succ, vJ, vV]
         rfl
        refine Z4 (i := 3) (N := some 20) (v := ?_) (a' := ?_) #[true, true, true, true, true, true, true, false, false, false] rfl rfl (YI qz.out QY.out (by kernel_rfl)) (fun _ _ _ h => h) (Or.inl ⟨by rfl, ?_⟩) hHeld ?_ ?_
        rotate_left
        ·rintro w' ⟨s0, s1, s2, s3, s4, s5, s6, s7, s8, s9, s10, s11, s12, s13⟩
         go_simp
         with_reducible rfl
        rotate_left
        ·simp only [Act.put, List.setIfInBounds_toArray, List.set_cons_zero, List.set_cons_succ, vJ, vV]
         rfl
        refine Z4 (i := 7) (N := some 24) (v := ?_) (a' := ?_) #[true, true, true, true, true, true, true, true, false, false] rfl rfl (YI qz.out QY.out (by kernel_rfl)) (fun _ _ _ h => h) (Or.inl ⟨by rfl, ?_⟩) hHeld ?_ ?_
        rotate_left
        ·rintro w' ⟨s0, s1, s2, s3, s4, s5, s6, s7, s8, s9, s10, s11, s12, s13⟩
         go_simp
         with_reducible rfl
        rotate_left
        ·simp only [Act.put, List.setIfInBounds_toArray, List.set_cons_zero, List.set_cons_succ, vJ, vV]
         rfl
        refine Ye (i := 8) (N := some 25) #[true, true, true, true, true, true, true, true, true, false] rfl rfl (kL qz.out (by kernel_rfl)) (by decide) (fun K hK => ?_)
        refine Yf Tryz.func53 (by kernel_rfl) rfl #[.agg #[.int .i64 ((zn l0 zi).f0), .int .i64 ((zn l0 zi).f1), .int .i64 ((zn l0 zi).f2), .int .i64 ((zn l0 zi).f3), .string ((zn l0 zi).f4), .string ((zn l0 zi).f5), .slice Vu ((zn l0 zi).f6).length VA], .agg #[.int .i64 ((zn l1 zi).f0), .int .i64 ((zn l1 zi).f1), .int .i64 ((zn l1 zi).f2), .int .i64 ((zn l1 zi).f3), .string ((zn l1 zi).f4), .string ((zn l1 zi).f5), .slice VB ((zn l1 zi).f6).length VD]] (by rfl) rfl rfl (by (try simp only [List.map_toArray, List.map_cons, List.map_nil]); first | done | rfl | (simp only [List.length_drop, List.length_take]; rfl)) ?_
        with_reducible refine (zl.calls k1 ((zn l0 zi).f0) ((zn l0 zi).f1) ((zn l0 zi).f2) ((zn l0 zi).f3) ((zn l0 zi).f4) ((zn l0 zi).f5) _ _ ((zn l0 zi).f6) ((zn l1 zi).f0) ((zn l1 zi).f1) ((zn l1 zi).f2) ((zn l1 zi).f3) ((zn l1 zi).f4) ((zn l1 zi).f5) _ _ ((zn l1 zi).f6) true _ ?yO ?qd ?q8 ?q9 A7.out).mono ?_
        (case yO => repeat (first | exact (Kd.zC QF.out HB.out) | (with_reducible refine Kd.yJ ?_ _) | (with_reducible refine Kd.yV ?_ _) | (with_reducible refine Kd.yH ?_)))
        (case qd => exact P6.out)
        (case q8 => repeat (first | exact (Kd.zC QI.out HB.out) | (with_reducible refine Kd.yJ ?_ _) | (with_reducible refine Kd.yV ?_ _) | (with_reducible refine Kd.yH ?_)))
        (case q9 => exact P7.out)
        rintro e Uh ⟨rfl, hb⟩
        refine ⟨_, rfl, ?_⟩
        have zX := zx.mk (zA (zB HB.out) hb)
        clear HB
        have HB := zX
        clear zX
        (try clear hb)
        (try clear hb2)
        (try clear hk)
        (try clear hi)
        refine hK.out _ _ ⟨((HB.out.cell (World.block_lt_of_cell? w _ Zo)).trans Zo), ((HB.out.cell (World.block_lt_of_cell? w _ Zn)).trans Zn), ((HB.out.cell (World.block_lt_of_cell? w _ Zm)).trans Zm), ((HB.out.cell (World.block_lt_of_cell? w _ Zl)).trans Zl), ((HB.out.cell (World.block_lt_of_cell? w _ Zi)).trans Zi), ((HB.out.cell (World.block_lt_of_cell? w _ Zh)).trans Zh), ((HB.out.cell (World.block_lt_of_cell? w _ Zg)).trans Zg), ((HB.out.cell (World.block_lt_of_cell? w _ ZC)).trans ZC), ((HB.out.cell (World.block_lt_of_cell? w _ ZB)).trans ZB), ((HB.out.cell (World.block_lt_of_cell? w _ ZA)).trans ZA), ((HB.out.cell (World.block_lt_of_cell? w _ Zu)).trans Zu), ((HB.out.cell (World.block_lt_of_cell? w _ Zt)).trans Zt), ((HB.out.cell (World.block_lt_of_cell? w _ Zr)).trans Zr), ((HB.out.cell (World.block_lt_of_cell? w _ Zp)).trans Zp)⟩ (fun hHeld => ?_)
        clear hK K
        refine wB (a' := ?_) ?_ ?_
        rotate_left
        ·show Act.put _ (some 25) _ = _
         simp only [Act.put, List.setIfInBounds_toArray, List.set_cons_zero, List.set_cons_succ, vJ, vV]
         rfl
        refine qU (i := 9) (N := some 26) (v := ?_) (a' := ?_) #[true, true, true, true, true, true, true, true, true, true] rfl rfl (qC qz.out (by kernel_rfl)) (fun _ _ _ h => h) (Or.inl ⟨by rfl, ?_⟩) ?_ ?_
        rotate_left
        ·intro w'
         go_simp
         with_reducible rfl
        rotate_left
        ·simp only [Act.put, List.setIfInBounds_toArray, List.set_cons_zero, List.set_cons_succ, vJ, vV]
         rfl
        refine wX (jA qz.out (by kernel_rfl)) ?_
        try go_wp2
        go_roundg k1
        case measure => have := Xc.out; omega
        case rel => exact ⟨(wrap64 (zi + 1)), (by first | rfl | (simp; done) | (simp [*]; done)), H', ⟨by have := Xc.out; omega⟩, ⟨zB HB.out⟩⟩
       ·replace c8 := Bool.eq_false_iff.mpr c8
        subst c8
        have H1 : (some false) = some r := by rw [if_neg (show ¬ (false = true) by decide)] at H; exact H
        clear H
        have H := H1
        clear H1
        obtain rfl := Option.some.inj H
        try go_wp2
        have zX := zx.mk (yY HB.out)
        clear HB
        have HB := zX
        clear zX
        have Jj : 0 ≤ (zi : Int) := of_decide_eq_true (by first | (with_reducible assumption) | assumption)
        have Jv : zi < (l0.length : Int) := of_decide_eq_true (by first | (with_reducible assumption) | assumption)
        obtain ⟨uN, Vu, VA, zvd, wM, wN, wO, wP, wR, wS, wT, QD, QE⟩ := XM XP.out zi Jj Jv
        have Zg := wT
        have Zh := wS
        have Zi := wR
        have Zl := wP
        have Zm := wO
        have Zn := wN
        have Zo := wM
        cases zvd
        replace wM := (HB.out.cell (World.block_lt_of_cell? w _ wM)).trans wM
        replace wN := (HB.out.cell (World.block_lt_of_cell? w _ wN)).trans wN
        replace wO := (HB.out.cell (World.block_lt_of_cell? w _ wO)).trans wO
        replace wP := (HB.out.cell (World.block_lt_of_cell? w _ wP)).trans wP
        replace wR := (HB.out.cell (World.block_lt_of_cell? w _ wR)).trans wR
        replace wS := (HB.out.cell (World.block_lt_of_cell? w _ wS)).trans wS
        replace wT := (HB.out.cell (World.block_lt_of_cell? w _ wT)).trans wT
        have QF := zx.mk QE
        have P6 := zx.mk QD
        clear QE QD
        replace Jj := eq_true Jj
        replace Jv := eq_true Jv
        have Jk : 0 ≤ (zi : Int) := of_decide_eq_true (by first | (with_reducible assumption) | assumption)
        have Jy : zi < (l1.length : Int) := of_decide_eq_true (by first | (with_reducible assumption) | assumption)
        obtain ⟨uO, VB, VD, e294, wU, pz, pq, pQ, pX, pJ, pV, QG, QH⟩ := XM HR1.out zi Jk Jy
        have Zp := pV
        have Zr := pJ
        have Zt := pX
        have Zu := pQ
        have ZA := pq
        have ZB := pz
        have ZC := wU
        cases e294
        replace wU := (HB.out.cell (World.block_lt_of_cell? w _ wU)).trans wU
        replace pz := (HB.out.cell (World.block_lt_of_cell? w _ pz)).trans pz
        replace pq := (HB.out.cell (World.block_lt_of_cell? w _ pq)).trans pq
        replace pQ := (HB.out.cell (World.block_lt_of_cell? w _ pQ)).trans pQ
        replace pX := (HB.out.cell (World.block_lt_of_cell? w _ pX)).trans pX
        replace pJ := (HB.out.cell (World.block_lt_of_cell? w _ pJ)).trans pJ
        replace pV := (HB.out.cell (World.block_lt_of_cell? w _ pV)).trans pV
        have QI := zx.mk QH
        have P7 := zx.mk QG
        clear QH QG
        replace Jk := eq_true Jk
        replace Jy := eq_true Jy
        refine pG (n := 10) (S := fun w' => w'.cell? (uN.add ((zi).toNat * 7)) = some (.int .i64 ((zn l0 zi).f0)) ∧ w'.cell? ⟨(uN.add ((zi).toNat * 7)).block, (uN.add ((zi).toNat * 7)).off + 1, none⟩ = some (.int .i64 ((zn l0 zi).f1)) ∧ w'.cell? ⟨(uN.add ((zi).toNat * 7)).block, (uN.add ((zi).toNat * 7)).off + 2, none⟩ = some (.int .i64 ((zn l0 zi).f2)) ∧ w'.cell? ⟨(uN.add ((zi).toNat * 7)).block, (uN.add ((zi).toNat * 7)).off + 3, none⟩ = some (.int .i64 ((zn l0 zi).f3)) ∧ w'.cell? ⟨(uN.add ((zi).toNat * 7)).block, (uN.add ((zi).toNat * 7)).off + 4, none⟩ = some (.string ((zn l0 zi).f4)) ∧ w'.cell? ⟨(uN.add ((zi).toNat * 7)).block, (uN.add ((zi).toNat * 7)).off + 5, none⟩ = some (.string ((zn l0 zi).f5)) ∧ w'.cell? ⟨(uN.add ((zi).toNat * 7)).block, (uN.add ((zi).toNat * 7)).off + 6, none⟩ = some (.slice Vu ((zn l0 zi).f6).length VA) ∧ w'.cell? (uO.add ((zi).toNat * 7)) = some (.int .i64 ((zn l1 zi).f0)) ∧ w'.cell? ⟨(uO.add ((zi).toNat * 7)).block, (uO.add ((zi).toNat * 7)).off + 1, none⟩ = some (.int .i64 ((zn l1 zi).f1)) ∧ w'.cell? ⟨(uO.add ((zi).toNat * 7)).block, (uO.add ((zi).toNat * 7)).off + 2, none⟩ = some (.int .i64 ((zn l1 zi).f2)) ∧ w'.cell? ⟨(uO.add ((zi).toNat * 7)).block, (uO.add ((zi).toNat * 7)).off + 3, none⟩ = some (.int .i64 ((zn l1 zi).f3)) ∧ w'.cell? ⟨(uO.add ((zi).toNat * 7)).block, (uO.add ((zi).toNat * 7)).off + 4, none⟩ = some (.string ((zn l1 zi).f4)) ∧ w'.cell? ⟨(uO.add ((zi).toNat * 7)).block, (uO.add ((zi).toNat * 7)).off + 5, none⟩ = some (.string ((zn l1 zi).f5)) ∧ w'.cell? ⟨(uO.add ((zi).toNat * 7)).block, (uO.add ((zi).toNat * 7)).off + 6, none⟩ = some (.slice VB ((zn l1 zi).f6).length VD)) (ds := []) #[false, false, false, false, false, false, false, false, false, false] (by kernel_rfl) rfl rfl ⟨((HB.out.cell (World.block_lt_of_cell? w _ Zo)).trans Zo), ((HB.out.cell (World.block_lt_of_cell? w _ Zn)).trans Zn), ((HB.out.cell (World.block_lt_of_cell? w _ Zm)).trans Zm), ((HB.out.cell (World.block_lt_of_cell? w _ Zl)).trans Zl), ((HB.out.cell (World.block_lt_of_cell? w _ Zi)).trans Zi), ((HB.out.cell (World.block_lt_of_cell? w _ Zh)).trans Zh), ((HB.out.cell (World.block_lt_of_cell? w _ Zg)).trans Zg), ((HB.out.cell (World.block_lt_of_cell? w _ ZC)).trans ZC), ((HB.out.cell (World.block_lt_of_cell? w _ ZB)).trans ZB), ((HB.out.cell (World.block_lt_of_cell? w _ ZA)).trans ZA), ((HB.out.cell (World.block_lt_of_cell? w _ Zu)).trans Zu), ((HB.out.cell (World.block_lt_of_cell? w _ Zt)).trans Zt), ((HB.out.cell (World.block_lt_of_cell? w _ Zr)).trans Zr), ((HB.out.cell (World.block_lt_of_cell? w _ Zp)).trans Zp)⟩ (fun hHeld => ?_); refine XY zF.zqU zF.dR (fun qz QY => ?_)
        generalize wr.drew = Ul at HB QF QI wM wN wO wP wR wS wT wU pz pq pQ pX pJ pV hHeld ⊢
        refine qU (i := 0) (N := some 17) (v := ?_) (a' := ?_) #[true, false, false, false, false, false, false, false, false, false] rfl rfl (qC qz.out (by kernel_rfl)) (fun _ _ _ h => h) (Or.inl ⟨by rfl, ?_⟩) ?_ ?_
        rotate_left
        ·intro w'
         go_simp
         with_reducible rfl
        rotate_left
        ·simp only [Act.put, List.setIfInBounds_toArray, List.set_cons_zero, List.set_cons_succ, vJ, vV]
         rfl
        refine qU (i := 1) (N := some 18) (v := ?_) (a' := ?_) #[true, true, false, false, false, false, false, false, false, false] rfl rfl (qC qz.out (by kernel_rfl)) (fun _ _ _ h => h) (Or.inl ⟨by rfl, ?_⟩) ?_ ?_
        rotate_left
        ·intro w'
         go_simp
         with_reducible rfl
        rotate_left
        ·simp only [Act.put, List.setIfInBounds_toArray, List.set_cons_zero, List.set_cons_succ, vJ, vV]
         rfl
        refine qU (i := 2) (N := some 19) (v := ?_) (a' := ?_) #[true, true, true, false, false, false, false, false, false, false] rfl rfl (qC qz.out (by kernel_rfl)) (fun _ _ _ h => h) (Or.inl ⟨by rfl, ?_⟩) ?_ ?_
        rotate_left
        ·intro w'
         go_simp
         with_reducible rfl
        rotate_left
        ·simp only [Act.put, List.setIfInBounds_toArray, List.set_cons_zero, List.set_cons_succ, vJ, vV]
         rfl
        refine qU (i := 4) (N := some 21) (v := ?_) (a' := ?_) #[true, true, true, false, true, false, false, false, false, false] rfl rfl (qC qz.out (by kernel_rfl)) (fun _ _ _ h => h) (Or.inl ⟨by rfl, ?_⟩) ?_ ?_
        rotate_left
        ·intro w'
         go_simp
         with_reducible rfl
        rotate_left
        ·simp only [Act.put, List.setIfInBounds_toArray, List.set_cons_zero, List.set_cons_succ, vJ, vV]
         rfl
        refine qU (i := 5) (N := some 22) (v := ?_) (a' := ?_) #[true, true, true, false, true, true, false, false, false, false] rfl rfl (qC qz.out (by kernel_rfl)) (fun _ _ _ h => h) (Or.inl ⟨by rfl, ?_⟩) ?_ ?_
        rotate_left
        ·intro w'
         go_simp
         with_reducible rfl
        rotate_left
        ·simp only [Act.put, List.setIfInBounds_toArray, List.set_cons_zero, List.set_cons_succ, vJ, vV]
         rfl
        refine qU (i := 6) (N := some 23) (v := ?_) (a' := ?_) #[true, true, true, false, true, true, true, false, false, false] rfl rfl (qC qz.out (by kernel_rfl)) (fun _ _ _ h => h) (Or.inl ⟨by rfl, ?_⟩) ?_ ?_
        rotate_left
        ·intro w'
         go_simp
         with_reducible rfl
        rotate_left
        ·simp only [Act.put, List.setIfInBounds_toArray, List.set_cons_zero, List.set_cons_succ, vJ, vV]
         rfl
        refine Z4 (i := 3) (N := some 20) (v := ?_) (a' := ?_) #[true, true, true, true, true, true, true, false, false, false] rfl rfl (YI qz.out QY.out (by kernel_rfl)) (fun _ _ _ h => h) (Or.inl ⟨by rfl, ?_⟩) hHeld ?_ ?_
        rotate_left
        ·rintro w' ⟨s0, s1, s2, s3, s4, s5, s6, s7, s8, s9, s10, s11, s12, s13⟩
         go_simp
         with_reducible rfl
        rotate_left
        ·simp only [Act.put, List.setIfInBounds_toArray, List.set_cons_zero, List.set_cons_succ, vJ, vV]
         rfl
        refine Z4 (i := 7) (N := some 24) (v := ?_) (a' := ?_) #[true, true, true, true, true, true, true, true, false, false] rfl rfl (YI qz.out QY.out (by kernel_rfl)) (fun _ _ _ h => h) (Or.inl ⟨by rfl, ?_⟩) hHeld ?_ ?_
        rotate_left
        ·rintro w' ⟨s0, s1, s2, s3, s4, s5, s6, s7, s8, s9, s10, s11, s12, s13⟩
         go_simp
         with_reducible rfl
        rotate_left
        ·simp only [Act.put, List.setIfInBounds_toArray, List.set_cons_zero, List.set_cons_succ, vJ, vV]
         rfl
        refine Ye (i := 8) (N := some 25) #[true, true, true, true, true, true, true, true, true, false] rfl rfl (kL qz.out (by kernel_rfl)) (by decide) (fun K hK => ?_)
        refine Yf Tryz.func53 (by kernel_rfl) rfl #[.agg #[.int .i64 ((zn l0 zi).f0), .int .i64 ((zn l0 zi).f1), .int .i64 ((zn l0 zi).f2), .int .i64 ((zn l0 zi).f3), .string ((zn l0 zi).f4), .string ((zn l0 zi).f5), .slice Vu ((zn l0 zi).f6).length VA], .agg #[.int .i64 ((zn l1 zi).f0), .int .i64 ((zn l1 zi).f1), .int .i64 ((zn l1 zi).f2), .int .i64 ((zn l1 zi).f3), .string ((zn l1 zi).f4), .string ((zn l1 zi).f5), .slice VB ((zn l1 zi).f6).length VD]] (by rfl) rfl rfl (by (try simp only [List.map_toArray, List.map_cons, List.map_nil]); first | done | rfl | (simp only [List.length_drop, List.length_take]; rfl)) ?_
        with_reducible refine (zl.calls k1 ((zn l0 zi).f0) ((zn l0 zi).f1) ((zn l0 zi).f2) ((zn l0 zi).f3) ((zn l0 zi).f4) ((zn l0 zi).f5) _ _ ((zn l0 zi).f6) ((zn l1 zi).f0) ((zn l1 zi).f1) ((zn l1 zi).f2) ((zn l1 zi).f3) ((zn l1 zi).f4) ((zn l1 zi).f5) _ _ ((zn l1 zi).f6) false _ ?yO ?qd ?q8 ?q9 A7.out).mono ?_
        (case yO => repeat (first | exact (Kd.zC QF.out HB.out) | (with_reducible refine Kd.yJ ?_ _) | (with_reducible refine Kd.yV ?_ _) | (with_reducible refine Kd.yH ?_)))
        (case qd => exact P6.out)
        (case q8 => repeat (first | exact (Kd.zC QI.out HB.out) | (with_reducible refine Kd.yJ ?_ _) | (with_reducible refine Kd.yV ?_ _) | (with_reducible refine Kd.yH ?_)))
        (case q9 => exact P7.out)
        rintro e w12 ⟨rfl, hb⟩
        refine ⟨_, rfl, ?_⟩
        have zX := zx.mk (zA (zB HB.out) hb)
        clear HB
        have HB := zX
        clear zX
        (try clear hb)
        (try clear hb2)
        (try clear hk)
        (try clear hi)
        refine hK.out _ _ ⟨((HB.out.cell (World.block_lt_of_cell? w _ Zo)).trans Zo), ((HB.out.cell (World.block_lt_of_cell? w _ Zn)).trans Zn), ((HB.out.cell (World.block_lt_of_cell? w _ Zm)).trans Zm), ((HB.out.cell (World.block_lt_of_cell? w _ Zl)).trans Zl), ((HB.out.cell (World.block_lt_of_cell? w _ Zi)).trans Zi), ((HB.out.cell (World.block_lt_of_cell? w _ Zh)).trans Zh), ((HB.out.cell (World.block_lt_of_cell? w _ Zg)).trans Zg), ((HB.out.cell (World.block_lt_of_cell? w _ ZC)).trans ZC), ((HB.out.cell (World.block_lt_of_cell? w _ ZB)).trans ZB), ((HB.out.cell (World.block_lt_of_cell? w _ ZA)).trans ZA), ((HB.out.cell (World.block_lt_of_cell? w _ Zu)).trans Zu), ((HB.out.cell (World.block_lt_of_cell? w _ Zt)).trans Zt), ((HB.out.cell (World.block_lt_of_cell? w _ Zr)).trans Zr), ((HB.out.cell (World.block_lt_of_cell? w _ Zp)).trans Zp)⟩ (fun hHeld => ?_)
        clear hK K
        refine wB (a' := ?_) ?_ ?_
        rotate_left
        ·show Act.put _ (some 25) _ = _
         simp only [Act.put, List.setIfInBounds_toArray, List.set_cons_zero, List.set_cons_succ, vJ, vV]
         rfl
        refine qU (i := 9) (N := some 26) (v := ?_) (a' := ?_) #[true, true, true, true, true, true, true, true, true, true] rfl rfl (qC qz.out (by kernel_rfl)) (fun _ _ _ h => h) (Or.inl ⟨by rfl, ?_⟩) ?_ ?_
        rotate_left
        ·intro w'
         go_simp
         with_reducible rfl
        rotate_left
        ·simp only [Act.put, List.setIfInBounds_toArray, List.set_cons_zero, List.set_cons_succ, vJ, vV]
         rfl
        refine wX (jA qz.out (by kernel_rfl)) ?_
        try go_wp2
        go_ret
        exact ⟨by first | rfl | (simp [zG, zH] <;> rfl) | (simp [*, zG, zH] <;> rfl), by repeat (first | (with_reducible first | exact HB.out | apply yj | apply zN | apply yY) | exact HB.out)⟩
      ·rw [if_neg c6] at H
       exact absurd H (by simp)
     ·rw [if_neg c5] at H
      exact absurd H (by simp)
    ·rw [if_neg c4] at H
     have Xg : decide (zi < (l0.length : Int)) = false := decide_eq_false c4
     clear c4
     obtain rfl := Option.some.inj H
     go_wp2
     go_ret
     exact ⟨by first | rfl | (simp [zG, zH] <;> rfl) | (simp [*, zG, zH] <;> rfl), by repeat (first | (with_reducible first | exact HB.out | apply yj | apply zN | apply yY) | exact HB.out)⟩
 ·rw [if_neg c3] at H
  have Yh : ((l0.length : Int) == (l1.length : Int)) = false := beq_eq_false_iff_ne.mpr c3
  have U7 : ((l0.length : Int) != (l1.length : Int)) = true := bne_iff_ne.mpr c3
  have sN : (l0.length == l1.length) = false := by first | simpa using c3 | (simp at c3 ⊢; omega)
  obtain rfl := Option.some.inj H
  go_enter Tryz.func18, Tryz.ntmps18
  go_wp2
  go_ret
  exact ⟨by first | rfl | (simp [zG, zH] <;> rfl) | (simp [*, zG, zH] <;> rfl), by repeat (first | (with_reducible first | exact HB.out | apply yj | apply zN | apply yY) | exact HB.out)⟩
end Go.Proofs.YtggifbbiiickmaaGreatDoor.PX
namespace Go.Proofs.YtggifbbiiickmaaGreatDoor.PX
open Go.RowKit Go.Proofs.zk.zK Go.Proofs.zk.yQ Go.Proofs.zk.yX
attribute [local go_sem] jZ jQ jL jM uD uE jX jJ   -- for this text's walks alone
set_option linter.unusedVariables false
set_option linter.unusedSimpArgs false
def yx.l0 : Nat → List ByteArray → List ByteArray → Int → Option (Bool)
 | 0, _, _, _ => none
 | k + 1, x0, x1, x5 => if x5 < (x0.length : Int) then (if 0 ≤ x5 then (if x5 < (x1.length : Int) then (if (jH ByteArray.empty x0 x5).toList = (jH ByteArray.empty x1 x5).toList then (yx.l0 k x0 x1 (wrap64 (x5 + 1))) else (some false)) else (none)) else (none)) else (some true)
def yx.f (k : Nat) (l0 : List ByteArray) (l1 : List ByteArray) : Option (Bool) := if (l0.length : Int) = (l1.length : Int) then (yx.l0 k l0 l1 0) else (some false)
set_option maxHeartbeats 8000000 in
set_option maxRecDepth 100000 in
theorem yx.calls (k : Nat) (A0 : Option Addr) (c0 : Nat) (l0 : List ByteArray) (A1 : Option Addr) (c1 : Nat) (l1 : List ByteArray) (r : Bool) (w : World) (hr0 : Kd.C Kd.string w A0 l0.length l0) (hc0 : l0.length ≤ c0) (hr1 : Kd.C Kd.string w A1 l1.length l1) (hc1 : l1.length ≤ c1) (h : yx.f k l0 l1 = some r) :
  Calls Tryz.prog 17 #[.slice A0 l0.length c0, .slice A1 l1.length c1] w fun e w' => e = .returned (.bool r) ∧ y9 w w' := by
 have XP := zx.mk hr0
 have HC0 := zx.mk hc0
 clear hr0 hc0
 have HR1 := zx.mk hr1
 have HC1 := zx.mk hc1
 clear hr1 hc1
 have H : (if (l0.length : Int) = (l1.length : Int) then (yx.l0 k l0 l1 0) else (some false)) = some r := h
 clear h
 by_cases c3 : (l0.length : Int) = (l1.length : Int)
 ·rw [if_pos c3] at H
  have Yh : ((l0.length : Int) == (l1.length : Int)) = true := beq_iff_eq.mpr c3
  have U7 : ((l0.length : Int) != (l1.length : Int)) = false := bne_eq_false_iff_eq.mpr c3
  have sN : (l0.length == l1.length) = true := by first | simpa using c3 | (simp at c3 ⊢; omega)
  clear c3
  have H' := zx.mk H
  clear H
  go_enter Tryz.func17, Tryz.ntmps17
  go_wp2
  repeat (go_quiet (fail); try go_wp2)
  go_loopg [5] k (fun kq v5 w' => ∃ (zi : Int), v5 = .int .i64 zi ∧ zx (yx.l0 kq l0 l1 zi = some r) ∧ zx (kq ≤ k) ∧ y9 w w')
  case atStart => exact ⟨(0), (by first | rfl | (simp; done) | (simp [*]; done)), H', ⟨Nat.le_refl _⟩, by repeat (first | exact y9.refl _ | apply y9.step)⟩
  case round =>
   clear H'
   try clear c1
   try clear p2
   try clear c3
   try clear Yh
   try clear U7
   try clear sN
   obtain ⟨zi, rfl, HA, Xc, ⟨m1, rfl⟩⟩ := hrel
   cases gk with
   | zero => exact absurd HA.out (by simp [yx.l0])
   | succ k1 =>
    have H := HA.out
    clear HA
    simp only [yx.l0] at H
    by_cases c4 : zi < (l0.length : Int)
    ·rw [if_pos c4] at H
     have Xg : decide (zi < (l0.length : Int)) = true := decide_eq_true c4
     clear c4
     by_cases c5 : 0 ≤ zi
     ·rw [if_pos c5] at H
      have UG : decide (0 ≤ zi) = true := decide_eq_true c5
      clear c5
      by_cases c6 : zi < (l1.length : Int)
      ·rw [if_pos c6] at H
       have YO : decide (zi < (l1.length : Int)) = true := decide_eq_true c6
       clear c6
       by_cases c7 : (jH ByteArray.empty l0 zi).toList = (jH ByteArray.empty l1 zi).toList
       ·rw [if_pos c7] at H
        have sI : ((jH ByteArray.empty l0 zi).toList == (jH ByteArray.empty l1 zi).toList) = true := beq_iff_eq.mpr c7
        have sM : ((jH ByteArray.empty l0 zi).toList != (jH ByteArray.empty l1 zi).toList) = false := bne_eq_false_iff_eq.mpr c7
        clear c7
        have H' := zx.mk H
        clear H
        have Jw : 0 ≤ (zi : Int) := of_decide_eq_true (by first | (with_reducible assumption) | assumption)
        have JZ : zi < (l0.length : Int) := of_decide_eq_true (by first | (with_reducible assumption) | assumption)
        obtain ⟨zZS, e287, zkU⟩ := Kd.wQ XP.out zi Jw JZ
        cases e287
        replace Jw := eq_true Jw
        replace JZ := eq_true JZ
        have JQ : 0 ≤ (zi : Int) := of_decide_eq_true (by first | (with_reducible assumption) | assumption)
        have JX : zi < (l1.length : Int) := of_decide_eq_true (by first | (with_reducible assumption) | assumption)
        obtain ⟨zZT, e288, zk0⟩ := Kd.wQ HR1.out zi JQ JX
        cases e288
        replace JQ := eq_true JQ
        replace JX := eq_true JX
        go_wp2
        repeat (go_quiet (fail); try go_wp2)
        go_roundg k1
        case measure => have := Xc.out; omega
        case rel => exact ⟨(wrap64 (zi + 1)), (by first | rfl | (simp; done) | (simp [*]; done)), H', ⟨by have := Xc.out; omega⟩, by repeat (first | exact y9.refl _ | apply y9.step)⟩
       ·rw [if_neg c7] at H
        have sI : ((jH ByteArray.empty l0 zi).toList == (jH ByteArray.empty l1 zi).toList) = false := beq_eq_false_iff_ne.mpr c7
        have sM : ((jH ByteArray.empty l0 zi).toList != (jH ByteArray.empty l1 zi).toList) = true := bne_iff_ne.mpr c7
        obtain rfl := Option.some.inj H
        have Jw : 0 ≤ (zi : Int) := of_decide_eq_true (by first | (with_reducible assumption) | assumption)
        have JZ : zi < (l0.length : Int) := of_decide_eq_true (by first | (with_reducible assumption) | assumption)
        obtain ⟨zZS, e287, zkU⟩ := Kd.wQ XP.out zi Jw JZ
        cases e287
        replace Jw := eq_true Jw
        replace JZ := eq_true JZ
        have JQ : 0 ≤ (zi : Int) := of_decide_eq_true (by first | (with_reducible assumption) | assumption)
        have JX : zi < (l1.length : Int) := of_decide_eq_true (by first | (with_reducible assumption) | assumption)
        obtain ⟨zZT, e288, zk0⟩ := Kd.wQ HR1.out zi JQ JX
        cases e288
        replace JQ := eq_true JQ
        replace JX := eq_true JX
        go_wp2
        repeat (go_quiet (fail); try go_wp2)
        go_ret
        exact ⟨by first | rfl | (simp; done) | (simp [*]; done), by repeat (first | exact y9.refl _ | apply y9.step)⟩
      ·rw [if_neg c6] at H
       exact absurd H (by simp)
     ·rw [if_neg c5] at H
      exact absurd H (by simp)
    ·rw [if_neg c4] at H
     have Xg : decide (zi < (l0.length : Int)) = false := decide_eq_false c4
     clear c4
     obtain rfl := Option.some.inj H
     go_wp2
     repeat (go_quiet (fail); try go_wp2)
     go_ret
     exact ⟨by first | rfl | (simp; done) | (simp [*]; done), by repeat (first | exact y9.refl _ | apply y9.step)⟩
 ·rw [if_neg c3] at H
  have Yh : ((l0.length : Int) == (l1.length : Int)) = false := beq_eq_false_iff_ne.mpr c3
  have U7 : ((l0.length : Int) != (l1.length : Int)) = true := bne_iff_ne.mpr c3
  have sN : (l0.length == l1.length) = false := by first | simpa using c3 | (simp at c3 ⊢; omega)
  obtain rfl := Option.some.inj H
  go_enter Tryz.func17, Tryz.ntmps17
  go_wp2
  repeat (go_quiet (fail); try go_wp2)
  go_ret
  exact ⟨by first | rfl | (simp; done) | (simp [*]; done), by repeat (first | exact y9.refl _ | apply y9.step)⟩
end Go.Proofs.YtggifbbiiickmaaGreatDoor.PX
