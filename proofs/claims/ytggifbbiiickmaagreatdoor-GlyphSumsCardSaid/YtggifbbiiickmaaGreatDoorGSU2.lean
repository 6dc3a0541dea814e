/-
  Texts that lean on one another, laid in one file. No condition.
-/
import Derived.Test.YtggifbbiiickmaaGreatDoorGSU1
import Derived.RangeFuncRecord
import Derived.Laws.EntriesVeiled
import Derived.Sort.Walk0
import Derived.WalkKit
import Derived.WalkSpells
import Derived.WalkLawsBesides
import Derived.Deep.QuietTactic
import Derived.BigQuiet
import Derived.RangeFuncBox
import Derived.Deep.DeepCutAuto
import Derived.RangeFuncNested
import Derived.RangeFuncBound
import Derived.RangeFuncCalls
import Derived.RangeFuncLeaves
import Derived.OwnWalkIn
import Derived.TacticsInMore
import Derived.LoopNIn
import Derived.LoopIn
import Derived.WideLaws
import Derived.Maps.Own
import Derived.Maps.OwnOps
import Derived.Maps.Views
import Derived.Maps.StringElems
import Derived.StringKeys
import Derived.Deep.CutBlock
import Derived.Shelf.SlSortCmp.WholeK
import Derived.Ground.SlsfProg
import Derived.Sort.OwnSortedInts
namespace Go.Proofs.YtggifbbiiickmaaGreatDoor
open Go.RowKit Go.Shelf Go.Proofs.zk.ze Go.Proofs.zk.yt Go.Proofs.YtggifbbiiickmaaGreatDoor.PX
set_option linter.unusedSimpArgs false
set_option linter.unusedVariables false
theorem tY {w : World} {g : Nat} {ns : List ByteArray} {t : TypeId} (h : w.heap[g]? = some (.cells (ns.map Value.string).toArray t (0, 0))) (hn : ns.length ≤ 1000) : Kd.C Kd.string w (some ⟨g, 0, none⟩) ns.length ns := by
 refine ⟨rfl, by omega, fun _ => ⟨_, rfl, fun j p hj => ⟨[.string p], rfl, rfl, fun i u hi => ?_⟩⟩⟩
 rcases i with _ | i
 ·cases hi
  have hs : Kd.string.sz = 1 := rfl
  rw [Addr.add_lit, hs]
  refine yD h _ _ ?_
  simp [hj]
 ·simp at hi
def gq (l3 : List yh) (x : qy) : Bool := !JO l3 [x.f0, x.f1, x.f2]
def JR (l3 : List yh) (x : qc) : Bool := decide (x.f2 = 0) || (decide (x.f2 < -500) || (decide (500 < x.f2) || !JO l3 [x.f0, x.f1]))
set_option maxRecDepth 100000 in
set_option maxHeartbeats 1000000 in
theorem zz0 (B : Nat) (a : ByteArray) (b : Bool) (c : Int) (A3 : Option Addr) (c3 : Nat) (l3 : List yh) (A4 : Option Addr) (c4 : Nat) (l4 : List qy) (A5 : Option Addr) (c5 : Nat) (l5 : List qc) (g3 : l3.length ≤ c3) (g4 : l4.length ≤ c4) (g5 : l5.length ≤ c5) (hl3 : l3.length ≤ 1000000000) (w : World) (hF : Zh w B a b c A3 c3 l3 A4 c4 l4 A5 c5 l5) :
  PredBelow Tryz.prog 93 #[.pointer (some ⟨B, 0, none⟩)] (fun x => .agg (dR x).toArray) (gq l3) w := fun W x hb => by
 have hl := (Array.getElem?_eq_some_iff.1 hF.blk).1
 have YD := hF.below hb
 have oV : B < W.heap.size := Nat.lt_of_lt_of_le hl hb.size
 show Calls Tryz.prog 93 #[.agg #[.string x.f0, .string x.f1, .string x.f2], .pointer (some ⟨B, 0, none⟩)] W _
 have hbW : Below W.heap.size W ((W.alloc (.cells #[.string x.f0, .string x.f1, .string x.f2] 108)).alloc (.cells #[.string x.f0, .string x.f1, .string x.f2] 9)) := ((Below.refl _ W).alloc (Nat.le_refl _) _).alloc (by simp) _
 have hF2 := YD.below hbW
 have hblk : ((W.alloc (.cells #[.string x.f0, .string x.f1, .string x.f2] 108)).alloc (.cells #[.string x.f0, .string x.f1, .string x.f2] 9)).heap[W.heap.size + 1]? = some (.cells (([x.f0, x.f1, x.f2].map Value.string).toArray) 9 (0, 0)) := by
  have := World.alloc_heap_new (W.alloc (.cells #[.string x.f0, .string x.f1, .string x.f2] 108)) (.cells #[.string x.f0, .string x.f1, .string x.f2] 9)
  rwa [World.size_alloc] at this
 have ha := tK a b c A3 c3 l3 A4 c4 l4 A5 c5 l5 _ 3 [x.f0, x.f1, x.f2] _ hF2.h3 g3 hF2.h4 g4 hF2.h5 g5 (tY hblk (by simp)) (by simp) hF2.gw hl3 (by simp)
 have k0 := yD YD.blk 0 _ rfl
 have k1 := yD YD.blk 1 _ rfl
 have k2 := yD YD.blk 2 _ rfl
 have k3 := yD YD.blk 3 _ rfl
 have k4 := yD YD.blk 4 _ rfl
 have k5 := yD YD.blk 5 _ rfl
 have hend := hb.trans (hbW.mono hb.size)
 unfold gq
 generalize JO l3 [x.f0, x.f1, x.f2] = r at ha ⊢
 clear hF YD hF2 hblk hb g3 g4 g5
 go_enter Tryz.func93, Tryz.ntmps93
 go_wp2_with (go_at_call 94; refine ha.mono ?_; rintro e w1 ⟨rfl, hb1⟩)
 go_ret
 exact ⟨rfl, hend.trans (hb1.mono hend.size)⟩
set_option maxRecDepth 100000 in
set_option maxHeartbeats 1000000 in
theorem zz1 (B : Nat) (a : ByteArray) (b : Bool) (c : Int) (A3 : Option Addr) (c3 : Nat) (l3 : List yh) (A4 : Option Addr) (c4 : Nat) (l4 : List qy) (A5 : Option Addr) (c5 : Nat) (l5 : List qc) (g3 : l3.length ≤ c3) (g4 : l4.length ≤ c4) (g5 : l5.length ≤ c5) (hl3 : l3.length ≤ 1000000000) (w : World) (hF : Zh w B a b c A3 c3 l3 A4 c4 l4 A5 c5 l5) :
  PredBelow Tryz.prog 98 #[.pointer (some ⟨B, 0, none⟩)] (fun x => .agg (dS x).toArray) (JR l3) w := fun W x hb => by
 have hl := (Array.getElem?_eq_some_iff.1 hF.blk).1
 have YD := hF.below hb
 have oV : B < W.heap.size := Nat.lt_of_lt_of_le hl hb.size
 show Calls Tryz.prog 98 #[.agg #[.string x.f0, .string x.f1, .int .i64 x.f2], .pointer (some ⟨B, 0, none⟩)] W _
 have hb1 : Below w.heap.size w (W.alloc (.cells #[.string x.f0, .string x.f1, .int .i64 x.f2] 111)) := hb.alloc hb.size _
 unfold JR
 by_cases q0 : x.f2 = 0
 ·have d0 : (x.f2 == 0) = true := beq_iff_eq.2 q0
  rw [decide_eq_true q0]
  clear q0 hF YD
  go_enter Tryz.func98, Tryz.ntmps98
  go_wp2
  go_ret
  exact ⟨rfl, hb1⟩
 ·have d0 : (x.f2 == 0) = false := beq_eq_false_iff_ne.2 q0
  rw [decide_eq_false q0, Bool.false_or]
  clear q0
  by_cases q1 : x.f2 < -500
  ·have d1 : decide (x.f2 < -500) = true := decide_eq_true q1
   rw [d1]
   clear q1 hF YD
   go_enter Tryz.func98, Tryz.ntmps98
   go_wp2
   go_ret
   exact ⟨rfl, hb1⟩
  ·have d1 : decide (x.f2 < -500) = false := decide_eq_false q1
   rw [d1, Bool.false_or]
   clear q1
   by_cases q2 : 500 < x.f2
   ·have d2 : decide (500 < x.f2) = true := decide_eq_true q2
    rw [d2]
    clear q2 hF YD
    go_enter Tryz.func98, Tryz.ntmps98
    go_wp2
    go_ret
    exact ⟨rfl, hb1⟩
   ·have d2 : decide (500 < x.f2) = false := decide_eq_false q2
    rw [d2, Bool.false_or]
    clear q2
    have hbW : Below W.heap.size W ((W.alloc (.cells #[.string x.f0, .string x.f1, .int .i64 x.f2] 111)).alloc (.cells #[.string x.f0, .string x.f1] 9)) := ((Below.refl _ W).alloc (Nat.le_refl _) _).alloc (by simp) _
    have hF2 := YD.below hbW
    have hblk : ((W.alloc (.cells #[.string x.f0, .string x.f1, .int .i64 x.f2] 111)).alloc (.cells #[.string x.f0, .string x.f1] 9)).heap[W.heap.size + 1]? = some (.cells (([x.f0, x.f1].map Value.string).toArray) 9 (0, 0)) := by
     have := World.alloc_heap_new (W.alloc (.cells #[.string x.f0, .string x.f1, .int .i64 x.f2] 111)) (.cells #[.string x.f0, .string x.f1] 9)
     rwa [World.size_alloc] at this
    have ha := tK a b c A3 c3 l3 A4 c4 l4 A5 c5 l5 _ 2 [x.f0, x.f1] _ hF2.h3 g3 hF2.h4 g4 hF2.h5 g5 (tY hblk (by simp)) (by simp) hF2.gw hl3 (by simp)
    have k0 := yD YD.blk 0 _ rfl
    have k1 := yD YD.blk 1 _ rfl
    have k2 := yD YD.blk 2 _ rfl
    have k3 := yD YD.blk 3 _ rfl
    have k4 := yD YD.blk 4 _ rfl
    have k5 := yD YD.blk 5 _ rfl
    have hend := hb.trans (hbW.mono hb.size)
    generalize JO l3 [x.f0, x.f1] = r at ha ⊢
    clear hF YD hF2 hblk hb g3 g4 g5
    go_enter Tryz.func98, Tryz.ntmps98
    go_wp2_with (go_at_call 94; refine ha.mono ?_; rintro e w1 ⟨rfl, hb1⟩)
    go_ret
    exact ⟨rfl, hend.trans (hb1.mono hend.size)⟩
def xk (a : ByteArray) (c : Int) (l3 : List yh) (l4 : List qy) (l5 : List qc) : Bool :=
 if (!KJ a.data.toList || (QZ c || (decide (400 < l3.length) || (decide (50 < l4.length) || decide (500 < l5.length))))) = true then false
 else if (l3.any Wm || !ZH (fun i j => Xh (qZ l3 (i : Int)) (qZ l3 (j : Int))) l3.length) = true then false
 else if (l4.any (gq l3) || !ZH (fun i j => cmpL (xG l4 (i : Int)) (xG l4 (j : Int))) l4.length) = true then false
 else !l5.any (JR l3) && ZH (fun i j => Qg (xH l5 (i : Int)) (xH l5 (j : Int))) l5.length
set_option maxRecDepth 100000 in
set_option maxHeartbeats 4000000 in
theorem oK (a : ByteArray) (b : Bool) (c : Int) (A3 : Option Addr) (c3 : Nat) (l3 : List yh) (A4 : Option Addr) (c4 : Nat) (l4 : List qy) (A5 : Option Addr) (c5 : Nat) (l5 : List qc) (g3 : l3.length ≤ c3) (g4 : l4.length ≤ c4) (g5 : l5.length ≤ c5) (hl3 : l3.length ≤ 1000000000) (hl4 : l4.length ≤ 1000000000) (hl5 : l5.length ≤ 1000000000) (w : World) (h3 : Kd.C qH w A3 l3.length l3) (h4 : Kd.C vw w A4 l4.length l4) (h5 : Kd.C vC w A5 l5.length l5) (hG : GW w) :
  Calls Tryz.prog 39 #[.agg #[.string a, .bool b, .int .i64 c, .slice A3 l3.length c3, .slice A4 l4.length c4, .slice A5 l5.length c5]] w fun e w' => e = .returned (.bool (xk a c l3 l4 l5)) ∧ Below w.heap.size w w' := by
 have hw1 : Below w.heap.size w ((w.alloc (.cells #[.string a, .bool b, .int .i64 c, .slice A3 l3.length c3, .slice A4 l4.length c4, .slice A5 l5.length c5] 60)).alloc (.cells #[.func (.func 84) #[] #[]] 138)) := ((Below.refl _ w).alloc (Nat.le_refl _) _).alloc (by simp) _
 have hblk : ((w.alloc (.cells #[.string a, .bool b, .int .i64 c, .slice A3 l3.length c3, .slice A4 l4.length c4, .slice A5 l5.length c5] 60)).alloc (.cells #[.func (.func 84) #[] #[]] 138)).heap[w.heap.size]? = some (.cells #[.string a, .bool b, .int .i64 c, .slice A3 l3.length c3, .slice A4 l4.length c4, .slice A5 l5.length c5] 60 (0, 0)) :=
  (Below.heap_alloc _ _ _ (by simp)).trans (World.alloc_heap_new w _)
 have X6 : ((w.alloc (.cells #[.string a, .bool b, .int .i64 c, .slice A3 l3.length c3, .slice A4 l4.length c4, .slice A5 l5.length c5] 60)).alloc (.cells #[.func (.func 84) #[] #[]] 138)).heap[w.heap.size + 1]? = some (.cells #[.func (.func 84) #[] #[]] 138 (0, 0)) := by
  have := World.alloc_heap_new (w.alloc (.cells #[.string a, .bool b, .int .i64 c, .slice A3 l3.length c3, .slice A4 l4.length c4, .slice A5 l5.length c5] 60)) (.cells #[.func (.func 84) #[] #[]] 138)
  rwa [World.size_alloc] at this
 have hF : Zh ((w.alloc (.cells #[.string a, .bool b, .int .i64 c, .slice A3 l3.length c3, .slice A4 l4.length c4, .slice A5 l5.length c5] 60)).alloc (.cells #[.func (.func 84) #[] #[]] 138)) w.heap.size a b c A3 c3 l3 A4 c4 l4 A5 c5 l5 := ⟨hblk, Kd.zh h3 hw1, Kd.zh h4 hw1, Kd.zh h5 hw1, hG.under hw1⟩
 have hfn := cB a ((w.alloc (.cells #[.string a, .bool b, .int .i64 c, .slice A3 l3.length c3, .slice A4 l4.length c4, .slice A5 l5.length c5] 60)).alloc (.cells #[.func (.func 84) #[] #[]] 138))
 have hwd := fun W => d9 c W
 have hhG := fun W (hF : Zh W w.heap.size a b c A3 c3 l3 A4 c4 l4 A5 c5 l5) (hB : W.cell? ⟨w.heap.size + 1, 0, none⟩ = some (.func (.func 84) #[] #[])) => dU A3 c3 l3 W hF.h3 hl3 Wm 87 #[.pointer (some ⟨w.heap.size + 1, 0, none⟩)] (enters_of Tryz.func87 (by kernel_rfl) rfl) (zzU _ W hB)
 have haG := fun W (hF : Zh W w.heap.size a b c A3 c3 l3 A4 c4 l4 A5 c5 l5) => zzH A3 c3 l3 W hF.h3 hl3
 have hhL := fun W (hF : Zh W w.heap.size a b c A3 c3 l3 A4 c4 l4 A5 c5 l5) => zzS A4 c4 l4 W hF.h4 hl4 (gq l3) 93 #[.pointer (some ⟨w.heap.size, 0, none⟩)] (enters_of Tryz.func93 (by kernel_rfl) rfl) (zz0 _ a b c A3 c3 l3 A4 c4 l4 A5 c5 l5 g3 g4 g5 hl3 W hF)
 have haL := fun W (hF : Zh W w.heap.size a b c A3 c3 l3 A4 c4 l4 A5 c5 l5) => zzN A4 c4 l4 W hF.h4 hl4
 have hhK := fun W (hF : Zh W w.heap.size a b c A3 c3 l3 A4 c4 l4 A5 c5 l5) => zzT A5 c5 l5 W hF.h5 hl5 (JR l3) 98 #[.pointer (some ⟨w.heap.size, 0, none⟩)] (enters_of Tryz.func98 (by kernel_rfl) rfl) (zz1 _ a b c A3 c3 l3 A4 c4 l4 A5 c5 l5 g3 g4 g5 hl3 W hF)
 have haK := fun W (hF : Zh W w.heap.size a b c A3 c3 l3 A4 c4 l4 A5 c5 l5) => zzO A5 c5 l5 W hF.h5 hl5
 generalize hR : xk a c l3 l4 l5 = R
 have HR := Lib.hid hR
 unfold xk at hR
 generalize KJ a.data.toList = b1 at hfn hR
 generalize QZ c = b2 at hwd hR
 generalize l3.any Wm = b6 at hhG hR
 generalize ZH (fun i j => Xh (qZ l3 (i : Int)) (qZ l3 (j : Int))) l3.length = b7 at haG hR
 generalize l4.any (gq l3) = b8 at hhL hR
 generalize ZH (fun i j => cmpL (xG l4 (i : Int)) (xG l4 (j : Int))) l4.length = b9 at haL hR
 generalize l5.any (JR l3) = b10 at hhK hR
 generalize ZH (fun i j => Qg (xH l5 (i : Int)) (xH l5 (j : Int))) l5.length = b11 at haK hR
 clear g3 g4 g5 h3 h4 h5 hG HR
 go_enter Tryz.func39, Tryz.ntmps39
 have HF0 := Lib.hid hF
 have K0 := Lib.hid (yD X6 0 _ rfl)
 have HW0 := Lib.hid hw1
 have c0 := yD hblk 0 _ rfl
 have c2 := yD hblk 2 _ rfl
 have QL := yD hblk 3 _ rfl
 have QM := yD hblk 4 _ rfl
 have QN := yD hblk 5 _ rfl
 clear hF hblk X6 hw1
 go_wp2_with fail
 generalize ((w.alloc (.cells #[.string a, .bool b, .int .i64 c, .slice A3 l3.length c3, .slice A4 l4.length c4, .slice A5 l5.length c5] 60)).alloc (.cells #[.func (.func 84) #[] #[]] 138)) = W0 at hfn HF0 K0 HW0 c0 c2 QL QM QN ⊢
 refine hfn.mono ?_; rintro e W1 ⟨rfl, hb1⟩
 clear hfn c0 c2 QL QM QN
 have tu := Lib.hid (HF0.out.below hb1)
 have K1 := Lib.hid ((hb1.cell (World.block_lt_of_cell? _ _ K0.out)).trans K0.out)
 have HW1 := Lib.hid (HW0.out.trans (hb1.mono HW0.out.size))
 clear hb1
 have c2 := yD tu.out.blk 2 _ rfl
 have QL := yD tu.out.blk 3 _ rfl
 have QM := yD tu.out.blk 4 _ rfl
 have QN := yD tu.out.blk 5 _ rfl
 have cb := K1.out
 cases b1 with
 | false =>
  obtain rfl : false = R := by simpa using hR
  clear hR
  go_wp2_with fail
  go_ret
  exact ⟨rfl, HW1.out⟩
 | true =>
  go_wp2_with fail
  refine (hwd _).mono ?_; rintro e W1x ⟨rfl, hx⟩; subst hx
  cases b2 with
  | false =>
   by_cases q3 : 400 < l3.length
   ·have dq3 : decide ((400 : Int) < (l3.length : Int)) = true := decide_eq_true (by omega)
    rw [decide_eq_true q3] at hR
    clear q3
    obtain rfl : false = R := by simpa using hR
    clear hR
    go_wp2_with fail
    go_ret
    exact ⟨rfl, HW1.out⟩
   ·have dq3 : decide ((400 : Int) < (l3.length : Int)) = false := decide_eq_false (by omega)
    rw [decide_eq_false q3] at hR
    clear q3
    by_cases q4 : 50 < l4.length
    ·have dq4 : decide ((50 : Int) < (l4.length : Int)) = true := decide_eq_true (by omega)
     rw [decide_eq_true q4] at hR
     clear q4
     obtain rfl : false = R := by simpa using hR
     clear hR
     go_wp2_with fail
     go_ret
     exact ⟨rfl, HW1.out⟩
    ·have dq4 : decide ((50 : Int) < (l4.length : Int)) = false := decide_eq_false (by omega)
     rw [decide_eq_false q4] at hR
     clear q4
     by_cases q5 : 500 < l5.length
     ·have dq5 : decide ((500 : Int) < (l5.length : Int)) = true := decide_eq_true (by omega)
      rw [decide_eq_true q5] at hR
      clear q5
      obtain rfl : false = R := by simpa using hR
      clear hR
      go_wp2_with fail
      go_ret
      exact ⟨rfl, HW1.out⟩
     ·have dq5 : decide ((500 : Int) < (l5.length : Int)) = false := decide_eq_false (by omega)
      rw [decide_eq_false q5] at hR
      clear q5
      simp only [Bool.not_true, Bool.or_self, Bool.false_eq_true, if_false, Bool.or_false] at hR
      go_wp2_with fail
      refine (hhG _ tu.out K1.out).mono ?_; rintro e W2 ⟨rfl, hb2⟩
      clear c2 QL QM QN cb
      have Ka := Lib.hid (tu.out.below hb2)
      have K2 := Lib.hid ((hb2.cell (World.block_lt_of_cell? _ _ K1.out)).trans K1.out)
      have HW2 := Lib.hid (HW1.out.trans (hb2.mono HW1.out.size))
      clear hb2
      have c2 := yD Ka.out.blk 2 _ rfl
      have QL := yD Ka.out.blk 3 _ rfl
      have QM := yD Ka.out.blk 4 _ rfl
      have QN := yD Ka.out.blk 5 _ rfl
      have cb := K2.out
      cases b6 with
      | false =>
       go_wp2_with fail
       refine (haG _ Ka.out).mono ?_; rintro e W3 ⟨rfl, hb3⟩
       clear c2 QL QM QN cb
       have tC := Lib.hid (Ka.out.below hb3)
       have K3 := Lib.hid ((hb3.cell (World.block_lt_of_cell? _ _ K2.out)).trans K2.out)
       have HW3 := Lib.hid (HW2.out.trans (hb3.mono HW2.out.size))
       clear hb3
       have c2 := yD tC.out.blk 2 _ rfl
       have QL := yD tC.out.blk 3 _ rfl
       have QM := yD tC.out.blk 4 _ rfl
       have QN := yD tC.out.blk 5 _ rfl
       have cb := K3.out
       cases b7 with
       | false =>
        obtain rfl : false = R := by simpa using hR
        clear hR
        go_wp2_with fail
        go_ret
        exact ⟨rfl, HW3.out⟩
       | true =>
        go_wp2_with fail
        refine (hhL _ tC.out).mono ?_; rintro e W4 ⟨rfl, hb4⟩
        clear c2 QL QM QN cb
        have tF := Lib.hid (tC.out.below hb4)
        have K4 := Lib.hid ((hb4.cell (World.block_lt_of_cell? _ _ K3.out)).trans K3.out)
        have HW4 := Lib.hid (HW3.out.trans (hb4.mono HW3.out.size))
        clear hb4
        have c2 := yD tF.out.blk 2 _ rfl
        have QL := yD tF.out.blk 3 _ rfl
        have QM := yD tF.out.blk 4 _ rfl
        have QN := yD tF.out.blk 5 _ rfl
        have cb := K4.out
        cases b8 with
        | false =>
         go_wp2_with fail
         refine (haL _ tF.out).mono ?_; rintro e W5 ⟨rfl, hb5⟩
         clear c2 QL QM QN cb
         have tH := Lib.hid (tF.out.below hb5)
         have K5 := Lib.hid ((hb5.cell (World.block_lt_of_cell? _ _ K4.out)).trans K4.out)
         have HW5 := Lib.hid (HW4.out.trans (hb5.mono HW4.out.size))
         clear hb5
         have c2 := yD tH.out.blk 2 _ rfl
         have QL := yD tH.out.blk 3 _ rfl
         have QM := yD tH.out.blk 4 _ rfl
         have QN := yD tH.out.blk 5 _ rfl
         have cb := K5.out
         cases b9 with
         | false =>
          obtain rfl : false = R := by simpa using hR
          clear hR
          go_wp2_with fail
          go_ret
          exact ⟨rfl, HW5.out⟩
         | true =>
          go_wp2_with fail
          refine (hhK _ tH.out).mono ?_; rintro e W6 ⟨rfl, hb6⟩
          clear c2 QL QM QN cb
          have tL := Lib.hid (tH.out.below hb6)
          have K6 := Lib.hid ((hb6.cell (World.block_lt_of_cell? _ _ K5.out)).trans K5.out)
          have HW6 := Lib.hid (HW5.out.trans (hb6.mono HW5.out.size))
          clear hb6
          have c2 := yD tL.out.blk 2 _ rfl
          have QL := yD tL.out.blk 3 _ rfl
          have QM := yD tL.out.blk 4 _ rfl
          have QN := yD tL.out.blk 5 _ rfl
          have cb := K6.out
          cases b10 with
          | false =>
           go_wp2_with fail
           refine (haK _ tL.out).mono ?_; rintro e W7 ⟨rfl, hb7⟩
           clear c2 QL QM QN cb
           have HF7 := Lib.hid (tL.out.below hb7)
           have K7 := Lib.hid ((hb7.cell (World.block_lt_of_cell? _ _ K6.out)).trans K6.out)
           have HW7 := Lib.hid (HW6.out.trans (hb7.mono HW6.out.size))
           clear hb7
           obtain rfl : b11 = R := by simpa using hR
           clear hR
           go_wp2_with fail
           go_ret
           exact ⟨rfl, HW7.out⟩
          | true =>
           obtain rfl : false = R := by simpa using hR
           clear hR
           go_wp2_with fail
           go_ret
           exact ⟨rfl, HW6.out⟩
        | true =>
         obtain rfl : false = R := by simpa using hR
         clear hR
         go_wp2_with fail
         go_ret
         exact ⟨rfl, HW4.out⟩
      | true =>
       obtain rfl : false = R := by simpa using hR
       clear hR
       go_wp2_with fail
       go_ret
       exact ⟨rfl, HW2.out⟩
  | true =>
   obtain rfl : false = R := by simpa using hR
   clear hR
   go_wp2_with fail
   go_ret
   exact ⟨rfl, HW1.out⟩
def jX.f (yH : ByteArray) (_ : Bool) (yI : Int) (zM : List yh) (yw : List qy) (yj : List qc) : Option Bool := if zM.length ≤ 1000000000 ∧ yw.length ≤ 1000000000 ∧ yj.length ≤ 1000000000 then some (xk yH yI zM yw yj) else none
theorem jX.calls (yH : ByteArray) (yM : Bool) (yI : Int) (qp : Option Addr) (qA : Nat) (zM : List yh) (qC : Option Addr) (qD : Nat) (yw : List qy) (qE : Option Addr) (qF : Nat) (yj : List qc) (r : Bool) (w : World) (wO : Kd.C qH w qp zM.length zM) (YX : zM.length ≤ qA) (YJ : Kd.C vw w qC yw.length yw) (YV : yw.length ≤ qD) (YK : Kd.C vC w qE yj.length yj) (YW : yj.length ≤ qF) (hG : GW w) (h : jX.f yH yM yI zM yw yj = some r) :
  Calls Tryz.prog 39 #[.agg #[.string yH, .bool yM, .int .i64 yI, .slice qp zM.length qA, .slice qC yw.length qD, .slice qE yj.length qF]] w fun e w' => e = .returned (.bool r) ∧ Below w.heap.size w w' := by
 unfold jX.f at h
 split at h
 ·rename_i hl
  obtain rfl := Option.some.inj h
  exact oK yH yM yI qp qA zM qC qD yw qE qF yj YX YV YW hl.1 hl.2.1 hl.2.2 w wO YJ YK hG
 ·cases h
end Go.Proofs.YtggifbbiiickmaaGreatDoor
namespace Go.Proofs.YtggifbbiiickmaaGreatDoor
open Go.RowKit Go.Proofs.zk.ze Go.Proofs.zk.yt Go.Proofs.YtggifbbiiickmaaGreatDoor.PX
set_option linter.unusedSimpArgs false
set_option linter.unusedVariables false
theorem gy (a b : ByteArray) : Op.bytesLess a.toList b.toList = true ↔ a.toList < b.toList := by rw [Go.Proofs.bytesLess_eq]; exact decide_eq_true_iff
theorem JU {a b : ByteArray} : xQ a b < 0 ↔ a.toList < b.toList := by
 rw [← gy]
 unfold xQ
 by_cases h1 : Op.bytesLess a.toList b.toList = true
 ·simp [h1]
 ·by_cases h2 : Op.bytesLess b.toList a.toList = true <;> simp [h1, h2]
theorem Jr {a b : ByteArray} : a.toList = b.toList ↔ a = b := by
 constructor
 ·intro h
  rw [Lib.toList_data, Lib.toList_data] at h
  exact ByteArray.ext (Array.toList_inj.1 h)
 ·rintro rfl
  rfl
theorem bD (a : ByteArray) : xQ a a = 0 := by
 unfold xQ
 have h : ¬ Op.bytesLess a.toList a.toList = true := by rw [gy]; exact List.lt_irrefl _
 rw [if_neg h, if_neg h]
theorem oW {a b : ByteArray} : xQ a b = 0 ↔ a = b := by
 constructor
 ·intro h
  unfold xQ at h
  by_cases h1 : Op.bytesLess a.toList b.toList = true
  ·rw [if_pos h1] at h; cases h
  ·rw [if_neg h1] at h
   by_cases h2 : Op.bytesLess b.toList a.toList = true
   ·rw [if_pos h2] at h; cases h
   ·rw [gy] at h1 h2
    exact Jr.1 (List.le_antisymm (List.not_lt.1 h2) (List.not_lt.1 h1))
 ·rintro rfl
  exact bD a
theorem J2 (l : List yh) (i : Nat) (h : i < l.length) : qZ l (i : Int) = l[i] := by simp [qZ, List.getD_eq_getElem?_getD, h]
def Asc (l : List yh) : Prop := ∀ (i j : Nat) (hi : i < l.length) (hj : j < l.length), i < j → l[i].f0.toList < l[j].f0.toList
theorem zjL {l : List yh} (h : ZH (fun i j => Xh (qZ l (i : Int)) (qZ l (j : Int))) l.length = true) : Asc l := by
 have h1 : ∀ (i : Nat) (hi : i + 1 < l.length), l[i].f0.toList < l[i + 1].f0.toList := by
  intro i hi
  have h2 := List.all_eq_true.1 h i (List.mem_range.2 (by omega))
  rw [decide_eq_true_iff] at h2
  have h2 : Xh (qZ l (i : Int)) (qZ l ((i + 1 : Nat) : Int)) < 0 := h2
  rw [J2 l i (by omega), J2 l (i + 1) hi] at h2
  exact JU.1 h2
 have h3 : ∀ (d i : Nat) (hi : i + d + 1 < l.length), l[i].f0.toList < l[i + d + 1].f0.toList := by
  intro d
  induction d with
  | zero => intro i hi; exact h1 i hi
  | succ d ih => intro i hi; exact List.lt_trans (ih i (by omega)) (h1 (i + d + 1) hi)
 intro i j hi hj hij
 have h4 := h3 (j - i - 1) i (by omega)
 have e : i + (j - i - 1) + 1 = j := by omega
 simpa only [e] using h4
theorem zz2 (l : List yh) (n : ByteArray) (ha : Asc l) (i j : Nat) (hij : i ≤ j) (hj : j ≤ l.length) (h1 : ∀ (m : Nat) (hm : m < l.length), m < i → l[m].f0.toList < n.toList) (h2 : ∀ (m : Nat) (hm : m < l.length), j ≤ m → ¬ l[m].f0.toList < n.toList) :
  (∀ (m : Nat) (hm : m < l.length), m < X5 l n i j → l[m].f0.toList < n.toList) ∧ (∀ (m : Nat) (hm : m < l.length), X5 l n i j ≤ m → ¬ l[m].f0.toList < n.toList) := by
 fun_induction X5 l n i j with
 | case1 i j hlt hc ih =>
  have hm : (i + j) / 2 < l.length := by omega
  rw [J2 l _ hm, JU] at hc
  refine ih (by omega) hj (fun m hml hmi => ?_) h2
  by_cases he : m = (i + j) / 2
  ·subst he; exact hc
  ·exact List.lt_trans (ha m _ hml hm (by omega)) hc
 | case2 i j hlt hc ih =>
  have hm : (i + j) / 2 < l.length := by omega
  rw [J2 l _ hm, JU] at hc
  refine ih (by omega) (by omega) h1 (fun m hml hmi hlt' => ?_)
  by_cases he : m = (i + j) / 2
  ·subst he; exact hc hlt'
  ·exact hc (List.lt_trans (ha _ m hm hml (by omega)) hlt')
 | case3 i j hlt =>
  obtain rfl : i = j := by omega
  exact ⟨h1, h2⟩
theorem zxp (l : List yh) (ha : Asc l) (m : Nat) (hm : m < l.length) : ZU l l[m].f0 = ((m : Int), true) := by
 obtain ⟨h1, h2⟩ := zz2 l l[m].f0 ha 0 l.length (Nat.zero_le _) (Nat.le_refl _) (fun m _ h => absurd h (Nat.not_lt_zero _)) (fun m hm h => absurd hm (by omega))
 have e : X5 l l[m].f0 0 l.length = m := by
  rcases Nat.lt_trichotomy (X5 l l[m].f0 0 l.length) m with h | h | h
  ·exact absurd (ha _ m (by omega) hm h) (h2 _ (by omega) (Nat.le_refl _))
  ·exact h
  ·exact absurd (h1 m hm h) (List.lt_irrefl _)
 unfold ZU
 simp only [e, decide_eq_true hm, Bool.true_and, J2 l m hm]
 rw [bD]
 rfl
theorem zxr (l : List yh) (n : ByteArray) (h : ∀ x ∈ l, x.f0 ≠ n) : (ZU l n).2 = false := by
 unfold ZU
 simp only
 by_cases hi : X5 l n 0 l.length < l.length
 ·rw [J2 l _ hi]
  have : ¬ xQ l[X5 l n 0 l.length].f0 n = 0 := fun e => h _ (List.getElem_mem hi) (oW.1 e)
  rw [decide_eq_false this, Bool.and_false]
 ·rw [decide_eq_false hi, Bool.false_and]
end Go.Proofs.YtggifbbiiickmaaGreatDoor
namespace Go.Proofs.YtggifbbiiickmaaGreatDoor
open Go.RowKit Go.Shelf Go.Proofs.zk.ze Go.Proofs.zk.yc Go.Proofs.zk.yt Go.Proofs.YtggifbbiiickmaaGreatDoor.PX
set_option linter.unusedSimpArgs false
set_option linter.unusedVariables false
set_option maxRecDepth 100000 in
theorem oh (B : Nat) (n : ByteArray) (w : World) (hB : w.cell? ⟨B, 0, none⟩ = some (.string n)) :
  PredBelow Tryz.prog 160 #[.pointer (some ⟨B, 0, none⟩)] (fun x => .agg (kr x).toArray) (fun x : yh => x.f0.toList == n.toList) w := fun W x hb => by
 have hl := World.block_lt_of_cell? w _ hB
 have oV : B < W.heap.size := Nat.lt_of_lt_of_le hl hb.size
 have hc : (W.alloc (.cells #[.string x.f0, .int .i64 x.f1] 105)).cell? ⟨B, 0, none⟩ = some (.string n) := (World.cell?_alloc_lt _ _ _ oV).trans ((hb.cell hl).trans hB)
 have hb0 : Below w.heap.size w (W.alloc (.cells #[.string x.f0, .int .i64 x.f1] 105)) := hb.alloc hb.size _
 show Calls Tryz.prog 160 #[.agg #[.string x.f0, .int .i64 x.f1], .pointer (some ⟨B, 0, none⟩)] W _
 clear hb hB hl
 go_enter Tryz.func160, Tryz.ntmps160
 go_wp2
 go_ret
 exact ⟨by first | rfl | (simp; done), hb0⟩
def Q8 (l : List yh) (n : ByteArray) : Bool := l.any fun x => x.f0.toList == n.toList
def Yl.f (_ : ByteArray) (_ : Bool) (_ : Int) (zM : List yh) (_ : List qy) (_ : List qc) (a1 : ByteArray) : Option Bool := if zM.length ≤ 1000000000 then some (Q8 zM a1) else none
theorem Yl.calls (yH : ByteArray) (yM : Bool) (yI : Int) (qp : Option Addr) (qA : Nat) (zM : List yh) (qC : Option Addr) (qD : Nat) (yw : List qy) (qE : Option Addr) (qF : Nat) (yj : List qc) (a1 : ByteArray) (r : Bool) (w : World) (wO : Kd.C qH w qp zM.length zM) (_ : zM.length ≤ qA) (_ : Kd.C vw w qC yw.length yw) (_ : yw.length ≤ qD) (_ : Kd.C vC w qE yj.length yj) (_ : yj.length ≤ qF) (_ : GW w) (h : Yl.f yH yM yI zM yw yj a1 = some r) :
  Calls Tryz.prog 135 #[.agg #[.string yH, .bool yM, .int .i64 yI, .slice qp zM.length qA, .slice qC yw.length qD, .slice qE yj.length qF], .string a1] w fun e w' => e = .returned (.bool r) ∧ Below w.heap.size w w' := by
 unfold Yl.f at h
 split at h
 ·rename_i hl
  obtain rfl := Option.some.inj h
  have hb0 : Below w.heap.size w ((w.alloc (.cells #[.string yH, .bool yM, .int .i64 yI, .slice qp zM.length qA, .slice qC yw.length qD, .slice qE yj.length qF] 60)).alloc (.cells #[.string a1] 9)) := ((Below.refl _ w).alloc (Nat.le_refl _) _).alloc (by simp) _
  have hcell : ((w.alloc (.cells #[.string yH, .bool yM, .int .i64 yI, .slice qp zM.length qA, .slice qC yw.length qD, .slice qE yj.length qF] 60)).alloc (.cells #[.string a1] 9)).cell? ⟨w.heap.size + 1, 0, none⟩ = some (.string a1) := by simp
  have hs := dU qp qA zM _ (Kd.zh wO hb0) hl (fun x => x.f0.toList == a1.toList) 160 #[.pointer (some ⟨w.heap.size + 1, 0, none⟩)] (Zl Tryz.func160 (by kernel_rfl) rfl) (oh (w.heap.size + 1) a1 _ hcell)
  unfold Q8
  generalize (zM.any fun x => x.f0.toList == a1.toList) = R at hs ⊢
  clear hcell wO hl h
  go_enter Tryz.func135, Tryz.ntmps135
  go_wp2_with fail
  refine hs.mono ?_; rintro e w2 ⟨rfl, hb2⟩
  go_wp2
  go_ret
  exact ⟨rfl, hb0.trans (hb2.mono hb0.size)⟩
 ·cases h
end Go.Proofs.YtggifbbiiickmaaGreatDoor
namespace Go.Proofs.YtggifbbiiickmaaGreatDoor.PX
open Go.RowKit Go.Proofs.zk.ze Go.Proofs.zk.yc Go.Proofs.zk.yt
attribute [local go_sem] wo wu Zk Zy jd je wB wC   -- for this text's walks alone
set_option linter.unusedVariables false
set_option linter.unusedSimpArgs false
def wQ.f (yH : ByteArray) (yM : Bool) (yI : Int) (zM : List (yh)) (yw : List (qy)) (yj : List (qc)) (a1 : Int) : Option (Bool) := if a1 ≥ 1 then (if a1 ≤ 1000 then ((jX.f yH yM yI zM yw yj).bind fun Wn => (some Wn)) else (some false)) else (some false)
set_option maxHeartbeats 8000000 in
set_option maxRecDepth 100000 in
theorem wQ.calls (yH : ByteArray) (yM : Bool) (yI : Int) (qp : Option Addr) (qA : Nat) (zM : List (yh)) (qC : Option Addr) (qD : Nat) (yw : List (qy)) (qE : Option Addr) (qF : Nat) (yj : List (qc)) (a1 : Int) (r : Bool) (w : World) (wO : Kd.C qH w qp zM.length zM) (YX : zM.length ≤ qA) (YJ : Kd.C vw w qC yw.length yw) (YV : yw.length ≤ qD) (YK : Kd.C vC w qE yj.length yj) (YW : yj.length ≤ qF) (hG : GW w) (h : wQ.f yH yM yI zM yw yj a1 = some r) :
  Calls Tryz.prog 62 #[.agg #[.string yH, .bool yM, .int .i64 yI, .slice qp zM.length qA, .slice qC yw.length qD, .slice qE yj.length qF], .int .i64 a1] w fun e w' => e = .returned (.bool r) ∧ Below w.heap.size w w' := by
 have zzP := Tryz.underlying60
 have HG := zx.mk hG
 clear hG
 have YR := zx.mk wO
 have XM := zx.mk YX
 clear wO YX
 have XO := zx.mk YJ
 have XP := zx.mk YV
 clear YJ YV
 have XR := zx.mk YK
 have XT := zx.mk YW
 clear YK YW
 have HB := zx.mk (Below.refl w.heap.size w)
 have H : (if a1 ≥ 1 then (if a1 ≤ 1000 then ((jX.f yH yM yI zM yw yj).bind fun Wn => (some Wn)) else (some false)) else (some false)) = some r := h
 clear h
 by_cases c3 : a1 ≥ 1
 ·rw [if_pos c3] at H
  have Qq : decide (1 ≤ a1) = true := decide_eq_true c3
  clear c3
  by_cases c4 : a1 ≤ 1000
  ·rw [if_pos c4] at H
   have VN : decide (a1 ≤ 1000) = true := decide_eq_true c4
   clear c4
   replace H := Option.bind_eq_some_iff.mp H
   obtain ⟨Wn, A50, H⟩ := H
   replace H : (some Wn) = some r := H
   have A5 := zx.mk A50
   clear A50
   obtain rfl := Option.some.inj H
   go_enter Tryz.func62, Tryz.ntmps62
   go_wp2_with (first | ((with_reducible refine qb (N := 2) rfl ?_); refine qM ?hg (N := 2) ?hd (cs := #[.string yH, .bool yM, .int .i64 yI, .slice qp zM.length qA, .slice qC yw.length qD, .slice qE yj.length qF]) (t := 60) ?hr ?_; (case hd => rfl); (case hg => rfl); (case hr => first | (go_simp; done) | (go_simp; rfl)); intro Zd hg w6 xC hb; have zf := zx.mk (zL (zP HB.out) hb); have zl := zx.mk (xC); have zu := zx.mk ((by rw [hg]; exact (zC (zP HB.out)) : w.heap.size ≤ Zd)); have zH := zx.mk ((by rw [hg]; exact (zC (zP HB.out)) : w.heap.size ≤ Zd)); clear HB; have HB := zf; have pX := zl; have zq2 := zu; have Ke := zH; clear zf zl zu zH; clear hb xC hg; have zjM : w6.cell? ⟨Zd, 0, none⟩ = some (.string yH) := (zZ pX.out 0).trans rfl; have zjN : w6.cell? ⟨Zd, 1, none⟩ = some (.bool yM) := (zZ pX.out 1).trans rfl; have zjO : w6.cell? ⟨Zd, 2, none⟩ = some (.int .i64 yI) := (zZ pX.out 2).trans rfl; have zjP : w6.cell? ⟨Zd, 3, none⟩ = some (.slice qp zM.length qA) := (zZ pX.out 3).trans rfl; have zjR : w6.cell? ⟨Zd, 4, none⟩ = some (.slice qC yw.length qD) := (zZ pX.out 4).trans rfl; have zjS : w6.cell? ⟨Zd, 5, none⟩ = some (.slice qE yj.length qF) := (zZ pX.out 5).trans rfl; have zjT := zV pX.out 0; have zjU := zV pX.out 1; have zj0 := zV pX.out 2; have zj1 := zV pX.out 3; have zj2 := zV pX.out 4; have zj3 := zV pX.out 5) | (go_at_call 39; (with_reducible refine (jX.calls yH yM yI _ _ zM _ _ yw _ _ yj Wn _ ?qw ?qI ?xX ?xJ ?xV ?xK ?xY A5.out).mono ?_); (case qw => repeat (first | exact (Kd.zh YR.out HB.out) | (with_reducible refine Kd.zD ?_ _) | (with_reducible refine Kd.zF ?_ _) | (with_reducible refine Kd.zo ?_))); (case qI => exact XM.out); (case xX => repeat (first | exact (Kd.zh XO.out HB.out) | (with_reducible refine Kd.zD ?_ _) | (with_reducible refine Kd.zF ?_ _) | (with_reducible refine Kd.zo ?_))); (case xJ => exact XP.out); (case xV => repeat (first | exact (Kd.zh XR.out HB.out) | (with_reducible refine Kd.zD ?_ _) | (with_reducible refine Kd.zF ?_ _) | (with_reducible refine Kd.zo ?_))); (case xK => exact XT.out); (case xY => exact GW.under HG.out (zP HB.out)); rintro e w8 ⟨rfl, hb⟩; have zf := zx.mk (zN (g := Zd) (o := .cells #[.string yH, .bool yM, .int .i64 yI, .slice qp zM.length qA, .slice qC yw.length qD, .slice qE yj.length qF] 60 (0, 0)) (ji pX.out) hb); have zl := zx.mk (zL (zP HB.out) hb); clear pX; clear HB; have pX := zf; have HB := zl; clear zf zl; (try clear hb); (try clear hb2); (try clear hk); (try clear hi)))
   go_ret
   exact ⟨by first | rfl | (simp [zR, zS] <;> rfl) | (simp [*, zR, zS] <;> rfl), by repeat (first | (with_reducible first | exact HB.out | apply yA | apply yZ | apply yx | refine xL ?_ Ke.out) | exact HB.out)⟩
  ·rw [if_neg c4] at H
   have VN : decide (a1 ≤ 1000) = false := decide_eq_false c4
   clear c4
   obtain rfl := Option.some.inj H
   go_enter Tryz.func62, Tryz.ntmps62
   go_wp2_with (first | ((with_reducible refine qb (N := 2) rfl ?_); refine qM ?hg (N := 2) ?hd (cs := #[.string yH, .bool yM, .int .i64 yI, .slice qp zM.length qA, .slice qC yw.length qD, .slice qE yj.length qF]) (t := 60) ?hr ?_; (case hd => rfl); (case hg => rfl); (case hr => first | (go_simp; done) | (go_simp; rfl)); intro Zd hg w9 xC hb; have zf := zx.mk (zL (zP HB.out) hb); have zl := zx.mk (xC); have zu := zx.mk ((by rw [hg]; exact (zC (zP HB.out)) : w.heap.size ≤ Zd)); have zH := zx.mk ((by rw [hg]; exact (zC (zP HB.out)) : w.heap.size ≤ Zd)); clear HB; have HB := zf; have pX := zl; have zq2 := zu; have Ke := zH; clear zf zl zu zH; clear hb xC hg))
   go_ret
   exact ⟨by first | rfl | (simp [zR, zS] <;> rfl) | (simp [*, zR, zS] <;> rfl), by repeat (first | (with_reducible first | exact HB.out | apply yA | apply yZ | apply yx | refine xL ?_ Ke.out) | exact HB.out)⟩
 ·rw [if_neg c3] at H
  have Qq : decide (1 ≤ a1) = false := decide_eq_false c3
  clear c3
  obtain rfl := Option.some.inj H
  go_enter Tryz.func62, Tryz.ntmps62
  go_wp2_with (first | ((with_reducible refine qb (N := 2) rfl ?_); refine qM ?hg (N := 2) ?hd (cs := #[.string yH, .bool yM, .int .i64 yI, .slice qp zM.length qA, .slice qC yw.length qD, .slice qE yj.length qF]) (t := 60) ?hr ?_; (case hd => rfl); (case hg => rfl); (case hr => first | (go_simp; done) | (go_simp; rfl)); intro Zd hg KW xC hb; have zf := zx.mk (zL (zP HB.out) hb); have zl := zx.mk (xC); have zu := zx.mk ((by rw [hg]; exact (zC (zP HB.out)) : w.heap.size ≤ Zd)); have zH := zx.mk ((by rw [hg]; exact (zC (zP HB.out)) : w.heap.size ≤ Zd)); clear HB; have HB := zf; have pX := zl; have zq2 := zu; have Ke := zH; clear zf zl zu zH; clear hb xC hg))
  go_ret
  exact ⟨by first | rfl | (simp [zR, zS] <;> rfl) | (simp [*, zR, zS] <;> rfl), by repeat (first | (with_reducible first | exact HB.out | apply yA | apply yZ | apply yx | refine xL ?_ Ke.out) | exact HB.out)⟩
def Z0.f (a0 : Int) (a1 : Int) : Option (Int) := if a0 < 0 then (if a1 = 0 then (none) else (some (wrap64 (-(wrap64 (Int.tdiv (wrap64 ((wrap64 ((wrap64 (-a0)) + a1)) - 1)) a1)))))) else (if a1 = 0 then (none) else (some (wrap64 (Int.tdiv a0 a1))))
set_option maxHeartbeats 8000000 in
set_option maxRecDepth 100000 in
theorem Z0.calls (a0 : Int) (a1 : Int) (r : Int) (w : World) (h : Z0.f a0 a1 = some r) :
  Calls Tryz.prog 117 #[.int .i64 a0, .int .i64 a1] w fun e w' => e = .returned (.int .i64 r) ∧ qY w w' := by
 have H : (if a0 < 0 then (if a1 = 0 then (none) else (some (wrap64 (-(wrap64 (Int.tdiv (wrap64 ((wrap64 ((wrap64 (-a0)) + a1)) - 1)) a1)))))) else (if a1 = 0 then (none) else (some (wrap64 (Int.tdiv a0 a1))))) = some r := h
 clear h
 by_cases c3 : a0 < 0
 ·rw [if_pos c3] at H
  have Qq : decide (a0 < 0) = true := decide_eq_true c3
  clear c3
  by_cases c4 : a1 = 0
  ·rw [if_pos c4] at H
   exact absurd H (by simp)
  ·rw [if_neg c4] at H
   have VN : (a1 == 0) = false := beq_eq_false_iff_ne.mpr c4
   have zz3 : (a1 != 0) = true := bne_iff_ne.mpr c4
   obtain rfl := Option.some.inj H
   go_enter Tryz.func117, Tryz.ntmps117
   go_wp2
   go_ret
   exact ⟨by first | rfl | (simp; done) | (simp [*]; done), by repeat (first | exact qY.refl _ | apply qY.step)⟩
 ·rw [if_neg c3] at H
  have Qq : decide (a0 < 0) = false := decide_eq_false c3
  clear c3
  by_cases c5 : a1 = 0
  ·rw [if_pos c5] at H
   exact absurd H (by simp)
  ·rw [if_neg c5] at H
   have Ub : (a1 == 0) = false := beq_eq_false_iff_ne.mpr c5
   have JG : (a1 != 0) = true := bne_iff_ne.mpr c5
   obtain rfl := Option.some.inj H
   go_enter Tryz.func117, Tryz.ntmps117
   go_wp2
   go_ret
   exact ⟨by first | rfl | (simp; done) | (simp [*]; done), by repeat (first | exact qY.refl _ | apply qY.step)⟩
def uH.f (a0 : Int) (a1 : Int) : Option (Int) := (Z0.f (wrap64 ((wrap64 (10 * a1)) * a0)) 1000).bind fun Wo => (some Wo)
set_option maxHeartbeats 8000000 in
set_option maxRecDepth 100000 in
theorem uH.calls (a0 : Int) (a1 : Int) (r : Int) (w : World) (h : uH.f a0 a1 = some r) :
  Calls Tryz.prog 63 #[.int .i64 a0, .int .i64 a1] w fun e w' => e = .returned (.int .i64 r) ∧ qY w w' := by
 have H : ((Z0.f (wrap64 ((wrap64 (10 * a1)) * a0)) 1000).bind fun Wo => (some Wo)) = some r := h
 clear h
 replace H := Option.bind_eq_some_iff.mp H
 obtain ⟨Wo, l9, H⟩ := H
 replace H : (some Wo) = some r := H
 have A3 := zx.mk l9
 clear l9
 obtain rfl := Option.some.inj H
 go_enter Tryz.func63, Tryz.ntmps63
 go_wp2_with (first | ((with_reducible refine yg (f := 117) rfl ?_); refine jf (some 9) Tryz.func117 #[.int .i64 (wrap64 ((wrap64 (10 * a1)) * a0)), .int .i64 1000] ?_; (with_reducible refine (Z0.calls (wrap64 ((wrap64 (10 * a1)) * a0)) 1000 Wo _ A3.out).mono ?_); rintro e w' ⟨rfl, ⟨nd, rfl⟩⟩; refine ⟨_, rfl, ?_⟩))
 go_ret
 exact ⟨by first | rfl | (simp; done) | (simp [*]; done), by repeat (first | exact qY.refl _ | apply qY.step)⟩
end Go.Proofs.YtggifbbiiickmaaGreatDoor.PX
namespace Go.Proofs.YtggifbbiiickmaaGreatDoor.PX
open Go.RowKit Go.Proofs.zk.ze Go.Proofs.zk.yc Go.Proofs.zk.yt
attribute [local go_sem] wo wu Zk Zy jd je wB wC   -- for this text's walks alone
set_option linter.unusedVariables false
set_option linter.unusedSimpArgs false
def uI.f (yH : ByteArray) (yM : Bool) (yI : Int) (zM : List (yh)) (yw : List (qy)) (yj : List (qc)) (a1 : ByteArray) (a2 : Int) : Option (Int × Int) := (wQ.f yH yM yI zM yw yj a2).bind fun Wp => (if Wp = true then ((uK.f yH yM yI zM yw yj a1).bind fun kH => (if kH.2 = true then (if 0 ≤ kH.1 then (if kH.1 < (zM.length : Int) then ((uH.f ((qZ zM kH.1).f1) a2).bind fun YS => (some (YS, 0))) else (none)) else (none)) else (some (0, 3)))) else (some (0, 1)))
set_option maxHeartbeats 8000000 in
set_option maxRecDepth 100000 in
theorem uI.calls (yH : ByteArray) (yM : Bool) (yI : Int) (qp : Option Addr) (qA : Nat) (zM : List (yh)) (qC : Option Addr) (qD : Nat) (yw : List (qy)) (qE : Option Addr) (qF : Nat) (yj : List (qc)) (a1 : ByteArray) (a2 : Int) (r1 : Int) (r2 : Int) (w : World) (wO : Kd.C qH w qp zM.length zM) (YX : zM.length ≤ qA) (YJ : Kd.C vw w qC yw.length yw) (YV : yw.length ≤ qD) (YK : Kd.C vC w qE yj.length yj) (YW : yj.length ≤ qF) (hG : GW w) (h : uI.f yH yM yI zM yw yj a1 a2 = some (r1, r2)) :
  Calls Tryz.prog 22 #[.agg #[.string yH, .bool yM, .int .i64 yI, .slice qp zM.length qA, .slice qC yw.length qD, .slice qE yj.length qF], .string a1, .int .i64 a2] w fun e w' => e = .returned (.tuple #[.int .i64 r1, .int .i64 r2]) ∧ Below w.heap.size w w' := by
 have zzP := Tryz.underlying60
 have HG := zx.mk hG
 clear hG
 have YR := zx.mk wO
 have XM := zx.mk YX
 clear wO YX
 have XO := zx.mk YJ
 have XP := zx.mk YV
 clear YJ YV
 have XR := zx.mk YK
 have XT := zx.mk YW
 clear YK YW
 have HB := zx.mk (Below.refl w.heap.size w)
 have H : ((wQ.f yH yM yI zM yw yj a2).bind fun Wp => (if Wp = true then ((uK.f yH yM yI zM yw yj a1).bind fun kH => (if kH.2 = true then (if 0 ≤ kH.1 then (if kH.1 < (zM.length : Int) then ((uH.f ((qZ zM kH.1).f1) a2).bind fun YS => (some (YS, 0))) else (none)) else (none)) else (some (0, 3)))) else (some (0, 1)))) = some (r1, r2) := h
 clear h
 replace H := Option.bind_eq_some_iff.mp H
 obtain ⟨Wp, bB, H⟩ := H
 replace H : (if Wp = true then ((uK.f yH yM yI zM yw yj a1).bind fun kH => (if kH.2 = true then (if 0 ≤ kH.1 then (if kH.1 < (zM.length : Int) then ((uH.f ((qZ zM kH.1).f1) a2).bind fun YS => (some (YS, 0))) else (none)) else (none)) else (some (0, 3)))) else (some (0, 1))) = some (r1, r2) := H
 have A4 := zx.mk bB
 clear bB
 by_cases c5 : Wp = true
 ·subst c5
  have H1 : ((uK.f yH yM yI zM yw yj a1).bind fun kH => (if kH.2 = true then (if 0 ≤ kH.1 then (if kH.1 < (zM.length : Int) then ((uH.f ((qZ zM kH.1).f1) a2).bind fun YS => (some (YS, 0))) else (none)) else (none)) else (some (0, 3)))) = some (r1, r2) := by rw [if_pos rfl] at H; exact H
  clear H
  have H := H1
  clear H1
  replace H := Option.bind_eq_some_iff.mp H
  obtain ⟨⟨ZI, zj4⟩, A60, H⟩ := H
  replace H : (if zj4 = true then (if 0 ≤ ZI then (if ZI < (zM.length : Int) then ((uH.f ((qZ zM ZI).f1) a2).bind fun YS => (some (YS, 0))) else (none)) else (none)) else (some (0, 3))) = some (r1, r2) := H
  have A6 := zx.mk A60
  clear A60
  by_cases c7 : zj4 = true
  ·subst c7
   have H1 : (if 0 ≤ ZI then (if ZI < (zM.length : Int) then ((uH.f ((qZ zM ZI).f1) a2).bind fun YS => (some (YS, 0))) else (none)) else (none)) = some (r1, r2) := by rw [if_pos rfl] at H; exact H
   clear H
   have H := H1
   clear H1
   by_cases c8 : 0 ≤ ZI
   ·rw [if_pos c8] at H
    have eF : decide (0 ≤ ZI) = true := decide_eq_true c8
    clear c8
    by_cases c9 : ZI < (zM.length : Int)
    ·rw [if_pos c9] at H
     have zjC : decide (ZI < (zM.length : Int)) = true := decide_eq_true c9
     clear c9
     replace H := Option.bind_eq_some_iff.mp H
     obtain ⟨YS, zj5, H⟩ := H
     replace H : (some (YS, 0)) = some (r1, r2) := H
     have A10 := zx.mk zj5
     clear zj5
     simp only [Option.some.injEq, Prod.mk.injEq] at H
     obtain ⟨rfl, rfl⟩ := H
     go_enter Tryz.func22, Tryz.ntmps22
     go_wp2_with (first | ((with_reducible refine qb (N := 3) rfl ?_); refine qM ?hg (N := 3) ?hd (cs := #[.string yH, .bool yM, .int .i64 yI, .slice qp zM.length qA, .slice qC yw.length qD, .slice qE yj.length qF]) (t := 60) ?hr ?_; (case hd => rfl); (case hg => rfl); (case hr => first | (go_simp; done) | (go_simp; rfl)); intro ql hg VX xC hb; have zf := zx.mk (zL (zP HB.out) hb); have zl := zx.mk (xC); have zu := zx.mk ((by rw [hg]; exact (zC (zP HB.out)) : w.heap.size ≤ ql)); have zH := zx.mk ((by rw [hg]; exact (zC (zP HB.out)) : w.heap.size ≤ ql)); clear HB; have HB := zf; have zT := zl; have zq3 := zu; have Kg := zH; clear zf zl zu zH; clear hb xC hg; have Ws : VX.cell? ⟨ql, 0, none⟩ = some (.string yH) := (zZ zT.out 0).trans rfl; have Wt : VX.cell? ⟨ql, 1, none⟩ = some (.bool yM) := (zZ zT.out 1).trans rfl; have Wu : VX.cell? ⟨ql, 2, none⟩ = some (.int .i64 yI) := (zZ zT.out 2).trans rfl; have WA : VX.cell? ⟨ql, 3, none⟩ = some (.slice qp zM.length qA) := (zZ zT.out 3).trans rfl; have zQw : VX.cell? ⟨ql, 4, none⟩ = some (.slice qC yw.length qD) := (zZ zT.out 4).trans rfl; have zQZ : VX.cell? ⟨ql, 5, none⟩ = some (.slice qE yj.length qF) := (zZ zT.out 5).trans rfl; have WB := zV zT.out 0; have WC := zV zT.out 1; have WE := zV zT.out 2; have WG := zV zT.out 3; have zQQ := zV zT.out 4; have zQX := zV zT.out 5) | ((with_reducible refine yg (f := 62) rfl ?_); refine jf (some 12) Tryz.func62 #[.agg #[.string yH, .bool yM, .int .i64 yI, .slice qp zM.length qA, .slice qC yw.length qD, .slice qE yj.length qF], .int .i64 a2] ?_; (with_reducible refine (wQ.calls yH yM yI _ _ zM _ _ yw _ _ yj a2 true _ ?qw ?qI ?xX ?xJ ?xV ?xK ?xY A4.out).mono ?_); (case qw => repeat (first | exact (Kd.zh YR.out HB.out) | (with_reducible refine Kd.zD ?_ _) | (with_reducible refine Kd.zF ?_ _) | (with_reducible refine Kd.zo ?_))); (case qI => exact XM.out); (case xX => repeat (first | exact (Kd.zh XO.out HB.out) | (with_reducible refine Kd.zD ?_ _) | (with_reducible refine Kd.zF ?_ _) | (with_reducible refine Kd.zo ?_))); (case xJ => exact XP.out); (case xV => repeat (first | exact (Kd.zh XR.out HB.out) | (with_reducible refine Kd.zD ?_ _) | (with_reducible refine Kd.zF ?_ _) | (with_reducible refine Kd.zo ?_))); (case xK => exact XT.out); (case xY => exact GW.under HG.out (zP HB.out)); rintro e Kh ⟨rfl, hb⟩; refine ⟨_, rfl, ?_⟩; have zf := zx.mk (zN (g := ql) (o := .cells #[.string yH, .bool yM, .int .i64 yI, .slice qp zM.length qA, .slice qC yw.length qD, .slice qE yj.length qF] 60 (0, 0)) (ji zT.out) hb); have zl := zx.mk (zL (zP HB.out) hb); clear zT; clear HB; have zT := zf; have HB := zl; clear zf zl; (try clear hb); (try clear hb2); (try clear hk); (try clear hi); have zQJ : Kh.cell? ⟨ql, 0, none⟩ = some (.string yH) := (zZ zT.out 0).trans rfl; have zQV : Kh.cell? ⟨ql, 1, none⟩ = some (.bool yM) := (zZ zT.out 1).trans rfl; have zQK : Kh.cell? ⟨ql, 2, none⟩ = some (.int .i64 yI) := (zZ zT.out 2).trans rfl; have zQY : Kh.cell? ⟨ql, 3, none⟩ = some (.slice qp zM.length qA) := (zZ zT.out 3).trans rfl; have zQW : Kh.cell? ⟨ql, 4, none⟩ = some (.slice qC yw.length qD) := (zZ zT.out 4).trans rfl; have zQa : Kh.cell? ⟨ql, 5, none⟩ = some (.slice qE yj.length qF) := (zZ zT.out 5).trans rfl; have zQb := zV zT.out 0; have zQc := zV zT.out 1; have zQd := zV zT.out 2; have zQe := zV zT.out 3; have zQf := zV zT.out 4; have zQg := zV zT.out 5) | ((with_reducible refine yg (f := 64) rfl ?_); refine jf (some 17) Tryz.func64 #[.agg #[.string yH, .bool yM, .int .i64 yI, .slice qp zM.length qA, .slice qC yw.length qD, .slice qE yj.length qF], .string a1] ?_; (with_reducible refine (uK.calls yH yM yI _ _ zM _ _ yw _ _ yj a1 ZI true _ ?qw ?qI ?xX ?xJ ?xV ?xK ?xY A6.out).mono ?_); (case qw => repeat (first | exact (Kd.zh YR.out HB.out) | (with_reducible refine Kd.zD ?_ _) | (with_reducible refine Kd.zF ?_ _) | (with_reducible refine Kd.zo ?_))); (case qI => exact XM.out); (case xX => repeat (first | exact (Kd.zh XO.out HB.out) | (with_reducible refine Kd.zD ?_ _) | (with_reducible refine Kd.zF ?_ _) | (with_reducible refine Kd.zo ?_))); (case xJ => exact XP.out); (case xV => repeat (first | exact (Kd.zh XR.out HB.out) | (with_reducible refine Kd.zD ?_ _) | (with_reducible refine Kd.zF ?_ _) | (with_reducible refine Kd.zo ?_))); (case xK => exact XT.out); (case xY => exact GW.under HG.out (zP HB.out)); rintro e Zt ⟨rfl, hb⟩; refine ⟨_, rfl, ?_⟩; have zf := zx.mk (zN (g := ql) (o := .cells #[.string yH, .bool yM, .int .i64 yI, .slice qp zM.length qA, .slice qC yw.length qD, .slice qE yj.length qF] 60 (0, 0)) (ji zT.out) hb); have zl := zx.mk (zL (zP HB.out) hb); clear zT; clear HB; have zT := zf; have HB := zl; clear zf zl; (try clear hb); (try clear hb2); (try clear hk); (try clear hi); have zxs : Zt.cell? ⟨ql, 0, none⟩ = some (.string yH) := (zZ zT.out 0).trans rfl; have zxt : Zt.cell? ⟨ql, 1, none⟩ = some (.bool yM) := (zZ zT.out 1).trans rfl; have zxu : Zt.cell? ⟨ql, 2, none⟩ = some (.int .i64 yI) := (zZ zT.out 2).trans rfl; have zxA : Zt.cell? ⟨ql, 3, none⟩ = some (.slice qp zM.length qA) := (zZ zT.out 3).trans rfl; have zxB : Zt.cell? ⟨ql, 4, none⟩ = some (.slice qC yw.length qD) := (zZ zT.out 4).trans rfl; have zxC : Zt.cell? ⟨ql, 5, none⟩ = some (.slice qE yj.length qF) := (zZ zT.out 5).trans rfl; have zxD := zV zT.out 0; have zxE := zV zT.out 1; have zxF := zV zT.out 2; have zxG := zV zT.out 3; have zxH := zV zT.out 4; have zxI := zV zT.out 5; have zz4 : 0 ≤ (ZI : Int) := of_decide_eq_true (by first | (with_reducible assumption) | assumption); have zz5 : ZI < (zM.length : Int) := of_decide_eq_true (by first | (with_reducible assumption) | assumption); obtain ⟨zJC, zwX, WH, WI⟩ := VZ YR.out ZI zz4 zz5; cases zwX; replace WH := (HB.out.cell (World.block_lt_of_cell? w _ WH)).trans WH; replace WI := (HB.out.cell (World.block_lt_of_cell? w _ WI)).trans WI; replace zz4 := eq_true zz4; replace zz5 := eq_true zz5) | ((with_reducible refine yg (f := 63) rfl ?_); refine jf (some 29) Tryz.func63 #[.int .i64 ((qZ zM ZI).f1), .int .i64 a2] ?_; (with_reducible refine (uH.calls ((qZ zM ZI).f1) a2 YS _ A10.out).mono ?_); rintro e w' ⟨rfl, ⟨nd, rfl⟩⟩; refine ⟨_, rfl, ?_⟩))
     go_ret2
     exact ⟨by first | rfl | (simp [zR, zS] <;> rfl) | (simp [*, zR, zS] <;> rfl), by repeat (first | (with_reducible first | exact HB.out | apply yA | apply yZ | apply yx | refine xL ?_ Kg.out) | exact HB.out)⟩
    ·rw [if_neg c9] at H
     exact absurd H (by simp)
   ·rw [if_neg c8] at H
    exact absurd H (by simp)
  ·replace c7 := Bool.eq_false_iff.mpr c7
   subst c7
   have H1 : (some (0, 3)) = some (r1, r2) := by rw [if_neg (show ¬ (false = true) by decide)] at H; exact H
   clear H
   have H := H1
   clear H1
   simp only [Option.some.injEq, Prod.mk.injEq] at H
   obtain ⟨rfl, rfl⟩ := H
   go_enter Tryz.func22, Tryz.ntmps22
   go_wp2_with (first | ((with_reducible refine qb (N := 3) rfl ?_); refine qM ?hg (N := 3) ?hd (cs := #[.string yH, .bool yM, .int .i64 yI, .slice qp zM.length qA, .slice qC yw.length qD, .slice qE yj.length qF]) (t := 60) ?hr ?_; (case hd => rfl); (case hg => rfl); (case hr => first | (go_simp; done) | (go_simp; rfl)); intro ql hg Js xC hb; have zf := zx.mk (zL (zP HB.out) hb); have zl := zx.mk (xC); have zu := zx.mk ((by rw [hg]; exact (zC (zP HB.out)) : w.heap.size ≤ ql)); have zH := zx.mk ((by rw [hg]; exact (zC (zP HB.out)) : w.heap.size ≤ ql)); clear HB; have HB := zf; have zT := zl; have zq3 := zu; have Kg := zH; clear zf zl zu zH; clear hb xC hg; have zQh : Js.cell? ⟨ql, 0, none⟩ = some (.string yH) := (zZ zT.out 0).trans rfl; have zQi : Js.cell? ⟨ql, 1, none⟩ = some (.bool yM) := (zZ zT.out 1).trans rfl; have zQl : Js.cell? ⟨ql, 2, none⟩ = some (.int .i64 yI) := (zZ zT.out 2).trans rfl; have zQm : Js.cell? ⟨ql, 3, none⟩ = some (.slice qp zM.length qA) := (zZ zT.out 3).trans rfl; have zQn : Js.cell? ⟨ql, 4, none⟩ = some (.slice qC yw.length qD) := (zZ zT.out 4).trans rfl; have zQo : Js.cell? ⟨ql, 5, none⟩ = some (.slice qE yj.length qF) := (zZ zT.out 5).trans rfl; have zQp := zV zT.out 0; have zQr := zV zT.out 1; have zQs := zV zT.out 2; have zQt := zV zT.out 3; have zQu := zV zT.out 4; have zQA := zV zT.out 5) | ((with_reducible refine yg (f := 62) rfl ?_); refine jf (some 12) Tryz.func62 #[.agg #[.string yH, .bool yM, .int .i64 yI, .slice qp zM.length qA, .slice qC yw.length qD, .slice qE yj.length qF], .int .i64 a2] ?_; (with_reducible refine (wQ.calls yH yM yI _ _ zM _ _ yw _ _ yj a2 true _ ?qw ?qI ?xX ?xJ ?xV ?xK ?xY A4.out).mono ?_); (case qw => repeat (first | exact (Kd.zh YR.out HB.out) | (with_reducible refine Kd.zD ?_ _) | (with_reducible refine Kd.zF ?_ _) | (with_reducible refine Kd.zo ?_))); (case qI => exact XM.out); (case xX => repeat (first | exact (Kd.zh XO.out HB.out) | (with_reducible refine Kd.zD ?_ _) | (with_reducible refine Kd.zF ?_ _) | (with_reducible refine Kd.zo ?_))); (case xJ => exact XP.out); (case xV => repeat (first | exact (Kd.zh XR.out HB.out) | (with_reducible refine Kd.zD ?_ _) | (with_reducible refine Kd.zF ?_ _) | (with_reducible refine Kd.zo ?_))); (case xK => exact XT.out); (case xY => exact GW.under HG.out (zP HB.out)); rintro e bE ⟨rfl, hb⟩; refine ⟨_, rfl, ?_⟩; have zf := zx.mk (zN (g := ql) (o := .cells #[.string yH, .bool yM, .int .i64 yI, .slice qp zM.length qA, .slice qC yw.length qD, .slice qE yj.length qF] 60 (0, 0)) (ji zT.out) hb); have zl := zx.mk (zL (zP HB.out) hb); clear zT; clear HB; have zT := zf; have HB := zl; clear zf zl; (try clear hb); (try clear hb2); (try clear hk); (try clear hi); have zQB : bE.cell? ⟨ql, 0, none⟩ = some (.string yH) := (zZ zT.out 0).trans rfl; have zQC : bE.cell? ⟨ql, 1, none⟩ = some (.bool yM) := (zZ zT.out 1).trans rfl; have zQD : bE.cell? ⟨ql, 2, none⟩ = some (.int .i64 yI) := (zZ zT.out 2).trans rfl; have zQE : bE.cell? ⟨ql, 3, none⟩ = some (.slice qp zM.length qA) := (zZ zT.out 3).trans rfl; have zQF : bE.cell? ⟨ql, 4, none⟩ = some (.slice qC yw.length qD) := (zZ zT.out 4).trans rfl; have zQG : bE.cell? ⟨ql, 5, none⟩ = some (.slice qE yj.length qF) := (zZ zT.out 5).trans rfl; have zQH := zV zT.out 0; have zQI := zV zT.out 1; have zQL := zV zT.out 2; have zQM := zV zT.out 3; have zQN := zV zT.out 4; have zQO := zV zT.out 5) | ((with_reducible refine yg (f := 64) rfl ?_); refine jf (some 17) Tryz.func64 #[.agg #[.string yH, .bool yM, .int .i64 yI, .slice qp zM.length qA, .slice qC yw.length qD, .slice qE yj.length qF], .string a1] ?_; (with_reducible refine (uK.calls yH yM yI _ _ zM _ _ yw _ _ yj a1 ZI false _ ?qw ?qI ?xX ?xJ ?xV ?xK ?xY A6.out).mono ?_); (case qw => repeat (first | exact (Kd.zh YR.out HB.out) | (with_reducible refine Kd.zD ?_ _) | (with_reducible refine Kd.zF ?_ _) | (with_reducible refine Kd.zo ?_))); (case qI => exact XM.out); (case xX => repeat (first | exact (Kd.zh XO.out HB.out) | (with_reducible refine Kd.zD ?_ _) | (with_reducible refine Kd.zF ?_ _) | (with_reducible refine Kd.zo ?_))); (case xJ => exact XP.out); (case xV => repeat (first | exact (Kd.zh XR.out HB.out) | (with_reducible refine Kd.zD ?_ _) | (with_reducible refine Kd.zF ?_ _) | (with_reducible refine Kd.zo ?_))); (case xK => exact XT.out); (case xY => exact GW.under HG.out (zP HB.out)); rintro e w21 ⟨rfl, hb⟩; refine ⟨_, rfl, ?_⟩; have zf := zx.mk (zN (g := ql) (o := .cells #[.string yH, .bool yM, .int .i64 yI, .slice qp zM.length qA, .slice qC yw.length qD, .slice qE yj.length qF] 60 (0, 0)) (ji zT.out) hb); have zl := zx.mk (zL (zP HB.out) hb); clear zT; clear HB; have zT := zf; have HB := zl; clear zf zl; (try clear hb); (try clear hb2); (try clear hk); (try clear hi)))
   go_ret2
   exact ⟨by first | rfl | (simp [zR, zS] <;> rfl) | (simp [*, zR, zS] <;> rfl), by repeat (first | (with_reducible first | exact HB.out | apply yA | apply yZ | apply yx | refine xL ?_ Kg.out) | exact HB.out)⟩
 ·replace c5 := Bool.eq_false_iff.mpr c5
  subst c5
  have H1 : (some (0, 1)) = some (r1, r2) := by rw [if_neg (show ¬ (false = true) by decide)] at H; exact H
  clear H
  have H := H1
  clear H1
  simp only [Option.some.injEq, Prod.mk.injEq] at H
  obtain ⟨rfl, rfl⟩ := H
  go_enter Tryz.func22, Tryz.ntmps22
  go_wp2_with (first | ((with_reducible refine qb (N := 3) rfl ?_); refine qM ?hg (N := 3) ?hd (cs := #[.string yH, .bool yM, .int .i64 yI, .slice qp zM.length qA, .slice qC yw.length qD, .slice qE yj.length qF]) (t := 60) ?hr ?_; (case hd => rfl); (case hg => rfl); (case hr => first | (go_simp; done) | (go_simp; rfl)); intro ql hg tN xC hb; have zf := zx.mk (zL (zP HB.out) hb); have zl := zx.mk (xC); have zu := zx.mk ((by rw [hg]; exact (zC (zP HB.out)) : w.heap.size ≤ ql)); have zH := zx.mk ((by rw [hg]; exact (zC (zP HB.out)) : w.heap.size ≤ ql)); clear HB; have HB := zf; have zT := zl; have zq3 := zu; have Kg := zH; clear zf zl zu zH; clear hb xC hg; have zQP : tN.cell? ⟨ql, 0, none⟩ = some (.string yH) := (zZ zT.out 0).trans rfl; have zQR : tN.cell? ⟨ql, 1, none⟩ = some (.bool yM) := (zZ zT.out 1).trans rfl; have zQS : tN.cell? ⟨ql, 2, none⟩ = some (.int .i64 yI) := (zZ zT.out 2).trans rfl; have zQT : tN.cell? ⟨ql, 3, none⟩ = some (.slice qp zM.length qA) := (zZ zT.out 3).trans rfl; have zQU : tN.cell? ⟨ql, 4, none⟩ = some (.slice qC yw.length qD) := (zZ zT.out 4).trans rfl; have zQ0 : tN.cell? ⟨ql, 5, none⟩ = some (.slice qE yj.length qF) := (zZ zT.out 5).trans rfl; have zQ1 := zV zT.out 0; have zQ2 := zV zT.out 1; have zQ3 := zV zT.out 2; have zQ4 := zV zT.out 3; have zQ5 := zV zT.out 4; have zQ6 := zV zT.out 5) | ((with_reducible refine yg (f := 62) rfl ?_); refine jf (some 12) Tryz.func62 #[.agg #[.string yH, .bool yM, .int .i64 yI, .slice qp zM.length qA, .slice qC yw.length qD, .slice qE yj.length qF], .int .i64 a2] ?_; (with_reducible refine (wQ.calls yH yM yI _ _ zM _ _ yw _ _ yj a2 false _ ?qw ?qI ?xX ?xJ ?xV ?xK ?xY A4.out).mono ?_); (case qw => repeat (first | exact (Kd.zh YR.out HB.out) | (with_reducible refine Kd.zD ?_ _) | (with_reducible refine Kd.zF ?_ _) | (with_reducible refine Kd.zo ?_))); (case qI => exact XM.out); (case xX => repeat (first | exact (Kd.zh XO.out HB.out) | (with_reducible refine Kd.zD ?_ _) | (with_reducible refine Kd.zF ?_ _) | (with_reducible refine Kd.zo ?_))); (case xJ => exact XP.out); (case xV => repeat (first | exact (Kd.zh XR.out HB.out) | (with_reducible refine Kd.zD ?_ _) | (with_reducible refine Kd.zF ?_ _) | (with_reducible refine Kd.zo ?_))); (case xK => exact XT.out); (case xY => exact GW.under HG.out (zP HB.out)); rintro e w24 ⟨rfl, hb⟩; refine ⟨_, rfl, ?_⟩; have zf := zx.mk (zN (g := ql) (o := .cells #[.string yH, .bool yM, .int .i64 yI, .slice qp zM.length qA, .slice qC yw.length qD, .slice qE yj.length qF] 60 (0, 0)) (ji zT.out) hb); have zl := zx.mk (zL (zP HB.out) hb); clear zT; clear HB; have zT := zf; have HB := zl; clear zf zl; (try clear hb); (try clear hb2); (try clear hk); (try clear hi)))
  go_ret2
  exact ⟨by first | rfl | (simp [zR, zS] <;> rfl) | (simp [*, zR, zS] <;> rfl), by repeat (first | (with_reducible first | exact HB.out | apply yA | apply yZ | apply yx | refine xL ?_ Kg.out) | exact HB.out)⟩
end Go.Proofs.YtggifbbiiickmaaGreatDoor.PX
namespace Go.Proofs.YtggifbbiiickmaaGreatDoor.PX
open Go.RowKit Go.Proofs.zk.ze Go.Proofs.zk.yc Go.Proofs.zk.yt
attribute [local go_sem] wo wu Zk Zy jd je wB wC   -- for this text's walks alone
set_option linter.unusedVariables false
set_option linter.unusedSimpArgs false
end Go.Proofs.YtggifbbiiickmaaGreatDoor.PX
namespace Go.Proofs.YtggifbbiiickmaaGreatDoor
open Go.RowKit Go.Shelf Go.Proofs.zk.ze Go.Proofs.zk.yc Go.Proofs.zk.yt Go.Proofs.YtggifbbiiickmaaGreatDoor.PX
set_option linter.unusedSimpArgs false
set_option linter.unusedVariables false
theorem om {a : ByteArray} {c : Int} {l3 : List yh} {l4 : List qy} {l5 : List qc} (h : xk a c l3 l4 l5 = true) : l3.length ≤ 400 ∧ l4.length ≤ 50 ∧ l5.length ≤ 500 := by
 unfold xk at h
 split at h
 ·cases h
 ·rename_i q1
  simp only [Bool.or_eq_true, not_or, decide_eq_true_eq] at q1
  omega
theorem oo {a : ByteArray} {c : Int} {l3 : List yh} {l4 : List qy} {l5 : List qc} (h : xk a c l3 l4 l5 = true) : Asc l3 := by
 unfold xk at h
 split at h
 ·cases h
 ·split at h
  ·cases h
  ·rename_i q2
   simp only [Bool.or_eq_true, not_or, Bool.not_eq_true, Bool.not_eq_false'] at q2
   exact zjL q2.2
theorem eO {a : ByteArray} {c : Int} {l3 : List yh} {l4 : List qy} {l5 : List qc} (h : xk a c l3 l4 l5 = true) : ∀ x ∈ l3, 0 ≤ x.f1 ∧ x.f1 ≤ 3000 := by
 unfold xk at h
 split at h
 ·cases h
 ·split at h
  ·cases h
  ·rename_i q2
   intro x hx
   simp only [Bool.or_eq_true, not_or, Bool.not_eq_true, Bool.not_eq_false'] at q2
   have h1 := List.any_eq_false.1 q2.1 x hx
   unfold Wm QZ at h1
   simp only [Bool.or_eq_true, not_or, decide_eq_true_eq] at h1
   omega
def tO (s n : Int) : Int := 10 * (s * n) / 1000
theorem ou (s n : Int) (hs : 1 ≤ s) (hs1 : s ≤ 1000) (h0 : -3000 ≤ n) (h1 : n ≤ 3000) : -3000000 ≤ s * n ∧ s * n ≤ 3000000 := by
 have a1 := Int.mul_le_mul_of_nonneg_left h1 (by omega : (0 : Int) ≤ s)
 have a2 := Int.mul_le_mul_of_nonneg_left h0 (by omega : (0 : Int) ≤ s)
 omega
theorem oC (n s : Int) (hs : 1 ≤ s) (hs1 : s ≤ 1000) (h0 : -3000 ≤ n) (h1 : n ≤ 3000) : uH.f n s = some (tO s n) := by
 have hr := ou s n hs hs1 h0 h1
 have e : 10 * s * n = 10 * (s * n) := Int.mul_assoc _ _ _
 unfold uH.f tO
 rw [YA (x := 10 * s) (by omega) (by omega), e]
 generalize s * n = p at hr
 rw [YA (x := 10 * p) (by omega) (by omega)]
 unfold Z0.f
 by_cases hp : 10 * p < 0
 ·rw [if_pos hp, if_neg (by omega), YA (x := -(10 * p)) (by omega) (by omega), YA (x := -(10 * p) + 1000) (by omega) (by omega), YA (x := -(10 * p) + 1000 - 1) (by omega) (by omega), Int.tdiv_eq_ediv_of_nonneg (by omega), YA (x := (-(10 * p) + 1000 - 1) / 1000) (by omega) (by omega), YA (by omega) (by omega)]
  simp only [Option.bind_some]
  congr 1
  omega
 ·rw [if_neg hp, if_neg (by omega), Int.tdiv_eq_ediv_of_nonneg (by omega), YA (by omega) (by omega)]
  rfl
def Ze (s : Int) (V : Bool) : Bool := decide (1 ≤ s) && (decide (s ≤ 1000) && V)
def Ki (V : Bool) (l : List yh) (n : ByteArray) (s : Int) : Int × Int := if Ze s V = true then (match l.find? (fun x => decide (x.f0 = n)) with | some x => (tO s x.f1, 0) | none => (0, 3)) else (0, 1)
def VP (V : Bool) (l : List qc) (n m : ByteArray) (s : Int) : Int × Int := if Ze s V = true then ((match l.find? (fun x => decide (x.f0 = n) && decide (x.f1 = m)) with | some x => tO s x.f2 | none => 0), 0) else (0, 1)
def U2 (V : Bool) (l : List qy) (n m : ByteArray) : ByteArray × Bool := if V = true then (match l.find? (fun x => decide (x.f0 = n) && decide (x.f1 = m)) with | some x => (x.f2, true) | none => ((⟨#[]⟩ : ByteArray), false)) else ((⟨#[]⟩ : ByteArray), false)
theorem oD (a : ByteArray) (b : Bool) (c : Int) (l3 : List yh) (l4 : List qy) (l5 : List qc) (s : Int) (h3 : l3.length ≤ 1000000000) (h4 : l4.length ≤ 1000000000) (h5 : l5.length ≤ 1000000000) : wQ.f a b c l3 l4 l5 s = some (Ze s (xk a c l3 l4 l5)) := by
 unfold wQ.f Ze jX.f
 by_cases h1 : s ≥ 1
 ·rw [if_pos h1, decide_eq_true h1]
  by_cases h2 : s ≤ 1000
  ·rw [if_pos h2, decide_eq_true h2, if_pos ⟨h3, h4, h5⟩]; rfl
  ·rw [if_neg h2, decide_eq_false h2]; rfl
 ·rw [if_neg h1, decide_eq_false h1]; rfl
theorem gZ {s : Int} {V : Bool} (h : Ze s V = true) : 1 ≤ s ∧ s ≤ 1000 ∧ V = true := by
 unfold Ze at h
 simp only [Bool.and_eq_true, decide_eq_true_eq] at h
 exact h
theorem eP {a : ByteArray} {c : Int} {l3 : List yh} {l4 : List qy} {l5 : List qc} (h : xk a c l3 l4 l5 = true) : (0 ≤ c ∧ c ≤ 3000) ∧ ∀ x ∈ l5, -500 ≤ x.f2 ∧ x.f2 ≤ 500 := by
 unfold xk at h
 split at h
 ·cases h
 ·rename_i q1
  split at h
  ·cases h
  ·split at h
   ·cases h
   ·simp only [Bool.or_eq_true, not_or, decide_eq_true_eq, QZ] at q1
    rw [Bool.and_eq_true] at h
    refine ⟨by omega, fun x hx => ?_⟩
    have h2 : l5.any (JR l3) = false := by simpa using h.1
    have h1 := List.any_eq_false.1 h2 x hx
    unfold JR at h1
    simp only [Bool.or_eq_true, not_or, decide_eq_true_eq] at h1
    omega
theorem oF (a : ByteArray) (b : Bool) (c : Int) (l3 : List yh) (l4 : List qy) (l5 : List qc) (n : ByteArray) (s : Int) (h3 : l3.length ≤ 1000000000) (h4 : l4.length ≤ 1000000000) (h5 : l5.length ≤ 1000000000) : uI.f a b c l3 l4 l5 n s = some (Ki (xk a c l3 l4 l5) l3 n s) := by
 unfold uI.f Ki
 rw [oD a b c l3 l4 l5 s h3 h4 h5]
 simp only [Option.bind_some]
 by_cases h : Ze s (xk a c l3 l4 l5) = true
 ·obtain ⟨p, q, hv⟩ := gZ h
  rw [if_pos h, if_pos h]
  unfold uK.f
  rw [if_pos h3]
  simp only [Option.bind_some]
  cases hf : l3.find? (fun x => decide (x.f0 = n)) with
  | none =>
   rw [List.find?_eq_none] at hf
   rw [zxr l3 n (fun x hx e => hf x hx (decide_eq_true e)), if_neg (by simp)]
  | some x =>
   have hx := List.mem_of_find?_eq_some hf
   have he : x.f0 = n := by have := List.find?_some hf; simpa using this
   obtain ⟨m, hm, rfl⟩ := List.getElem_of_mem hx
   subst he
   have hw := eO hv _ hx
   rw [zxp l3 (oo hv) m hm]
   simp only [if_true]
   rw [if_pos (by omega), if_pos (by omega), J2 l3 m hm, oC _ s p q (by omega) (by omega)]; rfl
 ·rw [if_neg h, if_neg h]
theorem VR {x y : ByteArray} : x.toList = y.toList ↔ x = y := Jr
end Go.Proofs.YtggifbbiiickmaaGreatDoor
namespace Go.Proofs.YtggifbbiiickmaaGreatDoor
open Go.RowKit Go.Proofs.zk.ze Go.Proofs.zk.yt Go.Proofs.YtggifbbiiickmaaGreatDoor.PX
set_option linter.unusedSimpArgs false
set_option linter.unusedVariables false
abbrev yS := kD
abbrev vS := Xa
abbrev kI := wD
def qN (x : yS) : Bool := xk x.f0 x.f2 x.f3 x.f4 x.f5
def Ym (x : yS) (n : ByteArray) : Bool := Q8 x.f3 n
def fjoin (x : yS) (n m : ByteArray) : ByteArray × Bool := U2 (qN x) x.f4 n m
def Zx (x : yS) (n m : ByteArray) (s : Int) : Int × Int := VP (qN x) x.f5 n m s
def Ya (x : yS) (n : ByteArray) (s : Int) : Int × Int := Ki (qN x) x.f3 n s
def qG (l : List yS) (i : Int) : yS := zK l i
def Yb (n : ByteArray) : List yS → Nat → Int
 | [], _ => -1
 | x :: r, i => if x.f1 && Ym x n then (i : Int) else Yb n r (i + 1)
def uY (l : List yS) (f : Int) (n : ByteArray) : Int := if Ym (qG l f) n then f else Yb n l 0
def Xl (QO : Int) : vS := ⟨2, QO, 0, 0, ⟨#[]⟩, ⟨#[]⟩, []⟩
def VT (w f s : Int) (n : ByteArray) : vS := ⟨0, w, f, s, n, ⟨#[]⟩, []⟩
def Yc (l : List yS) (s : Int) (za : Bool) (out : List vS) (a : Int) (n : ByteArray) : List vS :=
 match out.getLast? with
 | none => []
 | some b => if za && decide (b.f2 = a) then (if (Zx (qG l a) b.f4 n s).1 = 0 then [] else [Xl (Zx (qG l a) b.f4 n s).1]) else []
def Yn (l : List yS) (f s : Int) (za : Bool) (st : List vS × List ByteArray) (n : ByteArray) : List vS × List ByteArray :=
 if uY l f n < 0 then (st.1, st.2 ++ [n])
 else (st.1 ++ Yc l s za st.1 (uY l f n) n ++ [VT (Ya (qG l (uY l f n)) n s).1 (uY l f n) s n], st.2)
def Yo (J : ByteArray → ByteArray → ByteArray × Bool) (c : ByteArray) : List ByteArray → ByteArray × List ByteArray
 | [] => (c, [])
 | d :: r => if (J c d).2 then Yo J (J c d).1 r else (c, d :: r)
theorem WL (J : ByteArray → ByteArray → ByteArray × Bool) : ∀ (r : List ByteArray) (c : ByteArray), (Yo J c r).2.length ≤ r.length
 | [], _ => Nat.le_refl _
 | d :: r, c => by
  unfold Yo
  split
  ·exact Nat.le_succ_of_le (WL J r _)
  ·exact Nat.le_refl _
def Z4 (J : ByteArray → ByteArray → ByteArray × Bool) : List ByteArray → List ByteArray
 | [] => []
 | c :: r => (Yo J c r).1 :: Z4 J (Yo J c r).2
termination_by l => l.length
decreasing_by have := WL J r c; simp; omega
def tT (pairs : List kI) (c : ByteArray) : ByteArray := match pairs.find? (fun p => decide (p.f0 = c)) with | some p => p.f1 | none => c
def Qx (l : List yS) (f s : Int) (za : Bool) (ns : List ByteArray) : List vS × List ByteArray := ns.foldl (Yn l f s za) ([], [])
def Zi (l : List yS) (f : Int) (zI : Bool) (chars : List ByteArray) (pairs : List kI) : List ByteArray :=
 if zI then Z4 (fjoin (qG l f)) (chars.map (tT pairs)) else chars.map (tT pairs)
def Yx (s : ByteArray) : Bool := !XL s.data.toList
def VU (p : kI) : Bool := Yx p.f0 || Yx p.f1
def Xm (l : List yS) (f s : Int) (chars : List ByteArray) (pairs : List kI) : Bool :=
 l.any (fun x => !qN x) || (decide (f < 0) || decide ((l.length : Int) ≤ f) || decide (s < 1) || decide (1000 < s)) || (decide (2000 < chars.length) || decide (100 < pairs.length)) || chars.any Yx || pairs.any VU
def Kl (l : List yS) (f s : Int) (zI za : Bool) (chars : List ByteArray) (pairs : List kI) : List vS × List ByteArray × Int :=
 if Xm l f s chars pairs then ([], [], 1)
 else ((Qx l f s za (Zi l f zI chars pairs)).1, (Qx l f s za (Zi l f zI chars pairs)).2, 0)
end Go.Proofs.YtggifbbiiickmaaGreatDoor
namespace Go.Proofs.YtggifbbiiickmaaGreatDoor
open Go.RowKit Go.Proofs.zk.ze
set_option linter.unusedSimpArgs false
set_option linter.unusedVariables false
def wE {α : Type} (p : α → Bool) : List α → Nat → Int
 | [], _ => -1
 | x :: r, i => if p x then (i : Int) else wE p r (i + 1)
theorem QS {α : Type} (p : α → Bool) (x : α) (r : List α) (i : Nat) : wE p (x :: r) i = if p x then (i : Int) else wE p r (i + 1) := rfl
theorem V3 {α : Type} (p : α → Bool) : ∀ (l : List α) (i : Nat), decide (0 ≤ wE p l i) = l.any p
 | [], _ => rfl
 | x :: r, i => by
  unfold wE
  rw [List.any_cons]
  by_cases h : p x = true
  ·rw [if_pos h, h, Bool.true_or]; exact decide_eq_true (by omega)
  ·rw [if_neg h, V3 p r]
   simp only [Bool.not_eq_true] at h
   rw [h, Bool.false_or]
end Go.Proofs.YtggifbbiiickmaaGreatDoor
namespace Go.Proofs.YtggifbbiiickmaaGreatDoor
open Go.RowKit Go.Proofs.zk.ze Go.Proofs.zk.yc Go.Proofs.zk.yt Go.Proofs.YtggifbbiiickmaaGreatDoor.PX
set_option linter.unusedSimpArgs false
set_option linter.unusedVariables false
set_option maxRecDepth 100000 in
set_option maxHeartbeats 4000000 in
theorem gQ (A0 : Option Addr) (c0 : Nat) (l : List kD) (w : World) (hr : Kd.C Zq w A0 l.length l) (hl : l.length ≤ 1000000000) (p : kD → Bool) (g : Nat) (lb : Array Value) (eg : ∀ args w, (callFunc g args).run Tryz.prog w = .ok (.enter g args) w)
  (hp : ∀ (W : World) (x : kD) (A3 : Option Addr) (c3 : Nat) (A4 : Option Addr) (c4 : Nat) (A5 : Option Addr) (c5 : Nat), x ∈ l → Below w.heap.size w W → Kd.C qH W A3 x.f3.length x.f3 → x.f3.length ≤ c3 → Kd.C vw W A4 x.f4.length x.f4 → x.f4.length ≤ c4 → Kd.C vC W A5 x.f5.length x.f5 → x.f5.length ≤ c5 → Calls Tryz.prog g (#[.agg #[.string x.f0, .bool x.f1, .int .i64 x.f2, .slice A3 x.f3.length c3, .slice A4 x.f4.length c4, .slice A5 x.f5.length c5]] ++ lb) W fun e w' => e = .returned (.bool (p x)) ∧ Below w.heap.size w w') :
  Calls Tryz.prog 83 #[.slice A0 l.length c0, .func (.func g) #[] lb] w fun e w' => e = .returned (.int .i64 (wE p l 0)) ∧ Below w.heap.size w w' := by
 have H := zx.mk hr
 have HP := zx.mk hp
 clear hr hp
 generalize hR : wE p l 0 = R
 have HR := zx.mk hR
 clear hR
 go_enter Tryz.func83, Tryz.ntmps83
 go_wp2
 go_loopw [8] (fun i W => ∃ k : Nat, k ≤ l.length ∧ i = .int .i64 (k : Int) ∧ zx (wE p l 0 = wE p (l.drop k) k) ∧ zx (Below w.heap.size w W)) (fun i _ => l.length - (intOf i).toNat)
 case atStart => exact ⟨0, Nat.zero_le _, rfl, ⟨by rw [List.drop_zero]⟩, ⟨Below.refl _ _⟩⟩
 case round =>
  obtain ⟨k, hk, rfl, HI, HB⟩ := hrel
  by_cases hlt : k < l.length
  ·obtain ⟨ad, A3, c3, A4, c4, A5, c5, e, x0, x1, x2, x3, x4, x5, g3, q3, g4, q4, g5, q5⟩ := Yv (Kd.zh H.out HB.out) (k : Int) (by omega) (by omega)
   cases e
   have e : zK l (k : Int) = l[k] := by simp [zK, List.getD_eq_getElem?_getD, hlt]
   rw [Int.toNat_natCast] at x0 x1 x2 x3 x4 x5
   rw [e] at x0 x1 x2 x3 x4 x5 g3 q3 g4 q4 g5 q5
   clear e
   have hi := HI.out
   rw [List.drop_eq_getElem_cons hlt, QS] at hi
   have hm : l[k] ∈ l := List.getElem_mem hlt
   generalize l[k] = x at x0 x1 x2 x3 x4 x5 g3 q3 g4 q4 g5 q5 hi hm
   have hcall := HP.out wr x A3 c3 A4 c4 A5 c5 hm HB.out q3 g3 q4 g4 q5 g5
   clear hm q3 g3 q4 g4 q5 g5
   cases hq : p x with
   | true =>
    rw [hq] at hcall
    rw [if_pos hq] at hi
    have HI2 := zx.mk (HR.out.symm.trans hi)
    clear hi hq HI
    go_wp2_with fail
    refine hcall.mono ?_; rintro e w' ⟨rfl, hb'⟩
    go_wp2_with fail
    go_ret
    exact ⟨by rw [HI2.out]; rfl, hb'⟩
   | false =>
    rw [hq] at hcall
    rw [if_neg (by rw [hq]; exact Bool.false_ne_true)] at hi
    have HI2 := zx.mk hi
    clear hi hq HI
    go_wp2_with fail
    refine hcall.mono ?_; rintro e w' ⟨rfl, hb'⟩
    go_wp2_with fail
    go_roundw
    case rel => exact ⟨k + 1, by omega, by first | rfl | go_num, HI2, ⟨hb'⟩⟩
    case measure => simp [intOf]; omega
  ·obtain rfl : k = l.length := by omega
   have hi := HI.out
   rw [List.drop_eq_nil_of_le (Nat.le_refl _)] at hi
   have HI2 := zx.mk (HR.out.symm.trans hi)
   clear hi HI
   go_wp2
   go_ret
   exact ⟨by rw [HI2.out]; rfl, HB.out⟩
set_option maxRecDepth 100000 in
theorem zz6 (A0 : Option Addr) (c0 : Nat) (l : List kD) (w : World) (hr : Kd.C Zq w A0 l.length l) (hl : l.length ≤ 1000000000) (p : kD → Bool) (g : Nat) (lb : Array Value) (eg : ∀ args w, (callFunc g args).run Tryz.prog w = .ok (.enter g args) w)
  (hp : ∀ (W : World) (x : kD) (A3 : Option Addr) (c3 : Nat) (A4 : Option Addr) (c4 : Nat) (A5 : Option Addr) (c5 : Nat), x ∈ l → Below w.heap.size w W → Kd.C qH W A3 x.f3.length x.f3 → x.f3.length ≤ c3 → Kd.C vw W A4 x.f4.length x.f4 → x.f4.length ≤ c4 → Kd.C vC W A5 x.f5.length x.f5 → x.f5.length ≤ c5 → Calls Tryz.prog g (#[.agg #[.string x.f0, .bool x.f1, .int .i64 x.f2, .slice A3 x.f3.length c3, .slice A4 x.f4.length c4, .slice A5 x.f5.length c5]] ++ lb) W fun e w' => e = .returned (.bool (p x)) ∧ Below w.heap.size w w') :
  Calls Tryz.prog 37 #[.slice A0 l.length c0, .func (.func g) #[] lb] w fun e w' => e = .returned (.bool (l.any p)) ∧ Below w.heap.size w w' := by
 have h := gQ A0 c0 l w hr hl p g lb eg hp
 have e := V3 p l 0
 generalize wE p l 0 = i at h e
 generalize l.any p = b at e ⊢
 subst e
 clear hp hr
 go_enter Tryz.func37, Tryz.ntmps37
 go_wp2_with (go_at_call 83; refine h.mono ?_; rintro e w1 ⟨rfl, hb⟩)
 go_ret
 exact ⟨rfl, hb⟩
end Go.Proofs.YtggifbbiiickmaaGreatDoor
namespace Go.Proofs.YtggifbbiiickmaaGreatDoor
open Go.RowKit Go.Proofs.zk.ze Go.Proofs.zk.yc Go.Proofs.zk.yt
set_option linter.unusedSimpArgs false
set_option linter.unusedVariables false
namespace RW
section
variable {P : Program} {ops : Array Oper} {Q : Exit → Act → World → Prop} {md : Region.Mode} {S : World → Prop} {ds : List Nat} {T : Bool × List (List Nat × List Nat)} {oi : Oper} {v : Value} {fuel : Nat} {l : Array Bool} {a a' : Act} {w : World}
theorem rP (i : Nat) (N : Option Tmp) (HT : zx (xE md ops = T)) (h : z8 P md ops Q S ds fuel (l.setIfInBounds i true) a' w)
  (hi : ops[i]? = some oi := by exact rfl) (hN : oi.dst = N := by exact rfl) (hc : fT T l.toList (l.setIfInBounds i true).toList i = true := by kernel_rfl) (hQ : ∀ c a w, Q (.panic c) (a.put oi.dst v) w → Q (.panic c) a w := by exact fun _ _ _ h => h)
  (hg : Region.wanted oi (yielded ops a.tmps) = true := by rfl) (hy : ∀ w, (execOp a.eval oi).run P w = .ok (.value v) w := by intro w'; go_simp; with_reducible rfl) (ha : a.put N v = a' := by simp only [Act.put, List.setIfInBounds_toArray, List.set_cons_zero, List.set_cons_succ, qW, qd]; rfl) :
  z8 P md ops Q S ds (fuel + 1) l a w := yL _ hi hN (yJ HT.out hc) hQ (Or.inl ⟨hg, hy⟩) ha h
theorem rT {B : List Nat} (i : Nat) (N : Option Tmp) (HT : zx (xE md ops = T)) (HW : zx (vP T.2 B = true)) (hS : S w) (h : z8 P md ops Q S ds fuel (l.setIfInBounds i true) a' w)
  (hi : ops[i]? = some oi := by exact rfl) (hN : oi.dst = N := by exact rfl) (hc : dw T B ds l.toList (l.setIfInBounds i true).toList i = true := by kernel_rfl) (hQ : ∀ c a w, Q (.panic c) (a.put oi.dst v) w → Q (.panic c) a w := by exact fun _ _ _ h => h)
  (hg : Region.wanted oi (yielded ops a.tmps) = true := by rfl) (hy : ∀ w, S w → (execOp a.eval oi).run P w = .ok (.value v) w := by intro w' hs_; go_simp; with_reducible rfl) (ha : a.put N v = a' := by simp only [Act.put, List.setIfInBounds_toArray, List.set_cons_zero, List.set_cons_succ, qW, qd]; rfl) :
  z8 P md ops Q S ds (fuel + 1) l a w := VH _ hi hN (dI HT.out HW.out hc) hQ (Or.inl ⟨hg, hy⟩) hS ha h
theorem rS {X : World} {B : List Nat} {n id : Nat} (HS : zx (∀ W, Below X.heap.size X W → S W)) (hT : xE .any ops = T) (hB : vP T.2 B = true) (hm : P.follows .mixedOrders = true) (hn : ops.size = n) (hl : Array.replicate n false = l)
  (h : ∀ w, zx (Below X.heap.size X w) → zx (xE .any ops = T) → zx (vP T.2 B = true) → S w → z8 P .any ops Q S [] n l a w) : (Code.region id ops true).wp P Q a X :=
 jw _ hm hn hl (HS.out _ (Below.refl _ _).drew) fun hH => h _ ⟨(Below.refl _ _).drew⟩ ⟨hT⟩ ⟨hB⟩ hH
theorem rSD {X : World} {B : List Nat} {n id : Nat} (ds : List Nat) (HS : zx (∀ W, Below X.heap.size X W → S W)) (hT : xE .any ops = T) (hB : vP T.2 B = true) (hm : P.follows .mixedOrders = true) (hn : ops.size = n) (hl : Array.replicate n false = l)
  (h : ∀ w, zx (Below X.heap.size X w) → zx (xE .any ops = T) → zx (vP T.2 B = true) → S w → z8 P .any ops Q S ds n l a w) : (Code.region id ops true).wp P Q a X :=
 jw _ hm hn hl (HS.out _ (Below.refl _ _).drew) fun hH => h _ ⟨(Below.refl _ _).drew⟩ ⟨hT⟩ ⟨hB⟩ hH
theorem rC {X : World} {f : FuncId} {fn : Func} {lN : Array Operand} {ts : Array TypeId} {args : Array Value} (i : Nat) (N : Option Tmp) (HT : zx (xE md ops = T)) (HS : zx (∀ W, Below X.heap.size X W → S W)) (HY : zx (Below X.heap.size X w)) (hf : P.funcs[f]? = some fn)
  (hcall : Calls P f args w fun e w' => e = .returned v ∧ Below w.heap.size w w') (h : ∀ w', zx (Below X.heap.size X w') → S w' → z8 P md ops Q S ds fuel (l.setIfInBounds i true) a' w') (hname : (fn.name == "runtime.NumGoroutine") = false)
  (hi : ops[i]? = some oi := by exact rfl) (hN : oi.dst = N := by exact rfl) (hc : (Qb T.2 l.toList == [i] && l.toList.set i true == (l.setIfInBounds i true).toList) = true := by kernel_rfl) (hd : i ∉ ds := by decide) (hb : fn.body.isSome = true := by exact rfl) (hw : Region.wanted oi (yielded ops a.tmps) = true := by rfl)
  (hop : oi.op = .call { callee := .value (.func f), args := lN, argTypes := ts } := by exact rfl) (hargs : lN.map a.eval = args := by (try simp only [List.map_toArray, List.map_cons, List.map_nil]); first | done | rfl) (ha : a.put N v = a' := by simp only [Act.put, List.setIfInBounds_toArray, List.set_cons_zero, List.set_cons_succ, qW, qd]; rfl) :
  z8 P md ops Q S ds (fuel + 1) l a w := by
 refine Q7 _ hi hN (Zv HT.out hc) hd fun K hK => ?_
 refine YP hf hname hb args hw hN hop hargs (hcall.mono ?_)
 rintro e w' ⟨rfl, hk⟩
 have h2 := HY.out.trans (hk.mono HY.out.size)
 refine ⟨_, rfl, hK.out _ _ (HS.out _ h2) fun hH => ?_⟩
 rw [ha]
 exact h _ ⟨h2⟩ hH
end
end RW
end Go.Proofs.YtggifbbiiickmaaGreatDoor
namespace Go.Proofs.YtggifbbiiickmaaGreatDoor
open Go.RowKit Go.Proofs.zk.ze Go.Proofs.zk.yc Go.Proofs.zk.yt Go.Proofs.YtggifbbiiickmaaGreatDoor.PX
set_option linter.unusedSimpArgs false
set_option linter.unusedVariables false
theorem Z5 {x : yS} (h : qN x = true) : x.f3.length ≤ 400 ∧ x.f4.length ≤ 50 ∧ x.f5.length ≤ 500 := om h
theorem eT {l : List yS} {i : Int} (h0 : 0 ≤ i) (h1 : i < (l.length : Int)) : qG l i ∈ l := by
 unfold qG zK
 rw [List.getD_eq_getElem?_getD, List.getElem?_eq_getElem (by omega), Option.getD_some]
 exact List.getElem_mem _
theorem ZL {l : List yS} {i : Int} (hv : ∀ x ∈ l, qN x = true) (h0 : 0 ≤ i) (h1 : i < (l.length : Int)) : qN (qG l i) = true := hv _ (eT h0 h1)
theorem bF (n : ByteArray) : ∀ (l : List yS) (i : Nat), Yb n l i = wE (fun x => x.f1 && Ym x n) l i
 | [], _ => rfl
 | x :: r, i => by
  unfold Yb
  rw [QS, bF n r]
theorem gX (n : ByteArray) : ∀ (l : List yS) (i : Nat), Yb n l i = -1 ∨ (0 ≤ Yb n l i ∧ Yb n l i < ((i + l.length : Nat) : Int))
 | [], _ => Or.inl rfl
 | x :: r, i => by
  unfold Yb
  by_cases h : (x.f1 && Ym x n) = true
  ·rw [if_pos h]; right; simp only [List.length_cons]; omega
  ·rw [if_neg h]
   rcases gX n r (i + 1) with h1 | h1
   ·exact Or.inl h1
   ·right; simp only [List.length_cons]; omega
theorem gJ {l : List yS} {f : Int} (n : ByteArray) (h0 : 0 ≤ f) (h1 : f < (l.length : Int)) : uY l f n = -1 ∨ (0 ≤ uY l f n ∧ uY l f n < (l.length : Int)) := by
 unfold uY
 split
 ·exact Or.inr ⟨h0, h1⟩
 ·have := gX n l 0
  simpa using this
set_option maxRecDepth 100000 in
set_option maxHeartbeats 4000000 in
theorem zz7 (B : Nat) (n : ByteArray) (x : yS) (A3 : Option Addr) (c3 : Nat) (A4 : Option Addr) (c4 : Nat) (A5 : Option Addr) (c5 : Nat) (W : World) (hG : GW W) (hx : qN x = true) (hB : W.cell? ⟨B, 0, none⟩ = some (.string n))
  (q3 : Kd.C qH W A3 x.f3.length x.f3) (g3 : x.f3.length ≤ c3) (q4 : Kd.C vw W A4 x.f4.length x.f4) (g4 : x.f4.length ≤ c4) (q5 : Kd.C vC W A5 x.f5.length x.f5) (g5 : x.f5.length ≤ c5) :
  Calls Tryz.prog 136 #[.agg #[.string x.f0, .bool x.f1, .int .i64 x.f2, .slice A3 x.f3.length c3, .slice A4 x.f4.length c4, .slice A5 x.f5.length c5], .pointer (some ⟨B, 0, none⟩)] W fun e w' => e = .returned (.bool (x.f1 && Ym x n)) ∧ Below W.heap.size W w' := by
 have hl := World.block_lt_of_cell? W _ hB
 have hb0 : Below W.heap.size W (W.alloc (.cells #[.string x.f0, .bool x.f1, .int .i64 x.f2, .slice A3 x.f3.length c3, .slice A4 x.f4.length c4, .slice A5 x.f5.length c5] 60)) := (Below.refl _ W).alloc (Nat.le_refl _) _
 have hc : (W.alloc (.cells #[.string x.f0, .bool x.f1, .int .i64 x.f2, .slice A3 x.f3.length c3, .slice A4 x.f4.length c4, .slice A5 x.f5.length c5] 60)).cell? ⟨B, 0, none⟩ = some (.string n) := (World.cell?_alloc_lt _ _ _ hl).trans hB
 have hz := Z5 hx
 have hh := Yl.calls x.f0 x.f1 x.f2 A3 c3 x.f3 A4 c4 x.f4 A5 c5 x.f5 n (Q8 x.f3 n) _ (Kd.zh q3 hb0) g3 (Kd.zh q4 hb0) g4 (Kd.zh q5 hb0) g5 (hG.under hb0) (by unfold Yl.f; rw [if_pos (by omega)])
 unfold Ym
 generalize Q8 x.f3 n = b at hh ⊢
 cases hs : x.f1 with
 | false =>
  rw [hs] at hc hb0
  clear hh hz hx q3 q4 q5
  go_enter Tryz.func136, Tryz.ntmps136
  go_wp2
  go_ret
  exact ⟨rfl, hb0⟩
 | true =>
  rw [hs] at hc hb0 hh
  clear hz hx q3 q4 q5
  go_enter Tryz.func136, Tryz.ntmps136
  go_wp2_with (go_at_call 135; refine hh.mono ?_; rintro e w2 ⟨rfl, hb2⟩)
  go_ret
  exact ⟨by cases b <;> rfl, hb0.trans (hb2.mono hb0.size)⟩
def home.T1 : Bool × List (List Nat × List Nat) := (true, [([], []), ([0], [0]), ([1], [1]), ([2], [2]), ([], []), ([4], [4]), ([5], [5]), ([6], [6]), ([7], [7]), ([3, 8], [3, 8]), ([9], [9]), ([], []), ([10, 11], [10, 11])])
def home.B1 : List Nat := [0, 1, 3, 7, 0, 16, 48, 112, 240, 511, 1023, 0, 4095]
theorem home.zj6 : xE .any (opsOf Tryz.f105 1) = home.T1 := by kernel_rfl
theorem home.zq4 : vP home.T1.2 home.B1 = true := by kernel_rfl
set_option maxRecDepth 100000 in
set_option maxHeartbeats 8000000 in
theorem gV (w0 : World) (g : Nat) (Af : Option Addr) (cf : Nat) (l : List yS) (f s : Int) (zI za : Bool) (vo vl : Value) (n : ByteArray) (w : World) (hG : GW w0) (hC : Kd.C Zq w0 Af l.length l) (hl : l.length ≤ 1000000000) (hf0 : 0 ≤ f) (hf1 : f < (l.length : Int)) (hv : ∀ x ∈ l, qN x = true) (hw : Below w0.heap.size w0 w)
  (hS : w.heap[g]? = some (.cells #[.slice Af l.length cf, .int .i64 f, .int .i64 s, .bool zI, .bool za, vo, vl] 90 (0, 0))) :
  Calls Tryz.prog 105 #[.pointer (some ⟨g, 0, none⟩), .string n] w fun e w' => e = .returned (.int .i64 (uY l f n)) ∧ Below w.heap.size w w' := by
 obtain ⟨w1, hw1⟩ : ∃ w1, w.alloc (.cells #[.string n] 9) = w1 := ⟨_, rfl⟩
 have hb1 : Below w.heap.size w w1 := by rw [← hw1]; exact (Below.refl _ w).alloc (Nat.le_refl _) _
 have hS1 := zN hS hb1
 have hN : w1.cell? ⟨w.heap.size, 0, none⟩ = some (.string n) := by rw [← hw1]; simp
 have hwb : Below w0.heap.size w0 w1 := hw.trans (hb1.mono hw.size)
 have hC1 := Kd.zh hC hwb
 have hG1 : GW w1 := hG.under hwb
 obtain ⟨ad, A3, c3, A4, c4, A5, c5, e, x0, x1, x2, x3, x4, x5, g3, q3, g4, q4, g5, q5⟩ := Yv hC1 f hf0 (by omega)
 subst e
 have hx := ZL hv hf0 hf1
 have hz := Z5 hx
 have hhome : uY l f n = if Q8 (qG l f).f3 n then f else wE (fun x => x.f1 && Ym x n) l 0 := by unfold uY; rw [bF]; rfl
 have e : zK l f = qG l f := rfl
 rw [e] at x0 x1 x2 x3 x4 x5 g3 q3 g4 q4 g5 q5
 clear e
 generalize qG l f = x at x0 x1 x2 x3 x4 x5 g3 q3 g4 q4 g5 q5 hx hz hhome
 have hh : ∀ W, Below w1.heap.size w1 W → Calls Tryz.prog 135 #[.agg #[.string x.f0, .bool x.f1, .int .i64 x.f2, .slice A3 x.f3.length c3, .slice A4 x.f4.length c4, .slice A5 x.f5.length c5], .string n] W fun e w' => e = .returned (.bool (Q8 x.f3 n)) ∧ Below W.heap.size W w' := fun W hb =>
  Yl.calls x.f0 x.f1 x.f2 A3 c3 x.f3 A4 c4 x.f4 A5 c5 x.f5 n (Q8 x.f3 n) _ (Kd.zh q3 hb) g3 (Kd.zh q4 hb) g4 (Kd.zh q5 hb) g5 (hG1.under hb) (by unfold Yl.f; rw [if_pos (by omega)])
 have HH := zx.mk hh
 have hi : ∀ W, Below w1.heap.size w1 W → Calls Tryz.prog 83 #[.slice (some ad) l.length cf, .func (.func 136) #[] #[.pointer (some ⟨w.heap.size, 0, none⟩)]] W fun e w' => e = .returned (.int .i64 (wE (fun x => x.f1 && Ym x n) l 0)) ∧ Below W.heap.size W w' := fun W hb =>
  (gQ (some ad) cf l W (Kd.zh hC1 hb) hl (fun x => x.f1 && Ym x n) 136 #[.pointer (some ⟨w.heap.size, 0, none⟩)] (Zl Tryz.func136 (by kernel_rfl) rfl)
   (fun V y A3 c3 A4 c4 A5 c5 hm hV p3 g3 p4 g4 p5 g5 => by
    have hb2 := hb.trans (hV.mono hb.size)
    have hlt := World.block_lt_of_cell? w1 _ hN
    exact (zz7 w.heap.size n y A3 c3 A4 c4 A5 c5 V (hG1.under hb2) (hv y hm) ((hb2.cell (p := ⟨w.heap.size, 0, none⟩) hlt).trans hN) p3 g3 p4 g4 p5 g5).mono fun e w' ⟨h1, h2⟩ => ⟨h1, hV.trans (h2.mono hV.size)⟩))
 have HI := zx.mk hi
 have hs0 : w1.cell? ⟨g, 0, none⟩ = some (.slice (some ad) l.length cf) := (zZ hS1 0).trans rfl
 have hs1 : w1.cell? ⟨g, 1, none⟩ = some (.int .i64 f) := (zZ hS1 1).trans rfl
 have HS := zx.mk (fun (W : World) (h : Below w1.heap.size w1 W) => (show W.cell? ⟨g, 0, none⟩ = some (.slice (some ad) l.length cf) ∧ W.cell? ⟨g, 1, none⟩ = some (.int .i64 f) ∧ W.cell? ⟨w.heap.size, 0, none⟩ = some (.string n) ∧ W.cell? (ad.add (f.toNat * 6)) = some (.string x.f0) ∧ W.cell? ⟨(ad.add (f.toNat * 6)).block, (ad.add (f.toNat * 6)).off + 1, none⟩ = some (.bool x.f1) ∧ W.cell? ⟨(ad.add (f.toNat * 6)).block, (ad.add (f.toNat * 6)).off + 2, none⟩ = some (.int .i64 x.f2) ∧ W.cell? ⟨(ad.add (f.toNat * 6)).block, (ad.add (f.toNat * 6)).off + 3, none⟩ = some (.slice A3 x.f3.length c3) ∧ W.cell? ⟨(ad.add (f.toNat * 6)).block, (ad.add (f.toNat * 6)).off + 4, none⟩ = some (.slice A4 x.f4.length c4) ∧ W.cell? ⟨(ad.add (f.toNat * 6)).block, (ad.add (f.toNat * 6)).off + 5, none⟩ = some (.slice A5 x.f5.length c5) from
  ⟨(h.cell (World.block_lt_of_cell? w1 _ hs0)).trans hs0, (h.cell (World.block_lt_of_cell? w1 _ hs1)).trans hs1, (h.cell (World.block_lt_of_cell? w1 _ hN)).trans hN, (h.cell (World.block_lt_of_cell? w1 _ x0)).trans x0, (h.cell (World.block_lt_of_cell? w1 _ x1)).trans x1, (h.cell (World.block_lt_of_cell? w1 _ x2)).trans x2, (h.cell (World.block_lt_of_cell? w1 _ x3)).trans x3, (h.cell (World.block_lt_of_cell? w1 _ x4)).trans x4, (h.cell (World.block_lt_of_cell? w1 _ x5)).trans x5⟩))
 generalize hR : uY l f n = R at hhome
 have HR := zx.mk hhome
 have HB1 := zx.mk hb1
 clear hhome hh hi hS hS1 hN hC hC1 hG hG1 hw hwb hs0 hs1 x0 x1 x2 x3 x4 x5 q3 q4 q5 hv hx hR hz hb1
 go_enter Tryz.func105, Tryz.ntmps105
 go_wp2_with fail
 clear hw1
 cases hb : Q8 x.f3 n with
 | true =>
  rw [hb, if_pos rfl] at HR
  rw [hb] at HH
  refine RW.rS (n := 13) HS home.zj6 home.zq4 (by kernel_rfl) rfl rfl (fun w2 H0 T U h => ?_)
  refine RW.rP 0 (some 5) T ?_
  refine RW.rP 1 (some 6) T ?_
  refine RW.rP 2 (some 7) T ?_
  refine RW.rT 3 (some 8) T U h ?_
  refine RW.rP 4 (some 9) T ?_
  refine RW.rP 5 (some 10) T ?_
  refine RW.rP 6 (some 11) T ?_
  refine RW.rP 7 (some 12) T ?_
  refine RW.rT 8 (some 13) T U h ?_
  refine RW.rP 9 (some 14) T ?_
  refine RW.rT 10 (some 15) T U h ?_
  refine RW.rT 11 (some 16) T U h ?_
  clear h
  refine RW.rC 12 (some 17) T HS H0 Tryz.func135 (HH.out _ H0.out) (fun w3 H3 h => ?_) (by kernel_rfl)
  refine jk (xM T.out (by kernel_rfl)) ?_
  obtain ⟨h1, h2, h3, h4⟩ := h
  go_wp2_with fail
  go_ret
  exact ⟨by rw [HR.out]; rfl, HB1.out.trans (H3.out.mono HB1.out.size)⟩
 | false =>
  rw [hb, if_neg Bool.false_ne_true] at HR
  rw [hb] at HH
  refine RW.rS (n := 13) HS home.zj6 home.zq4 (by kernel_rfl) rfl rfl (fun w2 H0 T U h => ?_)
  refine RW.rP 0 (some 5) T ?_
  refine RW.rP 1 (some 6) T ?_
  refine RW.rP 2 (some 7) T ?_
  refine RW.rT 3 (some 8) T U h ?_
  refine RW.rP 4 (some 9) T ?_
  refine RW.rP 5 (some 10) T ?_
  refine RW.rP 6 (some 11) T ?_
  refine RW.rP 7 (some 12) T ?_
  refine RW.rT 8 (some 13) T U h ?_
  refine RW.rP 9 (some 14) T ?_
  refine RW.rT 10 (some 15) T U h ?_
  refine RW.rT 11 (some 16) T U h ?_
  clear h
  refine RW.rC 12 (some 17) T HS H0 Tryz.func135 (HH.out _ H0.out) (fun w3 H3 h => ?_) (by kernel_rfl)
  refine jk (xM T.out (by kernel_rfl)) ?_
  obtain ⟨h1, h2, h3, h4⟩ := h
  clear h2 h4
  go_wp2_with fail
  refine (HI.out _ H3.out).mono ?_; rintro e w4 ⟨rfl, hb4⟩
  go_wp2_with fail
  go_ret
  exact ⟨by rw [HR.out]; rfl, HB1.out.trans ((H3.out.trans (hb4.mono H3.out.size)).mono HB1.out.size)⟩
end Go.Proofs.YtggifbbiiickmaaGreatDoor
namespace Go.Proofs.YtggifbbiiickmaaGreatDoor
open Go.RowKit Go.Proofs.zk.ze Go.Proofs.zk.yc Go.Proofs.zk.yt Go.Proofs.YtggifbbiiickmaaGreatDoor.PX
set_option linter.unusedSimpArgs false
set_option linter.unusedVariables false
def xO (base B : Nat) (w w' : World) : Prop := Below 0 w w' ∧ (∀ (k : Nat) (o : Obj), w.heap[k]? = some o → o.isCells = false → w'.heap[k]? = some o) ∧ ∀ k : Nat, k < base → k ≠ B → w'.heap[k]? = w.heap[k]?
theorem xO.refl (base B : Nat) (w : World) : xO base B w w := ⟨Below.refl _ _, fun _ _ h _ => h, fun _ _ _ => rfl⟩
theorem xO.trans {base B : Nat} {a b c : World} (h : xO base B a b) (k : xO base B b c) : xO base B a c :=
 ⟨h.1.trans k.1, fun i o hi ho => k.2.1 i o (h.2.1 i o hi ho) ho, fun i hi hb => (k.2.2 i hi hb).trans (h.2.2 i hi hb)⟩
theorem xO.below {base B : Nat} {a b : World} (h : Below a.heap.size a b) (hb : base ≤ a.heap.size) : xO base B a b :=
 ⟨h.mono (Nat.zero_le _), fun k o hk _ => (h.block k (Array.getElem?_eq_some_iff.1 hk).1).trans hk, fun k hk _ => h.block k (by omega)⟩
theorem xO.set {base B : Nat} {w : World} {cs : Array Value} {t : TypeId} {z : Nat × Nat} (h : w.heap[B]? = some (.cells cs t z)) (j : Nat) (u : Value) : xO base B w (w.setCell ⟨B, j, none⟩ u) := by
 refine ⟨(Below.refl _ _).setCell (p := ⟨B, j, none⟩) (Nat.zero_le _) u, fun k o hk ho => ?_, fun k _ hb => Below.heap_setCell w ⟨B, j, none⟩ u k hb⟩
 by_cases e : k = B
 ·subst e; rw [h] at hk; cases hk; cases ho
 ·rw [Below.heap_setCell w ⟨B, j, none⟩ u k e]; exact hk
theorem xO.grown {base B : Nat} {a b : World} {v : Value} {e : TypeId} {size n : Nat} {xs : List Value} (ho : a.ownsRow base e size v n xs) (h : a.grownBy b v.ownBlock) (hb : base ≤ a.heap.size) : xO base B a b := by
 refine ⟨⟨h.os, h.tape, h.output, h.size, fun k hk => absurd hk (Nat.not_lt_zero _)⟩, fun k o hk hc => ?_, fun k hk _ => h.block k (by omega) (fun e => ?_)⟩
 ·have hlt := (Array.getElem?_eq_some_iff.1 hk).1
  rw [h.block k hlt (fun e => ?_)]
  ·exact hk
  ·obtain ⟨cells, hcc⟩ := QD ho k e.symm
   rw [hcc] at hk; cases hk; cases hc
 ·have := Xe ho k e.symm
  omega
theorem Jt {base B n₀ : Nat} {W W' : World} (h : xO base B W W') (hn : n₀ ≤ B) (hn2 : n₀ ≤ base) : Below n₀ W W' := ⟨h.1.os, h.1.tape, h.1.output, h.1.size, fun k hk => h.2.2 k (by omega) (by omega)⟩
theorem zxL {W W' : World} {row : Option Nat} {k : Nat} {cs : Array Value} {t : TypeId} (h : W.heap[k]? = some (.cells cs t (0, 0))) (hg : W.grownBy W' row) (hr : ∀ r, row = some r → ∃ o : Obj, W.heap[r]? = some o ∧ o.isCells = false) : W'.heap[k]? = some (.cells cs t (0, 0)) :=
 wZ h hg (fun e => by obtain ⟨o, ho, hn⟩ := hr k e.symm; rw [h] at ho; cases ho; cases hn)
theorem aj {α : Type} {d : Kd α} {e base : Nat} {W W' : World} {row : Option Nat} {v : Value} {xs : List α} (h : d.R e W base (fun _ => True) v xs) (hg : W.grownBy W' row) (hr : ∀ r, row = some r → ∃ o : Obj, W.heap[r]? = some o ∧ o.isCells = false) : d.R e W' base (fun _ => True) v xs :=
 Kd.kC (Kd.UN (Kd.ZO h) hg (fun k hk e => by
  obtain ⟨_, _, _, q, hq, cells, hc⟩ := hk
  obtain ⟨o, ho, hn⟩ := hr k e.symm
  rw [hc] at ho; cases ho; cases hn)) (fun _ _ => trivial)
end Go.Proofs.YtggifbbiiickmaaGreatDoor
namespace Go.Proofs.YtggifbbiiickmaaGreatDoor
open Go.RowKit Go.Proofs.zk.ze Go.Proofs.zk.yc Go.Proofs.zk.yt Go.Proofs.YtggifbbiiickmaaGreatDoor.PX
set_option linter.unusedSimpArgs false
set_option linter.unusedVariables false
set_option maxRecDepth 100000 in
set_option maxHeartbeats 4000000 in
theorem Ju (a : ByteArray) (b : Bool) (c : Int) (A3 : Option Addr) (c3 : Nat) (l3 : List yh) (A4 : Option Addr) (c4 : Nat) (l4 : List qy) (A5 : Option Addr) (c5 : Nat) (l5 : List qc) (na nb : ByteArray) (s : Int) (w : World) (hG : GW w) (h3 : Kd.C qH w A3 l3.length l3) (g3 : l3.length ≤ c3) (h4 : Kd.C vw w A4 l4.length l4) (g4 : l4.length ≤ c4) (h5 : Kd.C vC w A5 l5.length l5) (g5 : l5.length ≤ c5) (z3 : l3.length ≤ 1000000000) (z4 : l4.length ≤ 1000000000) (z5 : l5.length ≤ 1000000000) :
  Calls Tryz.prog 21 #[.agg #[.string a, .bool b, .int .i64 c, .slice A3 l3.length c3, .slice A4 l4.length c4, .slice A5 l5.length c5], .string na, .string nb, .int .i64 s] w fun e w' => e = .returned (.tuple #[.int .i64 (VP (xk a c l3 l4 l5) l5 na nb s).1, .int .i64 (VP (xk a c l3 l4 l5) l5 na nb s).2]) ∧ Below w.heap.size w w' := by
 have hb0 : Below w.heap.size w (w.alloc (.cells #[.string a, .bool b, .int .i64 c, .slice A3 l3.length c3, .slice A4 l4.length c4, .slice A5 l5.length c5] 60)) := (Below.refl _ w).alloc (Nat.le_refl _) _
 have hbf := wY w (.cells #[.string a, .bool b, .int .i64 c, .slice A3 l3.length c3, .slice A4 l4.length c4, .slice A5 l5.length c5] 60)
 have hfair := wQ.calls a b c A3 c3 l3 A4 c4 l4 A5 c5 l5 s (Ze s (xk a c l3 l4 l5)) (w.alloc (.cells #[.string a, .bool b, .int .i64 c, .slice A3 l3.length c3, .slice A4 l4.length c4, .slice A5 l5.length c5] 60)) (Kd.zh h3 hb0) g3 (Kd.zh h4 hb0) g4 (Kd.zh h5 hb0) g5 (hG.under hb0) (oD a b c l3 l4 l5 s z3 z4 z5)
 have hval : VP (xk a c l3 l4 l5) l5 na nb s = (if Ze s (xk a c l3 l4 l5) = true then ((match l5.find? (fun x => decide (x.f0 = na) && decide (x.f1 = nb)) with | some x => tO s x.f2 | none => 0), 0) else (0, 1)) := rfl
 have hk : Ze s (xk a c l3 l4 l5) = true → (1 ≤ s ∧ s ≤ 1000) ∧ ∀ x ∈ l5, -500 ≤ x.f2 ∧ x.f2 ≤ 500 := fun h => by
  obtain ⟨p, q, hv⟩ := gZ h
  exact ⟨⟨p, q⟩, (eP hv).2⟩
 generalize VP (xk a c l3 l4 l5) l5 na nb s = R at hval ⊢
 cases X6 : Ze s (xk a c l3 l4 l5) with
 | false =>
  rw [X6, if_neg (by simp)] at hval
  rw [X6] at hfair
  subst hval
  clear h3 h4 h5 hk
  go_enter Tryz.func21, Tryz.ntmps21
  go_wp2_with fail
  refine hfair.mono ?_; rintro e w1 ⟨rfl, hb1⟩
  go_wp2
  go_ret2
  exact ⟨rfl, hb0.trans (hb1.mono hb0.size)⟩
 | true =>
 rw [X6, if_pos rfl] at hval
 rw [X6] at hfair
 obtain ⟨⟨s1, s2⟩, hkn⟩ := hk X6
 have Xn := zx.mk hval
 have HK := zx.mk hkn
 have H5 := zx.mk h5
 clear h3 h4 h5 hk hval hkn
 go_enter Tryz.func21, Tryz.ntmps21
 go_wp2_with fail
 refine hfair.mono ?_; rintro e w1 ⟨rfl, hb1⟩
 have HB0 := zx.mk (hb0.trans (hb1.mono hb0.size))
 have hc5 : w1.cell? ⟨w.heap.size, 5, none⟩ = some (.slice A5 l5.length c5) := (zZ (zN hbf hb1) 5).trans rfl
 clear hbf hb1 hfair
 go_wp2_with fail
 clear hc5
 go_loopw [19] (fun y W => ∃ i : Nat, y = .int .i64 (i : Int) ∧ i ≤ l5.length ∧ zx (l5.find? (fun x => decide (x.f0 = na) && decide (x.f1 = nb)) = (l5.drop i).find? (fun x => decide (x.f0 = na) && decide (x.f1 = nb))) ∧ zx (Below w.heap.size w W)) (fun y _ => l5.length - (intOf y).toNat)
 case atStart => exact ⟨0, rfl, Nat.zero_le _, ⟨by rw [List.drop_zero]⟩, HB0⟩
 case round =>
  clear HB0
  obtain ⟨i, rfl, hi, HX, HB⟩ := hrel
  by_cases hlt : i < l5.length
  ·obtain ⟨ad, e, x0, x1, x2⟩ := Wi (Kd.zh H5.out HB.out) (i : Int) (by omega) (by omega)
   cases e
   have e : xH l5 (i : Int) = l5[i] := by simp [xH, List.getD_eq_getElem?_getD, hlt]
   rw [Int.toNat_natCast, e] at x0 x1 x2
   clear e
   have hx := HX.out
   rw [List.drop_eq_getElem_cons hlt, List.find?_cons] at hx
   have hm : l5[i] ∈ l5 := List.getElem_mem hlt
   generalize l5[i] = x at x0 x1 x2 hx hm
   have q1 : (i : Int) < (l5.length : Int) := by omega
   have q0 : (0 : Int) ≤ (i : Int) := by omega
   have q3 : ((i : Int)).toNat = i := Int.toNat_natCast i
   have hbX : Below wr.heap.size wr (wr.alloc (.cells #[.string x.f0, .string x.f1, .int .i64 x.f2] 111)) := (Below.refl _ wr).alloc (Nat.le_refl _) _
   have hb2 := HB.out.trans (hbX.mono HB.out.size)
   by_cases t0 : x.f0 = na
   case neg =>
    have d0 : (x.f0.toList == na.toList) = false := beq_eq_false_iff_ne.2 (fun e => t0 (VR.1 e))
    rw [decide_eq_false t0, Bool.false_and] at hx
    have gK := zx.mk hx
    clear hx
    clear hm t0
    go_wp2
    go_roundw
    case rel => exact ⟨i + 1, by first | rfl | (simp; done) | go_num, by omega, gK, ⟨hb2⟩⟩
    case measure => simp [intOf]; omega
   have d0 : (x.f0.toList == na.toList) = true := beq_iff_eq.2 (VR.2 t0)
   by_cases t1 : x.f1 = nb
   case neg =>
    have d1 : (x.f1.toList == nb.toList) = false := beq_eq_false_iff_ne.2 (fun e => t1 (VR.1 e))
    rw [decide_eq_false t1, Bool.and_false] at hx
    have gK := zx.mk hx
    clear hx t1
    clear hm t0
    go_wp2
    go_roundw
    case rel => exact ⟨i + 1, by first | rfl | (simp; done) | go_num, by omega, gK, ⟨hb2⟩⟩
    case measure => simp [intOf]; omega
   case pos =>
    have d1 : (x.f1.toList == nb.toList) = true := beq_iff_eq.2 (VR.2 t1)
    rw [decide_eq_true t0, decide_eq_true t1] at hx
    simp only [Bool.and_true] at hx
    rw [hx] at Xn
    have hR := Xn.out
    subst hR
    have hsc := fun W => uH.calls x.f2 s (tO s x.f2) W (oC x.f2 s s1 s2 (by have := HK.out x hm; omega) (by have := HK.out x hm; omega))
    clear hx Xn hm t0 t1
    go_wp2_with fail
    refine (hsc _).mono ?_; rintro e w3 ⟨rfl, ⟨nd, rfl⟩⟩
    go_wp2
    go_ret2
    exact ⟨rfl, yZ hb2 nd⟩
  ·obtain rfl : i = l5.length := by omega
   have q1 : decide ((l5.length : Int) < (l5.length : Int)) = false := decide_eq_false (by omega)
   have hx := HX.out
   rw [List.drop_eq_nil_of_le (Nat.le_refl _), List.find?_nil] at hx
   rw [hx] at Xn
   have hR := Xn.out
   subst hR
   clear hx Xn
   go_wp2
   go_ret2
   exact ⟨rfl, HB.out⟩
set_option maxRecDepth 100000 in
set_option maxHeartbeats 4000000 in
theorem zz8 (a : ByteArray) (b : Bool) (c : Int) (A3 : Option Addr) (c3 : Nat) (l3 : List yh) (A4 : Option Addr) (c4 : Nat) (l4 : List qy) (A5 : Option Addr) (c5 : Nat) (l5 : List qc) (na nb : ByteArray) (w : World) (hG : GW w) (h3 : Kd.C qH w A3 l3.length l3) (g3 : l3.length ≤ c3) (h4 : Kd.C vw w A4 l4.length l4) (g4 : l4.length ≤ c4) (h5 : Kd.C vC w A5 l5.length l5) (g5 : l5.length ≤ c5) (z3 : l3.length ≤ 1000000000) (z4 : l4.length ≤ 1000000000) (z5 : l5.length ≤ 1000000000) :
  Calls Tryz.prog 45 #[.agg #[.string a, .bool b, .int .i64 c, .slice A3 l3.length c3, .slice A4 l4.length c4, .slice A5 l5.length c5], .string na, .string nb] w fun e w' => e = .returned (.tuple #[.string (U2 (xk a c l3 l4 l5) l4 na nb).1, .bool (U2 (xk a c l3 l4 l5) l4 na nb).2]) ∧ Below w.heap.size w w' := by
 have hb0 : Below w.heap.size w (w.alloc (.cells #[.string a, .bool b, .int .i64 c, .slice A3 l3.length c3, .slice A4 l4.length c4, .slice A5 l5.length c5] 60)) := (Below.refl _ w).alloc (Nat.le_refl _) _
 have hbf := wY w (.cells #[.string a, .bool b, .int .i64 c, .slice A3 l3.length c3, .slice A4 l4.length c4, .slice A5 l5.length c5] 60)
 have hvalid := jX.calls a b c A3 c3 l3 A4 c4 l4 A5 c5 l5 (xk a c l3 l4 l5) (w.alloc (.cells #[.string a, .bool b, .int .i64 c, .slice A3 l3.length c3, .slice A4 l4.length c4, .slice A5 l5.length c5] 60)) (Kd.zh h3 hb0) g3 (Kd.zh h4 hb0) g4 (Kd.zh h5 hb0) g5 (hG.under hb0) (by unfold jX.f; rw [if_pos ⟨z3, z4, z5⟩])
 have hval : U2 (xk a c l3 l4 l5) l4 na nb = (if xk a c l3 l4 l5 = true then (match l4.find? (fun x => decide (x.f0 = na) && decide (x.f1 = nb)) with | some x => (x.f2, true) | none => ((⟨#[]⟩ : ByteArray), false)) else ((⟨#[]⟩ : ByteArray), false)) := rfl
 generalize U2 (xk a c l3 l4 l5) l4 na nb = R at hval ⊢
 by_cases h0 : l4.length = 0
 ·have e : l4 = [] := List.eq_nil_of_length_eq_zero h0
  have hR : R = ((⟨#[]⟩ : ByteArray), false) := by rw [hval, e]; split <;> rfl
  subst hR
  have d0 : ((l4.length : Int) == 0) = true := beq_iff_eq.2 (by omega)
  have d1 : decide ((l4.length : Int) = 0) = true := decide_eq_true (by omega)
  clear h3 h4 h5 hval hvalid e h0
  go_enter Tryz.func45, Tryz.ntmps45
  go_wp2
  go_ret2
  exact ⟨rfl, hb0⟩
 have d0 : ((l4.length : Int) == 0) = false := beq_eq_false_iff_ne.2 (by omega)
 have d1 : decide ((l4.length : Int) = 0) = false := decide_eq_false (by omega)
 clear h0
 cases X6 : xk a c l3 l4 l5 with
 | false =>
  rw [X6, if_neg (by simp)] at hval
  rw [X6] at hvalid
  subst hval
  clear h3 h4 h5
  go_enter Tryz.func45, Tryz.ntmps45
  go_wp2_with fail
  refine hvalid.mono ?_; rintro e w1 ⟨rfl, hb1⟩
  go_wp2
  go_ret2
  exact ⟨rfl, hb0.trans (hb1.mono hb0.size)⟩
 | true =>
 rw [X6, if_pos rfl] at hval
 rw [X6] at hvalid
 have Xn := zx.mk hval
 have H4 := zx.mk h4
 clear h3 h4 h5 hval
 go_enter Tryz.func45, Tryz.ntmps45
 go_wp2_with fail
 refine hvalid.mono ?_; rintro e w1 ⟨rfl, hb1⟩
 have HB0 := zx.mk (hb0.trans (hb1.mono hb0.size))
 have hc4 : w1.cell? ⟨w.heap.size, 4, none⟩ = some (.slice A4 l4.length c4) := (zZ (zN hbf hb1) 4).trans rfl
 clear hbf hb1 hvalid
 go_wp2_with fail
 clear hc4 d0 d1
 go_loopw [22] (fun y W => ∃ i : Nat, y = .int .i64 (i : Int) ∧ i ≤ l4.length ∧ zx (l4.find? (fun x => decide (x.f0 = na) && decide (x.f1 = nb)) = (l4.drop i).find? (fun x => decide (x.f0 = na) && decide (x.f1 = nb))) ∧ zx (Below w.heap.size w W)) (fun y _ => l4.length - (intOf y).toNat)
 case atStart => exact ⟨0, rfl, Nat.zero_le _, ⟨by rw [List.drop_zero]⟩, HB0⟩
 case round =>
  clear HB0
  obtain ⟨i, rfl, hi, HX, HB⟩ := hrel
  by_cases hlt : i < l4.length
  ·obtain ⟨ad, e, x0, x1, x2⟩ := Wh (Kd.zh H4.out HB.out) (i : Int) (by omega) (by omega)
   cases e
   have e : xG l4 (i : Int) = l4[i] := by simp [xG, List.getD_eq_getElem?_getD, hlt]
   rw [Int.toNat_natCast, e] at x0 x1 x2
   clear e
   have hx := HX.out
   rw [List.drop_eq_getElem_cons hlt, List.find?_cons] at hx
   have hm : l4[i] ∈ l4 := List.getElem_mem hlt
   generalize l4[i] = x at x0 x1 x2 hx hm
   have q1 : (i : Int) < (l4.length : Int) := by omega
   have q0 : (0 : Int) ≤ (i : Int) := by omega
   have q3 : ((i : Int)).toNat = i := Int.toNat_natCast i
   have hbX : Below wr.heap.size wr (wr.alloc (.cells #[.string x.f0, .string x.f1, .string x.f2] 108)) := (Below.refl _ wr).alloc (Nat.le_refl _) _
   have hb2 := HB.out.trans (hbX.mono HB.out.size)
   by_cases t0 : x.f0 = na
   case neg =>
    have d0 : (x.f0.toList == na.toList) = false := beq_eq_false_iff_ne.2 (fun e => t0 (VR.1 e))
    rw [decide_eq_false t0, Bool.false_and] at hx
    have gK := zx.mk hx
    clear hx
    clear hm t0
    go_wp2
    go_roundw
    case rel => exact ⟨i + 1, by first | rfl | (simp; done) | go_num, by omega, gK, ⟨hb2⟩⟩
    case measure => simp [intOf]; omega
   have d0 : (x.f0.toList == na.toList) = true := beq_iff_eq.2 (VR.2 t0)
   by_cases t1 : x.f1 = nb
   case neg =>
    have d1 : (x.f1.toList == nb.toList) = false := beq_eq_false_iff_ne.2 (fun e => t1 (VR.1 e))
    rw [decide_eq_false t1, Bool.and_false] at hx
    have gK := zx.mk hx
    clear hx t1
    clear hm t0
    go_wp2
    go_roundw
    case rel => exact ⟨i + 1, by first | rfl | (simp; done) | go_num, by omega, gK, ⟨hb2⟩⟩
    case measure => simp [intOf]; omega
   case pos =>
    have d1 : (x.f1.toList == nb.toList) = true := beq_iff_eq.2 (VR.2 t1)
    rw [decide_eq_true t0, decide_eq_true t1] at hx
    simp only [Bool.and_true] at hx
    rw [hx] at Xn
    have hR := Xn.out
    subst hR
    clear hx Xn hm t0 t1
    go_wp2
    go_ret2
    exact ⟨rfl, hb2⟩
  ·obtain rfl : i = l4.length := by omega
   have q1 : decide ((l4.length : Int) < (l4.length : Int)) = false := decide_eq_false (by omega)
   have hx := HX.out
   rw [List.drop_eq_nil_of_le (Nat.le_refl _), List.find?_nil] at hx
   rw [hx] at Xn
   have hR := Xn.out
   subst hR
   clear hx Xn
   go_wp2
   go_ret2
   exact ⟨rfl, HB.out⟩
def ug.f (yH : ByteArray) (_ : Bool) (yI : Int) (zM : List yh) (yw : List qy) (yj : List qc) (a1 a2 : ByteArray) (a3 : Int) : Option (Int × Int) := if zM.length ≤ 1000000000 ∧ yw.length ≤ 1000000000 ∧ yj.length ≤ 1000000000 then some (VP (xk yH yI zM yw yj) yj a1 a2 a3) else none
theorem ug.calls (yH : ByteArray) (yM : Bool) (yI : Int) (qp : Option Addr) (qA : Nat) (zM : List yh) (qC : Option Addr) (qD : Nat) (yw : List qy) (qE : Option Addr) (qF : Nat) (yj : List qc) (a1 a2 : ByteArray) (a3 : Int) (r1 r2 : Int) (w : World) (wO : Kd.C qH w qp zM.length zM) (YX : zM.length ≤ qA) (YJ : Kd.C vw w qC yw.length yw) (YV : yw.length ≤ qD) (YK : Kd.C vC w qE yj.length yj) (YW : yj.length ≤ qF) (hG : GW w) (h : ug.f yH yM yI zM yw yj a1 a2 a3 = some (r1, r2)) :
  Calls Tryz.prog 21 #[.agg #[.string yH, .bool yM, .int .i64 yI, .slice qp zM.length qA, .slice qC yw.length qD, .slice qE yj.length qF], .string a1, .string a2, .int .i64 a3] w fun e w' => e = .returned (.tuple #[.int .i64 r1, .int .i64 r2]) ∧ Below w.heap.size w w' := by
 unfold ug.f at h
 split at h
 ·rename_i hl
  have := Ju yH yM yI qp qA zM qC qD yw qE qF yj a1 a2 a3 w hG wO YX YJ YV YK YW hl.1 hl.2.1 hl.2.2
  rw [Option.some.inj h] at this
  exact this
 ·cases h
end Go.Proofs.YtggifbbiiickmaaGreatDoor
namespace Go.Proofs.YtggifbbiiickmaaGreatDoor
open Go.RowKit Go.Proofs.zk.ze Go.Proofs.zk.yc Go.Proofs.zk.yt Go.Proofs.YtggifbbiiickmaaGreatDoor.PX
set_option linter.unusedSimpArgs false
set_option linter.unusedVariables false
def QT (base g : Nat) (W : World) (Af : Option Addr) (cf : Nat) (l : List yS) (f s : Int) (zI za : Bool) (vo vl : Value) (st : List vS × List ByteArray) : Prop :=
 W.heap[g]? = some (.cells #[.slice Af l.length cf, .int .i64 f, .int .i64 s, .bool zI, .bool za, vo, vl] 90 (0, 0)) ∧ Kd.R (Kd.bare Xb) 53 W base (fun _ => True) vo st.1 ∧ Kd.R Kd.string 9 W base (fun _ => True) vl st.2
def XU (base g : Nat) (W : World) (Af : Option Addr) (cf : Nat) (l : List yS) (f s : Int) (zI za : Bool) (st : List vS × List ByteArray) : Prop := ∃ vo vl, QT base g W Af cf l f s zI za vo vl st
section
variable {base g : Nat} {W : World} {Af : Option Addr} {cf : Nat} {l : List yS} {f s : Int} {zI za : Bool} {vo vl : Value} {st : List vS × List ByteArray}
theorem QT.below {W' : World} (h : QT base g W Af cf l f s zI za vo vl st) (hb : Below W.heap.size W W') : QT base g W' Af cf l f s zI za vo vl st := ⟨zN h.1 hb, Kd.yY h.2.1 hb, Kd.yY h.2.2 hb⟩
theorem av {α β : Type} {d : Kd α} {e : TypeId} {dx : Kd β} {ex : TypeId} {W W' : World} {v vx : Value} {xs : List α} {ys : List β} (h : d.R e W base (fun _ => True) v xs) (hx : dx.R ex W base (fun _ => True) vx ys) (hg : W.grownBy W' vx.ownBlock) (hE : ∀ q, q ∈ e :: d.E → q ≠ ex) : d.R e W' base (fun _ => True) v xs := by
 obtain ⟨inn, hown⟩ := Kd.UO hx
 exact Kd.kC (Kd.UN (Kd.kC (Kd.ZO h) (ok' := fun k => some k ≠ vx.ownBlock) (fun k hk e => by
  obtain ⟨_, _, _, p, hp, cs, hc⟩ := hk
  obtain ⟨cs', hc'⟩ := QD hown k e.symm
  rw [hc] at hc'
  injection hc' with hc'
  injection hc' with _ hc'
  exact absurd hc' (hE p hp))) hg (fun k hk => hk)) (ok' := fun _ => True) (fun _ _ => trivial)
theorem zj7 (x : Int) (W : World) (b : Nat) (ok : Nat → Prop) : (Kd.bare Xb).M W b ok (Xl x) [.int .i64 2, .int .i64 x, .int .i64 0, .int .i64 0, .string ⟨#[]⟩, .string ⟨#[]⟩, .slice none 0 0] := sS _ _ (fun _ => False) (Xl x) (Kd.kG _ _ _ _ _)
theorem zj8 (x f s : Int) (n : ByteArray) (W : World) (b : Nat) (ok : Nat → Prop) : (Kd.bare Xb).M W b ok (VT x f s n) [.int .i64 0, .int .i64 x, .int .i64 f, .int .i64 s, .string n, .string ⟨#[]⟩, .slice none 0 0] := sS _ _ (fun _ => False) (VT x f s n) (Kd.kG _ _ _ _ _)
theorem ak {W1 W2 : World} {Ao : Option Addr} {co : Nat} {out : List vS} (h : QT base g W Af cf l f s zI za vo vl st) (hW : Below W.heap.size W W1) (hg : W1.grownBy W2 vo.ownBlock) (ho : Kd.R (Kd.bare Xb) 53 W2 base (fun _ => True) (.slice Ao out.length co) out) (hb : base ≤ W.heap.size) :
  XU base g (W2.setCell ⟨g, 5, none⟩ (.slice Ao out.length co)) Af cf l f s zI za (out, st.2) ∧ xO base g W (W2.setCell ⟨g, 5, none⟩ (.slice Ao out.length co)) ∧ W2.cell? ⟨g, 5, none⟩ = some vo ∧ W2.frozen? ⟨g, 5, none⟩ = false ∧ W2.heap[g]? = some (.cells #[.slice Af l.length cf, .int .i64 f, .int .i64 s, .bool zI, .bool za, vo, vl] 90 (0, 0)) := by
 obtain ⟨h0, hO, hL⟩ := h.below hW
 have hb1 := Nat.le_trans hb hW.size
 have B2 := wZ h0 hg (Kd.UK hO h0 (by decide))
 obtain ⟨inn, hown⟩ := Kd.UO hO
 have L2 := av hL hO hg (by decide)
 refine ⟨⟨_, vl, qO (cs' := #[.slice Af l.length cf, .int .i64 f, .int .i64 s, .bool zI, .bool za, .slice Ao out.length co, vl]) B2 5 (.slice Ao out.length co) rfl, Kd.ZR ho B2 (by decide) 5 _, Kd.ZR L2 B2 (by decide) 5 _⟩,
  ((xO.below (B := g) hW hb).trans (xO.grown (B := g) hown hg hb1)).trans (xO.set B2 5 _), (zZ B2 5).trans rfl, zV B2 5, B2⟩
theorem zz9 {W1 W2 : World} {Ao : Option Addr} {co : Nat} {lost : List ByteArray} (h : QT base g W Af cf l f s zI za vo vl st) (hW : Below W.heap.size W W1) (hg : W1.grownBy W2 vl.ownBlock) (ho : Kd.R Kd.string 9 W2 base (fun _ => True) (.slice Ao lost.length co) lost) (hb : base ≤ W.heap.size) :
  XU base g (W2.setCell ⟨g, 6, none⟩ (.slice Ao lost.length co)) Af cf l f s zI za (st.1, lost) ∧ xO base g W (W2.setCell ⟨g, 6, none⟩ (.slice Ao lost.length co)) ∧ W2.cell? ⟨g, 6, none⟩ = some vl ∧ W2.frozen? ⟨g, 6, none⟩ = false ∧ W2.heap[g]? = some (.cells #[.slice Af l.length cf, .int .i64 f, .int .i64 s, .bool zI, .bool za, vo, vl] 90 (0, 0)) := by
 obtain ⟨h0, hO, hL⟩ := h.below hW
 have hb1 := Nat.le_trans hb hW.size
 have B2 := wZ h0 hg (Kd.UK hL h0 (by decide))
 obtain ⟨inn, hown⟩ := Kd.UO hL
 have L2 := av hO hL hg (by decide)
 refine ⟨⟨vo, _, qO (cs' := #[.slice Af l.length cf, .int .i64 f, .int .i64 s, .bool zI, .bool za, vo, .slice Ao lost.length co]) B2 6 (.slice Ao lost.length co) rfl, Kd.ZR L2 B2 (by decide) 6 _, Kd.ZR ho B2 (by decide) 6 _⟩,
  ((xO.below (B := g) hW hb).trans (xO.grown (B := g) hown hg hb1)).trans (xO.set B2 6 _), (zZ B2 6).trans rfl, zV B2 6, B2⟩
end
def put.T5 : Bool × List (List Nat × List Nat) := (true, [([], []), ([0], [0]), ([1], [1]), ([2], [2]), ([], []), ([3, 4], [3, 4]), ([5], [5]), ([], []), ([7], [7]), ([8], [8]), ([9], [9]), ([], []), ([11], [11]), ([10, 12], [10, 12]), ([13], [13]), ([14], [14]), ([], []), ([], []), ([17], [17]), ([18], [18]), ([19], [19]), ([20], [20]), ([6, 15, 16, 21], [6, 15, 16, 21]), ([22], [22]), ([23], [23]), ([23], [23]), ([24, 22, 0, 1, 2, 3, 4, 5, 6, 7, 8, 9, 10, 11, 12, 13, 14, 15, 16, 17, 18, 19, 20, 21, 22, 23, 24], [24]), ([25, 26, 0, 1, 2, 3, 4, 5, 6, 7, 8, 9, 10, 11, 12, 13, 14, 15, 16, 17, 18, 19, 20, 21, 22, 23, 24, 25, 26], [25])])
def put.B5 : List Nat := [0, 1, 3, 7, 0, 31, 63, 0, 128, 384, 896, 0, 2048, 8064, 16256, 32640, 0, 0, 131072, 393216, 917504, 1966080, 4194303, 8388607, 16777215, 16777215, 33554431, 134217727]
theorem put.zqz : xE .any (opsOf Tryz.f46 5) = put.T5 := by kernel_rfl
theorem put.zkX : vP put.T5.2 put.B5 = true := by kernel_rfl
def put.T8 : Bool × List (List Nat × List Nat) := (true, [([], []), ([0], [0]), ([1], [1]), ([2], [2]), ([], []), ([3, 4], [3, 4]), ([5], [5]), ([], []), ([], []), ([8], [8]), ([9], [9]), ([10], [10]), ([11], [11]), ([6, 7, 12], [6, 7, 12]), ([13], [13]), ([14], [14]), ([14], [14]), ([15, 13, 0, 1, 2, 3, 4, 5, 6, 7, 8, 9, 10, 11, 12, 13, 14, 15], [15]), ([16, 17, 0, 1, 2, 3, 4, 5, 6, 7, 8, 9, 10, 11, 12, 13, 14, 15, 16, 17], [16])])
def put.B8 : List Nat := [0, 1, 3, 7, 0, 31, 63, 0, 0, 256, 768, 1792, 3840, 8191, 16383, 32767, 32767, 65535, 262143]
theorem put.zwJ : xE .any (opsOf Tryz.f46 8) = put.T8 := by kernel_rfl
theorem put.zkJ : vP put.T8.2 put.B8 = true := by kernel_rfl
def put.T9 : Bool × List (List Nat × List Nat) := (true, [([], []), ([], []), ([1], [1]), ([2], [2]), ([3], [3]), ([], []), ([], []), ([], []), ([7], [7]), ([8], [8]), ([9], [9]), ([10], [10]), ([], []), ([5, 6, 11, 12], [5, 6, 11, 12]), ([13], [13]), ([4, 14], [4, 14]), ([0, 0, 1, 2, 3, 4, 5, 6, 7, 8, 9, 10, 11, 12, 13, 14, 15], [0]), ([16, 0, 1, 2, 3, 4, 5, 6, 7, 8, 9, 10, 11, 12, 13, 14, 15], [16]), ([17, 15, 15, 0, 1, 2, 3, 4, 5, 6, 7, 8, 9, 10, 11, 12, 13, 14, 15], [15, 17])])
def put.B9 : List Nat := [0, 0, 2, 6, 14, 0, 0, 0, 128, 384, 896, 1920, 0, 8160, 16352, 32766, 65535, 131071, 262143]
theorem put.zwV : xE .any (opsOf Tryz.f46 9) = put.T9 := by kernel_rfl
theorem put.zkV : vP put.T9.2 put.B9 = true := by kernel_rfl
set_option maxRecDepth 100000 in
set_option maxHeartbeats 8000000 in
theorem zj9 (w0 : World) (base g : Nat) (Af : Option Addr) (cf : Nat) (l : List yS) (f s : Int) (zI za : Bool) (st : List vS × List ByteArray) (n : ByteArray) (w : World) (hG : GW w0) (hC : Kd.C Zq w0 Af l.length l) (hl : l.length ≤ 1000000000) (hf0 : 0 ≤ f) (hf1 : f < (l.length : Int)) (hv : ∀ x ∈ l, qN x = true) (hgb : g < base) (hb : base ≤ w.heap.size) (hg0 : w0.heap.size ≤ g) (hw : Below w0.heap.size w0 w) (hlo : st.1.length ≤ 1000000) (hll : st.2.length ≤ 1000000) (vo vl : Value) (hS : QT base g w Af cf l f s zI za vo vl st) (ha : uY l f n < 0) :
  Calls Tryz.prog 46 #[.pointer (some ⟨g, 0, none⟩), .string n] w fun e w' => (∃ v, e = .returned v) ∧ XU base g w' Af cf l f s zI za (st.1, st.2 ++ [n]) ∧ xO base g w w' := by
 have hhome := gV w0 g Af cf l f s zI za vo vl n w hG hC hl hf0 hf1 hv hw hS.1
 generalize uY l f n = a at hhome ha
 have d0 : decide (a < 0) = true := decide_eq_true ha
 have HS := zx.mk hS
 clear hS hv hC hG hw
 go_enter Tryz.func46, Tryz.ntmps46
 go_wp2_with (first | (go_at_call 105; refine hhome.mono ?_; rintro e w1 ⟨rfl, hb1⟩; have S1 := HS.out.below hb1; have k6 : w1.cell? ⟨g, 6, none⟩ = some vl := (zZ S1.1 6).trans rfl; have JA := zx.mk S1; have HB1 := zx.mk hb1; clear S1 hb1) | ((with_reducible refine Qd (b := .append) (xs := #[.tmp 19, .tmp 21]) rfl ?_); at_builtin; refine Kd.JD Kd.string (w0 := w1) base rfl (.tmp 19) (.tmp 21) 27 9 (.string ⟨#[]⟩) 16 rfl Tryz.underlying27 zqR rfl (by decide) (by omega) vl st.2 n [.string n] (fun _ => True) (fun _ => False) rfl rfl ?aP (fun _ hk => hk.elim) ?aF ?aO ?aB ?aS ?aL ?_; (case aP => exact rfl); (case aF => exact fun _ _ => trivial); (case aO => exact JA.out.2.2); (case aB => exact Below.refl _ _); (case aS => exact Nat.le_trans hb HB1.out.size); (case aL => omega); intro v1 w2 ho hbw hg hat; obtain ⟨Ao, co, rfl⟩ := Kd.xw ho; have hp := zz9 JA.out (Below.refl _ _) hg ho (Nat.le_trans hb HB1.out.size); obtain ⟨p1, p2, k7, z7, B7⟩ := hp; have P1 := zx.mk p1; have P2 := zx.mk p2; clear p1 p2 B7 ho hbw hg hat k6; generalize hnn : (st.2 ++ [n]).length = nn at P1 P2 ⊢))
 refine bodyPost_ret (results_none rfl _ _ _) rfl ?_
 exact ⟨⟨_, rfl⟩, P1.out, (xO.below HB1.out hb).trans P2.out⟩
set_option maxRecDepth 100000 in
set_option maxHeartbeats 16000000 in
theorem zxM (w0 : World) (base g : Nat) (Af : Option Addr) (cf : Nat) (l : List yS) (f s : Int) (zI za : Bool) (st : List vS × List ByteArray) (n : ByteArray) (w : World) (hG : GW w0) (hC : Kd.C Zq w0 Af l.length l) (hl : l.length ≤ 1000000000) (hf0 : 0 ≤ f) (hf1 : f < (l.length : Int)) (hv : ∀ x ∈ l, qN x = true) (hgb : g < base) (hb : base ≤ w.heap.size) (hg0 : w0.heap.size ≤ g) (hw : Below w0.heap.size w0 w) (hlo : st.1.length ≤ 1000000) (hll : st.2.length ≤ 1000000) (vo vl : Value) (hS : QT base g w Af cf l f s zI za vo vl st) (ha : 0 ≤ uY l f n) (hs0 : 1 ≤ s) (hs1 : s ≤ 1000) :
  Calls Tryz.prog 46 #[.pointer (some ⟨g, 0, none⟩), .string n] w fun e w' => (∃ v, e = .returned v) ∧ XU base g w' Af cf l f s zI za (st.1 ++ Yc l s za st.1 (uY l f n) n ++ [VT (Ya (qG l (uY l f n)) n s).1 (uY l f n) s n], st.2) ∧ xO base g w w' := by
 have hhome := gV w0 g Af cf l f s zI za vo vl n w hG hC hl hf0 hf1 hv hw hS.1
 have hlt := gJ n hf0 hf1
 generalize uY l f n = a at hhome ha hlt ⊢
 have ha1 : a < (l.length : Int) := by omega
 have d0 : decide (a < 0) = false := decide_eq_false (by omega)
 clear hlt
 have hx := ZL hv ha ha1
 have hz := Z5 hx
 obtain ⟨ad, A3, c3, A4, c4, A5, c5, e, x0, x1, x2, x3, x4, x5, g3, q3, g4, q4, g5, q5⟩ := Yv hC a ha (by omega)
 subst e
 have e : zK l a = qG l a := rfl
 rw [e] at x0 x1 x2 x3 x4 x5 g3 q3 g4 q4 g5 q5
 clear e
 have hnil : st.1 = [] → Yc l s za st.1 a n = [] := fun h => by unfold Yc; rw [h]; rfl
 have hlast : ∀ b, st.1.getLast? = some b → Yc l s za st.1 a n = if za && decide (b.f2 = a) then (if (Zx (qG l a) b.f4 n s).1 = 0 then [] else [Xl (Zx (qG l a) b.f4 n s).1]) else [] := fun b h => by unfold Yc; rw [h]
 generalize Yc l s za st.1 a n = kb at hnil hlast ⊢
 generalize qG l a = x at x0 x1 x2 x3 x4 x5 g3 q3 g4 q4 g5 q5 hx hz hlast ⊢
 obtain ⟨Ao, co, evo⟩ := Kd.xw hS.2.1
 subst evo
 obtain ⟨cb, hcb⟩ : ∃ cb : Bool, cb = (match st.1.getLast? with | none => false | some b => za && decide (b.f2 = a)) := ⟨_, rfl⟩
 have zq5 : ∀ (m : ByteArray) (W : World), Below w0.heap.size w0 W → Calls Tryz.prog 21 #[.agg #[.string x.f0, .bool x.f1, .int .i64 x.f2, .slice A3 x.f3.length c3, .slice A4 x.f4.length c4, .slice A5 x.f5.length c5], .string m, .string n, .int .i64 s] W fun e w' => e = .returned (.tuple #[.int .i64 (Zx x m n s).1, .int .i64 (Zx x m n s).2]) ∧ Below W.heap.size W w' := fun m W h =>
  Ju x.f0 x.f1 x.f2 A3 c3 x.f3 A4 c4 x.f4 A5 c5 x.f5 m n s W (hG.under h) (Kd.zh q3 h) g3 (Kd.zh q4 h) g4 (Kd.zh q5 h) g5 (by omega) (by omega) (by omega)
 have hwide : ∀ (W : World), Below w0.heap.size w0 W → Calls Tryz.prog 22 #[.agg #[.string x.f0, .bool x.f1, .int .i64 x.f2, .slice A3 x.f3.length c3, .slice A4 x.f4.length c4, .slice A5 x.f5.length c5], .string n, .int .i64 s] W fun e w' => e = .returned (.tuple #[.int .i64 (Ya x n s).1, .int .i64 (Ya x n s).2]) ∧ Below W.heap.size W w' := fun W h =>
  uI.calls x.f0 x.f1 x.f2 A3 c3 x.f3 A4 c4 x.f4 A5 c5 x.f5 n s _ _ W (Kd.zh q3 h) g3 (Kd.zh q4 h) g4 (Kd.zh q5 h) g5 (hG.under h) (oF x.f0 x.f1 x.f2 x.f3 x.f4 x.f5 n s (by omega) (by omega) (by omega))
 have zq6 : ∀ (W : World), Below w0.heap.size w0 W → W.cell? (ad.add (a.toNat * 6)) = some (.string x.f0) ∧ W.cell? ⟨(ad.add (a.toNat * 6)).block, (ad.add (a.toNat * 6)).off + 1, none⟩ = some (.bool x.f1) ∧ W.cell? ⟨(ad.add (a.toNat * 6)).block, (ad.add (a.toNat * 6)).off + 2, none⟩ = some (.int .i64 x.f2) ∧ W.cell? ⟨(ad.add (a.toNat * 6)).block, (ad.add (a.toNat * 6)).off + 3, none⟩ = some (.slice A3 x.f3.length c3) ∧ W.cell? ⟨(ad.add (a.toNat * 6)).block, (ad.add (a.toNat * 6)).off + 4, none⟩ = some (.slice A4 x.f4.length c4) ∧ W.cell? ⟨(ad.add (a.toNat * 6)).block, (ad.add (a.toNat * 6)).off + 5, none⟩ = some (.slice A5 x.f5.length c5) := fun W h => ⟨(h.cell (World.block_lt_of_cell? w0 _ x0)).trans x0, (h.cell (World.block_lt_of_cell? w0 _ x1)).trans x1, (h.cell (World.block_lt_of_cell? w0 _ x2)).trans x2, (h.cell (World.block_lt_of_cell? w0 _ x3)).trans x3, (h.cell (World.block_lt_of_cell? w0 _ x4)).trans x4, (h.cell (World.block_lt_of_cell? w0 _ x5)).trans x5⟩
 have HKN := zx.mk zq5
 have HWD := zx.mk hwide
 have HFT := zx.mk zq6
 have HNL := zx.mk hnil
 have HLS := zx.mk hlast
 have HS := zx.mk hS
 have HW := zx.mk hw
 have HHO := zx.mk hhome
 have oG := zx.mk hcb
 clear hcb zq5 hwide zq6 hnil hlast hS hw x0 x1 x2 x3 x4 x5 q3 q4 q5 g3 g4 g5 hx hz hv hC hG hhome
 go_enter Tryz.func46, Tryz.ntmps46
 go_upto_region 4 with (go_at_call 105; refine HHO.out.mono ?_; rintro e w1 ⟨rfl, hb1⟩; have S1 := HS.out.below hb1; have k5 : w1.cell? ⟨g, 5, none⟩ = some (.slice Ao st.1.length co) := (zZ S1.1 5).trans rfl; have k4 : w1.cell? ⟨g, 4, none⟩ = some (.bool za) := (zZ S1.1 4).trans rfl; have JA := zx.mk S1; have HB1 := zx.mk hb1; clear hb1 S1)
 have HW1 := zx.mk (HW.out.trans (HB1.out.mono HW.out.size))
 have hb1 : base ≤ w1.heap.size := Nat.le_trans hb HB1.out.size
 go_cut [51] (fun s51 wx => s51 = .bool cb ∧ w1 = wx)
 case first =>
  cases kL : st.1.getLast? with
  | none =>
   have hn0 : st.1 = [] := List.getLast?_eq_none_iff.1 kL
   have hz0 : st.1.length = 0 := by rw [hn0]; rfl
   have hcb := oG.out
   rw [kL] at hcb
   subst hcb
   have i0 : decide (0 < (st.1.length : Int)) = false := decide_eq_false (by omega)
   have i00 : decide (0 < st.1.length) = false := decide_eq_false (by omega)
   clear hz0 hn0 kL
   go_wp2_with fail
   go_meet
   exact ⟨rfl, rfl⟩
  | some b =>
   have hpos : 0 < st.1.length := by
    rcases Nat.eq_zero_or_pos st.1.length with h | h
    ·rw [List.eq_nil_of_length_eq_zero h] at kL; cases kL
    ·exact h
   have hget : st.1[st.1.length - 1]? = some b := by rw [← List.getLast?_eq_getElem?]; exact kL
   obtain ⟨_, gO, CO⟩ := Kd.uV JA.out.2.1
   obtain ⟨bd, A6, c6, e, y0, y1, y2, y3, y4, y5, y6, _, _⟩ := qo (show Kd.C Xb _ _ _ _ from CO) ((st.1.length : Int) - 1) (by omega) (by omega)
   subst e
   have e1 : ((st.1.length : Int) - 1).toNat = st.1.length - 1 := by omega
   have e2 : zw st.1 ((st.1.length : Int) - 1) = b := by unfold zw; rw [e1, List.getD_eq_getElem?_getD, hget]; rfl
   rw [e2] at y2
   rw [e1] at y2
   have hcb := oG.out
   rw [kL] at hcb
   dsimp only at hcb
   clear y0 y1 y3 y4 y5 y6 e2 CO gO hget kL e1
   have i0 : decide (0 < (st.1.length : Int)) = true := decide_eq_true (by omega)
   have i1 : (0 : Int) ≤ (st.1.length : Int) - 1 := by omega
   have i11 : (1 : Int) ≤ (st.1.length : Int) := by omega
   have i2 : (st.1.length : Int) - 1 < (st.1.length : Int) := by omega
   have i3 : wrap64 ((st.1.length : Int) - 1) = (st.1.length : Int) - 1 := YA (by omega) (by omega)
   have zqq := zx.mk hcb
   clear hcb
   cases za with
   | false =>
    clear y2
    go_wp2_with fail
    go_meet
    exact ⟨by rw [zqq.out]; rfl, rfl⟩
   | true =>
    by_cases hba : b.f2 = a
    case neg =>
     have i4 : (b.f2 == a) = false := beq_eq_false_iff_ne.2 hba
     have i5 : decide (b.f2 = a) = false := decide_eq_false hba
     have HC2 := zx.mk (show cb = false by rw [zqq.out, i5]; rfl)
     clear hba
     go_wp2_with fail
     go_meet
     exact ⟨by rw [HC2.out], rfl⟩
    case pos =>
     have i4 : (b.f2 == a) = true := beq_iff_eq.2 hba
     have i5 : decide (b.f2 = a) = true := decide_eq_true hba
     have HC2 := zx.mk (show cb = true by rw [zqq.out, i5]; rfl)
     clear hba
     go_wp2_with fail
     go_meet
     exact ⟨by rw [HC2.out], rfl⟩
 case rest =>
 obtain ⟨rfl, rfl⟩ := hcut
 clear k5 k4
 go_upto_if 51 with (fail)
 go_cut [5] (fun _ wx => zx (XU base g wx (some ad) cf l f s zI za (st.1 ++ kb, st.2)) ∧ zx (xO base g w wx))
 case first =>
  cases cb with
  | false =>
   have hkb : kb = [] := by
    have hcb := oG.out
    cases kL : st.1.getLast? with
    | none => exact HNL.out (List.getLast?_eq_none_iff.1 kL)
    | some b =>
     rw [kL] at hcb
     dsimp only at hcb
     rw [HLS.out b kL, ← hcb]; rfl
   subst hkb
   go_wp2_with fail
   go_meet
   exact ⟨⟨_, vl, by rw [List.append_nil]; exact JA.out⟩, ⟨xO.below HB1.out hb⟩⟩
  | true =>
   obtain ⟨b, kL⟩ : ∃ b, st.1.getLast? = some b := by
    have hcb := oG.out
    cases kL : st.1.getLast? with
    | none => rw [kL] at hcb; cases hcb
    | some b => exact ⟨b, rfl⟩
   have hcb := oG.out
   rw [kL] at hcb
   dsimp only at hcb
   have hkb : kb = if (Zx x b.f4 n s).1 = 0 then [] else [Xl (Zx x b.f4 n s).1] := by rw [HLS.out b kL, ← hcb]; rfl
   have hpos : 0 < st.1.length := by
    rcases Nat.eq_zero_or_pos st.1.length with h | h
    ·rw [List.eq_nil_of_length_eq_zero h] at kL; cases kL
    ·exact h
   have hget : st.1[st.1.length - 1]? = some b := by rw [← List.getLast?_eq_getElem?]; exact kL
   obtain ⟨_, gO, CO⟩ := Kd.uV JA.out.2.1
   obtain ⟨bd, A6, c6, e, y0, y1, y2, y3, y4, y5, y6, _, _⟩ := qo (show Kd.C Xb _ _ _ _ from CO) ((st.1.length : Int) - 1) (by omega) (by omega)
   subst e
   have e1 : ((st.1.length : Int) - 1).toNat = st.1.length - 1 := by omega
   have e2 : zw st.1 ((st.1.length : Int) - 1) = b := by unfold zw; rw [e1, List.getD_eq_getElem?_getD, hget]; rfl
   rw [e2] at y4
   rw [e1] at y4
   have i1 : (0 : Int) ≤ (st.1.length : Int) - 1 := by omega
   have i11 : (1 : Int) ≤ (st.1.length : Int) := by omega
   have i2 : (st.1.length : Int) - 1 < (st.1.length : Int) := by omega
   have i3 : wrap64 ((st.1.length : Int) - 1) = (st.1.length : Int) - 1 := YA (by omega) (by omega)
   have zvz := zx.mk (HKN.out b.f4)
   generalize Zx x b.f4 n s = kp at hkb zvz
   obtain ⟨QO, er⟩ := kp
   have HKB := zx.mk hkb
   have HY4 := zx.mk y4
   clear hkb y0 y1 y2 y3 y4 y5 y6 e2 CO gO hget kL e1 hcb
   go_wp2_with fail
   have gY : w1.cell? ⟨g, 0, none⟩ = some (.slice (some ad) l.length cf) := (zZ JA.out.1 0).trans rfl
   have Ue : w1.cell? ⟨g, 2, none⟩ = some (.int .i64 s) := (zZ JA.out.1 2).trans rfl
   have gW : w1.cell? ⟨g, 5, none⟩ = some (.slice (some bd) st.1.length co) := (zZ JA.out.1 5).trans rfl
   have kb4 := HY4.out
   have UZ := zx.mk (fun (W : World) (h : Below w1.heap.size w1 W) => (show W.cell? ⟨g, 0, none⟩ = some (.slice (some ad) l.length cf) ∧ W.cell? ⟨g, 2, none⟩ = some (.int .i64 s) ∧ W.cell? ⟨g, 5, none⟩ = some (.slice (some bd) st.1.length co) ∧ W.cell? ⟨(bd.add ((st.1.length - 1) * 7)).block, (bd.add ((st.1.length - 1) * 7)).off + 4, none⟩ = some (.string b.f4) ∧ (W.cell? (ad.add (a.toNat * 6)) = some (.string x.f0) ∧ W.cell? ⟨(ad.add (a.toNat * 6)).block, (ad.add (a.toNat * 6)).off + 1, none⟩ = some (.bool x.f1) ∧ W.cell? ⟨(ad.add (a.toNat * 6)).block, (ad.add (a.toNat * 6)).off + 2, none⟩ = some (.int .i64 x.f2) ∧ W.cell? ⟨(ad.add (a.toNat * 6)).block, (ad.add (a.toNat * 6)).off + 3, none⟩ = some (.slice A3 x.f3.length c3) ∧ W.cell? ⟨(ad.add (a.toNat * 6)).block, (ad.add (a.toNat * 6)).off + 4, none⟩ = some (.slice A4 x.f4.length c4) ∧ W.cell? ⟨(ad.add (a.toNat * 6)).block, (ad.add (a.toNat * 6)).off + 5, none⟩ = some (.slice A5 x.f5.length c5)) from
    ⟨(h.cell (World.block_lt_of_cell? w1 _ gY)).trans gY, (h.cell (World.block_lt_of_cell? w1 _ Ue)).trans Ue, (h.cell (World.block_lt_of_cell? w1 _ gW)).trans gW, (h.cell (World.block_lt_of_cell? w1 _ kb4)).trans kb4, HFT.out W (HW1.out.trans (h.mono HW1.out.size))⟩))
   clear gY Ue gW kb4
   refine RW.rS (n := 28) UZ put.zqz put.zkX (by kernel_rfl) rfl rfl (fun w3 H0 T U h => ?_)
   refine RW.rP 0 (some 53) T ?_
   refine RW.rP 1 (some 54) T ?_
   refine RW.rP 2 (some 55) T ?_
   refine RW.rT 3 (some 56) T U h ?_
   refine RW.rP 4 (some 57) T ?_
   refine RW.rP 5 (some 58) T ?_
   refine RW.rT 6 (some 59) T U h ?_
   refine RW.rP 7 (some 60) T ?_
   refine RW.rP 8 (some 61) T ?_
   refine RW.rP 9 (some 62) T ?_
   refine RW.rT 10 (some 63) T U h ?_
   refine RW.rP 11 (some 64) T ?_
   refine RW.rP 12 (some 65) T ?_
   refine RW.rP 13 (some 66) T ?_
   refine RW.rP 14 (some 67) T ?_
   refine RW.rT 15 (some 68) T U h ?_
   refine RW.rP 16 (some 69) T ?_
   refine RW.rP 17 (some 70) T ?_
   refine RW.rP 18 (some 71) T ?_
   refine RW.rP 19 (some 72) T ?_
   refine RW.rP 20 (some 73) T ?_
   refine RW.rT 21 (some 74) T U h ?_
   clear h
   refine RW.rC 22 (some 75) T UZ H0 Tryz.func21 (zvz.out _ (HW1.out.trans (H0.out.mono HW1.out.size))) (fun w4 H4 h => ?_) (by kernel_rfl)
   refine RW.rP 23 (some 52) T ?_
   refine RW.rP 24 (some 76) T ?_
   refine RW.rP 25 (some 77) T ?_
   refine RW.rP 26 (some 6) T ?_
   refine RW.rP 27 (some 7) T ?_
   refine jk (xM T.out (by kernel_rfl)) ?_
   clear h
   have S4 := JA.out.below H4.out
   have hb4 := Nat.le_trans hb1 H4.out.size
   have LK4 := zx.mk ((xO.below (B := g) HB1.out hb).trans (xO.below (B := g) H4.out hb1))
   have oH := zx.mk S4
   have k5 : w4.cell? ⟨g, 5, none⟩ = some (.slice (some bd) st.1.length co) := (zZ S4.1 5).trans rfl
   clear S4
   by_cases h0 : QO = 0
   ·subst h0
    have hkb : kb = [] := by rw [HKB.out]; rfl
    subst hkb
    go_wp2_with fail
    go_meet
    exact ⟨⟨_, vl, by rw [List.append_nil]; exact oH.out⟩, LK4⟩
   ·have hkb : kb = [Xl QO] := by rw [HKB.out]; exact if_neg h0
    subst hkb
    have j0 : (QO != 0) = true := by simpa using h0
    have j1 : (!(QO == 0)) = true := by simpa using h0
    have j2 : (QO == 0) = false := by simpa using h0
    clear h0
    go_wp2_with ((with_reducible refine Qd (b := .append) (xs := #[.tmp 84, .tmp 87]) rfl ?_); at_builtin; refine Kd.JD (Kd.bare Xb) (w0 := w4) base rfl (.tmp 84) (.tmp 87) 34 53 (.agg #[.int .i64 0, .int .i64 0, .int .i64 0, .int .i64 0, .string ⟨#[]⟩, .string ⟨#[]⟩, .slice none 0 0]) 88 rfl Tryz.underlying34 lH rfl (by decide) (by omega) (.slice (some bd) st.1.length co) st.1 (Xl QO) [.int .i64 2, .int .i64 QO, .int .i64 0, .int .i64 0, .string ⟨#[]⟩, .string ⟨#[]⟩, .slice none 0 0] (fun _ => True) (fun _ => False) rfl rfl ?aP (fun _ hk => hk.elim) ?aF ?aO ?aB ?aS ?aL ?_; (case aP => exact zj7 _ _ _ _); (case aF => exact fun _ _ => trivial); (case aO => exact oH.out.2.1); (case aB => exact Below.refl _ _); (case aS => exact hb4); (case aL => omega); intro v1 w5 ho hbw hg hat; obtain ⟨Ao, co, rfl⟩ := Kd.xw ho; have hp := ak oH.out (Below.refl _ _) hg ho hb4; obtain ⟨p1, p2, k7, z7, B7⟩ := hp; have P1 := zx.mk p1; have P2 := zx.mk p2; clear p1 p2 B7 ho hbw hg hat k5; generalize hnn : (st.1 ++ [Xl QO]).length = nn at P1 P2 ⊢)
    go_meet
    exact ⟨P1, ⟨LK4.out.trans P2.out⟩⟩
 case rest =>
  obtain ⟨HS2, HL2⟩ := hcut
  obtain ⟨vo2, vl2, S2⟩ := HS2.out
  have hkl : kb.length ≤ 1 := by
   cases kL : st.1.getLast? with
   | none => rw [HNL.out (List.getLast?_eq_none_iff.1 kL)]; exact Nat.zero_le _
   | some b =>
    rw [HLS.out b kL]
    repeat' split
    all_goals first | exact Nat.zero_le _ | exact Nat.le_refl _
  have hw2 : Below w0.heap.size w0 wc := HW.out.trans (Jt HL2.out hg0 (by omega))
  have hb2 : base ≤ wc.heap.size := Nat.le_trans hb HL2.out.1.size
  have gY : wc.cell? ⟨g, 0, none⟩ = some (.slice (some ad) l.length cf) := (zZ S2.1 0).trans rfl
  have Ue : wc.cell? ⟨g, 2, none⟩ = some (.int .i64 s) := (zZ S2.1 2).trans rfl
  have UZ := zx.mk (fun (W : World) (h : Below wc.heap.size wc W) => (show W.cell? ⟨g, 0, none⟩ = some (.slice (some ad) l.length cf) ∧ W.cell? ⟨g, 2, none⟩ = some (.int .i64 s) ∧ (W.cell? (ad.add (a.toNat * 6)) = some (.string x.f0) ∧ W.cell? ⟨(ad.add (a.toNat * 6)).block, (ad.add (a.toNat * 6)).off + 1, none⟩ = some (.bool x.f1) ∧ W.cell? ⟨(ad.add (a.toNat * 6)).block, (ad.add (a.toNat * 6)).off + 2, none⟩ = some (.int .i64 x.f2) ∧ W.cell? ⟨(ad.add (a.toNat * 6)).block, (ad.add (a.toNat * 6)).off + 3, none⟩ = some (.slice A3 x.f3.length c3) ∧ W.cell? ⟨(ad.add (a.toNat * 6)).block, (ad.add (a.toNat * 6)).off + 4, none⟩ = some (.slice A4 x.f4.length c4) ∧ W.cell? ⟨(ad.add (a.toNat * 6)).block, (ad.add (a.toNat * 6)).off + 5, none⟩ = some (.slice A5 x.f5.length c5)) from
   ⟨(h.cell (World.block_lt_of_cell? wc _ gY)).trans gY, (h.cell (World.block_lt_of_cell? wc _ Ue)).trans Ue, HFT.out W (hw2.trans (h.mono hw2.size))⟩))
  have HW2 := zx.mk hw2
  have HT2 := zx.mk S2
  clear hw2 S2 gY Ue HS2
  obtain ⟨wd, hwd⟩ : ∃ wd, Ya x n s = wd := ⟨_, rfl⟩
  rw [hwd] at HWD
  have HWE := zx.mk hwd
  clear hwd
  obtain ⟨wv, we⟩ := wd
  go_wp2_with fail
  refine RW.rS (n := 19) UZ put.zwJ put.zkJ (by kernel_rfl) rfl rfl (fun w3 H0 T U h => ?_)
  refine RW.rP 0 (some 92) T ?_
  refine RW.rP 1 (some 93) T ?_
  refine RW.rP 2 (some 94) T ?_
  refine RW.rT 3 (some 95) T U h ?_
  refine RW.rP 4 (some 96) T ?_
  refine RW.rP 5 (some 97) T ?_
  refine RW.rT 6 (some 98) T U h ?_
  refine RW.rP 7 (some 99) T ?_
  refine RW.rP 8 (some 100) T ?_
  refine RW.rP 9 (some 101) T ?_
  refine RW.rP 10 (some 102) T ?_
  refine RW.rP 11 (some 103) T ?_
  refine RW.rT 12 (some 104) T U h ?_
  clear h
  refine RW.rC 13 (some 105) T UZ H0 Tryz.func22 (HWD.out _ (HW2.out.trans (H0.out.mono HW2.out.size))) (fun w4 H4 h => ?_) (by kernel_rfl)
  refine RW.rP 14 (some 91) T ?_
  refine RW.rP 15 (some 106) T ?_
  refine RW.rP 16 (some 107) T ?_
  refine RW.rP 17 (some 8) T ?_
  refine RW.rP 18 (some 9) T ?_
  refine jk (xM T.out (by kernel_rfl)) ?_
  clear h
  have S4 := HT2.out.below H4.out
  have hb4 := Nat.le_trans hb2 H4.out.size
  have LK4 := zx.mk (HL2.out.trans (xO.below (B := g) H4.out hb2))
  have gW : w4.cell? ⟨g, 5, none⟩ = some vo2 := (zZ S4.1 5).trans rfl
  have Ue : w4.cell? ⟨g, 2, none⟩ = some (.int .i64 s) := (zZ S4.1 2).trans rfl
  have oI := zx.mk (fun (W : World) (h : Below w4.heap.size w4 W) => (show W.cell? ⟨g, 5, none⟩ = some vo2 ∧ W.cell? ⟨g, 2, none⟩ = some (.int .i64 s) from ⟨(h.cell (World.block_lt_of_cell? w4 _ gW)).trans gW, (h.cell (World.block_lt_of_cell? w4 _ Ue)).trans Ue⟩))
  have oH := zx.mk S4
  clear S4 gW Ue T U
  go_wp2_with fail
  refine RW.rSD (n := 19) [18] oI put.zwV put.zkV (by kernel_rfl) rfl rfl (fun w5 H5 T U h => ?_)
  refine RW.rP 0 (some 108) T ?_
  refine RW.rP 1 (some 109) T ?_
  refine RW.rP 2 (some 110) T ?_
  refine RW.rP 3 (some 111) T ?_
  refine RW.rT 4 (some 112) T U h ?_
  refine RW.rP 5 (some 113) T ?_
  refine RW.rP 6 (some 114) T ?_
  refine RW.rP 7 (some 115) T ?_
  refine RW.rP 8 (some 116) T ?_
  refine RW.rP 9 (some 117) T ?_
  refine RW.rP 10 (some 118) T ?_
  refine RW.rT 11 (some 119) T U h ?_
  refine RW.rP 12 (some 120) T ?_
  refine RW.rP 13 (some 121) T ?_
  have S5 := oH.out.below H5.out
  have hb5 := Nat.le_trans hb4 H5.out.size
  clear h
  refine Q7 (i := 14) (N := some 122) #[true, true, true, true, true, true, true, true, true, true, true, true, true, true, true, false, false, false, false] rfl rfl (Zv T.out (by kernel_rfl)) (by decide) (fun K hK => ?_)
  refine dD (w1 := ?_) (v := ?_) (by rfl) rfl ?_ ?_
  rotate_left 2
  ·have h := oI.out _ H5.out
   go_simp
   constructor
   ·rfl
   ·rfl
  refine hK.out _ _ (oI.out _ (H5.out.alloc H5.out.size _)) (fun h => ?_)
  clear hK K h
  refine Qy (a' := ?_) ?_ ?_
  rotate_left
  ·show Act.put _ (some 122) _ = _
   simp only [Act.put, List.setIfInBounds_toArray, List.set_cons_zero, List.set_cons_succ]
   rfl
  refine Q7 (i := 15) (N := some 123) #[true, true, true, true, true, true, true, true, true, true, true, true, true, true, true, true, false, false, false] rfl rfl (Zv T.out (by kernel_rfl)) (by decide) (fun K hK => ?_)
  refine Kd.Qz (Kd.bare Xb) (w0 := w5) base (by rfl) (.tmp 112) (.tmp 122) 34 53 (.agg #[.int .i64 0, .int .i64 0, .int .i64 0, .int .i64 0, .string ⟨#[]⟩, .string ⟨#[]⟩, .slice none 0 0]) 88 rfl Tryz.underlying34 lH rfl (by decide) (by omega) vo2 (st.1 ++ kb) (VT wv a s n) [.int .i64 0, .int .i64 wv, .int .i64 a, .int .i64 s, .string n, .string ⟨#[]⟩, .slice none 0 0] (fun _ => True) (fun _ => False) rfl rfl ?aP (fun _ hk => hk.elim) ?aF ?aO ?aB ?aS ?aL ?_
  (case aP => exact zj8 _ _ _ _ _ _ _)
  (case aF => exact fun _ _ => trivial)
  (case aO => exact S5.2.1)
  (case aB => exact Below.refl base w5)
  (case aS => exact hb5)
  (case aL => rw [List.length_append]; omega)
  intro v1 w6 ho hbw hg hat
  obtain ⟨Ao, co, eo⟩ := Kd.xw ho
  subst eo
  obtain ⟨p1, p2, k6, z6, B6⟩ := ak S5 (Below.refl _ _) hg ho hb5
  have S6 : w6.cell? ⟨g, 5, none⟩ = some vo2 ∧ w6.cell? ⟨g, 2, none⟩ = some (.int .i64 s) := ⟨k6, (zZ B6 2).trans rfl⟩
  have P1 := zx.mk p1
  have P2 := zx.mk ((LK4.out.trans (xO.below (B := g) H5.out hb4)).trans p2)
  refine hK.out _ _ S6 (fun h => ?_)
  clear hK K h p1 p2 ho hbw hg hat B6 S5 S6
  generalize hnn : (st.1 ++ kb ++ [VT wv a s n]).length = nn at P1 P2 ⊢
  refine Qy (a' := ?_) ?_ ?_
  rotate_left
  ·show Act.put _ (some 123) _ = _
   simp only [Act.put, List.setIfInBounds_toArray, List.set_cons_zero, List.set_cons_succ]
   rfl
  refine RW.rP 16 (some 124) T ?_
  refine RW.rP 17 (some 125) T ?_
  refine fM (i := 18) (N := none) #[true, true, true, true, true, true, true, true, true, true, true, true, true, true, true, true, true, true, true] rfl rfl (Zv T.out (by kernel_rfl)) (by decide) (fun K hK => ?_)
  refine fO (w1 := ?_) (by rfl) rfl ?_ ?_
  rotate_left
  ·go_simp
   rfl
  refine hK.out _ _ ?_
  clear hK K
  refine jk (xM T.out (by kernel_rfl)) ?_
  clear k6 z6
  generalize w6.setCell ⟨g, 5, none⟩ (.slice Ao nn co) = w7 at P1 P2 ⊢
  go_wp2_with fail
  go_end0
  refine ⟨⟨_, rfl⟩, ?_, P2.out⟩
  rw [← List.append_assoc, HWE.out]
  exact P1.out
end Go.Proofs.YtggifbbiiickmaaGreatDoor
namespace Go.Proofs.YtggifbbiiickmaaGreatDoor
open Go.RowKit
def pJ {β : Type} (Bs : Nat) (J : β → World → Prop) : Prop := ∀ s W u, J s W → J s (W.setCell ⟨Bs, 0, none⟩ u)
theorem pJ.and {β : Type} {Bs : Nat} {I I' : β → World → Prop} (h : pJ Bs I) (h' : pJ Bs I') : pJ Bs (fun s W => I s W ∧ I' s W) := fun s W u hs => ⟨h s W u hs.1, h' s W u hs.2⟩
theorem Yd {W : World} {Bs k : Nat} {o : Obj} (u : Value) (h : W.heap[k]? = some o) (hne : k ≠ Bs) : (W.setCell ⟨Bs, 0, none⟩ u).heap[k]? = some o := (Below.heap_setCell W ⟨Bs, 0, none⟩ u k hne).trans h
def oL {α : Type} (F : Fence) (n : Nat) (P : Program) (g : Nat) (lb : Array Value) (encs : α → Array Value) (Bs : Nat) (Kp : World → World → Prop) (S Sp : List α → Prop) (N : Nat) (w : World) : Prop :=
 ∀ (l : Nat) (J Jx : List α → World → Prop) (W : World), Below w.heap.size w W → AbidesFrom W.heap.size J → AbidesFrom W.heap.size Jx → pJ Bs J → pJ Bs Jx →
  (∀ pre x W1, J pre W1 → pre.length < N → YieldAt F (n - 1) P l (encs x) W1 fun e W' =>
   (e = .returned (.bool true) ∧ J (pre ++ [x]) W' ∧ Kp W1 W') ∨ (e = .returned (.bool false) ∧ Jx (pre ++ [x]) W')) →
  J [] W →
  CallsIn F n P g (#[.func (.yield l) #[] #[]] ++ lb) W fun e W' => (∃ v, e = .returned v) ∧ ((∃ xs, S xs ∧ J xs W') ∨ (∃ pre, Sp pre ∧ Jx pre W'))
def zxN {α : Type} (B : Nat) (Kp : World → World → Prop) (I Ix : List α → World → Prop) (xs : List α) (W : World) : Exit → Act → World → Prop
 | .normal, _, W' => KeepsFrom B W W' ∧ Kp W W' ∧ I xs W'
 | .ret, _, W' => KeepsFrom B W W' ∧ Ix xs W'
 | _, _, _ => False
variable {F : Fence} {n : Nat} {P : Program}
theorem cO {α : Type} {g : Operand} {ps : Array Tmp} {assign body : Code} {Q : Exit → Act → World → Prop} {a : Act} {w : World}
  (hro : F.round = none) (h1 : 1 ≤ n) {gf : Nat} {lb : Array Value} (hg : a.eval g = .func (.func gf) #[] lb) (hFg : F.fn gf) (eg : ∀ args w, (callFunc gf args).run P w = .ok (.enter gf args) w)
  {encs : α → Array Value} {Bs : Nat} {Kp : World → World → Prop} {S Sp : List α → Prop} {N : Nat} (hseq : oL F (n - 1) P gf lb encs Bs Kp S Sp N w) (gu : Bs < w.heap.size)
  (hKt : ∀ {A B C : World}, Kp A B → Kp B C → Kp A C) (hKb : ∀ (W : World) (l : Nat) (o o' : Obj), w.heap.size ≤ l → W.heap[l]? = some o → o.isCells = false → o.isWalk = false → Kp W (W.putObj l o')) (hps : ∀ x, (encs x).size = ps.size)
  (I Ix : List α → World → Prop) (hI : OwnFrom w.heap.size I) (hIx : OwnFrom w.heap.size Ix) (hIb : pJ Bs I) (zwK : pJ Bs Ix) (h0 : I [] w)
  (Ax : α → Act → World → Prop) (hAx : ∀ x a', OwnFrom w.heap.size (fun (_ : Unit) W => Ax x a' W))
  (hassign : ∀ (l : Nat) (pre : List α) (x : α) (W : World) (K : Act → World → Prop), I pre W → (∀ a' W', KeepsFrom w.heap.size W W' → Kp W W' → I pre W' → Ax x a' W' → K a' W') →
   assign.wpIn (F.inRound l) (n - 1 - 1) P (Exit.then K (fun _ _ _ => False)) { tmps := (ps.zip (encs x)).foldl (fun t (p, v) => t.setIfInBounds p v) a.tmps, defers := [] } W)
  (hbody : ∀ (l : Nat) (pre : List α) (x : α) (a' : Act) (W : World), w.heap.size ≤ l → (∃ r, W.heap[l]? = some (.loop r)) → I pre W → Ax x a' W → pre.length < N → body.wpIn (F.inRound l) (n - 1 - 1) P (zxN w.heap.size Kp I Ix (pre ++ [x]) W) a' W)
  (hdone : ∀ (D : Nat) (xs : List α) (W : World), w.heap.size ≤ D → S xs → I xs W → W.heap[D]? = some (.deferred (some [])) → Q .normal { a with defers := { target := .collected D, args := #[] } :: a.defers } W)
  (hstop : ∀ (D : Nat) (pre : List α) (W : World), w.heap.size ≤ D → Sp pre → Ix pre W → W.heap[D]? = some (.deferred (some [])) → Code.ret.wpIn F n P Q { a with defers := { target := .collected D, args := #[] } :: a.defers } W) :
  (Code.rangeFunc g ps assign body).wpIn F n P Q a w := by
 refine wpIn_rangeFunc ?_
 intro fn hfn
 rw [hro]
 obtain ⟨rec, hrec⟩ : ∃ rec : LoopState → Option Code → Loop, rec = fun st pe => { state := st, pending := pe, fn, tmps := a.tmps, params := ps, assign, body, defers := w.heap.size } := ⟨_, rfl⟩
 obtain ⟨W1, hW1⟩ : ∃ W1, (w.alloc (.deferred (some []))).alloc (.loop (rec .ready none)) = W1 := ⟨_, rfl⟩
 have hL1 : W1.heap[w.heap.size + 1]? = some (.loop (rec .ready none)) := by
  rw [← hW1]; have := World.alloc_heap_new (w.alloc (.deferred (some []))) (.loop (rec .ready none)); rwa [World.size_alloc] at this
 have hK1 : W1.heap[w.heap.size]? = some (.deferred (some [])) := by
  rw [← hW1]; exact (Below.heap_alloc _ _ _ (by simp)).trans (World.alloc_heap_new w _)
 have hI1 : I [] W1 := by rw [← hW1]; exact hI.alloc _ (hI.alloc _ h0)
 have hb1 : Below w.heap.size w W1 := by
  rw [← hW1]; exact ((Below.refl _ w).alloc (Nat.le_refl _) _).alloc (by simp) _
 have hz1 : W1.heap.size = w.heap.size + 2 := by rw [← hW1]; simp
 refine ⟨w.heap.size + 1, [{ target := .collected w.heap.size, args := #[] }], W1, { target := .fn (.func gf) lb, args := #[.func (.yield (w.heap.size + 1)) #[] #[]] }, W1, gf,
  #[.func (.yield (w.heap.size + 1)) #[] #[]] ++ lb, W1, ?_, ?_, ?_, ?_, fun _ => h1, ?_⟩
 ·rw [← hW1, hrec]; exact run_enterLoop_outer _ _ _ _ _
 ·simp only [resolve, hg]
  simp [go_sem]
 ·intro f' hf'; simp [Target.leads] at hf'; subst hf'; exact hFg
 ·simp [invoke, go_sem, eg]
 ·have hnw : ∀ {A B : World} {row : Option Nat}, (∀ r, row = some r → W1.heap.size ≤ r ∧ ∃ o : Obj, A.heap[r]? = some o ∧ o.isWalk = true) → (∀ r, row = some r → w.heap.size ≤ r ∧ ∃ o : Obj, A.heap[r]? = some o ∧ o.isCells = false) :=
   fun hr r e => by obtain ⟨hB, o, ho, hw⟩ := hr r e; exact ⟨by omega, o, ho, Obj.not_cells_of_walk hw⟩
  refine (hseq (w.heap.size + 1)
   (fun pre W => I pre W ∧ W.heap[w.heap.size + 1]? = some (.loop (rec .ready none)) ∧ W.heap[w.heap.size]? = some (.deferred (some [])))
   (fun pre W => Ix pre W ∧ W.heap[w.heap.size + 1]? = some (.loop (rec .done (some .ret))) ∧ W.heap[w.heap.size]? = some (.deferred (some [])))
   W1 hb1
   (fun s A B row hs hg' hr => ⟨hI s A B row hs.1 hg' (hnw (B := B) hr), (grownBy_keeps hg' (fun r e => (hr r e).2) hs.2.1 rfl).trans hs.2.1, (grownBy_keeps hg' (fun r e => (hr r e).2) hs.2.2 rfl).trans hs.2.2⟩)
   (fun s A B row hs hg' hr => ⟨hIx s A B row hs.1 hg' (hnw (B := B) hr), (grownBy_keeps hg' (fun r e => (hr r e).2) hs.2.1 rfl).trans hs.2.1, (grownBy_keeps hg' (fun r e => (hr r e).2) hs.2.2 rfl).trans hs.2.2⟩)
   (fun s A u hs => ⟨hIb s A u hs.1, Yd u hs.2.1 (by omega), Yd u hs.2.2 (by omega)⟩)
   (fun s A u hs => ⟨zwK s A u hs.1, Yd u hs.2.1 (by omega), Yd u hs.2.2 (by omega)⟩)
   ?_ ⟨hI1, hL1, hK1⟩).mono ?_
  ·rintro pre x W ⟨hi, hl, hk⟩ hlen
   have hlt : w.heap.size + 1 < W.heap.size := (Array.getElem?_eq_some_iff.1 hl).1
   have hy := run_yield (P := P) (args := encs x) hl (by rw [hrec]; exact hps x)
   rw [hrec] at hy
   refine ⟨fn, _, assign, body, hy, roundIn_of_wpIn hfn (hassign _ pre x W _ hi ?_)⟩
   clear hy
   intro a' Wa hkfa hkpa hia hax
   replace hl := hkfa.same _ _ (by omega) hl rfl
   replace hk := hkfa.same _ _ (Nat.le_refl _) hk rfl
   replace hlt : w.heap.size + 1 < Wa.heap.size := (Array.getElem?_eq_some_iff.1 hl).1
   refine ⟨_, run_beginRound hl (by rw [hrec]), ?_⟩
   have hl2 : (Wa.putObj (w.heap.size + 1) (.loop { rec .ready none with state := .busy })).heap[w.heap.size + 1]? = some (.loop { rec .ready none with state := .busy }) := World.putObj_heap_same hlt
   have hk2 : (Wa.putObj (w.heap.size + 1) (.loop { rec .ready none with state := .busy })).heap[w.heap.size]? = some (.deferred (some [])) := (World.putObj_heap_other (by omega)).trans hk
   have hw2 : Kp Wa (Wa.putObj (w.heap.size + 1) (.loop { rec .ready none with state := .busy })) := hKb _ _ _ _ (by omega) hl rfl rfl
   refine wpIn_mono (hbody _ pre x a' _ (by omega) ⟨_, hl2⟩ (hI.putObj _ hia (by omega) hl rfl) ((hAx x a').putObj (s := ()) _ hax (by omega) hl rfl) hlen) ?_
   have fin : ∀ (jump : Option Code) (W3 : World), KeepsFrom w.heap.size (Wa.putObj (w.heap.size + 1) (.loop { rec .ready none with state := .busy })) W3 →
     (Instr.endRound (w.heap.size + 1) jump).run P W3 = .ok (.bool jump.isNone) (W3.putObj (w.heap.size + 1) (.loop (rec (if jump.isNone then .ready else .done) jump))) ∧
     W3.heap[w.heap.size + 1]? = some (.loop { rec .ready none with state := .busy }) ∧
     (W3.putObj (w.heap.size + 1) (.loop (rec (if jump.isNone then .ready else .done) jump))).heap[w.heap.size + 1]? = some (.loop (rec (if jump.isNone then .ready else .done) jump)) ∧
     (W3.putObj (w.heap.size + 1) (.loop (rec (if jump.isNone then .ready else .done) jump))).heap[w.heap.size]? = some (.deferred (some [])) := fun jump W3 hk3 => by
    have hl3 := hk3.same _ _ (by omega) hl2 rfl
    have := run_endRound (P := P) jump hl3
    rw [hrec] at this ⊢
    exact ⟨this, by rw [hrec] at hl3; exact hl3, World.putObj_heap_same (Array.getElem?_eq_some_iff.1 hl3).1, (World.putObj_heap_other (by omega)).trans (hk3.same _ _ (Nat.le_refl _) hk2 rfl)⟩
   rintro e a3 W3 hp
   cases e with
   | normal =>
    obtain ⟨hk3, hkp3, hi3⟩ := hp
    obtain ⟨hr, hl3, hl4, hk4⟩ := fin none W3 hk3
    exact ⟨_, _, hr, .inl ⟨rfl, ⟨hI.putObj _ hi3 (by omega) hl3 rfl, hl4, hk4⟩, hKt hkpa (hKt (hKt hw2 hkp3) (hKb _ _ _ _ (by omega) hl3 rfl rfl))⟩⟩
   | ret =>
    obtain ⟨hk3, hi3⟩ := hp
    obtain ⟨hr, hl3, hl4, hk4⟩ := fin (some .ret) W3 hk3
    exact ⟨_, _, hr, .inr ⟨rfl, hIx.putObj _ hi3 (by omega) hl3 rfl, hl4, hk4⟩⟩
   | exit id => exact hp.elim
   | goto t => exact hp.elim
   | panic ch => exact hp.elim
   | outgrown => exact hp.elim
  ·rintro e W2 ⟨⟨v, rfl⟩, (⟨xs, hS, hi, hl, hk⟩ | ⟨pre, hSp, hi, hl, hk⟩)⟩
   ·exact ⟨none, _, by have := run_endLoop (P := P) hl (by rw [hrec]; simp); rw [hrec] at this; exact this, hdone _ xs _ (Nat.le_refl _) hS (hI.putObj _ hi (by omega) hl rfl) ((World.putObj_heap_other (by omega)).trans hk)⟩
   ·exact ⟨some .ret, _, by have := run_endLoop (P := P) hl (by rw [hrec]; simp); rw [hrec] at this; exact this, hstop _ pre _ (Nat.le_refl _) hSp (hIx.putObj _ hi (by omega) hl rfl) ((World.putObj_heap_other (by omega)).trans hk)⟩
end Go.Proofs.YtggifbbiiickmaaGreatDoor
namespace Go.Proofs.YtggifbbiiickmaaGreatDoor
open Go.RowKit Go.Proofs.zk.ze Go.Proofs.zk.yc Go.Proofs.zk.yt Go.Proofs.YtggifbbiiickmaaGreatDoor.PX
attribute [local go_sem] Oper.semAt_some
set_option linter.unusedSimpArgs false
set_option linter.unusedVariables false
abbrev PS := { p : wD // p.f0.size ≤ maxLen ∧ p.f1.size ≤ maxLen }
def gB : PS := ⟨z80, Nat.zero_le _, Nat.zero_le _⟩
abbrev Uf := Nat × PS
def dX (x : Uf) : Array Value := #[.int .i64 (x.1 : Int), .agg #[.string x.2.1.f0, .string x.2.1.f1]]
def Ug (pre : List Uf) : ByteArray → Option ByteArray := pre.foldl (fun f x s => if s = x.2.1.f0 then some x.2.1.f1 else f s) (fun _ => none)
theorem oM (pre : List Uf) (x : Uf) : Ug (pre ++ [x]) = fun s => if s = x.2.1.f0 then some x.2.1.f1 else Ug pre s := by
 unfold Ug
 rw [List.foldl_append]
 rfl
def Zj (zs : List PS) : Nat → List Uf
 | 0 => []
 | k + 1 => (k, zs.getD k gB) :: Zj zs k
def Yk (zs : List PS) (k : Nat) : List Uf := (Zj zs zs.length).take (zs.length - k)
theorem Uh (zs : List PS) : ∀ k, (Zj zs k).length = k
 | 0 => rfl
 | k + 1 => by rw [Zj, List.length_cons, Uh zs k]
theorem bG (zs : List PS) : ∀ (n j : Nat) (h : j < n), (Zj zs n)[n - 1 - j]? = some (j, zs.getD j gB)
 | 0, _, h => absurd h (Nat.not_lt_zero _)
 | n + 1, j, h => by
  by_cases e : j = n
  ·subst e
   rw [show j + 1 - 1 - j = 0 by omega]; rfl
  ·rw [show n + 1 - 1 - j = (n - 1 - j) + 1 by omega, Zj, List.getElem?_cons_succ]
   exact bG zs n j (by omega)
theorem su (zs : List PS) (k : Nat) (h : k < zs.length) : Yk zs k = Yk zs (k + 1) ++ [(k, zs.getD k gB)] := by
 have h1 := bG zs zs.length k h
 unfold Yk
 rw [show zs.length - k = (zs.length - (k + 1)) + 1 by omega, List.take_add_one, show zs.length - (k + 1) = zs.length - 1 - k by omega, h1]
 rfl
theorem eU (zs : List PS) : Yk zs 0 = Zj zs zs.length := by
 unfold Yk
 rw [Nat.sub_zero, List.take_of_length_le (by rw [Uh]; exact Nat.le_refl _)]
theorem sD (zs : List PS) : Yk zs zs.length = [] := by
 unfold Yk
 rw [Nat.sub_self, List.take_zero]
theorem iq (zs : List PS) (k : Nat) (h : k ≤ zs.length) : (Yk zs k).length = zs.length - k := by
 unfold Yk
 rw [List.length_take, Uh]
 omega
def QU (n₀ Bs : Nat) (W W' : World) : Prop := Below n₀ W W' ∧ W'.heap[Bs]? = W.heap[Bs]?
theorem ay {n₀ Bs : Nat} {A B C : World} (h : QU n₀ Bs A B) (k : QU n₀ Bs B C) : QU n₀ Bs A C := ⟨h.1.trans k.1, k.2.trans h.2⟩
theorem zxO {n₀ Bs : Nat} {w : World} (hn : n₀ ≤ w.heap.size) (hB : Bs < w.heap.size) (W : World) (l : Nat) (o o' : Obj) (hl : w.heap.size ≤ l) (h : W.heap[l]? = some o) (h1 : o.isCells = false) (h2 : o.isWalk = false) : QU n₀ Bs W (W.putObj l o') :=
 ⟨belowK_b hn W l o o' hl h h1 h2, World.putObj_heap_other (by omega)⟩
theorem oN {n₀ Bs : Nat} {t : TypeId} {v : Value} {W W' : World} (h : QU n₀ Bs W W') (hb : Boxed W Bs t v) : Boxed W' Bs t v := h.2.trans hb
theorem bH (zs : List PS) (s : ByteArray) : ∀ (k : Nat), k ≤ zs.length → ∀ g : ByteArray → Option ByteArray, (Zj zs k).foldl (fun f x s => if s = x.2.1.f0 then some x.2.1.f1 else f s) g s = match (zs.take k).find? (fun p => decide (p.1.f0 = s)) with | some p => some p.1.f1 | none => g s
 | 0, _, g => by rw [List.take_zero]; rfl
 | k + 1, hk, g => by
  have hlt : k < zs.length := by omega
  have hg : zs.getD k gB = zs[k] := by rw [List.getD_eq_getElem?_getD, List.getElem?_eq_getElem hlt]; rfl
  rw [Zj, List.foldl_cons, bH zs s k (by omega), List.take_add_one, List.getElem?_eq_getElem hlt, Option.toList_some, List.find?_append]
  cases hf : (zs.take k).find? (fun p => decide (p.1.f0 = s)) with
  | some p => rfl
  | none =>
   dsimp only
   rw [hg, Option.none_or, List.find?_cons]
   by_cases h : zs[k].1.f0 = s
   ·rw [if_pos h.symm, decide_eq_true h]
   ·rw [if_neg (fun e => h e.symm), decide_eq_false h]
    rfl
theorem zqx (zs : List PS) (s : ByteArray) : Ug (Zj zs zs.length) s = match (zs.map (·.1)).find? (fun p => decide (p.f0 = s)) with | some p => some p.f1 | none => none := by
 unfold Ug
 rw [bH zs s zs.length (Nat.le_refl _), List.take_of_length_le (Nat.le_refl _), List.find?_map]
 simp only [Function.comp_def]
 cases zs.find? (fun p => decide (p.1.f0 = s)) <;> rfl
set_option maxRecDepth 100000 in
set_option maxHeartbeats 4000000 in
theorem zqj (F : Fence) (n : Nat) (h7 : F.fn 104) (hro : F.round = none) (hn : 1 ≤ n) (l Bs : Nat) (A0 : Option Addr) (c0 : Nat) (zs : List PS) (hl : zs.length ≤ 1000000000) (w0 : World) (hC : Kd.C Xc w0 A0 zs.length (zs.map (·.1))) (J Jx : List Uf → World → Prop)
  (hY : ∀ pre x W, J pre W → pre.length < zs.length → YieldAt F (n - 1) Tryz.prog l (dX x) W fun e W' =>
   (e = .returned (.bool true) ∧ J (pre ++ [x]) W' ∧ QU w0.heap.size Bs W W') ∨ (e = .returned (.bool false) ∧ Jx (pre ++ [x]) W'))
  (W : World) (hb : Below w0.heap.size w0 W) (gu : Boxed W Bs 28 (.slice A0 zs.length c0)) (h0 : J [] W) :
  CallsIn F n Tryz.prog 104 #[.func (.yield l) #[] #[], .pointer (some ⟨Bs, 0, none⟩)] W fun e W' => (∃ v, e = .returned v) ∧
   ((∃ ys, ys = Zj zs zs.length ∧ J ys W') ∨ (∃ pre, True ∧ Jx pre W')) := by
 have HC := zx.mk hC
 have HY := zx.mk hY
 have HX := zx.mk gu
 have hx0 : W.cell? ⟨Bs, 0, none⟩ = some (.slice A0 zs.length c0) := gu.cell
 clear hC hY gu
 refine callsIn_of_wp Tryz.func104 rfl h7 ?_ hro
 simp only [Tryz.ntmps104, List.size_toArray, List.length_cons, List.length_nil, Nat.reduceAdd, Nat.reduceSub, Array.replicate_succ, Array.replicate_zero, List.push_toArray, List.append_toArray, List.nil_append, List.cons_append]
 gi_wp2
 gi_loopw [3] (fun i wr => ∃ k : Nat, k ≤ zs.length ∧ i = .int .i64 ((k : Int) - 1) ∧ zx (J (Yk zs k) wr) ∧ zx (QU w0.heap.size Bs W wr)) (fun i _ => (intOf i + 1).toNat)
 case atStart => exact ⟨zs.length, Nat.le_refl _, rfl, ⟨by rw [sD]; exact h0⟩, ⟨Below.refl _ _, rfl⟩⟩
 case round =>
  clear hx0
  obtain ⟨k, hk, rfl, HJ, HB⟩ := hrel
  have hs : wr.cell? ⟨Bs, 0, none⟩ = some (.slice A0 zs.length c0) := (oN HB.out HX.out).cell
  by_cases hlt : 1 ≤ k
  ·obtain ⟨j, rfl⟩ : ∃ j, k = j + 1 := ⟨k - 1, by omega⟩
   have ej : (((j + 1 : Nat) : Int) - 1) = (j : Int) := by omega
   rw [ej]
   obtain ⟨ad, e, x0, x1⟩ := lI (Kd.zh HC.out (hb.trans HB.out.1)) (j : Int) (by omega) (by omega)
   cases e
   rw [Int.toNat_natCast] at x0 x1
   have e : VQ (zs.map (·.1)) (j : Int) = (zs.getD j gB).1 := by
    have hj : j < zs.length := by omega
    simp [VQ, List.getD_eq_getElem?_getD, hj]
   rw [e] at x0 x1
   clear e
   obtain ⟨fn, tmps, assign, body, hy, hR⟩ := HY.out _ (j, zs.getD j gB) wr HJ.out (by rw [iq zs (j + 1) hk]; omega)
   unfold dX at hy
   dsimp only at hy
   have hst := zx.mk (su zs j (by omega))
   generalize zs.getD j gB = x at x0 x1 hy hR hst
   have q0 : (0 : Int) ≤ (j : Int) := by omega
   have q1 : (j : Int) < (zs.length : Int) := by omega
   have q3 : ((j : Int)).toNat = j := Int.toNat_natCast j
   clear ej
   gi_wp2
   refine hR.mono ?_
   rintro e W3 (⟨rfl, hJ3, hk3⟩ | ⟨rfl, hJx3⟩)
   ·have HJ3 := zx.mk hJ3
    have HK3 := zx.mk hk3
    clear hJ3 hk3
    gi_wp2
    go_roundw
    case rel => exact ⟨j, by omega, rfl, ⟨by rw [hst.out]; exact HJ3.out⟩, ⟨ay HB.out HK3.out⟩⟩
    case measure => simp [intOf]
   ·have HJ3 := zx.mk hJx3
    clear hJx3
    gi_wp2
    refine bodyPost_ret (results_none rfl _ _ _) rfl ?_
    exact ⟨⟨_, rfl⟩, .inr ⟨_, trivial, HJ3.out⟩⟩
  ·obtain rfl : k = 0 := by omega
   gi_wp2
   go_end0
   exact ⟨⟨_, rfl⟩, .inl ⟨_, rfl, by rw [← eU]; exact HJ.out⟩⟩
set_option maxHeartbeats 1000000 in
theorem zxP (F : Fence) (n : Nat) (h5 : F.fn 43) (hro : F.round = none) (a : Option Addr) (len cap : Nat) (w : World) :
  CallsIn F n Tryz.prog 43 #[.slice a len cap] w fun e w' => e = .returned (.func (.func 104) #[] #[.pointer (some ⟨w.heap.size, 0, none⟩)]) ∧ w' = w.alloc (.cells #[.slice a len cap] 28) := by
 refine callsIn_of_wp Tryz.func43 rfl h5 ?_ hro
 simp only [Tryz.ntmps43, List.size_toArray, List.length_cons, List.length_nil, Nat.reduceAdd, Nat.reduceSub, Array.replicate_succ, Array.replicate_zero, List.push_toArray, List.append_toArray, List.nil_append, List.cons_append]
 gi_wp2
 go_ret
 exact ⟨rfl, rfl⟩
theorem zqv (F : Fence) (n : Nat) (h7 : F.fn 104) (hro : F.round = none) (hn : 1 ≤ n) (Bs : Nat) (A0 : Option Addr) (c0 : Nat) (zs : List PS) (hl : zs.length ≤ 1000000000) (w0 w : World) (hC : Kd.C Xc w0 A0 zs.length (zs.map (·.1))) (hw : Below w0.heap.size w0 w) (gu : Boxed w Bs 28 (.slice A0 zs.length c0)) :
  oL F n Tryz.prog 104 #[.pointer (some ⟨Bs, 0, none⟩)] dX Bs (QU w0.heap.size Bs) (fun ys => ys = Zj zs zs.length) (fun _ => True) zs.length w := fun l J Jx W hW _ _ _ _ hY h0 =>
 zqj F n h7 hro hn l Bs A0 c0 zs hl w0 hC J Jx hY W (hw.trans (hW.mono hw.size)) ((hW.block Bs (Boxed.lt gu)).trans gu) h0
end Go.Proofs.YtggifbbiiickmaaGreatDoor
namespace Go.Proofs.YtggifbbiiickmaaGreatDoor
open Go.RowKit Go.Proofs.zk.ze Go.Proofs.zk.yc Go.Proofs.zk.yt Go.Proofs.YtggifbbiiickmaaGreatDoor.PX
set_option linter.unusedSimpArgs false
set_option linter.unusedVariables false
set_option maxRecDepth 100000 in
set_option maxHeartbeats 4000000 in
theorem zqk (A0 : Option Addr) (c0 : Nat) (l : List ByteArray) (w : World) (hr : Kd.C Kd.string w A0 l.length l) (hl : l.length ≤ 1000000000) (p : ByteArray → Bool) (g : Nat) (lb : Array Value) (eg : ∀ args w, (callFunc g args).run Tryz.prog w = .ok (.enter g args) w)
  (hp : ∀ (W : World) (x : ByteArray), x ∈ l → Below w.heap.size w W → Calls Tryz.prog g (#[.string x] ++ lb) W fun e w' => e = .returned (.bool (p x)) ∧ Below w.heap.size w w') :
  Calls Tryz.prog 102 #[.slice A0 l.length c0, .func (.func g) #[] lb] w fun e w' => e = .returned (.int .i64 (wE p l 0)) ∧ Below w.heap.size w w' := by
 have H := zx.mk hr
 have HP := zx.mk hp
 clear hr hp
 generalize hR : wE p l 0 = R
 have HR := zx.mk hR
 clear hR
 go_enter Tryz.func102, Tryz.ntmps102
 go_wp2
 go_loopw [8] (fun i W => ∃ k : Nat, k ≤ l.length ∧ i = .int .i64 (k : Int) ∧ zx (wE p l 0 = wE p (l.drop k) k) ∧ zx (Below w.heap.size w W)) (fun i _ => l.length - (intOf i).toNat)
 case atStart => exact ⟨0, Nat.zero_le _, rfl, ⟨by rw [List.drop_zero]⟩, ⟨Below.refl _ _⟩⟩
 case round =>
  obtain ⟨k, hk, rfl, HI, HB⟩ := hrel
  by_cases hlt : k < l.length
  ·obtain ⟨ad, e, x0⟩ := Kd.X4 (Kd.zh H.out HB.out) (k : Int) (by omega) (by omega)
   cases e
   have e : Yh ByteArray.empty l (k : Int) = l[k] := by simp [Yh, List.getD_eq_getElem?_getD, hlt]
   rw [Int.toNat_natCast] at x0
   rw [e] at x0
   clear e
   have hi := HI.out
   rw [List.drop_eq_getElem_cons hlt, QS] at hi
   have hm : l[k] ∈ l := List.getElem_mem hlt
   generalize l[k] = x at x0 hi hm
   have hcall := HP.out wr x hm HB.out
   clear hm
   cases hq : p x with
   | true =>
    rw [hq] at hcall
    rw [if_pos hq] at hi
    have HI2 := zx.mk (HR.out.symm.trans hi)
    clear hi hq HI
    go_wp2_with fail
    refine hcall.mono ?_; rintro e w' ⟨rfl, hb'⟩
    go_wp2_with fail
    go_ret
    exact ⟨by rw [HI2.out]; rfl, hb'⟩
   | false =>
    rw [hq] at hcall
    rw [if_neg (by rw [hq]; exact Bool.false_ne_true)] at hi
    have HI2 := zx.mk hi
    clear hi hq HI
    go_wp2_with fail
    refine hcall.mono ?_; rintro e w' ⟨rfl, hb'⟩
    go_wp2_with fail
    go_roundw
    case rel => exact ⟨k + 1, by omega, by first | rfl | go_num, HI2, ⟨hb'⟩⟩
    case measure => simp [intOf]; omega
  ·obtain rfl : k = l.length := by omega
   have hi := HI.out
   rw [List.drop_eq_nil_of_le (Nat.le_refl _)] at hi
   have HI2 := zx.mk (HR.out.symm.trans hi)
   clear hi HI
   go_wp2
   go_ret
   exact ⟨by rw [HI2.out]; rfl, HB.out⟩
set_option maxRecDepth 100000 in
theorem zqy (A0 : Option Addr) (c0 : Nat) (l : List ByteArray) (w : World) (hr : Kd.C Kd.string w A0 l.length l) (hl : l.length ≤ 1000000000) (p : ByteArray → Bool) (g : Nat) (lb : Array Value) (eg : ∀ args w, (callFunc g args).run Tryz.prog w = .ok (.enter g args) w)
  (hp : ∀ (W : World) (x : ByteArray), x ∈ l → Below w.heap.size w W → Calls Tryz.prog g (#[.string x] ++ lb) W fun e w' => e = .returned (.bool (p x)) ∧ Below w.heap.size w w') :
  Calls Tryz.prog 40 #[.slice A0 l.length c0, .func (.func g) #[] lb] w fun e w' => e = .returned (.bool (l.any p)) ∧ Below w.heap.size w w' := by
 have h := zqk A0 c0 l w hr hl p g lb eg hp
 have e := V3 p l 0
 generalize wE p l 0 = i at h e
 generalize l.any p = b at e ⊢
 subst e
 clear hp hr
 go_enter Tryz.func40, Tryz.ntmps40
 go_wp2_with (go_at_call 102; refine h.mono ?_; rintro e w1 ⟨rfl, hb⟩)
 go_ret
 exact ⟨rfl, hb⟩
end Go.Proofs.YtggifbbiiickmaaGreatDoor
namespace Go.Proofs.YtggifbbiiickmaaGreatDoor
open Go.RowKit Go.Proofs.zk.ze Go.Proofs.zk.yc Go.Proofs.zk.yt Go.Proofs.YtggifbbiiickmaaGreatDoor.PX
set_option linter.unusedSimpArgs false
set_option linter.unusedVariables false
set_option maxRecDepth 100000 in
set_option maxHeartbeats 4000000 in
theorem zqw (A0 : Option Addr) (c0 : Nat) (l : List wD) (w : World) (hr : Kd.C Xc w A0 l.length l) (hl : l.length ≤ 1000000000) (p : wD → Bool) (g : Nat) (lb : Array Value) (eg : ∀ args w, (callFunc g args).run Tryz.prog w = .ok (.enter g args) w)
  (hp : ∀ (W : World) (x : wD), x ∈ l → Below w.heap.size w W → Calls Tryz.prog g (#[.agg #[.string x.f0, .string x.f1]] ++ lb) W fun e w' => e = .returned (.bool (p x)) ∧ Below w.heap.size w w') :
  Calls Tryz.prog 103 #[.slice A0 l.length c0, .func (.func g) #[] lb] w fun e w' => e = .returned (.int .i64 (wE p l 0)) ∧ Below w.heap.size w w' := by
 have H := zx.mk hr
 have HP := zx.mk hp
 clear hr hp
 generalize hR : wE p l 0 = R
 have HR := zx.mk hR
 clear hR
 go_enter Tryz.func103, Tryz.ntmps103
 go_wp2
 go_loopw [8] (fun i W => ∃ k : Nat, k ≤ l.length ∧ i = .int .i64 (k : Int) ∧ zx (wE p l 0 = wE p (l.drop k) k) ∧ zx (Below w.heap.size w W)) (fun i _ => l.length - (intOf i).toNat)
 case atStart => exact ⟨0, Nat.zero_le _, rfl, ⟨by rw [List.drop_zero]⟩, ⟨Below.refl _ _⟩⟩
 case round =>
  obtain ⟨k, hk, rfl, HI, HB⟩ := hrel
  by_cases hlt : k < l.length
  ·obtain ⟨ad, e, x0, x1⟩ := lI (Kd.zh H.out HB.out) (k : Int) (by omega) (by omega)
   cases e
   have e : VQ l (k : Int) = l[k] := by simp [VQ, List.getD_eq_getElem?_getD, hlt]
   rw [Int.toNat_natCast] at x0 x1
   rw [e] at x0 x1
   clear e
   have hi := HI.out
   rw [List.drop_eq_getElem_cons hlt, QS] at hi
   have hm : l[k] ∈ l := List.getElem_mem hlt
   generalize l[k] = x at x0 x1 hi hm
   have hcall := HP.out wr x hm HB.out
   clear hm
   cases hq : p x with
   | true =>
    rw [hq] at hcall
    rw [if_pos hq] at hi
    have HI2 := zx.mk (HR.out.symm.trans hi)
    clear hi hq HI
    go_wp2_with fail
    refine hcall.mono ?_; rintro e w' ⟨rfl, hb'⟩
    go_wp2_with fail
    go_ret
    exact ⟨by rw [HI2.out]; rfl, hb'⟩
   | false =>
    rw [hq] at hcall
    rw [if_neg (by rw [hq]; exact Bool.false_ne_true)] at hi
    have HI2 := zx.mk hi
    clear hi hq HI
    go_wp2_with fail
    refine hcall.mono ?_; rintro e w' ⟨rfl, hb'⟩
    go_wp2_with fail
    go_roundw
    case rel => exact ⟨k + 1, by omega, by first | rfl | go_num, HI2, ⟨hb'⟩⟩
    case measure => simp [intOf]; omega
  ·obtain rfl : k = l.length := by omega
   have hi := HI.out
   rw [List.drop_eq_nil_of_le (Nat.le_refl _)] at hi
   have HI2 := zx.mk (HR.out.symm.trans hi)
   clear hi HI
   go_wp2
   go_ret
   exact ⟨by rw [HI2.out]; rfl, HB.out⟩
set_option maxRecDepth 100000 in
theorem zqZ (A0 : Option Addr) (c0 : Nat) (l : List wD) (w : World) (hr : Kd.C Xc w A0 l.length l) (hl : l.length ≤ 1000000000) (p : wD → Bool) (g : Nat) (lb : Array Value) (eg : ∀ args w, (callFunc g args).run Tryz.prog w = .ok (.enter g args) w)
  (hp : ∀ (W : World) (x : wD), x ∈ l → Below w.heap.size w W → Calls Tryz.prog g (#[.agg #[.string x.f0, .string x.f1]] ++ lb) W fun e w' => e = .returned (.bool (p x)) ∧ Below w.heap.size w w') :
  Calls Tryz.prog 41 #[.slice A0 l.length c0, .func (.func g) #[] lb] w fun e w' => e = .returned (.bool (l.any p)) ∧ Below w.heap.size w w' := by
 have h := zqw A0 c0 l w hr hl p g lb eg hp
 have e := V3 p l 0
 generalize wE p l 0 = i at h e
 generalize l.any p = b at e ⊢
 subst e
 clear hp hr
 go_enter Tryz.func41, Tryz.ntmps41
 go_wp2_with (go_at_call 103; refine h.mono ?_; rintro e w1 ⟨rfl, hb⟩)
 go_ret
 exact ⟨rfl, hb⟩
end Go.Proofs.YtggifbbiiickmaaGreatDoor
namespace Go.Proofs.YtggifbbiiickmaaGreatDoor
open Go.RowKit Go.Shelf
theorem sF (w : World) : PredAt Tryz.prog 82 #[] encR ko w := fun W r _ => by
 unfold FnGives
 show Calls Tryz.prog 82 #[.int .i32 r] W _
 by_cases h1 : r < 33
 ·have e1 : ko r = true := by unfold ko; simp [h1]
  have d1 : decide ((r : Int) < 33) = true := by simp; omega
  rw [e1]; clear e1 h1
  go_enter Tryz.func82, Tryz.ntmps82
  go_wp2
  go_ret
  exact ⟨rfl, 0, rfl⟩
 ·have d1 : decide ((r : Int) < 33) = false := by simp; omega
  by_cases h2 : 126 < r
  ·have e1 : ko r = true := by unfold ko; simp [h2]
   have d2 : decide ((126 : Int) < (r : Int)) = true := by simp; omega
   rw [e1]; clear e1 h1 h2
   go_enter Tryz.func82, Tryz.ntmps82
   go_wp2
   go_ret
   exact ⟨rfl, 0, rfl⟩
  ·have e1 : ko r = false := by unfold ko; simp; omega
   have d2 : decide ((126 : Int) < (r : Int)) = false := by simp; omega
   rw [e1]; clear e1 h1 h2
   go_enter Tryz.func82, Tryz.ntmps82
   go_wp2
   go_ret
   exact ⟨rfl, 0, rfl⟩
set_option maxRecDepth 100000 in
theorem iy (s : ByteArray) (w : World) :
  Calls Tryz.prog 36 #[.string s] w fun e w' => e = .returned (.bool (XL s.data.toList)) ∧ Below w.heap.size w w' := by
 have hl : s.data.toList.length = s.size := Array.length_toList
 have hc := Tryz.strings_ContainsFunc 82 #[] (enters_of Tryz.func82 (by kernel_rfl) rfl) ko s w (sF w)
 have hv : decide (0 ≤ Lib.idxFunc ko true s) = !(s.data.toList.all okB) := by
  have := lS s s.size 0 (by omega) (by omega)
  rw [List.drop_zero] at this
  unfold Lib.idxFunc
  cases h : s.data.toList.all okB with
  | true => rw [h] at this; simp at this; simp; omega
  | false => rw [h] at this; simp at this; simp [this]
 rw [hv] at hc
 unfold XL
 rw [hl]
 generalize s.data.toList.all okB = b at hc ⊢
 clear hl hv
 by_cases h1 : 1 ≤ s.size
 ·have d1 : decide (1 ≤ s.size) = true := decide_eq_true h1
  have g1 : decide ((1 : Int) ≤ (s.size : Int)) = true := by simp; omega
  by_cases h2 : s.size ≤ 10
  ·have d2 : decide (s.size ≤ 10) = true := decide_eq_true h2
   have g2 : decide ((s.size : Int) ≤ 10) = true := by simp; omega
   rw [d1, d2]
   clear d1 d2
   cases b with
   | true =>
    go_enter Tryz.func36, Tryz.ntmps36
    go_wp2_with (go_at_call 81; refine hc.mono ?_; rintro e w1 ⟨rfl, hb1⟩)
    go_ret
    exact ⟨rfl, hb1⟩
   | false =>
    go_enter Tryz.func36, Tryz.ntmps36
    go_wp2_with (go_at_call 81; refine hc.mono ?_; rintro e w1 ⟨rfl, hb1⟩)
    go_ret
    exact ⟨rfl, hb1⟩
  ·have d2 : decide (s.size ≤ 10) = false := decide_eq_false h2
   have g2 : decide ((s.size : Int) ≤ 10) = false := by simp; omega
   rw [d1, d2]
   clear d1 d2 hc
   go_enter Tryz.func36, Tryz.ntmps36
   go_wp2
   go_ret
   exact ⟨rfl, Below.refl _ _⟩
 ·have d1 : decide (1 ≤ s.size) = false := decide_eq_false h1
  have g1 : decide ((1 : Int) ≤ (s.size : Int)) = false := by simp; omega
  rw [d1]
  clear d1 hc
  go_enter Tryz.func36, Tryz.ntmps36
  go_wp2
  go_ret
  exact ⟨rfl, Below.refl _ _⟩
end Go.Proofs.YtggifbbiiickmaaGreatDoor
namespace Go.Proofs.YtggifbbiiickmaaGreatDoor.Km
open Go.Maps Go.ChangeMaps Go.WideMaps
set_option linter.unusedSimpArgs false
set_option linter.unusedVariables false
def SMap (P : Program) (k e : TypeId) (w : World) (b n : Nat) (f : ByteArray → Option ByteArray) : Prop :=
 ∃ D : DataW Unit, w.ownsMap P k (plainElem P e) b n D ∧ IsMap D ∧ ∀ s : ByteArray, s.size ≤ maxLen → ∀ z, D.atKey (.string s.data.toList) z = match f s with | some v => .lit (.string v.data.toList) | none => z
section
variable {P : Program} {k e t : TypeId} {w : World} {b n : Nat} {f : ByteArray → Option ByteArray}
theorem SMap.kept {w' : World} {row : Option Nat} (h : SMap P k e w b n f) (hg : w.grownBy w' row) (hne : some b ≠ row) : SMap P k e w' b n f := by
 obtain ⟨D, h1, h2, h3⟩ := h
 exact ⟨D, h1.kept hg hne, h2, h3⟩
theorem SMap.lt (h : SMap P k e w b n f) : b < w.heap.size := by
 obtain ⟨D, h1, _, _⟩ := h
 exact h1.lt
theorem SMap.made (w : World) : SMap P k e (w.alloc (.map #[] 0)) w.heap.size 0 (fun _ => none) :=
 ⟨.map [], World.ownsMap_made w P k _, ⟨_, rfl⟩, fun s _ z => rfl⟩
theorem SMap.look (h : SMap P k e w b n f) (hk : P.underlying k = some .string) (ht : P.underlying t = some (.map k e)) (he : P.underlying e = some .string) (hz : (zeroValue e).run P w = .ok (.string ⟨#[]⟩) w) (s : ByteArray) (hs : s.size ≤ maxLen) :
  (Instr.lookup t (.map (some b)) (.string s) true).run P w = .ok (match f s with | some v => .tuple #[.string v, .bool true] | none => .tuple #[.string ⟨#[]⟩, .bool false]) w := by
 obtain ⟨D, ⟨es, clock, hb, F, _, rfl⟩, _, hf⟩ := h
 have hf := hf s hs
 rcases fit_look true (string_keyed hk) ht hz hb F (keyOf_string_mk hk hs) with ⟨hrun, _, hat⟩ | ⟨e0, y, _, _, hrun, hRv, hat, _⟩
 ·rw [hrun]
  cases hv : f s with
  | none => rfl
  | some v =>
   have h1 := (hat .nil).symm.trans (hf .nil)
   rw [hv] at h1
   cases h1
 ·rw [hrun]
  obtain ⟨s', hv', hy, _⟩ := plainElem_string_inv he hRv
  cases hv : f s with
  | none =>
   have h1 := (hat .nil).symm.trans (hf .nil)
   rw [hv, hy] at h1
   cases h1
  | some v =>
   have h1 := (hat .nil).symm.trans (hf .nil)
   rw [hv, hy] at h1
   have h2 : s'.data.toList = v.data.toList := by injection h1 with h1; injection h1
   have h3 : s' = v := by
    cases s'; cases v
    congr 1
    exact Array.toList_inj.1 h2
   subst h3
   rw [hv']
   rfl
theorem SMap.put (h : SMap P k e w b n f) (hk : P.underlying k = some .string) (ht : P.underlying t = some (.map k e)) (he : P.underlying e = some .string) (hn : n < maxLen) (s v : ByteArray) (hs : s.size ≤ maxLen) (hv : v.size ≤ maxLen) :
  ∃ w', (Instr.mapUpdate t (.map (some b)) (.string s) (.string v)).run P w = .ok () w' ∧ SMap P k e w' b (n + 1) (fun x => if x = s then some v else f x) ∧ w.grownBy w' (some b) := by
 obtain ⟨D, h1, h2, h3⟩ := h
 obtain ⟨w', hrun, hown, hg⟩ := h1.update (string_keyed hk) ht hn (keyOf_string_mk hk hs) (plainElem_string he hv)
 refine ⟨w', hrun, ⟨_, hown, ?_, fun x hx z => ?_⟩, hg⟩
 ·obtain ⟨es, rfl⟩ := h2
  exact ⟨_, rfl⟩
 ·by_cases hxs : x = s
  ·subst hxs
   dsimp only
   rw [if_pos rfl]
   exact atKey_put_same h2 (by trivial) _ _
  ·dsimp only
   rw [if_neg hxs, atKey_put_other (fun e => hxs (by injection e with e; cases x; cases s; congr 1; exact Array.toList_inj.1 e)) _ _]
   exact h3 x hx z
end
end Go.Proofs.YtggifbbiiickmaaGreatDoor.Km
namespace Go.Proofs.YtggifbbiiickmaaGreatDoor
open Go.RowKit Go.Shelf Go.Proofs.zk.ze Go.Proofs.zk.yc Go.Proofs.zk.yt Go.Proofs.YtggifbbiiickmaaGreatDoor.PX Go.Proofs.YtggifbbiiickmaaGreatDoor.Km
set_option linter.unusedSimpArgs false
set_option linter.unusedVariables false
set_option maxRecDepth 100000 in
theorem WM (s : ByteArray) (W : World) : Calls Tryz.prog 35 #[.string s] W fun e w' => e = .returned (.bool (Yx s)) ∧ Below W.heap.size W w' := by
 have h := iy s W
 unfold Yx
 generalize XL s.data.toList = b at h ⊢
 go_enter Tryz.func35, Tryz.ntmps35
 go_wp2_with (go_at_call 36; refine h.mono ?_; rintro e w1 ⟨rfl, hb⟩)
 go_ret
 exact ⟨rfl, hb⟩
set_option maxRecDepth 100000 in
theorem gD (x : yS) (A3 : Option Addr) (c3 : Nat) (A4 : Option Addr) (c4 : Nat) (A5 : Option Addr) (c5 : Nat) (W : World) (hG : GW W) (hz : x.f3.length ≤ 1000000000 ∧ x.f4.length ≤ 1000000000 ∧ x.f5.length ≤ 1000000000)
  (q3 : Kd.C qH W A3 x.f3.length x.f3) (g3 : x.f3.length ≤ c3) (q4 : Kd.C vw W A4 x.f4.length x.f4) (g4 : x.f4.length ≤ c4) (q5 : Kd.C vC W A5 x.f5.length x.f5) (g5 : x.f5.length ≤ c5) :
  Calls Tryz.prog 38 #[.agg #[.string x.f0, .bool x.f1, .int .i64 x.f2, .slice A3 x.f3.length c3, .slice A4 x.f4.length c4, .slice A5 x.f5.length c5]] W fun e w' => e = .returned (.bool (!qN x)) ∧ Below W.heap.size W w' := by
 have hb0 : Below W.heap.size W (W.alloc (.cells #[.string x.f0, .bool x.f1, .int .i64 x.f2, .slice A3 x.f3.length c3, .slice A4 x.f4.length c4, .slice A5 x.f5.length c5] 60)) := (Below.refl _ W).alloc (Nat.le_refl _) _
 have h := jX.calls x.f0 x.f1 x.f2 A3 c3 x.f3 A4 c4 x.f4 A5 c5 x.f5 (qN x) _ (Kd.zh q3 hb0) g3 (Kd.zh q4 hb0) g4 (Kd.zh q5 hb0) g5 (hG.under hb0) (by unfold jX.f; rw [if_pos hz]; rfl)
 generalize qN x = b at h ⊢
 clear q3 q4 q5 hz
 go_enter Tryz.func38, Tryz.ntmps38
 go_wp2_with (go_at_call 39; refine h.mono ?_; rintro e w1 ⟨rfl, hb⟩)
 go_ret
 exact ⟨rfl, hb0.trans (hb.mono hb0.size)⟩
set_option maxRecDepth 100000 in
theorem zqQ (B : Nat) (p : kI) (W : World) (hB : W.cell? ⟨B, 0, none⟩ = some (.func (.func 35) #[] #[])) :
  Calls Tryz.prog 42 #[.agg #[.string p.f0, .string p.f1], .pointer (some ⟨B, 0, none⟩)] W fun e w' => e = .returned (.bool (VU p)) ∧ Below W.heap.size W w' := by
 have hl := World.block_lt_of_cell? W _ hB
 have hb0 : Below W.heap.size W (W.alloc (.cells #[.string p.f0, .string p.f1] 80)) := (Below.refl _ W).alloc (Nat.le_refl _) _
 have hc : (W.alloc (.cells #[.string p.f0, .string p.f1] 80)).cell? ⟨B, 0, none⟩ = some (.func (.func 35) #[] #[]) := (World.cell?_alloc_lt _ _ _ hl).trans hB
 have h1 := WM p.f0 (W.alloc (.cells #[.string p.f0, .string p.f1] 80))
 have h2 := fun V => WM p.f1 V
 unfold VU
 generalize Yx p.f0 = b1 at h1 ⊢
 generalize Yx p.f1 = b2 at h2 ⊢
 cases b1 with
 | true =>
  clear h2
  go_enter Tryz.func42, Tryz.ntmps42
  go_wp2_with (go_at_call 35; refine h1.mono ?_; rintro e w1 ⟨rfl, hb1⟩)
  go_ret
  exact ⟨rfl, hb0.trans (hb1.mono hb0.size)⟩
 | false =>
  go_enter Tryz.func42, Tryz.ntmps42
  go_wp2_with fail
  refine h1.mono ?_; rintro e w1 ⟨rfl, hb1⟩
  have hc1 := (hb1.cell (p := ⟨B, 0, none⟩) (by simp; omega)).trans hc
  have k1 : w1.cell? ⟨W.heap.size, 1, none⟩ = some (.string p.f1) := (hb1.cell (p := ⟨W.heap.size, 1, none⟩) (by simp)).trans (by simp)
  clear h1 hc
  go_wp2_with fail
  refine (h2 _).mono ?_; rintro e w2 ⟨rfl, hb2⟩
  go_wp2_with fail
  go_ret
  exact ⟨by first | rfl | (cases b2 <;> rfl), hb0.trans ((hb1.trans (hb2.mono hb1.size)).mono hb0.size)⟩
def Ye (f : ByteArray → Option ByteArray) (c : ByteArray) : ByteArray := match f c with | some v => v | none => c
theorem zkK (w : World) : (zeroValue 9).run Tryz.prog w = .ok (.string ⟨#[]⟩) w := by kernel_rfl
set_option maxRecDepth 100000 in
theorem Kn (B m k : Nat) (f : ByteArray → Option ByteArray) (c : ByteArray) (W : World) (hc : c.size ≤ maxLen) (hB : W.cell? ⟨B, 0, none⟩ = some (.map (some m))) (hm : SMap Tryz.prog 9 9 W m k f) :
  Calls Tryz.prog 44 #[.string c, .pointer (some ⟨B, 0, none⟩)] W fun e w' => e = .returned (.string (Ye f c)) ∧ W = w' := by
 have hlk := hm.look (t := 82) Tryz.underlying9 Tryz.underlying82 Tryz.underlying9 (zkK W) c hc
 unfold Ye
 clear hm
 cases hf : f c with
 | none =>
  rw [hf] at hlk
  clear hf
  go_enter Tryz.func44, Tryz.ntmps44
  go_wp2
  go_ret
  exact ⟨rfl, rfl⟩
 | some v =>
  rw [hf] at hlk
  clear hf
  go_enter Tryz.func44, Tryz.ntmps44
  go_wp2
  go_ret
  exact ⟨rfl, rfl⟩
end Go.Proofs.YtggifbbiiickmaaGreatDoor
namespace Go.Proofs.YtggifbbiiickmaaGreatDoor
open Go.RowKit Go.Shelf Go.Proofs.zk.ze Go.Proofs.zk.yc Go.Proofs.zk.yt Go.Proofs.YtggifbbiiickmaaGreatDoor.PX Go.Proofs.YtggifbbiiickmaaGreatDoor.Km
set_option linter.unusedSimpArgs false
set_option linter.unusedVariables false
theorem WO (Af : Option Addr) (cf : Nat) (l : List yS) (f s : Int) (zI za : Bool) (Ac : Option Addr) (cc : Nat) (chars : List ByteArray) (Ap : Option Addr) (cp : Nat) (pairs : List kI) (w : World) (hG : GW w) (hC : Kd.C Zq w Af l.length l) (hz : ∀ x ∈ l, x.f3.length ≤ 1000000000 ∧ x.f4.length ≤ 1000000000 ∧ x.f5.length ≤ 1000000000) (hl : l.length ≤ 1000000000) (hS : Kd.C Kd.string w Ac chars.length chars) (hlc : chars.length ≤ 1000000000) (hP : Kd.C Xc w Ap pairs.length pairs) (hlp : pairs.length ≤ 1000000000) (W : World) (hb : Below w.heap.size w W) : Calls Tryz.prog 37 #[.slice Af l.length cf, .func (.func 38) #[] #[]] W fun e w' => e = .returned (.bool (l.any fun x => !qN x)) ∧ Below W.heap.size W w' :=
 zz6 Af cf l W (Kd.zh hC hb) hl (fun x => !qN x) 38 #[] (Zl Tryz.func38 (by kernel_rfl) rfl) (fun V y A3 c3 A4 c4 A5 c5 hm hV p3 g3 p4 g4 p5 g5 =>
  (gD y A3 c3 A4 c4 A5 c5 V (hG.under (hb.trans (hV.mono hb.size))) (hz y hm) p3 g3 p4 g4 p5 g5).mono fun e w' ⟨h1, h2⟩ => ⟨h1, hV.trans (h2.mono hV.size)⟩)
theorem WR (Af : Option Addr) (cf : Nat) (l : List yS) (f s : Int) (zI za : Bool) (Ac : Option Addr) (cc : Nat) (chars : List ByteArray) (Ap : Option Addr) (cp : Nat) (pairs : List kI) (w : World) (hG : GW w) (hC : Kd.C Zq w Af l.length l) (hz : ∀ x ∈ l, x.f3.length ≤ 1000000000 ∧ x.f4.length ≤ 1000000000 ∧ x.f5.length ≤ 1000000000) (hl : l.length ≤ 1000000000) (hS : Kd.C Kd.string w Ac chars.length chars) (hlc : chars.length ≤ 1000000000) (hP : Kd.C Xc w Ap pairs.length pairs) (hlp : pairs.length ≤ 1000000000) (W : World) (hb : Below w.heap.size w W) : Calls Tryz.prog 40 #[.slice Ac chars.length cc, .func (.func 35) #[] #[]] W fun e w' => e = .returned (.bool (chars.any Yx)) ∧ Below W.heap.size W w' :=
 zqy Ac cc chars W (Kd.zh hS hb) hlc Yx 35 #[] (Zl Tryz.func35 (by kernel_rfl) rfl) (fun V y hm hV => (WM y V).mono fun e w' ⟨h1, h2⟩ => ⟨h1, hV.trans (h2.mono hV.size)⟩)
theorem WS (Af : Option Addr) (cf : Nat) (l : List yS) (f s : Int) (zI za : Bool) (Ac : Option Addr) (cc : Nat) (chars : List ByteArray) (Ap : Option Addr) (cp : Nat) (pairs : List kI) (w : World) (hG : GW w) (hC : Kd.C Zq w Af l.length l) (hz : ∀ x ∈ l, x.f3.length ≤ 1000000000 ∧ x.f4.length ≤ 1000000000 ∧ x.f5.length ≤ 1000000000) (hl : l.length ≤ 1000000000) (hS : Kd.C Kd.string w Ac chars.length chars) (hlc : chars.length ≤ 1000000000) (hP : Kd.C Xc w Ap pairs.length pairs) (hlp : pairs.length ≤ 1000000000) (B : Nat) (W : World) (hb : Below w.heap.size w W) (hB : W.cell? ⟨B, 0, none⟩ = some (.func (.func 35) #[] #[])) : Calls Tryz.prog 41 #[.slice Ap pairs.length cp, .func (.func 42) #[] #[.pointer (some ⟨B, 0, none⟩)]] W fun e w' => e = .returned (.bool (pairs.any VU)) ∧ Below W.heap.size W w' :=
 zqZ Ap cp pairs W (Kd.zh hP hb) hlp VU 42 #[.pointer (some ⟨B, 0, none⟩)] (Zl Tryz.func42 (by kernel_rfl) rfl) (fun V y hm hV => (zqQ B y V ((hV.cell (p := ⟨B, 0, none⟩) (World.block_lt_of_cell? W _ hB)).trans hB)).mono fun e w' ⟨h1, h2⟩ => ⟨h1, hV.trans (h2.mono hV.size)⟩)
def ku (n : Nat) (f s : Int) : Bool := decide (f < 0) || (decide ((n : Int) ≤ f) || (decide (s < 1) || decide (1000 < s)))
set_option maxRecDepth 100000 in
set_option maxHeartbeats 8000000 in
theorem zqX (Af : Option Addr) (cf : Nat) (l : List yS) (f s : Int) (zI za : Bool) (Ac : Option Addr) (cc : Nat) (chars : List ByteArray) (Ap : Option Addr) (cp : Nat) (pairs : List kI) (w : World) (hG : GW w) (hC : Kd.C Zq w Af l.length l) (hz : ∀ x ∈ l, x.f3.length ≤ 1000000000 ∧ x.f4.length ≤ 1000000000 ∧ x.f5.length ≤ 1000000000) (hl : l.length ≤ 1000000000) (hS : Kd.C Kd.string w Ac chars.length chars) (hlc : chars.length ≤ 1000000000) (hP : Kd.C Xc w Ap pairs.length pairs) (hlp : pairs.length ≤ 1000000000) (h1 : (l.any fun x => !qN x) = true) :
  Calls Tryz.prog 13 #[.slice Af l.length cf, .agg #[.int .i64 f, .int .i64 s, .bool zI, .bool za], .slice Ac chars.length cc, .slice Ap pairs.length cp] w fun e w' => e = .returned (.tuple #[.slice none 0 0, .slice none 0 0, .int .i64 1]) ∧ Below w.heap.size w w' := by
 have hF := WO Af cf l f s zI za Ac cc chars Ap cp pairs w hG hC hz hl hS hlc hP hlp
 have hQ := WR Af cf l f s zI za Ac cc chars Ap cp pairs w hG hC hz hl hS hlc hP hlp
 have hR := WS Af cf l f s zI za Ac cc chars Ap cp pairs w hG hC hz hl hS hlc hP hlp (w.heap.size + 1)
 have hb0 : Below w.heap.size w ((w.alloc (.cells #[.int .i64 f, .int .i64 s, .bool zI, .bool za] 26)).alloc (.cells #[.func (.func 35) #[] #[]] 75)) := ((Below.refl _ w).alloc (Nat.le_refl _) _).alloc (by simp) _
 have Zw := vD (wY w (.cells #[.int .i64 f, .int .i64 s, .bool zI, .bool za] 26)) (.cells #[.func (.func 35) #[] #[]] 75)
 have hbad : Boxed ((w.alloc (.cells #[.int .i64 f, .int .i64 s, .bool zI, .bool za] 26)).alloc (.cells #[.func (.func 35) #[] #[]] 75)) (w.heap.size + 1) 75 (.func (.func 35) #[] #[]) := by
  have h := Boxed.new (w.alloc (.cells #[.int .i64 f, .int .i64 s, .bool zI, .bool za] 26)) 75 (.func (.func 35) #[] #[])
  rwa [World.size_alloc] at h
 rw [h1] at hF
 have HT1 := zx.mk Zw
 have HD1 := zx.mk hbad
 have HB1 := zx.mk hb0
 have HF := zx.mk hF
 have HQ := zx.mk hQ
 have HR := zx.mk hR
 clear Zw hbad hb0 hF hQ hR hG hC hz hS hP
 go_enter Tryz.func13, Tryz.ntmps13
 go_wp2_with fail
 refine (HF.out _ HB1.out).mono ?_; rintro e w2 ⟨rfl, hb2⟩
 go_wp2_with fail
 go_ret3
 exact ⟨rfl, HB1.out.trans (hb2.mono HB1.out.size)⟩
set_option maxRecDepth 100000 in
set_option maxHeartbeats 8000000 in
theorem zqJ (Af : Option Addr) (cf : Nat) (l : List yS) (f s : Int) (zI za : Bool) (Ac : Option Addr) (cc : Nat) (chars : List ByteArray) (Ap : Option Addr) (cp : Nat) (pairs : List kI) (w : World) (hG : GW w) (hC : Kd.C Zq w Af l.length l) (hz : ∀ x ∈ l, x.f3.length ≤ 1000000000 ∧ x.f4.length ≤ 1000000000 ∧ x.f5.length ≤ 1000000000) (hl : l.length ≤ 1000000000) (hS : Kd.C Kd.string w Ac chars.length chars) (hlc : chars.length ≤ 1000000000) (hP : Kd.C Xc w Ap pairs.length pairs) (hlp : pairs.length ≤ 1000000000) (h1 : (l.any fun x => !qN x) = false) (h2 : ku l.length f s = true) :
  Calls Tryz.prog 13 #[.slice Af l.length cf, .agg #[.int .i64 f, .int .i64 s, .bool zI, .bool za], .slice Ac chars.length cc, .slice Ap pairs.length cp] w fun e w' => e = .returned (.tuple #[.slice none 0 0, .slice none 0 0, .int .i64 1]) ∧ Below w.heap.size w w' := by
 have hF := WO Af cf l f s zI za Ac cc chars Ap cp pairs w hG hC hz hl hS hlc hP hlp
 have hQ := WR Af cf l f s zI za Ac cc chars Ap cp pairs w hG hC hz hl hS hlc hP hlp
 have hR := WS Af cf l f s zI za Ac cc chars Ap cp pairs w hG hC hz hl hS hlc hP hlp (w.heap.size + 1)
 have hb0 : Below w.heap.size w ((w.alloc (.cells #[.int .i64 f, .int .i64 s, .bool zI, .bool za] 26)).alloc (.cells #[.func (.func 35) #[] #[]] 75)) := ((Below.refl _ w).alloc (Nat.le_refl _) _).alloc (by simp) _
 have Zw := vD (wY w (.cells #[.int .i64 f, .int .i64 s, .bool zI, .bool za] 26)) (.cells #[.func (.func 35) #[] #[]] 75)
 have hbad : Boxed ((w.alloc (.cells #[.int .i64 f, .int .i64 s, .bool zI, .bool za] 26)).alloc (.cells #[.func (.func 35) #[] #[]] 75)) (w.heap.size + 1) 75 (.func (.func 35) #[] #[]) := by
  have h := Boxed.new (w.alloc (.cells #[.int .i64 f, .int .i64 s, .bool zI, .bool za] 26)) 75 (.func (.func 35) #[] #[])
  rwa [World.size_alloc] at h
 rw [h1] at hF
 have HT1 := zx.mk Zw
 have HD1 := zx.mk hbad
 have HB1 := zx.mk hb0
 have HF := zx.mk hF
 have HQ := zx.mk hQ
 have HR := zx.mk hR
 clear Zw hbad hb0 hF hQ hR hG hC hz hS hP
 go_enter Tryz.func13, Tryz.ntmps13
 go_wp2_with fail
 refine (HF.out _ HB1.out).mono ?_; rintro e w2 ⟨rfl, hb2⟩
 have HT2 := zx.mk (zN HT1.out hb2)
 have HD2 := zx.mk (zN HD1.out hb2)
 have HB2 := zx.mk (HB1.out.trans (hb2.mono HB1.out.size))
 clear hb2
 have a2 : w2.cell? ⟨w.heap.size, 0, none⟩ = some (.int .i64 f) := (zZ HT2.out 0).trans rfl
 have b2 : w2.cell? ⟨w.heap.size, 1, none⟩ = some (.int .i64 s) := (zZ HT2.out 1).trans rfl
 have c2 : w2.cell? ⟨w.heap.size + 1, 0, none⟩ = some (.func (.func 35) #[] #[]) := (zZ HD2.out 0).trans rfl
 by_cases g1 : f < 0
 ·have d1 : decide (f < 0) = true := decide_eq_true g1
  clear h2
  go_wp2_with fail
  go_ret3
  exact ⟨rfl, HB2.out⟩
 have d1 : decide (f < 0) = false := decide_eq_false g1
 by_cases g2 : (l.length : Int) ≤ f
 ·have d2 : decide ((l.length : Int) ≤ f) = true := decide_eq_true g2
  clear h2
  go_wp2_with fail
  go_ret3
  exact ⟨rfl, HB2.out⟩
 have d2 : decide ((l.length : Int) ≤ f) = false := decide_eq_false g2
 by_cases g3 : s < 1
 ·have d3 : decide (s < 1) = true := decide_eq_true g3
  clear h2
  go_wp2_with fail
  go_ret3
  exact ⟨rfl, HB2.out⟩
 have d3 : decide (s < 1) = false := decide_eq_false g3
 have g4 : 1000 < s := by
  unfold ku at h2
  simp only [d1, d2, d3, Bool.false_or, decide_eq_true_eq] at h2
  exact h2
 have d4 : decide (1000 < s) = true := decide_eq_true g4
 clear h2
 go_wp2_with fail
 go_ret3
 exact ⟨rfl, HB2.out⟩
set_option maxRecDepth 100000 in
set_option maxHeartbeats 8000000 in
theorem zqV (Af : Option Addr) (cf : Nat) (l : List yS) (f s : Int) (zI za : Bool) (Ac : Option Addr) (cc : Nat) (chars : List ByteArray) (Ap : Option Addr) (cp : Nat) (pairs : List kI) (w : World) (hG : GW w) (hC : Kd.C Zq w Af l.length l) (hz : ∀ x ∈ l, x.f3.length ≤ 1000000000 ∧ x.f4.length ≤ 1000000000 ∧ x.f5.length ≤ 1000000000) (hl : l.length ≤ 1000000000) (hS : Kd.C Kd.string w Ac chars.length chars) (hlc : chars.length ≤ 1000000000) (hP : Kd.C Xc w Ap pairs.length pairs) (hlp : pairs.length ≤ 1000000000) (h1 : (l.any fun x => !qN x) = false) (h2 : ku l.length f s = false) (h3 : 2000 < chars.length ∨ 100 < pairs.length) :
  Calls Tryz.prog 13 #[.slice Af l.length cf, .agg #[.int .i64 f, .int .i64 s, .bool zI, .bool za], .slice Ac chars.length cc, .slice Ap pairs.length cp] w fun e w' => e = .returned (.tuple #[.slice none 0 0, .slice none 0 0, .int .i64 1]) ∧ Below w.heap.size w w' := by
 have d1 : decide (f < 0) = false := by cases h : decide (f < 0) with | false => rfl | true => (unfold ku at h2; rw [h, Bool.true_or] at h2; cases h2)
 have d2 : decide ((l.length : Int) ≤ f) = false := by cases h : decide ((l.length : Int) ≤ f) with | false => rfl | true => (unfold ku at h2; rw [h, Bool.true_or, Bool.or_true] at h2; cases h2)
 have d3 : decide (s < 1) = false := by cases h : decide (s < 1) with | false => rfl | true => (unfold ku at h2; rw [h, Bool.true_or, Bool.or_true, Bool.or_true] at h2; cases h2)
 have d4 : decide (1000 < s) = false := by cases h : decide (1000 < s) with | false => rfl | true => (unfold ku at h2; rw [h, Bool.or_true, Bool.or_true, Bool.or_true] at h2; cases h2)
 have r1 := of_decide_eq_false d1
 have r2 := of_decide_eq_false d2
 have r3 := of_decide_eq_false d3
 have r4 := of_decide_eq_false d4
 clear h2
 have hF := WO Af cf l f s zI za Ac cc chars Ap cp pairs w hG hC hz hl hS hlc hP hlp
 have hQ := WR Af cf l f s zI za Ac cc chars Ap cp pairs w hG hC hz hl hS hlc hP hlp
 have hR := WS Af cf l f s zI za Ac cc chars Ap cp pairs w hG hC hz hl hS hlc hP hlp (w.heap.size + 1)
 have hb0 : Below w.heap.size w ((w.alloc (.cells #[.int .i64 f, .int .i64 s, .bool zI, .bool za] 26)).alloc (.cells #[.func (.func 35) #[] #[]] 75)) := ((Below.refl _ w).alloc (Nat.le_refl _) _).alloc (by simp) _
 have Zw := vD (wY w (.cells #[.int .i64 f, .int .i64 s, .bool zI, .bool za] 26)) (.cells #[.func (.func 35) #[] #[]] 75)
 have hbad : Boxed ((w.alloc (.cells #[.int .i64 f, .int .i64 s, .bool zI, .bool za] 26)).alloc (.cells #[.func (.func 35) #[] #[]] 75)) (w.heap.size + 1) 75 (.func (.func 35) #[] #[]) := by
  have h := Boxed.new (w.alloc (.cells #[.int .i64 f, .int .i64 s, .bool zI, .bool za] 26)) 75 (.func (.func 35) #[] #[])
  rwa [World.size_alloc] at h
 rw [h1] at hF
 have HT1 := zx.mk Zw
 have HD1 := zx.mk hbad
 have HB1 := zx.mk hb0
 have HF := zx.mk hF
 have HQ := zx.mk hQ
 have HR := zx.mk hR
 clear Zw hbad hb0 hF hQ hR hG hC hz hS hP
 go_enter Tryz.func13, Tryz.ntmps13
 go_wp2_with fail
 refine (HF.out _ HB1.out).mono ?_; rintro e w2 ⟨rfl, hb2⟩
 have HT2 := zx.mk (zN HT1.out hb2)
 have HD2 := zx.mk (zN HD1.out hb2)
 have HB2 := zx.mk (HB1.out.trans (hb2.mono HB1.out.size))
 clear hb2
 have a2 : w2.cell? ⟨w.heap.size, 0, none⟩ = some (.int .i64 f) := (zZ HT2.out 0).trans rfl
 have b2 : w2.cell? ⟨w.heap.size, 1, none⟩ = some (.int .i64 s) := (zZ HT2.out 1).trans rfl
 have c2 : w2.cell? ⟨w.heap.size + 1, 0, none⟩ = some (.func (.func 35) #[] #[]) := (zZ HD2.out 0).trans rfl
 by_cases g5 : 2000 < chars.length
 ·have d5 : decide ((2000 : Int) < (chars.length : Int)) = true := decide_eq_true (by omega)
  have d5' : decide (2000 < chars.length) = true := decide_eq_true g5
  clear h3
  go_wp2_with fail
  go_ret3
  exact ⟨rfl, HB2.out⟩
 have d5 : decide ((2000 : Int) < (chars.length : Int)) = false := decide_eq_false (by omega)
 have g6 : 100 < pairs.length := by omega
 have d6 : decide ((100 : Int) < (pairs.length : Int)) = true := decide_eq_true (by omega)
 clear h3
 go_wp2_with fail
 go_ret3
 exact ⟨rfl, HB2.out⟩
set_option maxRecDepth 100000 in
set_option maxHeartbeats 8000000 in
theorem zqK (Af : Option Addr) (cf : Nat) (l : List yS) (f s : Int) (zI za : Bool) (Ac : Option Addr) (cc : Nat) (chars : List ByteArray) (Ap : Option Addr) (cp : Nat) (pairs : List kI) (w : World) (hG : GW w) (hC : Kd.C Zq w Af l.length l) (hz : ∀ x ∈ l, x.f3.length ≤ 1000000000 ∧ x.f4.length ≤ 1000000000 ∧ x.f5.length ≤ 1000000000) (hl : l.length ≤ 1000000000) (hS : Kd.C Kd.string w Ac chars.length chars) (hlc : chars.length ≤ 1000000000) (hP : Kd.C Xc w Ap pairs.length pairs) (hlp : pairs.length ≤ 1000000000) (h1 : (l.any fun x => !qN x) = false) (h2 : ku l.length f s = false) (h3 : chars.length ≤ 2000) (h3' : pairs.length ≤ 100) (h4 : chars.any Yx = true) :
  Calls Tryz.prog 13 #[.slice Af l.length cf, .agg #[.int .i64 f, .int .i64 s, .bool zI, .bool za], .slice Ac chars.length cc, .slice Ap pairs.length cp] w fun e w' => e = .returned (.tuple #[.slice none 0 0, .slice none 0 0, .int .i64 1]) ∧ Below w.heap.size w w' := by
 have d1 : decide (f < 0) = false := by cases h : decide (f < 0) with | false => rfl | true => (unfold ku at h2; rw [h, Bool.true_or] at h2; cases h2)
 have d2 : decide ((l.length : Int) ≤ f) = false := by cases h : decide ((l.length : Int) ≤ f) with | false => rfl | true => (unfold ku at h2; rw [h, Bool.true_or, Bool.or_true] at h2; cases h2)
 have d3 : decide (s < 1) = false := by cases h : decide (s < 1) with | false => rfl | true => (unfold ku at h2; rw [h, Bool.true_or, Bool.or_true, Bool.or_true] at h2; cases h2)
 have d4 : decide (1000 < s) = false := by cases h : decide (1000 < s) with | false => rfl | true => (unfold ku at h2; rw [h, Bool.or_true, Bool.or_true, Bool.or_true] at h2; cases h2)
 have r1 := of_decide_eq_false d1
 have r2 := of_decide_eq_false d2
 have r3 := of_decide_eq_false d3
 have r4 := of_decide_eq_false d4
 clear h2
 have d5 : decide ((2000 : Int) < (chars.length : Int)) = false := decide_eq_false (by omega)
 have d6 : decide ((100 : Int) < (pairs.length : Int)) = false := decide_eq_false (by omega)
 have hF := WO Af cf l f s zI za Ac cc chars Ap cp pairs w hG hC hz hl hS hlc hP hlp
 have hQ := WR Af cf l f s zI za Ac cc chars Ap cp pairs w hG hC hz hl hS hlc hP hlp
 have hR := WS Af cf l f s zI za Ac cc chars Ap cp pairs w hG hC hz hl hS hlc hP hlp (w.heap.size + 1)
 have hb0 : Below w.heap.size w ((w.alloc (.cells #[.int .i64 f, .int .i64 s, .bool zI, .bool za] 26)).alloc (.cells #[.func (.func 35) #[] #[]] 75)) := ((Below.refl _ w).alloc (Nat.le_refl _) _).alloc (by simp) _
 have Zw := vD (wY w (.cells #[.int .i64 f, .int .i64 s, .bool zI, .bool za] 26)) (.cells #[.func (.func 35) #[] #[]] 75)
 have hbad : Boxed ((w.alloc (.cells #[.int .i64 f, .int .i64 s, .bool zI, .bool za] 26)).alloc (.cells #[.func (.func 35) #[] #[]] 75)) (w.heap.size + 1) 75 (.func (.func 35) #[] #[]) := by
  have h := Boxed.new (w.alloc (.cells #[.int .i64 f, .int .i64 s, .bool zI, .bool za] 26)) 75 (.func (.func 35) #[] #[])
  rwa [World.size_alloc] at h
 rw [h1] at hF
 rw [h4] at hQ
 have HT1 := zx.mk Zw
 have HD1 := zx.mk hbad
 have HB1 := zx.mk hb0
 have HF := zx.mk hF
 have HQ := zx.mk hQ
 have HR := zx.mk hR
 clear Zw hbad hb0 hF hQ hR hG hC hz hS hP
 go_enter Tryz.func13, Tryz.ntmps13
 go_wp2_with fail
 refine (HF.out _ HB1.out).mono ?_; rintro e w2 ⟨rfl, hb2⟩
 have HT2 := zx.mk (zN HT1.out hb2)
 have HD2 := zx.mk (zN HD1.out hb2)
 have HB2 := zx.mk (HB1.out.trans (hb2.mono HB1.out.size))
 clear hb2
 have a2 : w2.cell? ⟨w.heap.size, 0, none⟩ = some (.int .i64 f) := (zZ HT2.out 0).trans rfl
 have b2 : w2.cell? ⟨w.heap.size, 1, none⟩ = some (.int .i64 s) := (zZ HT2.out 1).trans rfl
 have c2 : w2.cell? ⟨w.heap.size + 1, 0, none⟩ = some (.func (.func 35) #[] #[]) := (zZ HD2.out 0).trans rfl
 go_wp2_with fail
 refine (HQ.out _ HB2.out).mono ?_; rintro e w3 ⟨rfl, hb3⟩
 go_wp2_with fail
 go_ret3
 exact ⟨rfl, HB2.out.trans (hb3.mono HB2.out.size)⟩
set_option maxRecDepth 100000 in
set_option maxHeartbeats 8000000 in
theorem zqY (Af : Option Addr) (cf : Nat) (l : List yS) (f s : Int) (zI za : Bool) (Ac : Option Addr) (cc : Nat) (chars : List ByteArray) (Ap : Option Addr) (cp : Nat) (pairs : List kI) (w : World) (hG : GW w) (hC : Kd.C Zq w Af l.length l) (hz : ∀ x ∈ l, x.f3.length ≤ 1000000000 ∧ x.f4.length ≤ 1000000000 ∧ x.f5.length ≤ 1000000000) (hl : l.length ≤ 1000000000) (hS : Kd.C Kd.string w Ac chars.length chars) (hlc : chars.length ≤ 1000000000) (hP : Kd.C Xc w Ap pairs.length pairs) (hlp : pairs.length ≤ 1000000000) (h1 : (l.any fun x => !qN x) = false) (h2 : ku l.length f s = false) (h3 : chars.length ≤ 2000) (h3' : pairs.length ≤ 100) (h4 : chars.any Yx = false) (h5 : pairs.any VU = true) :
  Calls Tryz.prog 13 #[.slice Af l.length cf, .agg #[.int .i64 f, .int .i64 s, .bool zI, .bool za], .slice Ac chars.length cc, .slice Ap pairs.length cp] w fun e w' => e = .returned (.tuple #[.slice none 0 0, .slice none 0 0, .int .i64 1]) ∧ Below w.heap.size w w' := by
 have d1 : decide (f < 0) = false := by cases h : decide (f < 0) with | false => rfl | true => (unfold ku at h2; rw [h, Bool.true_or] at h2; cases h2)
 have d2 : decide ((l.length : Int) ≤ f) = false := by cases h : decide ((l.length : Int) ≤ f) with | false => rfl | true => (unfold ku at h2; rw [h, Bool.true_or, Bool.or_true] at h2; cases h2)
 have d3 : decide (s < 1) = false := by cases h : decide (s < 1) with | false => rfl | true => (unfold ku at h2; rw [h, Bool.true_or, Bool.or_true, Bool.or_true] at h2; cases h2)
 have d4 : decide (1000 < s) = false := by cases h : decide (1000 < s) with | false => rfl | true => (unfold ku at h2; rw [h, Bool.or_true, Bool.or_true, Bool.or_true] at h2; cases h2)
 have r1 := of_decide_eq_false d1
 have r2 := of_decide_eq_false d2
 have r3 := of_decide_eq_false d3
 have r4 := of_decide_eq_false d4
 clear h2
 have d5 : decide ((2000 : Int) < (chars.length : Int)) = false := decide_eq_false (by omega)
 have d6 : decide ((100 : Int) < (pairs.length : Int)) = false := decide_eq_false (by omega)
 have hF := WO Af cf l f s zI za Ac cc chars Ap cp pairs w hG hC hz hl hS hlc hP hlp
 have hQ := WR Af cf l f s zI za Ac cc chars Ap cp pairs w hG hC hz hl hS hlc hP hlp
 have hR := WS Af cf l f s zI za Ac cc chars Ap cp pairs w hG hC hz hl hS hlc hP hlp (w.heap.size + 1)
 have hb0 : Below w.heap.size w ((w.alloc (.cells #[.int .i64 f, .int .i64 s, .bool zI, .bool za] 26)).alloc (.cells #[.func (.func 35) #[] #[]] 75)) := ((Below.refl _ w).alloc (Nat.le_refl _) _).alloc (by simp) _
 have Zw := vD (wY w (.cells #[.int .i64 f, .int .i64 s, .bool zI, .bool za] 26)) (.cells #[.func (.func 35) #[] #[]] 75)
 have hbad : Boxed ((w.alloc (.cells #[.int .i64 f, .int .i64 s, .bool zI, .bool za] 26)).alloc (.cells #[.func (.func 35) #[] #[]] 75)) (w.heap.size + 1) 75 (.func (.func 35) #[] #[]) := by
  have h := Boxed.new (w.alloc (.cells #[.int .i64 f, .int .i64 s, .bool zI, .bool za] 26)) 75 (.func (.func 35) #[] #[])
  rwa [World.size_alloc] at h
 rw [h1] at hF
 rw [h4] at hQ
 rw [h5] at hR
 have HT1 := zx.mk Zw
 have HD1 := zx.mk hbad
 have HB1 := zx.mk hb0
 have HF := zx.mk hF
 have HQ := zx.mk hQ
 have HR := zx.mk hR
 clear Zw hbad hb0 hF hQ hR hG hC hz hS hP
 go_enter Tryz.func13, Tryz.ntmps13
 go_wp2_with fail
 refine (HF.out _ HB1.out).mono ?_; rintro e w2 ⟨rfl, hb2⟩
 have HT2 := zx.mk (zN HT1.out hb2)
 have HD2 := zx.mk (zN HD1.out hb2)
 have HB2 := zx.mk (HB1.out.trans (hb2.mono HB1.out.size))
 clear hb2
 have a2 : w2.cell? ⟨w.heap.size, 0, none⟩ = some (.int .i64 f) := (zZ HT2.out 0).trans rfl
 have b2 : w2.cell? ⟨w.heap.size, 1, none⟩ = some (.int .i64 s) := (zZ HT2.out 1).trans rfl
 have c2 : w2.cell? ⟨w.heap.size + 1, 0, none⟩ = some (.func (.func 35) #[] #[]) := (zZ HD2.out 0).trans rfl
 go_wp2_with fail
 refine (HQ.out _ HB2.out).mono ?_; rintro e w3 ⟨rfl, hb3⟩
 have HT3 := zx.mk (zN HT2.out hb3)
 have HD3 := zx.mk (zN HD2.out hb3)
 have HB3 := zx.mk (HB2.out.trans (hb3.mono HB2.out.size))
 clear hb3
 have a3 : w3.cell? ⟨w.heap.size, 0, none⟩ = some (.int .i64 f) := (zZ HT3.out 0).trans rfl
 have b3 : w3.cell? ⟨w.heap.size, 1, none⟩ = some (.int .i64 s) := (zZ HT3.out 1).trans rfl
 have c3 : w3.cell? ⟨w.heap.size + 1, 0, none⟩ = some (.func (.func 35) #[] #[]) := (zZ HD3.out 0).trans rfl
 go_wp2_with fail
 refine (HR.out _ HB3.out c3).mono ?_; rintro e w4 ⟨rfl, hb4⟩
 go_wp2_with fail
 go_ret3
 exact ⟨rfl, HB3.out.trans (hb4.mono HB3.out.size)⟩
theorem Ko (l : List yS) (f s : Int) (chars : List ByteArray) (pairs : List kI) : Xm l f s chars pairs = ((l.any fun x => !qN x) || ku l.length f s || (decide (2000 < chars.length) || decide (100 < pairs.length)) || chars.any Yx || pairs.any VU) := by
 unfold Xm ku
 simp only [Bool.or_assoc]
set_option maxRecDepth 100000 in
set_option maxHeartbeats 8000000 in
theorem zqW (Af : Option Addr) (cf : Nat) (l : List yS) (f s : Int) (zI za : Bool) (Ac : Option Addr) (cc : Nat) (chars : List ByteArray) (Ap : Option Addr) (cp : Nat) (pairs : List kI) (w : World) (hG : GW w) (hC : Kd.C Zq w Af l.length l) (hz : ∀ x ∈ l, x.f3.length ≤ 1000000000 ∧ x.f4.length ≤ 1000000000 ∧ x.f5.length ≤ 1000000000) (hl : l.length ≤ 1000000000) (hS : Kd.C Kd.string w Ac chars.length chars) (hlc : chars.length ≤ 1000000000) (hP : Kd.C Xc w Ap pairs.length pairs) (hlp : pairs.length ≤ 1000000000) (h : Xm l f s chars pairs = true) :
  Calls Tryz.prog 13 #[.slice Af l.length cf, .agg #[.int .i64 f, .int .i64 s, .bool zI, .bool za], .slice Ac chars.length cc, .slice Ap pairs.length cp] w fun e w' => e = .returned (.tuple #[.slice none 0 0, .slice none 0 0, .int .i64 1]) ∧ Below w.heap.size w w' := by
 rw [Ko] at h
 cases h1 : l.any fun x => !qN x with
 | true => exact zqX Af cf l f s zI za Ac cc chars Ap cp pairs w hG hC hz hl hS hlc hP hlp h1
 | false =>
 cases h2 : ku l.length f s with
 | true => exact zqJ Af cf l f s zI za Ac cc chars Ap cp pairs w hG hC hz hl hS hlc hP hlp h1 h2
 | false =>
 by_cases h3 : 2000 < chars.length ∨ 100 < pairs.length
 ·exact zqV Af cf l f s zI za Ac cc chars Ap cp pairs w hG hC hz hl hS hlc hP hlp h1 h2 h3
 cases h4 : chars.any Yx with
 | true => exact zqK Af cf l f s zI za Ac cc chars Ap cp pairs w hG hC hz hl hS hlc hP hlp h1 h2 (by omega) (by omega) h4
 | false =>
 rw [h1, h2, h4, decide_eq_false (by omega : ¬ 2000 < chars.length), decide_eq_false (by omega : ¬ 100 < pairs.length)] at h
 exact zqY Af cf l f s zI za Ac cc chars Ap cp pairs w hG hC hz hl hS hlc hP hlp h1 h2 (by omega) (by omega) h4 (by simpa using h)
end Go.Proofs.YtggifbbiiickmaaGreatDoor
namespace Go.Proofs.YtggifbbiiickmaaGreatDoor
open Go.RowKit Go.Shelf Go.Proofs.zk.ze Go.Proofs.zk.yc Go.Proofs.zk.yt Go.Proofs.YtggifbbiiickmaaGreatDoor.PX Go.Proofs.YtggifbbiiickmaaGreatDoor.Km
set_option linter.unusedSimpArgs false
set_option linter.unusedVariables false
attribute [local go_sem] Oper.semAt_some
theorem aZ {P : Program} {c : Code} {K : Act → World → Prop} {Q' : Exit → Act → World → Prop} {a : Act} {w : World} (h : c.wp P (Exit.then K (fun _ _ _ => False)) a w) : c.wp P (Exit.then K Q') a w := by
 refine wp_mono h ?_
 intro e a' w' hq
 cases e with
 | normal => exact hq
 | _ => exact hq.elim
theorem Ui {s : ByteArray} (h : Yx s = false) : s.size ≤ 10 := by
 unfold Yx XL at h
 simp only [Bool.not_eq_false', Bool.and_eq_true, decide_eq_true_eq] at h
 have h1 := h.2.1
 rwa [show s.data.toList.length = s.size from Array.length_toList] at h1
theorem below_grown {n : Nat} {A B : World} {row : Nat} (h : A.grownBy B (some row)) (hr : n ≤ row) (hn : n ≤ A.heap.size) : Below n A B :=
 ⟨h.os, h.tape, h.output, h.size, fun k hk => h.block k (by omega) (fun e => by injection e; omega)⟩
theorem WT {W W' : World} {m n : Nat} {f : ByteArray → Option ByteArray} {P : Program} {k e : TypeId} (h : W'.heap[m]? = W.heap[m]?) (hm : SMap P k e W m n f) : SMap P k e W' m n f := by
 obtain ⟨D, ⟨es, clock, hb, F, h1, h2⟩, h3, h4⟩ := hm
 exact ⟨D, ⟨es, clock, h.trans hb, F, h1, h2⟩, h3, h4⟩
def J3 (m base : Nat) (w4 : World) (pre : List Uf) (W : World) : Prop := SMap Tryz.prog 9 9 W m pre.length (Ug pre) ∧ Boxed W (m + 1) 82 (.map (some m)) ∧ Below m w4 W ∧ base ≤ W.heap.size
theorem zqa (m base : Nat) (w4 : World) (hm : m ≤ w4.heap.size) (hb : m + 1 < base) : OwnFrom base (J3 m base w4) := by
 rintro pre A B row ⟨h1, h2, h3, h4⟩ hg hr
 exact ⟨h1.kept hg (fun e => by have := (hr _ e.symm).1; omega), h2.kept hg (fun e => by have := (hr _ e.symm).1; omega), ownFrom_below (β := Unit) hm (by omega) () A B row h3 hg hr, Nat.le_trans h4 hg.size⟩
theorem zqb (m base : Nat) (w4 : World) (hm : m + 1 + 1 < base) : pJ (m + 1 + 1) (J3 m base w4) := by
 rintro pre W u ⟨h1, h2, h3, h4⟩
 exact ⟨h1.kept (grownBy_setCell' W (m + 1 + 1) u) (fun e => by injection e; omega), h2.other (by omega) u, h3.setCell (p := ⟨m + 1 + 1, 0, none⟩) (by show m ≤ m + 1 + 1; omega) u, by simpa using h4⟩
theorem iw {m base : Nat} {w4 W : World} {pre : List Uf} (h : J3 m base w4 pre W) (o : Obj) : J3 m base w4 pre (W.alloc o) :=
 ⟨h.1.kept (World.grownBy_alloc _ _ none) (by simp), h.2.1.alloc _, h.2.2.1.alloc (Nat.le_trans (Nat.le_of_lt h.1.lt) (Nat.le_refl _)) _, Nat.le_trans h.2.2.2 (by simp)⟩
theorem zqc {m base : Nat} {w4 W W' : World} {pre : List Uf} {x : Uf} (h : J3 m base w4 pre W) (hm : SMap Tryz.prog 9 9 W' m (pre.length + 1) (fun s => if s = x.2.1.f0 then some x.2.1.f1 else Ug pre s)) (hg : W.grownBy W' (some m)) : J3 m base w4 (pre ++ [x]) W' := by
 refine ⟨?_, h.2.1.kept hg (fun e => by injection e; omega), h.2.2.1.trans (below_grown hg (Nat.le_refl _) (Nat.le_of_lt h.1.lt)), Nat.le_trans h.2.2.2 hg.size⟩
 rw [oM, List.length_append]
 exact hm
def boxes.T19 : Bool × List (List Nat × List Nat) := (true, [([], []), ([], []), ([1], [1]), ([0, 2], [0, 2]), ([3], [3]), ([], []), ([], []), ([], []), ([], []), ([8], [8]), ([7, 9], [7, 9]), ([10], [10]), ([6, 11], [6, 11]), ([4, 5, 12, 12], [4, 5, 12]), ([13], [13]), ([14], [14]), ([14], [14]), ([15, 13, 0, 1, 2, 3, 4, 5, 6, 7, 8, 9, 10, 11, 12, 13, 14, 15], [15]), ([16, 17, 0, 1, 2, 3, 4, 5, 6, 7, 8, 9, 10, 11, 12, 13, 14, 15, 16, 17], [16])])
def boxes.B19 : List Nat := [0, 0, 2, 7, 15, 0, 0, 0, 0, 256, 896, 1920, 4032, 8191, 16383, 32767, 32767, 65535, 262143]
theorem boxes.zkY : xE .any (opsOf Tryz.f13 19) = boxes.T19 := by kernel_rfl
theorem boxes.zvq : vP boxes.T19.2 boxes.B19 = true := by kernel_rfl
def boxes.T24 : Bool × List (List Nat × List Nat) := (true, [([], []), ([0], [0]), ([1], [1]), ([2], [2]), ([], []), ([4], [4]), ([5], [5]), ([6], [6]), ([3, 0, 1, 2, 3], [3]), ([7, 8, 0, 1, 2, 3, 4, 5, 6, 7, 8], [7]), ([9, 0, 1, 2, 3, 4, 5, 6, 7, 8, 9], [])])
def boxes.B24 : List Nat := [0, 1, 3, 7, 0, 16, 48, 112, 15, 511, 1023]
theorem boxes.zkW : xE .any (opsOf Tryz.f13 24) = boxes.T24 := by kernel_rfl
theorem boxes.zvx : vP boxes.T24.2 boxes.B24 = true := by kernel_rfl
theorem zxR (w0 : World) (base g : Nat) (Af : Option Addr) (cf : Nat) (l : List yS) (f s : Int) (zI za : Bool) (st : List vS × List ByteArray) (n : ByteArray) (w : World) (hG : GW w0) (hC : Kd.C Zq w0 Af l.length l) (hl : l.length ≤ 1000000000) (hf0 : 0 ≤ f) (hf1 : f < (l.length : Int)) (hv : ∀ x ∈ l, qN x = true) (hgb : g < base) (hb : base ≤ w.heap.size) (hg0 : w0.heap.size ≤ g) (hw : Below w0.heap.size w0 w) (hlo : st.1.length ≤ 1000000) (hll : st.2.length ≤ 1000000) (hs0 : 1 ≤ s) (hs1 : s ≤ 1000) (hS : XU base g w Af cf l f s zI za st) :
  Calls Tryz.prog 46 #[.pointer (some ⟨g, 0, none⟩), .string n] w fun e w' => (∃ v, e = .returned v) ∧ XU base g w' Af cf l f s zI za (Yn l f s za st n) ∧ xO base g w w' := by
 obtain ⟨vo, vl, hS⟩ := hS
 unfold Yn
 by_cases h : uY l f n < 0
 ·rw [if_pos h]
  exact zj9 w0 base g Af cf l f s zI za st n w hG hC hl hf0 hf1 hv hgb hb hg0 hw hlo hll vo vl hS h
 ·rw [if_neg h]
  exact zxM w0 base g Af cf l f s zI za st n w hG hC hl hf0 hf1 hv hgb hb hg0 hw hlo hll vo vl hS (by omega) hs0 hs1
theorem oO (l : List yS) (s : Int) (za : Bool) (out : List vS) (a : Int) (n : ByteArray) : (Yc l s za out a n).length ≤ 1 := by
 unfold Yc
 repeat' split
 all_goals first | exact Nat.zero_le _ | exact Nat.le_refl _
theorem gF (l : List yS) (f s : Int) (za : Bool) (st : List vS × List ByteArray) (n : ByteArray) : (Yn l f s za st n).1.length ≤ st.1.length + 2 ∧ (Yn l f s za st n).2.length ≤ st.2.length + 1 := by
 unfold Yn
 split
 ·simp
 ·have := oO l s za st.1 (uY l f n) n
  simp only [List.length_append, List.length_cons, List.length_nil]
  omega
def Zu (J : ByteArray → ByteArray → ByteArray × Bool) (zI : Bool) (A : List ByteArray) (k : Nat) : List ByteArray := if zI then Z4 J (A.drop k) else A.drop k
theorem sG (J : ByteArray → ByteArray → ByteArray × Bool) (A : List ByteArray) (k : Nat) (h : k < A.length) : Zu J false A k = A[k] :: Zu J false A (k + 1) := by
 unfold Zu
 rw [if_neg Bool.false_ne_true, if_neg Bool.false_ne_true, List.drop_eq_getElem_cons h]
theorem Kt (J : ByteArray → ByteArray → ByteArray × Bool) (A : List ByteArray) (k j : Nat) (c : ByteArray) (h : k < A.length) (hj : Yo J A[k] (A.drop (k + 1)) = (c, A.drop (j + 1))) : Zu J true A k = c :: Zu J true A (j + 1) := by
 unfold Zu
 rw [if_pos rfl, if_pos rfl, List.drop_eq_getElem_cons h, Z4, hj]
theorem zqd (J : ByteArray → ByteArray → ByteArray × Bool) (A : List ByteArray) (j : Nat) (c : ByteArray) (h : A.length ≤ j + 1) : Yo J c (A.drop (j + 1)) = (c, A.drop (j + 1)) := by
 rw [List.drop_eq_nil_of_le h]; rfl
theorem oP (J : ByteArray → ByteArray → ByteArray × Bool) (A : List ByteArray) (j : Nat) (c : ByteArray) (h : j + 1 < A.length) (hn : (J c A[j + 1]).2 = false) : Yo J c (A.drop (j + 1)) = (c, A.drop (j + 1)) := by
 rw [List.drop_eq_getElem_cons h, Yo, if_neg (by rw [hn]; exact Bool.false_ne_true)]
theorem zxS (J : ByteArray → ByteArray → ByteArray × Bool) (A : List ByteArray) (j : Nat) (c : ByteArray) (h : j + 1 < A.length) (hy : (J c A[j + 1]).2 = true) : Yo J c (A.drop (j + 1)) = Yo J (J c A[j + 1]).1 (A.drop (j + 1 + 1)) := by
 rw [List.drop_eq_getElem_cons h, Yo, if_pos hy]
theorem dz {tmps : Array Value} {W : World} {v0 v1 v2 : Value} (h0 : tmps.getD 8 undef = v0) (h1 : tmps.getD 9 undef = v1) (h2 : tmps.getD 10 undef = v2) : (results Tryz.f13 tmps).run Tryz.prog W = .ok (.tuple #[v0, v1, v2]) W := by
 subst h0 h1 h2
 simp [results, Tryz.f13, go_sem]
set_option maxRecDepth 100000 in
set_option maxHeartbeats 8000000 in
theorem oU (Af : Option Addr) (cf : Nat) (l : List yS) (f s : Int) (zI za : Bool) (Ac : Option Addr) (cc : Nat) (chars : List ByteArray) (Ap : Option Addr) (cp : Nat) (pairs : List kI) (w : World) (hG : GW w) (hC : Kd.C Zq w Af l.length l) (hz : ∀ x ∈ l, x.f3.length ≤ 1000000000 ∧ x.f4.length ≤ 1000000000 ∧ x.f5.length ≤ 1000000000) (hl : l.length ≤ 1000000000) (hS : Kd.C Kd.string w Ac chars.length chars) (hlc : chars.length ≤ 1000000000) (hP : Kd.C Xc w Ap pairs.length pairs) (hlp : pairs.length ≤ 1000000000) (h1 : (l.any fun x => !qN x) = false) (h2 : ku l.length f s = false) (h3 : chars.length ≤ 2000) (h3' : pairs.length ≤ 100) (h4 : chars.any Yx = false) (h5 : pairs.any VU = false) :
  Calls Tryz.prog 13 #[.slice Af l.length cf, .agg #[.int .i64 f, .int .i64 s, .bool zI, .bool za], .slice Ac chars.length cc, .slice Ap pairs.length cp] w fun e w' => ∃ v0 v1, e = .returned (.tuple #[v0, v1, .int .i64 0]) ∧ Kd.S Xb 53 w' w.heap.size (fun _ => True) v0 (Qx l f s za (Zi l f zI chars pairs)).1 ∧ Kd.R Kd.string 9 w' w.heap.size (fun _ => True) v1 (Qx l f s za (Zi l f zI chars pairs)).2 ∧ Below w.heap.size w w' := by
 have hps : ∀ p ∈ pairs, p.f0.size ≤ maxLen ∧ p.f1.size ≤ maxLen := fun p hp => by
  have h := List.any_eq_false.1 h5 p hp
  simp only [VU, Bool.or_eq_true, not_or, Bool.not_eq_true] at h
  have a1 := Ui h.1
  have a2 := Ui h.2
  unfold maxLen
  omega
 have d1 : decide (f < 0) = false := by cases h : decide (f < 0) with | false => rfl | true => (unfold ku at h2; rw [h, Bool.true_or] at h2; cases h2)
 have d2 : decide ((l.length : Int) ≤ f) = false := by cases h : decide ((l.length : Int) ≤ f) with | false => rfl | true => (unfold ku at h2; rw [h, Bool.true_or, Bool.or_true] at h2; cases h2)
 have d3 : decide (s < 1) = false := by cases h : decide (s < 1) with | false => rfl | true => (unfold ku at h2; rw [h, Bool.true_or, Bool.or_true, Bool.or_true] at h2; cases h2)
 have d4 : decide (1000 < s) = false := by cases h : decide (1000 < s) with | false => rfl | true => (unfold ku at h2; rw [h, Bool.or_true, Bool.or_true, Bool.or_true] at h2; cases h2)
 have r1 := of_decide_eq_false d1
 have r2 := of_decide_eq_false d2
 have r3 := of_decide_eq_false d3
 have r4 := of_decide_eq_false d4
 clear h2
 have d5 : decide ((2000 : Int) < (chars.length : Int)) = false := decide_eq_false (by omega)
 have d6 : decide ((100 : Int) < (pairs.length : Int)) = false := decide_eq_false (by omega)
 have hF := WO Af cf l f s zI za Ac cc chars Ap cp pairs w hG hC hz hl hS hlc hP hlp
 have hQ := WR Af cf l f s zI za Ac cc chars Ap cp pairs w hG hC hz hl hS hlc hP hlp
 have hR := WS Af cf l f s zI za Ac cc chars Ap cp pairs w hG hC hz hl hS hlc hP hlp (w.heap.size + 1)
 have hb0 : Below w.heap.size w ((w.alloc (.cells #[.int .i64 f, .int .i64 s, .bool zI, .bool za] 26)).alloc (.cells #[.func (.func 35) #[] #[]] 75)) := ((Below.refl _ w).alloc (Nat.le_refl _) _).alloc (by simp) _
 have Zw := vD (wY w (.cells #[.int .i64 f, .int .i64 s, .bool zI, .bool za] 26)) (.cells #[.func (.func 35) #[] #[]] 75)
 have hbad : Boxed ((w.alloc (.cells #[.int .i64 f, .int .i64 s, .bool zI, .bool za] 26)).alloc (.cells #[.func (.func 35) #[] #[]] 75)) (w.heap.size + 1) 75 (.func (.func 35) #[] #[]) := by
  have h := Boxed.new (w.alloc (.cells #[.int .i64 f, .int .i64 s, .bool zI, .bool za] 26)) 75 (.func (.func 35) #[] #[])
  rwa [World.size_alloc] at h
 rw [h1] at hF
 rw [h4] at hQ
 rw [h5] at hR
 have HT1 := zx.mk Zw
 have HD1 := zx.mk hbad
 have HB1 := zx.mk hb0
 have HF := zx.mk hF
 have HQ := zx.mk hQ
 have HR := zx.mk hR
 have HP := zx.mk hP
 have HG := zx.mk hG
 have HC := zx.mk hC
 have HS := zx.mk hS
 clear Zw hbad hb0 hF hQ hR
 have hmm := @run_makeMap Tryz.prog
 refine (callsIn_wide (n := 12)).1 ?_
 refine callsIn_of_wp_marks Tryz.func13 rfl trivial ?_ rfl
 simp only [Tryz.ntmps13, List.size_toArray, List.length_cons, List.length_nil, Nat.reduceAdd, Nat.reduceSub, Array.replicate_succ, Array.replicate_zero, List.push_toArray, List.append_toArray, List.nil_append, List.cons_append]
 refine wpIn_wide.2 ?_
 go_wp2_with fail
 refine (HF.out _ HB1.out).mono ?_; rintro e w2 ⟨rfl, hb2⟩
 have HT2 := zx.mk (zN HT1.out hb2)
 have HD2 := zx.mk (zN HD1.out hb2)
 have HB2 := zx.mk (HB1.out.trans (hb2.mono HB1.out.size))
 clear hb2
 have a2 : w2.cell? ⟨w.heap.size, 0, none⟩ = some (.int .i64 f) := (zZ HT2.out 0).trans rfl
 have b2 : w2.cell? ⟨w.heap.size, 1, none⟩ = some (.int .i64 s) := (zZ HT2.out 1).trans rfl
 have c2 : w2.cell? ⟨w.heap.size + 1, 0, none⟩ = some (.func (.func 35) #[] #[]) := (zZ HD2.out 0).trans rfl
 go_wp2_with fail
 refine (HQ.out _ HB2.out).mono ?_; rintro e w3 ⟨rfl, hb3⟩
 have HT3 := zx.mk (zN HT2.out hb3)
 have HD3 := zx.mk (zN HD2.out hb3)
 have HB3 := zx.mk (HB2.out.trans (hb3.mono HB2.out.size))
 clear hb3
 have a3 : w3.cell? ⟨w.heap.size, 0, none⟩ = some (.int .i64 f) := (zZ HT3.out 0).trans rfl
 have b3 : w3.cell? ⟨w.heap.size, 1, none⟩ = some (.int .i64 s) := (zZ HT3.out 1).trans rfl
 have c3 : w3.cell? ⟨w.heap.size + 1, 0, none⟩ = some (.func (.func 35) #[] #[]) := (zZ HD3.out 0).trans rfl
 go_wp2_with fail
 refine (HR.out _ HB3.out c3).mono ?_; rintro e w4 ⟨rfl, hb4⟩
 have HT4 := zx.mk (zN HT3.out hb4)
 have HD4 := zx.mk (zN HD3.out hb4)
 have Ku := zx.mk (HB3.out.trans (hb4.mono HB3.out.size))
 clear hb4
 have a4 : w4.cell? ⟨w.heap.size, 0, none⟩ = some (.int .i64 f) := (zZ HT4.out 0).trans rfl
 have b4 : w4.cell? ⟨w.heap.size, 1, none⟩ = some (.int .i64 s) := (zZ HT4.out 1).trans rfl
 have c4 : w4.cell? ⟨w.heap.size + 1, 0, none⟩ = some (.func (.func 35) #[] #[]) := (zZ HD4.out 0).trans rfl
 clear a2 b2 c2 a3 b3 c3 c4
 go_wp2_with fail
 refine (callsIn_wide.1 (zxP Fence.wide 5 trivial rfl Ap pairs.length cp _)).mono ?_; rintro e w5 ⟨rfl, rfl⟩
 go_wp2_with fail
 obtain ⟨W0, hW0⟩ : ∃ W0, (((w4.alloc (.map #[] 0)).alloc (.cells #[.map (some w4.heap.size)] 82)).alloc (.cells #[.slice Ap pairs.length cp] 28)) = W0 := ⟨_, rfl⟩
 have hz0 : W0.heap.size = w4.heap.size + 1 + 1 + 1 := by rw [← hW0]; simp
 have hm0 : SMap Tryz.prog 9 9 W0 w4.heap.size 0 (fun _ => none) := by
  rw [← hW0]
  have h := SMap.made (P := Tryz.prog) (k := 9) (e := 9) w4
  exact (h.kept (World.grownBy_alloc _ _ none) (by simp)).kept (World.grownBy_alloc _ _ none) (by simp)
 have hc0 : Boxed W0 (w4.heap.size + 1) 82 (.map (some w4.heap.size)) := by
  rw [← hW0]
  have h := Boxed.new (w4.alloc (.map #[] 0)) 82 (.map (some w4.heap.size))
  rw [World.size_alloc] at h
  exact h.alloc _
 have hs0 : Boxed W0 (w4.heap.size + 1 + 1) 28 (.slice Ap pairs.length cp) := by
  rw [← hW0]
  have h := Boxed.new ((w4.alloc (.map #[] 0)).alloc (.cells #[.map (some w4.heap.size)] 82)) 28 (.slice Ap pairs.length cp)
  rw [World.size_alloc, World.size_alloc] at h
  exact h
 have iZ : Below w4.heap.size w4 W0 := by rw [← hW0]; exact (((Below.refl _ _).alloc (Nat.le_refl _) _).alloc (by simp) _).alloc (by simp; omega) _
 rw [hW0]
 clear hW0
 have hle := Ku.out.size
 have hlt1 : w.heap.size + 1 < w4.heap.size := Qa HD4.out
 obtain ⟨zs, hzs⟩ : ∃ zs : List PS, zs.map (·.1) = pairs := ⟨pairs.attachWith _ hps, by simp⟩
 have hzl : zs.length = pairs.length := by rw [← hzs, List.length_map]
 generalize hm : w4.heap.size = m at hz0 hm0 hc0 hs0 iZ hle hlt1 ⊢
 have hCz : Kd.C Xc w Ap zs.length (zs.map (·.1)) := by rw [hzs, hzl]; exact HP.out
 have hlz : zs.length ≤ 1000000000 := by omega
 have zJS : zs.length ≤ 100 := by omega
 have HZ := zx.mk hzs
 rw [← hzl] at hs0
 clear hzl
 have hw0 : Below w.heap.size w W0 := Ku.out.trans (iZ.mono hle)
 refine (wpIn_wide (n := 12)).1 ?_
 refine cO rfl (by omega) (gf := 104) (lb := #[.pointer (some ⟨m + 1 + 1, 0, none⟩)]) rfl trivial (enters_of Tryz.func104 (by kernel_rfl) rfl)
  (zqv Fence.wide (12 - 1) trivial rfl (by omega) (m + 1 + 1) Ap cp zs hlz w W0 hCz hw0 hs0) (by omega) ay (zxO (by omega) (by omega)) (fun _ => rfl)
  (fun pre W => J3 m W0.heap.size w4 pre W) (fun _ _ => False) (zqa m _ w4 (by omega) (by omega)) (fun _ _ _ _ hs _ _ => hs) (zqb m _ w4 (by omega)) (fun _ _ _ hs => hs) ⟨hm0, hc0, iZ, Nat.le_refl _⟩
  (fun x a' W => ∃ gx, W0.heap.size ≤ gx ∧ W.heap[gx]? = some (.cells #[.string x.2.1.f0, .string x.2.1.f1] 80 (0, 0)) ∧ a' = { tmps := #[Value.slice Af l.length cf, Value.agg #[Value.int .i64 f, Value.int .i64 s, Value.bool zI, Value.bool za], Value.slice Ac chars.length cc, Value.slice Ap pairs.length cp, undef, Value.pointer (some ⟨w.heap.size, 0, none⟩), undef, undef, Value.slice none 0 0, Value.slice none 0 0, Value.int .i64 0, Value.pointer (some ⟨w.heap.size + 1, 0, none⟩), Value.pointer (some ⟨m + 1, 0, none⟩), undef, Value.pointer (some ⟨gx, 0, none⟩), undef, undef, undef, undef, undef, undef, Value.bool false, Value.slice Af l.length cf, Value.bool false, Value.pointer (some ⟨w.heap.size, 0, none⟩), Value.int .i64 f, Value.bool false, Value.bool false, Value.pointer (some ⟨w.heap.size, 0, none⟩), Value.int .i64 f, Value.slice Af l.length cf, Value.int .i64 (l.length : Int), Value.bool false, Value.bool false, Value.bool false, Value.pointer (some ⟨w.heap.size, 1, none⟩), Value.int .i64 s, Value.bool false, Value.bool false, Value.bool false, Value.pointer (some ⟨w.heap.size, 1, none⟩), Value.int .i64 s, Value.bool false, Value.bool false, Value.slice Ac chars.length cc, Value.int .i64 (chars.length : Int), Value.bool false, Value.bool false, Value.slice Ap pairs.length cp, Value.int .i64 (pairs.length : Int), Value.bool false, Value.bool false, Value.slice Ac chars.length cc, Value.func (.func 35) #[] #[], Value.bool false, Value.slice Ap pairs.length cp, Value.func (.func 42) #[] #[Value.pointer (some ⟨w.heap.size + 1, 0, none⟩)], Value.bool false, Value.map (some m), Value.slice Ap pairs.length cp, Value.func (.func 104) #[] #[Value.pointer (some ⟨m + 1 + 1, 0, none⟩)], Value.int .i64 (x.1 : Int), Value.agg #[.string x.2.1.f0, .string x.2.1.f1], undef, undef, undef, undef, undef, undef, undef, undef, undef, undef, undef, undef, undef, undef, undef, undef, undef, undef, undef, undef, undef, undef, undef, undef, undef, undef, undef, undef, undef, undef, undef, undef, undef, undef, undef, undef, undef, undef, undef, undef, undef, undef, undef, undef, undef, undef, undef, undef, undef, undef, undef, undef, undef, undef, undef, undef, undef, undef, undef, undef, undef, undef, undef, undef], defers := [] })
  (fun x a' => by rintro _ A B row ⟨gx, h1, h2, h3⟩ hg hr; exact ⟨gx, h1, zxL h2 hg (fun r e => (hr r e).2), h3⟩) ?assign ?body ?done ?stop
 case assign =>
  intro l_ pre x W K hi hK
  unfold dX
  gi_wp2
  refine hK _ _ ((KeepsOthers.alloc W _).from _) ⟨(Below.refl _ _).alloc (by have := hi.2.2.2; omega) _, (Below.heap_alloc _ _ _ (by have := hi.2.2.2; omega))⟩ (iw hi _) ⟨W.heap.size, hi.2.2.2, wY W _, rfl⟩
 case body =>
  rintro l_ pre x a' W hl_ ⟨r, hrec⟩ hI ⟨gx, hgx, hbx, rfl⟩ hlen
  have q0 : W.cell? ⟨gx, 0, none⟩ = some (.string x.2.1.f0) := (zZ hbx 0).trans rfl
  have q1 : W.cell? ⟨gx, 1, none⟩ = some (.string x.2.1.f1) := (zZ hbx 1).trans rfl
  have q2 : W.cell? ⟨m + 1, 0, none⟩ = some (.map (some m)) := hI.2.1.cell
  obtain ⟨w', hrun, hm', hg'⟩ := hI.1.put (t := 82) Tryz.underlying9 Tryz.underlying82 Tryz.underlying9 (by unfold maxLen; omega) x.2.1.f0 x.2.1.f1 x.2.2.1 x.2.2.2
  have HI := Lib.hid hI
  have HM := Lib.hid hm'
  have HG' := Lib.hid hg'
  clear hI hm' hg' hrec hbx
  gi_wp2
  have hsz := HI.out.2.2.2
  exact ⟨KeepsFrom.of_grownBy HG'.out (fun j e => by cases e; omega), ⟨below_grown HG'.out (by omega) (by omega), HG'.out.block _ (by omega) (fun e => by injection e; omega)⟩, zqc HI.out HM.out HG'.out⟩
 case stop =>
  rintro D pre W hD hS hX hK
  exact hX.elim
 case done =>
  rintro D ys W hD rfl hI hK
  obtain ⟨iM, iC, iW, iS⟩ := hI
  have iW4 : Below w4.heap.size w4 W := by rw [hm]; exact iW
  have hT := zN HT4.out iW4
  have hwW : Below w.heap.size w W := Ku.out.trans (iW4.mono Ku.out.size)
  have y0 : W.cell? ⟨w.heap.size, 0, none⟩ = some (.int .i64 f) := (zZ hT 0).trans rfl
  have y1 : W.cell? ⟨w.heap.size, 1, none⟩ = some (.int .i64 s) := (zZ hT 1).trans rfl
  have y2 : W.cell? ⟨w.heap.size, 2, none⟩ = some (.bool zI) := (zZ hT 2).trans rfl
  have y3 : W.cell? ⟨w.heap.size, 3, none⟩ = some (.bool za) := (zZ hT 3).trans rfl
  go_upto_block 3 with (fail)
  clear y0 y1 y2 y3
  have hDl := (Array.getElem?_eq_some_iff.1 hK).1
  obtain ⟨g, hg⟩ : ∃ g, W.heap.size = g := ⟨_, rfl⟩
  obtain ⟨W9, o7⟩ : ∃ W9, W.alloc (.cells #[.slice Af l.length cf, .int .i64 f, .int .i64 s, .bool zI, .bool za, .slice none 0 0, .slice none 0 0] 90) = W9 := ⟨_, rfl⟩
  have S9 : XU (g + 1) g W9 Af cf l f s zI za ([], []) := by
   rw [← o7, ← hg]
   exact ⟨_, _, wY W _, Kd.kG _ _ _ _ _, Kd.kG _ _ _ _ _⟩
  have hz9 : W9.heap.size = g + 1 := by rw [← o7, ← hg]; simp
  have b9 : Below g W W9 := by rw [← o7, ← hg]; exact (Below.refl _ _).alloc (Nat.le_refl _) _
  try rw [o7]
  try rw [hg]
  have hgm : m + 1 < g := by omega
  have hDg : D < g := by omega
  have T9 : W9.heap[w.heap.size]? = some (.cells #[.int .i64 f, .int .i64 s, .bool zI, .bool za] 26 (0, 0)) := (b9.block _ (by omega)).trans hT
  have M9 := WT (b9.block m (by omega)) iM
  have C9 : Boxed W9 (m + 1) 82 (.map (some m)) := (b9.block _ (by omega)).trans iC
  have K9 : W9.heap[D]? = some (.deferred (some [])) := (b9.block _ (by omega)).trans hK
  have hw9 : Below w.heap.size w W9 := hwW.trans (b9.mono (by omega))
  have hbl : Zj zs zs.length = Zj zs zs.length := rfl
  generalize hFm : Ug (Zj zs zs.length) = Fm at M9
  generalize (Zj zs zs.length).length = nm at M9
  have hturn : ∀ c, Ye Fm c = tT pairs c := fun c => by
   rw [← hFm]
   unfold Ye tT
   rw [zqx, HZ.out]
   cases pairs.find? (fun p => decide (p.f0 = c)) <;> rfl
  obtain ⟨A, hA⟩ : ∃ A, chars.map (Ye Fm) = A := ⟨_, rfl⟩
  have hAl : A.length = chars.length := by rw [← hA, List.length_map]
  have hAg : ∀ (i : Nat) (h : i < A.length) (h' : i < chars.length), A[i] = Ye Fm chars[i] := fun i h h' => by subst hA; simp
  have hfin : (Zu (fjoin (qG l f)) zI A 0).foldl (Yn l f s za) ([], []) = Qx l f s za (Zi l f zI chars pairs) := by
   unfold Qx Zi Zu
   rw [List.drop_zero, ← hA, show Ye Fm = tT pairs from funext hturn]
  generalize zvj : Qx l f s za (Zi l f zI chars pairs) = FIN at hfin
  have hcs : ∀ c ∈ chars, c.size ≤ maxLen := fun c hc => by
   have h := List.any_eq_false.1 h4 c hc
   simp only [Bool.not_eq_true] at h
   have := Ui h
   unfold maxLen
   omega
  have hv : ∀ x ∈ l, qN x = true := fun x hx => by
   have h := List.any_eq_false.1 h1 x hx
   simpa using h
  have hf0 : 0 ≤ f := by omega
  have hf1 : f < (l.length : Int) := by omega
  have zwY : 1 ≤ s := by omega
  have zwW : s ≤ 1000 := by omega
  have hx := ZL hv hf0 hf1
  have hzx := Z5 hx
  obtain ⟨ad, A3, c3, A4, c4, A5, c5, e, x0, x1, x2, x3, x4, x5, g3, q3, g4, q4, g5, q5⟩ := Yv HC.out f hf0 (by omega)
  subst e
  have e : zK l f = qG l f := rfl
  rw [e] at x0 x1 x2 x3 x4 x5 g3 q3 g4 q4 g5 q5
  clear e
  generalize qG l f = x at x0 x1 x2 x3 x4 x5 g3 q3 g4 q4 g5 q5 hx hzx hfin
  have HJN := zx.mk (fun (a b : ByteArray) (V : World) (h : Below w.heap.size w V) => zz8 x.f0 x.f1 x.f2 A3 c3 x.f3 A4 c4 x.f4 A5 c5 x.f5 a b V (HG.out.under h) (Kd.zh q3 h) g3 (Kd.zh q4 h) g4 (Kd.zh q5 h) g5 (by omega) (by omega) (by omega))
  have HFT := zx.mk (fun (V : World) (h : Below w.heap.size w V) => (show V.cell? (ad.add (f.toNat * 6)) = some (.string x.f0) ∧ V.cell? ⟨(ad.add (f.toNat * 6)).block, (ad.add (f.toNat * 6)).off + 1, none⟩ = some (.bool x.f1) ∧ V.cell? ⟨(ad.add (f.toNat * 6)).block, (ad.add (f.toNat * 6)).off + 2, none⟩ = some (.int .i64 x.f2) ∧ V.cell? ⟨(ad.add (f.toNat * 6)).block, (ad.add (f.toNat * 6)).off + 3, none⟩ = some (.slice A3 x.f3.length c3) ∧ V.cell? ⟨(ad.add (f.toNat * 6)).block, (ad.add (f.toNat * 6)).off + 4, none⟩ = some (.slice A4 x.f4.length c4) ∧ V.cell? ⟨(ad.add (f.toNat * 6)).block, (ad.add (f.toNat * 6)).off + 5, none⟩ = some (.slice A5 x.f5.length c5) from ⟨(h.cell (World.block_lt_of_cell? w _ x0)).trans x0, (h.cell (World.block_lt_of_cell? w _ x1)).trans x1, (h.cell (World.block_lt_of_cell? w _ x2)).trans x2, (h.cell (World.block_lt_of_cell? w _ x3)).trans x3, (h.cell (World.block_lt_of_cell? w _ x4)).trans x4, (h.cell (World.block_lt_of_cell? w _ x5)).trans x5⟩))
  have zwa := zx.mk (fun (st : List vS × List ByteArray) (n : ByteArray) (V : World) (h2 : g + 1 ≤ V.heap.size) (h3 : Below w.heap.size w V) (h4 : st.1.length ≤ 1000000) (h5 : st.2.length ≤ 1000000) (h6 : XU (g + 1) g V (some ad) cf l f s zI za st) => zxR w (g + 1) g (some ad) cf l f s zI za st n V HG.out HC.out hl hf0 hf1 hv (Nat.lt_succ_self _) h2 (by omega) h3 h4 h5 zwY zwW h6)
  have HT9 := zx.mk T9
  have HM9 := zx.mk M9
  have HC9 := zx.mk C9
  have HK9 := zx.mk K9
  have HW9 := zx.mk hw9
  have HAG := zx.mk hAg
  have HCS := zx.mk hcs
  have zvv := zx.mk zvj
  have HFI := zx.mk hfin
  have oI := zx.mk S9
  clear hT iM iC iW iS iW4 hwW T9 M9 C9 K9 hw9 S9 x0 x1 x2 x3 x4 x5 q3 q4 q5 g3 g4 g5 hx hzx hcs hAg hA hturn hFm hfin zvj hv hK b9 o7 hbl hm0 hc0 hs0 hCz hw0 iZ h1 h4 h5 hps hzs hm
  go_wp2_with fail
  go_loopw [17] (fun i V => ∃ (k : Nat) (st : List vS × List ByteArray), i = .int .i64 (k : Int) ∧ k ≤ chars.length ∧ st.1.length ≤ 2 * k ∧ st.2.length ≤ k ∧ zx ((Zu (fjoin x) zI A k).foldl (Yn l f s za) st = FIN) ∧ zx (XU (g + 1) g V (some ad) cf l f s zI za st) ∧ zx (xO (g + 1) g W9 V)) (fun i _ => chars.length - (intOf i).toNat)
  case atStart => exact ⟨0, ([], []), rfl, Nat.zero_le _, Nat.le_refl _, Nat.le_refl _, HFI, oI, ⟨xO.refl _ _ _⟩⟩
  case round =>
   obtain ⟨k, st, rfl, hk, zJT, zJU, Ka, HS2, HL2⟩ := hrel
   obtain ⟨W2, hW2⟩ : ∃ W2 : World, W2 = wr := ⟨_, rfl⟩
   subst hW2
   have hwr : Below w.heap.size w W2 := HW9.out.trans (Jt HL2.out (by omega) (by omega))
   have hbr : g + 1 ≤ W2.heap.size := by have := HL2.out.1.size; omega
   by_cases hlt : k < chars.length
   ·obtain ⟨cd, e, c0⟩ := Kd.X4 (Kd.zh HS.out hwr) (k : Int) (by omega) (by omega)
    subst e
    have e : Yh ByteArray.empty chars (k : Int) = chars[k] := by simp [Yh, List.getD_eq_getElem?_getD, hlt]
    rw [e, Int.toNat_natCast] at c0
    have hcs := HCS.out _ (List.getElem_mem hlt)
    have hak := HAG.out k (by omega) hlt
    generalize chars[k] = ch at c0 hcs hak
    have hcell : Boxed W2 (m + 1) 82 (.map (some m)) := (HL2.out.2.2 _ (by omega) (by omega)).trans HC9.out
    have hmap := WT (HL2.out.2.2 m (by omega) (by omega)) HM9.out
    have htn := Kn (m + 1) m nm Fm ch W2 hcs hcell.cell hmap
    have Zw := (HL2.out.2.2 w.heap.size (by omega) (by omega)).trans HT9.out
    have q1 : (k : Int) < (chars.length : Int) := by omega
    have q0 : (0 : Int) ≤ (k : Int) := by omega
    have q3 : ((k : Int)).toNat = k := Int.toNat_natCast k
    have HTN := zx.mk htn
    have gG := zx.mk hwr
    have HAK := zx.mk hak
    have HMP := zx.mk hmap
    have HCL := zx.mk hcell
    have HSY := zx.mk Zw
    clear htn hwr hak hmap hcell Zw hcs e
    go_upto_block 5 with (refine HTN.out.mono ?_; rintro e w8 ⟨rfl, rfl⟩)
    clear c0
    go_cut [17, 18] from 73 to 118 (fun i c V => ∃ (j : Nat) (cn : ByteArray), i = .int .i64 (j : Int) ∧ c = .string cn ∧ k ≤ j ∧ j < chars.length ∧ zx (Zu (fjoin x) zI A k = cn :: Zu (fjoin x) zI A (j + 1)) ∧ zx (Below W2.heap.size W2 V))
    case first =>
     go_wp2_with fail
     go_loopw [17, 18] (fun i c V => ∃ (j : Nat) (cn : ByteArray), i = .int .i64 (j : Int) ∧ c = .string cn ∧ k ≤ j ∧ j < chars.length ∧ zx (zI = true → ∃ h : k < A.length, Yo (fjoin x) A[k] (A.drop (k + 1)) = Yo (fjoin x) cn (A.drop (j + 1))) ∧ zx (zI = false → j = k ∧ ∃ h : k < A.length, A[k] = cn) ∧ zx (Below W2.heap.size W2 V)) (fun i _ _ => chars.length - (intOf i).toNat)
     case atStart => exact ⟨k, Ye Fm ch, rfl, rfl, Nat.le_refl _, hlt, ⟨fun _ => ⟨by omega, by rw [HAK.out]⟩⟩, ⟨fun _ => ⟨rfl, by omega, HAK.out⟩⟩, ⟨Below.refl _ _⟩⟩
     case round =>
      obtain ⟨j, cn, rfl, rfl, hkj, hj, HE, HN, HB3⟩ := hrel
      obtain ⟨W3, hW3⟩ : ∃ W3 : World, W3 = wr := ⟨_, rfl⟩
      subst hW3
      have iQ := zN HSY.out HB3.out
      have z2 : W3.cell? ⟨w.heap.size, 2, none⟩ = some (.bool zI) := (zZ iQ 2).trans rfl
      have zJ0 := hAl
      cases zI with
      | false =>
       obtain ⟨rfl, hka, hc⟩ := HN.out rfl
       have KA := zx.mk (show Zu (fjoin x) false A j = cn :: Zu (fjoin x) false A (j + 1) by rw [sG _ A j hka, hc])
       clear hc
       go_wp2_with fail
       go_meet
       exact ⟨j, cn, rfl, rfl, Nat.le_refl _, hj, KA, HB3⟩
      | true =>
      obtain ⟨hka, hea⟩ := HE.out rfl
      by_cases hj1 : j + 1 < chars.length
      ·have hjA : j + 1 < A.length := by omega
       have hw3 : Below w.heap.size w W3 := gG.out.trans (HB3.out.mono gG.out.size)
       obtain ⟨cd', e, c0⟩ := Kd.X4 (Kd.zh HS.out hw3) (((j + 1 : Nat) : Int)) (by omega) (by omega)
       cases e
       have e : Yh ByteArray.empty chars ((j + 1 : Nat) : Int) = chars[j + 1] := by simp [Yh, List.getD_eq_getElem?_getD, hj1]
       rw [e, Int.toNat_natCast, show cd.add (j + 1) = ⟨cd.block, cd.off + (j + 1), none⟩ from by simp [Addr.add]] at c0
       have hcs2 := HCS.out _ (List.getElem_mem hj1)
       have zqe := HAG.out (j + 1) hjA hj1
       generalize chars[j + 1] = bI at c0 hcs2 zqe
       have zwb := zx.mk (fun (V : World) (h : Below W3.heap.size W3 V) => Kn (m + 1) m nm Fm bI V hcs2 (zN (zN HCL.out HB3.out) h |> Boxed.cell) (WT (((HB3.out.trans (h.mono HB3.out.size)).block m (by have := HMP.out.lt; omega))) HMP.out))
       have r1 : (j : Int) + 1 < (chars.length : Int) := by omega
       have r0 : (0 : Int) ≤ (j : Int) + 1 := by omega
       have r4 : decide ((j : Int) + 1 < (chars.length : Int)) = true := decide_eq_true r1
       have HJ := zx.mk hj
       have HJ1 := zx.mk hj1
       have HJA := zx.mk hjA
       have z0 : W3.cell? ⟨w.heap.size, 0, none⟩ = some (.int .i64 f) := (zZ iQ 0).trans rfl
       have HC0 := zx.mk c0
       have HZ0 := zx.mk z0
       have HW3 := zx.mk hw3
       have HEA := zx.mk hea
       have zwc := zx.mk zqe
       have HHK := zx.mk hka
       clear iQ z0 c0 hw3 hea zqe hcs2 e hj hj1
       go_wp2_with fail
       clear z2 r4
       have r5 : wrap64 ((j : Int) + 1) = (j : Int) + 1 := YA (by omega) (by omega)
       have UZ := zx.mk (fun (V : World) (h : Below W3.heap.size W3 V) => (show V.cell? ⟨w.heap.size, 0, none⟩ = some (.int .i64 f) ∧ V.cell? ⟨cd.block, cd.off + (j + 1), none⟩ = some (.string bI) ∧ (V.cell? (ad.add (f.toNat * 6)) = some (.string x.f0) ∧ V.cell? ⟨(ad.add (f.toNat * 6)).block, (ad.add (f.toNat * 6)).off + 1, none⟩ = some (.bool x.f1) ∧ V.cell? ⟨(ad.add (f.toNat * 6)).block, (ad.add (f.toNat * 6)).off + 2, none⟩ = some (.int .i64 x.f2) ∧ V.cell? ⟨(ad.add (f.toNat * 6)).block, (ad.add (f.toNat * 6)).off + 3, none⟩ = some (.slice A3 x.f3.length c3) ∧ V.cell? ⟨(ad.add (f.toNat * 6)).block, (ad.add (f.toNat * 6)).off + 4, none⟩ = some (.slice A4 x.f4.length c4) ∧ V.cell? ⟨(ad.add (f.toNat * 6)).block, (ad.add (f.toNat * 6)).off + 5, none⟩ = some (.slice A5 x.f5.length c5)) from
        ⟨(h.cell (World.block_lt_of_cell? _ _ HZ0.out)).trans HZ0.out, (h.cell (World.block_lt_of_cell? _ _ HC0.out)).trans HC0.out, HFT.out V (HW3.out.trans (h.mono HW3.out.size))⟩))
       refine aZ ?_
       refine RW.rS (n := 19) UZ boxes.zkY boxes.zvq (by kernel_rfl) rfl rfl (fun w5 H5 T U h => ?_)
       refine RW.rP 0 (some 95) T ?_
       refine RW.rP 1 (some 96) T ?_
       refine RW.rT 2 (some 97) T U h ?_
       refine RW.rP 3 (some 98) T ?_
       refine RW.rT 4 (some 99) T U h ?_
       refine RW.rP 5 (some 100) T ?_
       refine RW.rP 6 (some 101) T ?_
       refine RW.rP 7 (some 102) T ?_
       refine RW.rP 8 (some 103) T ?_
       refine RW.rP 9 (some 104) T ?_
       refine RW.rP 10 (some 105) T ?_
       refine RW.rT 11 (some 106) T U h ?_
       clear h
       refine Q7 (i := 12) (N := some 107) #[true, true, true, true, true, true, true, true, true, true, true, true, true, false, false, false, false, false, false] rfl rfl (Zv T.out (by kernel_rfl)) (by decide) (fun K hK => ?_)
       refine call_ 44 #[.string bI, .pointer (some ⟨m + 1, 0, none⟩)] (by rfl) rfl (by have he := Zl Tryz.func44 (by kernel_rfl) rfl #[.string bI, .pointer (some ⟨m + 1, 0, none⟩)] w5; go_simp) ?_
       refine (zwb.out w5 H5.out).mono ?_
       rintro e w6 ⟨rfl, rfl⟩
       refine ⟨_, rfl, ?_⟩
       refine hK.out _ _ (UZ.out _ H5.out) (fun h => ?_)
       clear hK K h
       refine Qy (a' := ?_) ?_ ?_
       rotate_left
       ·show Act.put _ (some 107) _ = _
        simp only [Act.put, List.setIfInBounds_toArray, List.set_cons_zero, List.set_cons_succ]
        rfl
       have hjn := HJN.out cn (Ye Fm bI) w5 (HW3.out.trans (H5.out.mono HW3.out.size))
       have hjv : U2 (xk x.f0 x.f2 x.f3 x.f4 x.f5) x.f4 cn (Ye Fm bI) = fjoin x cn (Ye Fm bI) := rfl
       rw [hjv] at hjn
       have hgo := @zxS (fjoin x) A j cn hjA
       have hstop := @oP (fjoin x) A j cn hjA
       rw [zwc.out] at hgo hstop
       generalize fjoin x cn (Ye Fm bI) = jv at hjn hgo hstop
       obtain ⟨j1, j2⟩ := jv
       dsimp only at hgo hstop
       have HGO := zx.mk hgo
       have HST := zx.mk hstop
       clear hjv hgo hstop
       refine RW.rC 13 (some 108) T UZ H5 Tryz.func45 hjn (fun w7 H7 h => ?_) (by kernel_rfl)
       refine RW.rP 14 (some 94) T ?_
       refine RW.rP 15 (some 109) T ?_
       refine RW.rP 16 (some 110) T ?_
       refine RW.rP 17 (some 19) T ?_
       refine RW.rP 18 (some 20) T ?_
       refine jk (xM T.out (by kernel_rfl)) ?_
       clear h hjn r5
       have HB7 := zx.mk (HB3.out.trans (H7.out.mono HB3.out.size))
       cases j2 with
       | false =>
        have KA := zx.mk (Kt (fjoin x) A k j cn HHK.out (HEA.out.trans (HST.out rfl)))
        go_wp2_with fail
        go_meet
        exact ⟨j, cn, rfl, rfl, hkj, HJ.out, KA, HB7⟩
       | true =>
        have KA := zx.mk (HEA.out.trans (HGO.out rfl))
        go_wp2_with fail
        go_roundw
        case rel => exact ⟨j + 1, j1, by first | rfl | go_num, rfl, by omega, HJ1.out, ⟨fun _ => ⟨HHK.out, KA.out⟩⟩, ⟨fun h => by cases h⟩, HB7⟩
        case measure => (have := HJ1.out; simp [intOf]; omega)
      ·have KA := zx.mk (Kt (fjoin x) A k j cn hka (hea.trans (zqd _ A j cn (by omega))))
       have r4 : decide ((j : Int) + 1 < (chars.length : Int)) = false := decide_eq_false (by omega)
       have hjb : (j : Int) ≤ 1000000 := by omega
       have HJ := zx.mk hj
       clear hea iQ hj1 hj
       go_wp2_with fail
       go_meet
       exact ⟨j, cn, rfl, rfl, hkj, HJ.out, KA, HB3⟩
    case rest =>
     obtain ⟨j, cn, e1, e2, hkj, hj, KA, HB3⟩ := hcut
     subst e1 e2
     obtain ⟨vo_, vl_, gH⟩ := HS2.out
     have hput := zwa.out st cn wc (Nat.le_trans hbr HB3.out.size) (gG.out.trans (HB3.out.mono gG.out.size)) (by omega) (by omega) ⟨vo_, vl_, gH.below HB3.out⟩
     have hlen := gF l f s za st cn
     have hfl := Ka.out
     rw [KA.out, List.foldl_cons] at hfl
     generalize Yn l f s za st cn = st2 at hput hlen hfl
     have HFL := zx.mk hfl
     have HLK := zx.mk (HL2.out.trans (xO.below (B := g) HB3.out hbr))
     clear hfl gH
     go_wp2_with fail
     refine hput.mono ?_; rintro e w8 ⟨⟨v, rfl⟩, hS8, hL8⟩
     have HS8 := zx.mk hS8
     have HL8 := zx.mk (HLK.out.trans hL8)
     clear hput hS8 hL8
     go_wp2_with fail
     go_roundw
     case rel => exact ⟨j + 1, st2, by first | rfl | go_num, by omega, by omega, by omega, HFL, HS8, HL8⟩
     case measure => simp [intOf]; omega
   ·obtain rfl : k = chars.length := by omega
    have hfe : st = FIN := by
     have h := Ka.out
     unfold Zu at h
     rw [List.drop_eq_nil_of_le (by omega), Z4] at h
     have h2 : (if zI = true then ([] : List ByteArray) else []) = [] := by split <;> rfl
     rw [h2] at h
     exact h
    subst hfe
    obtain ⟨vo, vl, gH⟩ := HS2.out
    have t5 : W2.cell? ⟨g, 5, none⟩ = some vo := (zZ gH.1 5).trans rfl
    have t6 : W2.cell? ⟨g, 6, none⟩ = some vl := (zZ gH.1 6).trans rfl
    have HSA := zx.mk gH
    have gG := zx.mk hwr
    have q1 : decide ((chars.length : Int) < (chars.length : Int)) = false := decide_eq_false (by omega)
    clear gH hwr
    have UZ := zx.mk (fun (V : World) (h : Below W2.heap.size W2 V) => (show V.cell? ⟨g, 5, none⟩ = some vo ∧ V.cell? ⟨g, 6, none⟩ = some vl from ⟨(h.cell (World.block_lt_of_cell? _ _ t5)).trans t5, (h.cell (World.block_lt_of_cell? _ _ t6)).trans t6⟩))
    clear t5 t6
    go_wp2_with fail
    refine aZ ?_
    refine RW.rS (n := 11) UZ boxes.zkW boxes.zvx (by kernel_rfl) rfl rfl (fun w5 H5 T U h => ?_)
    refine RW.rP 0 (some 119) T ?_
    refine RW.rP 1 (some 120) T ?_
    refine RW.rP 2 (some 121) T ?_
    refine RW.rT 3 (some 122) T U h ?_
    refine RW.rP 4 (some 123) T ?_
    refine RW.rP 5 (some 124) T ?_
    refine RW.rP 6 (some 125) T ?_
    refine RW.rT 7 (some 126) T U h ?_
    refine RW.rP 8 (some 8) T ?_
    refine RW.rP 9 (some 9) T ?_
    refine RW.rP 10 (some 10) T ?_
    refine jk (xM T.out (by kernel_rfl)) ?_
    clear h
    have hK5 : w5.heap[D]? = some (.deferred (some [])) := (H5.out.block D (by omega)).trans ((HL2.out.2.2 D (by omega) (by omega)).trans HK9.out)
    have S5 := HSA.out.below H5.out
    have hw5 := gG.out.trans (H5.out.mono gG.out.size)
    clear UZ
    go_wp2_with fail
    refine ⟨by simp, .inl ⟨_, _, rfl, run_takeDeferred hK5, ?_⟩⟩
    refine ⟨_, dz rfl rfl rfl, vo, vl, rfl, ?_, ?_, ?_⟩
    ·rw [zvv.out]
     exact Kd.zju (Kd.vE (aj S5.2.1 (grownBy_putObj' _ D (.deferred none)) (fun r er => by cases er; exact ⟨_, hK5, rfl⟩)) (by omega))
    ·rw [zvv.out]
     exact Kd.vE (aj S5.2.2 (grownBy_putObj' _ D (.deferred none)) (fun r er => by cases er; exact ⟨_, hK5, rfl⟩)) (by omega)
    ·exact hw5.trans (belowK_b (w := w) (Nat.le_refl _) _ D _ _ (by omega) hK5 rfl rfl)
end Go.Proofs.YtggifbbiiickmaaGreatDoor
namespace Go.Proofs.YtggifbbiiickmaaGreatDoor
open Go.RowKit Go.Proofs.zk.ze Go.Proofs.zk.yc Go.Proofs.zk.yt Go.Proofs.YtggifbbiiickmaaGreatDoor.PX
set_option linter.unusedSimpArgs false
set_option linter.unusedVariables false
def okF (x : yS) : Bool := decide (x.f3.length ≤ 1000000000 ∧ x.f4.length ≤ 1000000000 ∧ x.f5.length ≤ 1000000000)
def qL.f (l0 : List kD) (yN yX : Int) (yP yO : Bool) (l2 : List ByteArray) (l3 : List wD) : Option (List Xa × List ByteArray × Int) :=
 if l0.all okF = true ∧ l0.length ≤ 1000000000 ∧ l2.length ≤ 1000000000 ∧ l3.length ≤ 1000000000 then some (Kl l0 yN yX yP yO l2 l3) else none
theorem qL.calls (A0 : Option Addr) (c0 : Nat) (l0 : List kD) (yN yX : Int) (yP yO : Bool) (A2 : Option Addr) (c2 : Nat) (l2 : List ByteArray) (A3 : Option Addr) (c3 : Nat) (l3 : List wD) (r1 : List Xa) (r2 : List ByteArray) (r3 : Int) (w : World) (hr0 : Kd.C Zq w A0 l0.length l0) (hc0 : l0.length ≤ c0) (hr2 : Kd.C Kd.string w A2 l2.length l2) (hc2 : l2.length ≤ c2) (hr3 : Kd.C Xc w A3 l3.length l3) (hc3 : l3.length ≤ c3) (hG : GW w) (h : qL.f l0 yN yX yP yO l2 l3 = some (r1, r2, r3)) :
  Calls Tryz.prog 13 #[.slice A0 l0.length c0, .agg #[.int .i64 yN, .int .i64 yX, .bool yP, .bool yO], .slice A2 l2.length c2, .slice A3 l3.length c3] w fun e w' => ∃ UW v1_ : Value, e = .returned (.tuple #[UW, v1_, .int .i64 r3]) ∧ Kd.S Xb 53 w' w.heap.size (fun _ => True) UW r1 ∧ Kd.R Kd.string 9 w' w.heap.size (fun _ => True) v1_ r2 ∧ Below w.heap.size w w' := by
 unfold qL.f at h
 split at h
 ·rename_i hl
  have hz : ∀ x ∈ l0, x.f3.length ≤ 1000000000 ∧ x.f4.length ≤ 1000000000 ∧ x.f5.length ≤ 1000000000 := fun x hx => of_decide_eq_true (List.all_eq_true.1 hl.1 x hx)
  have he := Option.some.inj h
  unfold Kl at he
  cases hb : Xm l0 yN yX l2 l3 with
  | true =>
   rw [hb, if_pos rfl] at he
   cases he
   exact (zqW A0 c0 l0 yN yX yP yO A2 c2 l2 A3 c3 l3 w hG hr0 hz hl.2.1 hr2 hl.2.2.1 hr3 hl.2.2.2 hb).mono fun e w' ⟨h1, h2⟩ => ⟨_, _, h1, Kd.zqP _ _ _ _ _, Kd.kG _ _ _ _ _, h2⟩
  | false =>
   rw [hb, if_neg Bool.false_ne_true] at he
   cases he
   rw [Ko] at hb
   simp only [Bool.or_eq_false_iff, decide_eq_false_iff_not, Nat.not_lt] at hb
   exact oU A0 c0 l0 yN yX yP yO A2 c2 l2 A3 c3 l3 w hG hr0 hz hl.2.1 hr2 hl.2.2.1 hr3 hl.2.2.2 hb.1.1.1.1 hb.1.1.1.2 hb.1.1.2.1 hb.1.1.2.2 hb.1.2 hb.2
 ·cases h
end Go.Proofs.YtggifbbiiickmaaGreatDoor
namespace Go.Proofs
end Go.Proofs
namespace Go.Proofs.YtggifbbiiickmaaGreatDoor
open Go.RowKit Go.Shelf Go.Sort Go.Proofs.zk.ze Go.Proofs.zk.yt Go.Proofs.YtggifbbiiickmaaGreatDoor.PX
theorem zqf (x : yh) : (kr x).length = 2 := rfl
theorem zqg (x : yh) : ∀ v ∈ kr x, v.oneCell' = true := by
 intro v hv
 simp only [kr, List.mem_cons, List.mem_nil_iff, or_false] at hv
 rcases hv with rfl | rfl <;> rfl
theorem zvk {w : World} {g : Nat} {cur : Array Value} {e : TypeId} {F : Array Value} (hb : w.heap[g]? = some (.cells cur e (0, 0))) (ht : cur.toList.take F.size = F.toList) : Holds id w g 0 F := by
 intro j hj
 refine ⟨?_, by simp [World.frozen?, hb]⟩
 have h1 : (cur.toList.take F.size)[j]? = F.toList[j]? := by rw [ht]
 rw [List.getElem?_take_of_lt hj] at h1
 simp only [World.cell?, hb, Nat.zero_add]
 simp only [Option.isSome_none, Bool.false_eq_true, if_false]
 rw [← Array.getElem?_toList, h1]
 simp [hj]
theorem zka {w : World} {g n : Nat} {os : Array Obj} {cur : Array Value} {e : TypeId} {fr : Nat × Nat} (d : Array Value) (hb : w.heap[g]? = some (.cells cur e fr)) :
  (Sort.grow (Sort.putRow id (Sort.ahead w n) g 0 d) os).heap[g]? = some (.cells (Sort.putCells id 0 d cur) e fr) := by
 have hg : g < w.heap.size := (Array.getElem?_eq_some_iff.1 hb).1
 rw [heap_grow_old _ _ (by simpa using hg)]
 simp [Sort.putRow, Sort.mapBlock, Sort.ahead, Array.getElem?_modify, hb, Sort.onCells]
theorem zvy {w : World} {g n : Nat} {os : Array Obj} (d : Array Value) : w.grownBy (Sort.grow (Sort.putRow id (Sort.ahead w n) g 0 d) os) (some g) := by
 refine ⟨rfl, rfl, rfl, by simp, fun k hk hne => ?_⟩
 rw [heap_grow_old _ _ (by simpa using hk)]
 have : g ≠ k := fun e => hne (by rw [e])
 simp [Sort.putRow, Sort.mapBlock, Sort.ahead, Array.getElem?_modify, this]
theorem zkb (cur : Array Value) (F : Array Value) (h : F.size ≤ cur.size) : (Sort.putCells id 0 F cur).toList.take F.size = F.toList := by
 apply List.ext_getElem?
 intro j
 by_cases hj : j < F.size
 ·rw [List.getElem?_take_of_lt hj, Array.getElem?_toList]
  simp [Sort.putCells, hj, show j < cur.size by omega]
 ·rw [List.getElem?_take_eq_none (by omega), List.getElem?_eq_none (by simp; omega)]
theorem flat_get (xs : List yh) (j : Nat) (hj : j < xs.length) : ((flatK kr 2 xs.toArray).toList.drop (j * 2)).take 2 = kr xs[j] := by
 have hsz : (flatK kr 2 xs.toArray).toList.length = xs.length * 2 := by simp
 have key : ∀ t, t < xs.length * 2 → (flatK kr 2 xs.toArray).toList[t]? = some ((kr xs.toArray[t / 2]!)[t % 2]!) := by
  intro t ht
  have h := get_flatK kr 2 xs.toArray t (by simpa using ht)
  rw [Array.getElem?_toList]
  rw [← h]
  simp [show t < xs.length * 2 by omega]
 apply List.ext_getElem?
 intro i
 rcases Nat.lt_or_ge i 2 with hi | hi
 ·rw [List.getElem?_take_of_lt hi, List.getElem?_drop, key _ (by omega)]
  have e1 : (j * 2 + i) / 2 = j := by omega
  have e2 : (j * 2 + i) % 2 = i := by omega
  rw [e1, e2]
  have e3 : xs.toArray[j]! = xs[j] := by simp [hj]
  rw [e3]
  rcases i with _ | _ | i
  ·rfl
  ·rfl
  ·omega
 ·rw [List.getElem?_take_eq_none hi, List.getElem?_eq_none (by simp [kr]; omega)]
theorem iX {w : World} {b : Nat} {ok : Nat → Prop} {xs : List yh} {inner : List Value} (h : yR (qH.M w b ok) 2 xs inner) : inner = (flatK kr 2 xs.toArray).toList := by
 have hsz : (flatK kr 2 xs.toArray).toList.length = xs.length * 2 := by simp
 apply List.ext_getElem?
 intro t
 rcases Nat.lt_or_ge t (xs.length * 2) with ht | ht
 ·have hj : t / 2 < xs.length := by omega
  have h1 := h.2 (t / 2) _ (List.getElem?_eq_getElem hj)
  have h2 : (inner.drop (t / 2 * 2)).take 2 = kr xs[t / 2] := eZ h1
  have h3 := flat_get xs (t / 2) hj
  have h4 := h2.trans h3.symm
  have h5 := congrArg (fun l : List Value => l[t % 2]?) h4
  simp only [List.getElem?_take_of_lt (show t % 2 < 2 by omega), List.getElem?_drop] at h5
  rw [show t / 2 * 2 + t % 2 = t by omega] at h5
  exact h5
 ·rw [List.getElem?_eq_none (by have := h.1; omega), List.getElem?_eq_none (by omega)]
theorem o8 (w : World) (b : Nat) (ok : Nat → Prop) (xs : List yh) : yR (qH.M w b ok) 2 xs (flatK kr 2 xs.toArray).toList := by
 refine ⟨by simp, fun j p hj => ?_⟩
 obtain ⟨hl, rfl⟩ := List.getElem?_eq_some_iff.1 hj
 rw [flat_get xs j hl]
 exact Xg _ _ _ _
set_option maxRecDepth 100000 in
theorem sH (x y : yh) (w : World) :
  Calls Tryz.prog 111 #[.agg #[.string x.f0, .int .i64 x.f1], .agg #[.string y.f0, .int .i64 y.f1]] w fun e w' => e = .returned (.int .i64 (xQ x.f0 y.f0)) ∧ ∃ q os, w' = Sort.grow (w.drewN q) os := by
 have hc := xg.calls x.f0 y.f0 _ ((w.alloc (.cells #[.string x.f0, .int .i64 x.f1] 105)).alloc (.cells #[.string y.f0, .int .i64 y.f1] 105)) (YB x.f0 y.f0)
 generalize xQ x.f0 y.f0 = r at hc ⊢
 go_enter Tryz.func111, Tryz.ntmps111
 go_wp2_with (go_at_call 91; refine hc.mono ?_; rintro e w2 ⟨rfl, nd, rfl⟩)
 go_ret
 refine ⟨rfl, nd, #[.cells #[.string x.f0, .int .i64 x.f1] 105] ++ #[.cells #[.string y.f0, .int .i64 y.f1] 105], ?_⟩
 rw [← Sort.grow_grow, Sort.alloc_eq_grow, Sort.alloc_eq_grow]
 rfl
theorem zxT (a b : ByteArray) : decide (xQ a b < 0) = Op.bytesLess a.toList b.toList := by
 unfold xQ
 cases h1 : Op.bytesLess a.toList b.toList
 ·cases h2 : Op.bytesLess b.toList a.toList <;> simp
 ·simp
theorem gI (x y : yh) : ltOf (fun x y : yh => xQ x.f0 y.f0) x y = decide (x.f0.toList < y.f0.toList) := by
 show decide (xQ x.f0 y.f0 < 0) = _
 rw [zxT, bytesLess_eq]
theorem zqh : SWO (ltOf (fun x y : yh => xQ x.f0 y.f0)) where
 irrefl x := by rw [gI]; simp [List.lt_irrefl]
 trans x y z h1 h2 := by
  rw [gI] at *
  simp only [decide_eq_true_eq] at *
  exact List.lt_trans h1 h2
 ntrans x y z h1 h2 := by
  rw [gI] at *
  simp only [decide_eq_false_iff_not, List.not_lt] at *
  exact List.le_trans h2 h1
theorem iJ (xs ys : List yh) (d' : Array yh) (hp : ys.Perm xs) (hs : ys.Pairwise fun a b => xQ a.f0 b.f0 < 0)
  (hP : PermIn 0 xs.toArray.size xs.toArray d') (hS : SortedIn (ltOf (fun x y : yh => xQ x.f0 y.f0)) 0 xs.toArray.size d') : d'.toList = ys := by
 obtain ⟨hsz, _, hperm⟩ := hP
 have e1 : d'.extract 0 xs.toArray.size = d' := by rw [← hsz]; exact Array.extract_size
 rw [e1, Array.extract_size] at hperm
 refine List.Perm.eq_of_pairwise (le := fun x y => (!ltOf (fun x y : yh => xQ x.f0 y.f0) y x) = true) ?_ ?_ ?_ (hperm.trans hp.symm)
 ·intro a b ha hb h1 h2
  have ha' : a ∈ ys := (hperm.trans hp.symm).mem_iff.1 ha
  obtain ⟨i, hi, rfl⟩ := List.getElem_of_mem ha'
  obtain ⟨j, hj, rfl⟩ := List.getElem_of_mem hb
  simp only [Bool.not_eq_true', ltOf, decide_eq_false_iff_not] at h1 h2
  rcases Nat.lt_trichotomy i j with h | h | h
  ·exact absurd (List.pairwise_iff_getElem.1 hs i j hi hj h) h2
  ·subst h; rfl
  ·exact absurd (List.pairwise_iff_getElem.1 hs j i hj hi h) h1
 ·rw [List.pairwise_iff_getElem]
  intro i j hi hj hij
  have h := hS i j (Nat.zero_le _) hij (by rw [← hsz]; simpa using hj)
  have hi' : i < d'.size := by simpa using hi
  have hj' : j < d'.size := by simpa using hj
  rw [getElem!_pos d' i hi', getElem!_pos d' j hj'] at h
  simpa using h
 ·refine hs.imp ?_
  intro a b h
  have h1 : ltOf (fun x y : yh => xQ x.f0 y.f0) a b = true := decide_eq_true h
  cases h2 : ltOf (fun x y : yh => xQ x.f0 y.f0) b a with
  | false => rfl
  | true => exact absurd (zqh.trans _ _ _ h1 h2) (by rw [zqh.irrefl]; simp)
theorem zxU (w : World) (b0 : Nat) (u : Value) (xs ys : List yh) (hR : Kd.R qH 105 w b0 (fun _ => True) u xs) (h0 : 0 < xs.length) (hl : xs.length ≤ 1000) (hp : ys.Perm xs) (hs : ys.Pairwise fun a b => xQ a.f0 b.f0 < 0) :
  Calls Tryz.prog 110 #[u, .func (.func 111) #[] #[]] w fun e w' => e = .returned (.tuple #[]) ∧ Kd.R qH 105 w' b0 (fun _ => True) u ys ∧ w.grownBy w' u.ownBlock := by
 obtain ⟨hok, inner, ho, hr⟩ := hR
 have hin := iX hr
 subst hin
 rcases ho.2 with ⟨_, h⟩ | ⟨g, cap, cur, rfl, hbase, hb, h1, h2, h3, h4⟩
 ·omega
 have hg : g < w.heap.size := (Array.getElem?_eq_some_iff.1 hb).1
 have hk2 : qH.sz = 2 := rfl
 rw [hk2] at h3 h4
 have hH : HoldsK kr 2 w g 0 xs.toArray := zvk hb (by rw [size_flatK]; exact h4)
 have hlen := hp.length_eq
 refine (AnyQ.slices_SortFunc Tryz.sortG 2 (fun w => by kernel_rfl) (fun w => by kernel_rfl) kr zqf zqg (fun x y => xQ x.f0 y.f0) zqh 111 #[] g 0 cap xs.toArray w (Go.Proofs.zk.yc.Zl Tryz.func111 (by kernel_rfl) rfl)
  (fun m os dk hdk x y => sH x y _) hH hg (by simp; omega)).mono fun e w' ⟨he, d', n, os, hP, hS, hw⟩ => ?_
 have hd := iJ xs ys d' hp hs hP hS
 have hd' : d' = ys.toArray := by rw [← hd]
 subst hd'
 subst hw
 refine ⟨he, ⟨fun _ _ => trivial, (flatK kr 2 ys.toArray).toList, ⟨by rw [hk2]; simp, .inr ⟨g, cap, _, by rw [hlen], hbase, zka _ hb, by rw [hlen]; exact h1, h2, by rw [hk2]; simp [Sort.putCells, h3], ?_⟩⟩, o8 _ _ _ _⟩, ?_⟩
 ·have := zkb cur (flatK kr 2 ys.toArray) (by rw [size_flatK, h3]; simp; omega)
  rw [size_flatK] at this
  rw [hk2]
  simpa using this
 ·exact zvy (w := w) (g := g) (n := n) (os := os) (flatK kr 2 ys.toArray)
end Go.Proofs.YtggifbbiiickmaaGreatDoor
namespace Go.Proofs.YtggifbbiiickmaaGreatDoor.PX
open Go.RowKit
theorem aQ : (Tryz.prog.info? 105).map (fun i => (i.zero, i.size, i.bytes)) = some (some (.agg #[(.string ⟨#[]⟩), (.int .i64 0)]), 2, 24) := by kernel_rfl
end Go.Proofs.YtggifbbiiickmaaGreatDoor.PX
