/-
  Texts that lean on one another, laid in one file. No condition.
-/
import Derived.Test.YtaifemkokfoadaaGreatDoorGSK3
import Derived.Laws.Runes
import Derived.Test.YtaifemkokfoadaaGreatDoorGSK1
import Derived.ChangeAlike
import Derived.Test.YtaifemkokfoadaaGreatDoorGSK2
namespace Go.Proofs.YtaifemkokfoadaaGreatDoor
open Go.RowKit Go.Shelf Go.Proofs.zy.zu Go.Proofs.zy.yI Go.Proofs.zy.yD Go.Proofs.YtaifemkokfoadaaGreatDoor.PX
set_option linter.unusedSimpArgs false
theorem zk4 {w W w1 : World} {r r' : Option Nat} (h : w.grownBy W r) (g : W.grownBy w1 r') (hr : r' = r ∨ ∃ b, r' = some b ∧ w.heap.size ≤ b) : w.grownBy w1 r := by
 refine ⟨g.os.trans h.os, g.tape.trans h.tape, g.output.trans h.output, Nat.le_trans h.size g.size, fun k hk hne => ?_⟩
 refine (g.block k (Nat.lt_of_lt_of_le hk h.size) ?_).trans (h.block k hk hne)
 rcases hr with rfl | ⟨b, rfl, hb⟩
 ·exact hne
 ·intro e
  injection e with e
  omega
theorem dK {w W w1 : World} {r : Option Nat} (h : w.grownBy W r) (g : Below W.heap.size W w1) : w.grownBy w1 r :=
 ⟨g.os.trans h.os, g.tape.trans h.tape, g.output.trans h.output, Nat.le_trans h.size g.size, fun k hk hne => (g.block k (Nat.lt_of_lt_of_le hk h.size)).trans (h.block k hk hne)⟩
theorem YR {w W : World} {r : Option Nat} {g i : Nat} (h : w.grownBy W r) (hg : w.heap.size ≤ g) (v : Value) : w.grownBy (W.setCell ⟨g, i, none⟩ v) r :=
 ⟨h.os, h.tape, h.output, by simpa using h.size, fun k hk hne => (Below.heap_setCell W ⟨g, i, none⟩ v k (by show k ≠ g; omega)).trans (h.block k hk hne)⟩
theorem zV7 {w W : World} {r : Option Nat} (h : w.grownBy W r) : w.grownBy W.drew r := dK h ⟨rfl, rfl, rfl, Nat.le_refl _, fun _ _ => rfl⟩
theorem iH {α : Type} {d : Kd α} {e b0 : Nat} {w wr w2 : World} {ok : Nat → Prop} {u : Value} {xs : List α} (hB : Below b0 w wr) (hs : b0 ≤ wr.heap.size) (hR : d.R e wr b0 ok u xs) (hg : wr.grownBy w2 u.ownBlock) : Below b0 w w2 := by
 refine hB.trans ⟨hg.os, hg.tape, hg.output, hg.size, fun k hk => hg.block k (Nat.lt_of_lt_of_le hk hs) ?_⟩
 intro e
 obtain ⟨inner, ho⟩ := Kd.zqT hR
 have := UZ ho k e.symm
 omega
def chr (c : Nat) : ByteArray := Utf8.encode (c : Int)
def YQ (wd : Nat → Int) (c : Nat) : List qg := (List.range (c - 33)).map fun i => ⟨chr (33 + i), wd (33 + i)⟩
theorem zWA (c : Nat) : Utf8.encode (c : Int) = chr c := rfl
attribute [irreducible] chr
theorem zQx (wd : Nat → Int) (c : Nat) (h : 33 ≤ c) : YQ wd (c + 1) = YQ wd c ++ [⟨chr c, wd c⟩] := by
 obtain ⟨m, rfl⟩ : ∃ m, c = 33 + m := ⟨c - 33, by omega⟩
 unfold YQ
 rw [show 33 + m + 1 - 33 = m + 1 by omega, show 33 + m - 33 = m by omega, List.range_succ, List.map_append]
 rfl
theorem aQ (wd : Nat → Int) (c : Nat) : (YQ wd c).length = c - 33 := by simp [YQ]
def made.T5 : Bool × List (List Nat × List Nat) := (true, [([], []), ([0], [0]), ([], []), ([2], [2]), ([3], [3]), ([], []), ([], []), ([5, 6], [5, 6]), ([4, 7], [4, 7]), ([8], [8]), ([1, 9, 7], [1, 9]), ([0, 1, 2, 3, 4, 5, 6, 7, 8, 9, 10], []), ([11, 10, 10, 0, 1, 2, 3, 4, 5, 6, 7, 8, 9, 10], [10, 11])])
theorem made.dX : u6 .any (opsOf Tryz.f29 5) = made.T5 := by kernel_rfl
def zbe (name : ByteArray) (space : Int) (more : List qg) (wd : Nat → Int) (u0 : Value) (b0 : Nat) (w : World) (gr gf : Nat) (x : Value) (wr : World) : Prop :=
 ∃ (c : Nat) (u : Value), x = .int .u8 (c : Int) ∧ 33 ≤ c ∧ c ≤ 127 ∧ Kd.R uf 31 wr b0 (fun _ => True) u (more ++ YQ wd c) ∧
  wr.heap[gr]? = some (.cells #[.string (⟨#[]⟩ : ByteArray), .bool false, .int .i64 0, .slice none 0 0, .slice none 0 0, .slice none 0 0] 26 (0, 0)) ∧
  wr.heap[gf]? = some (.cells #[.string name, .bool false, .int .i64 space, u, .slice none 0 0, .slice none 0 0] 26 (0, 0)) ∧
  Below b0 w wr ∧ w.grownBy wr u0.ownBlock ∧ (u.ownBlock = u0.ownBlock ∨ ∃ b, u.ownBlock = some b ∧ w.heap.size ≤ b)
set_option maxHeartbeats 8000000 in
set_option maxRecDepth 100000 in
theorem dY (F : FuncId) (fn : Func) (hfn : Tryz.prog.funcs[F]? = some fn) (hname : (fn.name == "runtime.NumGoroutine") = false) (hbody : fn.body.isSome = true) (wd : Nat → Int)
  (hwd : ∀ (c : Nat) (W : World), 33 ≤ c → c ≤ 126 → Calls Tryz.prog F #[.int .u8 (c : Int)] W fun e w' => e = .returned (.int .i64 (wd c)) ∧ Below W.heap.size W w')
  (name : ByteArray) (space : Int) (b0 : Nat) (u0 : Value) (more ys : List qg) (w : World) (hb0 : b0 ≤ w.heap.size) (hR : Kd.R uf 31 w b0 (fun _ => True) u0 more) (hm : more.length ≤ 10)
  (hp : ys.Perm (more ++ YQ wd 127)) (hs : ys.Pairwise fun a b => uF a.f0 b.f0 < 0) :
  Calls Tryz.prog 29 #[.string name, .int .i64 space, .func (.func F) #[] #[], u0] w fun e w' => ∃ v, e = .returned (.agg #[.string name, .bool false, .int .i64 space, v, .slice none 0 0, .slice none 0 0]) ∧
   Kd.R uf 31 w' b0 (fun _ => True) v ys ∧ Below b0 w w' ∧ w.grownBy w' u0.ownBlock ∧ (v.ownBlock = u0.ownBlock ∨ ∃ b, v.ownBlock = some b ∧ w.heap.size ≤ b) := by
 have mJ := Tryz.underlying26
 have HB := zx.mk (Below.refl b0 w)
 have HG := zx.mk (World.grownBy.refl w u0.ownBlock)
 have kG := zx.mk hR
 have HWD := zx.mk hwd
 have HP := zx.mk hp
 have HS := zx.mk hs
 have ze2 := zx.mk (JF hfn hname hbody)
 clear hR hwd hp hs hfn hname hbody
 obtain ⟨A0, c0, e0⟩ := Kd.y9 kG.out
 subst e0
 go_enter Tryz.func29, Tryz.ntmps29
 go_wp2_with (first
  | ((with_reducible refine qx (N := 8) rfl ?_); refine ql ?hg (N := 8) ?hd (cs := #[.string (⟨#[]⟩ : ByteArray), .bool false, .int .i64 0, .slice none 0 0, .slice none 0 0, .slice none 0 0]) (t := 26) ?hr ?_; (case hd => rfl); (case hg => rfl); (case hr => first | (go_simp; done) | (go_simp; rfl)); intro gr hgr w2 BR hb2; have Kr := zx.mk (Nat.le_of_eq hgr.symm); have zf := zx.mk (HB.out.trans (hb2.mono hb0)); have zh := zx.mk (dK HG.out hb2); clear HB HG; have HB := zf; have HG := zh; have HR1 := zx.mk (Kd.qz kG.out hb2); have BRA := zx.mk BR; clear zf zh BR hb2 hgr)
  | ((with_reducible refine qx (N := 9) rfl ?_); refine ql ?hg (N := 9) ?hd (cs := #[.string (⟨#[]⟩ : ByteArray), .bool false, .int .i64 0, .slice none 0 0, .slice none 0 0, .slice none 0 0]) (t := 26) ?hr ?_; (case hd => rfl); (case hg => rfl); (case hr => first | (go_simp; done) | (go_simp; rfl)); intro gf hgf w3 BF hb3; have Kf := zx.mk (Nat.le_trans HG.out.size (Nat.le_of_eq hgf.symm)); have zf := zx.mk (HB.out.trans (hb3.mono (Nat.le_trans hb0 HG.out.size))); have zh := zx.mk (dK HG.out hb3); have zA := zx.mk (zl BRA.out hb3); have zR := zx.mk (Kd.qz HR1.out hb3); have HNE := zx.mk (show gr ≠ gf by rw [hgf]; exact Nat.ne_of_lt (uD BRA.out)); clear HB HG BRA HR1 kG; have HB := zf; have HG := zh; have BRA := zA; have HR1 := zR; clear zf zh zA zR hgf hb3; have zWB : w3.cell? ⟨gf, 0, none⟩ = some (.string (⟨#[]⟩ : ByteArray)) := (zk BF 0).trans rfl; have zWC : w3.cell? ⟨gf, 1, none⟩ = some (.bool false) := (zk BF 1).trans rfl; have zWD : w3.cell? ⟨gf, 2, none⟩ = some (.int .i64 0) := (zk BF 2).trans rfl; have zWE : w3.cell? ⟨gf, 3, none⟩ = some (.slice none 0 0) := (zk BF 3).trans rfl; have zWF : w3.cell? ⟨gf, 4, none⟩ = some (.slice none 0 0) := (zk BF 4).trans rfl; have zWG : w3.cell? ⟨gf, 5, none⟩ = some (.slice none 0 0) := (zk BF 5).trans rfl; have zmx := zw BF 0; have zmj := zw BF 1; have zmv := zw BF 2; have zmk := zw BF 3; have zmy := zw BF 4; have zmw := zw BF 5; have BFA := zx.mk BF; clear BF))
 have KfB := zx.mk (Nat.le_trans hb0 Kf.out)
 go_loopw [10] (fun x wr => zbe name space more wd (.slice A0 more.length c0) b0 w gr gf x wr) (fun x _ => 127 - (intOf x).toNat)
 case atStart =>
  refine ⟨33, .slice A0 more.length c0, rfl, by omega, by omega, ?_, ?_, ?_, ?_, ?_, Or.inl rfl⟩
  ·rw [show YQ wd 33 = [] from rfl, List.append_nil]
   have h := Kd.zi HR1.out BFA.out (by decide)
   exact Kd.zL (Kd.yK (p := ⟨gf, 5, none⟩) (Kd.yK (p := ⟨gf, 4, none⟩) (Kd.yK (p := ⟨gf, 3, none⟩) (Kd.yK (p := ⟨gf, 2, none⟩) (Kd.yK (p := ⟨gf, 1, none⟩) (Kd.yK (p := ⟨gf, 0, none⟩) h (fun _ hk => hk.2) _) (fun _ hk => hk.2) _) (fun _ hk => hk.2) _) (fun _ hk => hk.2) _) (fun _ hk => hk.2) _) (fun _ hk => hk.2) _) (fun _ _ => trivial)
  ·refine zO ?_ HNE.out _
   refine zO ?_ HNE.out _
   refine zO ?_ HNE.out _
   refine zO ?_ HNE.out _
   refine zO ?_ HNE.out _
   refine zO ?_ HNE.out _
   exact BRA.out
  ·refine yC (cs := #[.string name, .bool false, .int .i64 space, .slice A0 more.length c0, .slice none 0 0, .slice none 0 0]) ?_ 5 _ rfl
   refine yC (cs := #[.string name, .bool false, .int .i64 space, .slice A0 more.length c0, .slice none 0 0, .slice none 0 0]) ?_ 4 _ rfl
   refine yC (cs := #[.string name, .bool false, .int .i64 space, .slice none 0 0, .slice none 0 0, .slice none 0 0]) ?_ 3 _ rfl
   refine yC (cs := #[.string name, .bool false, .int .i64 0, .slice none 0 0, .slice none 0 0, .slice none 0 0]) ?_ 2 _ rfl
   refine yC (cs := #[.string name, .bool false, .int .i64 0, .slice none 0 0, .slice none 0 0, .slice none 0 0]) ?_ 1 _ rfl
   refine yC (cs := #[.string (⟨#[]⟩ : ByteArray), .bool false, .int .i64 0, .slice none 0 0, .slice none 0 0, .slice none 0 0]) ?_ 0 _ rfl
   exact BFA.out
  ·exact (((((HB.out.setCell KfB.out _).setCell KfB.out _).setCell KfB.out _).setCell KfB.out _).setCell KfB.out _).setCell KfB.out _
  ·exact YR (YR (YR (YR (YR (YR HG.out Kf.out _) Kf.out _) Kf.out _) Kf.out _) Kf.out _) Kf.out _
 case round =>
  obtain ⟨c, u, rfl, h33, h127, zWH, BR0, BF0, zWI, zWL, zWM⟩ := hrel
  have ZB := zx.mk zWH
  have BR := zx.mk BR0
  have BF := zx.mk BF0
  have YX := zx.mk zWI
  have Uw := zx.mk zWL
  have HAc := zx.mk zWM
  clear zWH BR0 BF0 zWI zWL zWM BRA BFA HR1 HB HG
  by_cases hlt : c < 127
  ·have hw32 : IntKind.i32.wrap (c : Int) = c := by unfold IntKind.wrap; simp [IntKind.bits, IntKind.signed]; omega
   have q1 : decide ((c : Int) < 127) = true := decide_eq_true (by omega)
   go_wp2
   have zf := zx.mk (Kd.qw ZB.out)
   have zh := zx.mk (zX BR.out)
   have zA := zx.mk (zX BF.out)
   have zR := zx.mk (YX.out.drew)
   have qV := zx.mk (zV7 Uw.out)
   clear ZB BR BF YX Uw
   have ZB := zf
   have BR := zh
   have BF := zA
   have YX := zR
   have Uw := qV
   clear zf zh zA zR qV
   refine Zj (n := 13) (S := fun w' => w'.cell? ⟨gf, 3, none⟩ = some u) (ds := [12]) #[false, false, false, false, false, false, false, false, false, false, false, false, false] (by kernel_rfl) rfl rfl ((zk BF.out 3).trans rfl) (fun hHeld => ?_)
   refine cO made.dX (fun zM => ?_)
   generalize wr.drew = w16 at ZB BR BF YX Uw hHeld ⊢
   refine kC (i := 0) (N := some 19) (v := ?_) (a' := ?_) #[true, false, false, false, false, false, false, false, false, false, false, false, false] rfl rfl (jr zM.out (by kernel_rfl)) (fun _ _ _ h => h) (Or.inl ⟨by rfl, ?_⟩) ?_ ?_
   rotate_left
   ·intro w'
    go_simp
    with_reducible rfl
   rotate_left
   ·simp only [Act.put, List.setIfInBounds_toArray, List.set_cons_zero, List.set_cons_succ]
    rfl
   refine kC (i := 2) (N := some 21) (v := ?_) (a' := ?_) #[true, false, true, false, false, false, false, false, false, false, false, false, false] rfl rfl (jr zM.out (by kernel_rfl)) (fun _ _ _ h => h) (Or.inl ⟨by rfl, ?_⟩) ?_ ?_
   rotate_left
   ·intro w'
    go_simp
    with_reducible rfl
   rotate_left
   ·simp only [Act.put, List.setIfInBounds_toArray, List.set_cons_zero, List.set_cons_succ]
    rfl
   refine kC (i := 3) (N := some 22) (v := ?_) (a' := ?_) #[true, false, true, true, false, false, false, false, false, false, false, false, false] rfl rfl (jr zM.out (by kernel_rfl)) (fun _ _ _ h => h) (Or.inl ⟨by rfl, ?_⟩) ?_ ?_
   rotate_left
   ·intro w'
    go_simp
    with_reducible rfl
   rotate_left
   ·simp only [Act.put, List.setIfInBounds_toArray, List.set_cons_zero, List.set_cons_succ, hw32]
    rfl
   refine kC (i := 4) (N := some 23) (v := ?_) (a' := ?_) #[true, false, true, true, true, false, false, false, false, false, false, false, false] rfl rfl (jr zM.out (by kernel_rfl)) (fun _ _ _ h => h) (Or.inl ⟨by rfl, ?_⟩) ?_ ?_
   rotate_left
   ·intro w'
    go_simp
    with_reducible rfl
   rotate_left
   ·simp only [Act.put, List.setIfInBounds_toArray, List.set_cons_zero, List.set_cons_succ, zWA]
    rfl
   refine kC (i := 5) (N := some 24) (v := ?_) (a' := ?_) #[true, false, true, true, true, true, false, false, false, false, false, false, false] rfl rfl (jr zM.out (by kernel_rfl)) (fun _ _ _ h => h) (Or.inl ⟨by rfl, ?_⟩) ?_ ?_
   rotate_left
   ·intro w'
    go_simp
    with_reducible rfl
   rotate_left
   ·simp only [Act.put, List.setIfInBounds_toArray, List.set_cons_zero, List.set_cons_succ]
    rfl
   refine kC (i := 6) (N := some 25) (v := ?_) (a' := ?_) #[true, false, true, true, true, true, true, false, false, false, false, false, false] rfl rfl (jr zM.out (by kernel_rfl)) (fun _ _ _ h => h) (Or.inl ⟨by rfl, ?_⟩) ?_ ?_
   rotate_left
   ·intro w'
    go_simp
    with_reducible rfl
   rotate_left
   ·simp only [Act.put, List.setIfInBounds_toArray, List.set_cons_zero, List.set_cons_succ]
    rfl
   refine cB (i := 1) (N := some 20) (v := ?_) (a' := ?_) #[true, true, true, true, true, true, true, false, false, false, false, false, false] rfl rfl (ni zM.out (by kernel_rfl)) (fun _ _ _ h => h) (Or.inl ⟨by rfl, ?_⟩) hHeld ?_ ?_
   rotate_left
   ·rintro w' s0
    go_simp
    with_reducible rfl
   rotate_left
   ·simp only [Act.put, List.setIfInBounds_toArray, List.set_cons_zero, List.set_cons_succ]
    rfl
   refine sO (i := 7) (N := some 26) #[true, true, true, true, true, true, true, true, false, false, false, false, false] rfl rfl (wI zM.out (by kernel_rfl)) (by decide) (fun K hK => ?_)
   refine call_ F #[.int .u8 (c : Int)] (by rfl) rfl (by have he := ze2.out #[.int .u8 (c : Int)] w16; go_simp) ?_
   refine (HWD.out c _ h33 (by omega)).mono ?_
   rintro e Zw ⟨rfl, hb⟩
   refine ⟨_, rfl, ?_⟩
   have zf := zx.mk (Kd.qz ZB.out hb)
   have zh := zx.mk (zl BR.out hb)
   have zA := zx.mk (zl BF.out hb)
   have zR := zx.mk (YX.out.trans (hb.mono (Nat.le_trans hb0 Uw.out.size)))
   have qV := zx.mk (dK Uw.out hb)
   clear ZB BR BF YX Uw hHeld hb
   have ZB := zf
   have BR := zh
   have BF := zA
   have YX := zR
   have Uw := qV
   clear zf zh zA zR qV
   refine hK.out _ _ ((zk BF.out 3).trans rfl) (fun hHeld => ?_)
   clear hK K
   refine YK (a' := ?_) ?_ ?_
   rotate_left
   ·show Act.put _ (some 26) _ = _
    simp only [Act.put, List.setIfInBounds_toArray, List.set_cons_zero, List.set_cons_succ]
    rfl
   refine kC (i := 8) (N := some 27) (v := ?_) (a' := ?_) #[true, true, true, true, true, true, true, true, true, false, false, false, false] rfl rfl (jr zM.out (by kernel_rfl)) (fun _ _ _ h => h) (Or.inl ⟨by rfl, ?_⟩) ?_ ?_
   rotate_left
   ·intro w'
    go_simp
    with_reducible rfl
   rotate_left
   ·simp only [Act.put, List.setIfInBounds_toArray, List.set_cons_zero, List.set_cons_succ]
    rfl
   refine sO (i := 9) (N := some 28) #[true, true, true, true, true, true, true, true, true, true, false, false, false] rfl rfl (wI zM.out (by kernel_rfl)) (by decide) (fun K hK => ?_)
   refine zxb (w1 := ?_) (v := ?_) (by rfl) rfl ?_ ?_
   rotate_left 2
   ·go_simp
    constructor
    ·rfl
    ·rfl
   refine hK.out _ _ ((zk (zZ BF.out _) 3).trans rfl) (fun hHeld => ?_)
   clear hK K
   refine YK (a' := ?_) ?_ ?_
   rotate_left
   ·show Act.put _ (some 28) _ = _
    simp only [Act.put, List.setIfInBounds_toArray, List.set_cons_zero, List.set_cons_succ]
    rfl
   refine sO (i := 10) (N := some 29) #[true, true, true, true, true, true, true, true, true, true, true, false, false] rfl rfl (wI zM.out (by kernel_rfl)) (by decide) (fun K hK => ?_)
   refine Kd.kL uf (w0 := w) b0 (by rfl) (.tmp 20) (.tmp 28) 22 31 (.agg #[(.string ⟨#[]⟩), (.int .i64 0)]) 24 rfl Tryz.underlying22 zxh rfl (by decide) (by omega) u (more ++ YQ wd c) (⟨chr c, wd c⟩ : qg) [.string (chr c), .int .i64 (wd c)] (fun _ => True) (fun _ => False) rfl rfl ?aP (fun _ hk => hk.elim) ?aF ?aO ?aB ?aS ?aL ?_
   (case aP => exact UY _ _ _ (⟨chr c, wd c⟩ : qg))
   (case aF => exact (fun _ _ => trivial))
   (case aO => exact ZB.out)
   (case aB => exact YX.out)
   (case aS => exact Nat.le_trans hb0 Uw.out.size)
   (case aL => have := aQ wd c; rw [List.length_append]; omega)
   intro v1 YD ho hb hg hat
   rw [List.append_assoc, ← zQx wd c h33] at ho
   obtain ⟨Ao, co, eo⟩ := Kd.y9 ho
   subst eo
   generalize (more ++ YQ wd (c + 1)).length = nn at ho hat ⊢
   have zf := zx.mk (qQ BR.out hg (Kd.kE ZB.out BR.out (by decide)))
   have zh := zx.mk (qQ BF.out hg (Kd.kE ZB.out BF.out (by decide)))
   have zA := zx.mk hb
   have zR := zx.mk (zk4 Uw.out hg HAc.out)
   have qV := zx.mk ho
   have xD : zx ((Value.slice Ao nn co).ownBlock = (Value.slice A0 more.length c0).ownBlock ∨ ∃ b, (Value.slice Ao nn co).ownBlock = some b ∧ w.heap.size ≤ b) := zx.mk (by
    rcases hat with hat | ⟨b, h1, h2⟩
    ·rw [hat]; exact HAc.out
    ·exact Or.inr ⟨b, h1, Nat.le_trans Uw.out.size h2⟩)
   clear BR BF YX Uw ZB HAc ho hb hg hat hHeld
   have BR := zf
   have BF := zh
   have YX := zA
   have Uw := zR
   have ZB := qV
   have HAc := xD
   clear zf zh zA zR qV xD
   refine hK.out _ _ ((zk BF.out 3).trans rfl) (fun hHeld => ?_)
   clear hK K
   refine YK (a' := ?_) ?_ ?_
   rotate_left
   ·show Act.put _ (some 29) _ = _
    simp only [Act.put, List.setIfInBounds_toArray, List.set_cons_zero, List.set_cons_succ]
    rfl
   refine kC (i := 11) (N := some 30) (v := ?_) (a' := ?_) #[true, true, true, true, true, true, true, true, true, true, true, true, false] rfl rfl (jr zM.out (by kernel_rfl)) (fun _ _ _ h => h) (Or.inl ⟨by rfl, ?_⟩) ?_ ?_
   rotate_left
   ·intro w'
    go_simp
    with_reducible rfl
   rotate_left
   ·simp only [Act.put, List.setIfInBounds_toArray, List.set_cons_zero, List.set_cons_succ]
    rfl
   refine Qw (i := 12) (N := none) #[true, true, true, true, true, true, true, true, true, true, true, true, true] rfl rfl (wI zM.out (by kernel_rfl)) (by decide) (fun K hK => ?_)
   have QS : YD.cell? ⟨gf, 3, none⟩ = some u := (zk BF.out 3).trans rfl
   have XZ := zw BF.out 3
   refine QZ (w1 := ?_) (by rfl) rfl ?_ ?_
   rotate_left
   ·go_simp
    rfl
   refine hK.out _ _ ?_
   clear hK K
   refine uO (vW zM.out (by kernel_rfl)) ?_
   have zf := zx.mk (zO BR.out (p := ⟨gf, 3, none⟩) HNE.out (.slice Ao nn co : Value))
   have zh := zx.mk (yC (cs' := #[.string name, .bool false, .int .i64 space, (.slice Ao nn co : Value), .slice none 0 0, .slice none 0 0]) BF.out 3 (.slice Ao nn co : Value) rfl)
   have zA := zx.mk (YX.out.setCell (p := ⟨gf, 3, none⟩) KfB.out (.slice Ao nn co : Value))
   have zR := zx.mk (YR (i := 3) Uw.out Kf.out (.slice Ao nn co : Value))
   have qV := zx.mk (Kd.YV ZB.out BF.out (by decide) 3 (.slice Ao nn co : Value))
   clear BR BF YX Uw ZB hHeld QS XZ
   generalize YD.setCell ⟨gf, 3, none⟩ (.slice Ao nn co : Value) = mP at zf zh zA zR qV ⊢
   go_wp2
   go_roundw
   case rel => exact ⟨c + 1, (.slice Ao nn co : Value), by first | rfl | (simp; done) | go_num, by omega, by omega, qV.out, zf.out, zh.out, zA.out, zR.out, HAc.out⟩
   case measure => simp [intOf]; omega
  ·have hc : c = 127 := by omega
   have q1 : decide ((c : Int) < 127) = false := decide_eq_false (by omega)
   obtain ⟨Au, cu, eu⟩ := Kd.y9 ZB.out
   generalize (more ++ YQ wd c).length = nu at eu
   subst eu
   have hRs := ZB.out
   rw [hc] at hRs
   have hsort := zV6 wr b0 (.slice Au nu cu) _ ys hRs (by rw [List.length_append, aQ]; omega) (by rw [List.length_append, aQ]; omega) HP.out HS.out
   have zJi := zx.mk hsort
   have hcu : wr.cell? ⟨gf, 3, none⟩ = some (.slice Au nu cu) := (zk BF.out 3).trans rfl
   clear hsort hRs hlt h33 h127
   go_wp2_with (go_at_call 89; refine zJi.out.mono ?_; rintro e w2 ⟨rfl, hR2, hg2⟩; clear zJi hcu; have hne1 := Kd.kE ZB.out BF.out (by decide); have zh := zx.mk (qQ BR.out hg2 (Kd.kE ZB.out BR.out (by decide))); have zA := zx.mk (qQ BF.out hg2 hne1); have zR := zx.mk hR2; have qV := zx.mk (zk4 Uw.out hg2 HAc.out); have xD := zx.mk (iH YX.out (Nat.le_trans hb0 Uw.out.size) ZB.out hg2); clear ZB BR BF YX Uw hne1 hR2 hg2; have BR := zh; have BF := zA; have HR2 := zR; have HG2 := qV; have HB2 := xD; clear zh zA zR qV xD; have zWB : w2.cell? ⟨gf, 0, none⟩ = some (.string name) := (zk BF.out 0).trans rfl; have zWC : w2.cell? ⟨gf, 1, none⟩ = some (.bool false) := (zk BF.out 1).trans rfl; have zWD : w2.cell? ⟨gf, 2, none⟩ = some (.int .i64 space) := (zk BF.out 2).trans rfl; have zWE : w2.cell? ⟨gf, 3, none⟩ = some (.slice Au nu cu) := (zk BF.out 3).trans rfl; have zWF : w2.cell? ⟨gf, 4, none⟩ = some (.slice none 0 0) := (zk BF.out 4).trans rfl; have zWG : w2.cell? ⟨gf, 5, none⟩ = some (.slice none 0 0) := (zk BF.out 5).trans rfl; have ze3 : w2.cell? ⟨gr, 0, none⟩ = some (.string (⟨#[]⟩ : ByteArray)) := (zk BR.out 0).trans rfl; have ze4 : w2.cell? ⟨gr, 1, none⟩ = some (.bool false) := (zk BR.out 1).trans rfl; have ze5 : w2.cell? ⟨gr, 2, none⟩ = some (.int .i64 0) := (zk BR.out 2).trans rfl; have ze6 : w2.cell? ⟨gr, 3, none⟩ = some (.slice none 0 0) := (zk BR.out 3).trans rfl; have ze7 : w2.cell? ⟨gr, 4, none⟩ = some (.slice none 0 0) := (zk BR.out 4).trans rfl; have ze8 : w2.cell? ⟨gr, 5, none⟩ = some (.slice none 0 0) := (zk BR.out 5).trans rfl; have ze9 := zw BR.out 0; have zfz := zw BR.out 1; have zfq := zw BR.out 2; have zfx := zw BR.out 3; have zfj := zw BR.out 4; have zfv := zw BR.out 5)
   have zf := (yC (cs' := #[.string name, .bool false, .int .i64 space, .slice Au nu cu, .slice none 0 0, .slice none 0 0]) (yC (cs' := #[.string name, .bool false, .int .i64 space, .slice Au nu cu, .slice none 0 0, .slice none 0 0]) (yC (cs' := #[.string name, .bool false, .int .i64 space, .slice Au nu cu, .slice none 0 0, .slice none 0 0]) (yC (cs' := #[.string name, .bool false, .int .i64 space, .slice none 0 0, .slice none 0 0, .slice none 0 0]) (yC (cs' := #[.string name, .bool false, .int .i64 0, .slice none 0 0, .slice none 0 0, .slice none 0 0]) (yC (cs' := #[.string name, .bool false, .int .i64 0, .slice none 0 0, .slice none 0 0, .slice none 0 0]) BR.out 0 (.string name) rfl) 1 (.bool false) rfl) 2 (.int .i64 space) rfl) 3 (.slice Au nu cu) rfl) 4 (.slice none 0 0) rfl) 5 (.slice none 0 0) rfl)
   have zh := Kd.zL (Kd.yK (p := ⟨gr, 5, none⟩) (Kd.yK (p := ⟨gr, 4, none⟩) (Kd.yK (p := ⟨gr, 3, none⟩) (Kd.yK (p := ⟨gr, 2, none⟩) (Kd.yK (p := ⟨gr, 1, none⟩) (Kd.yK (p := ⟨gr, 0, none⟩) (Kd.zi HR2.out BR.out (by decide)) (fun _ hk => hk.2) (.string name)) (fun _ hk => hk.2) (.bool false)) (fun _ hk => hk.2) (.int .i64 space)) (fun _ hk => hk.2) (.slice Au nu cu)) (fun _ hk => hk.2) (.slice none 0 0)) (fun _ hk => hk.2) (.slice none 0 0)) (fun _ _ => trivial)
   have zA := (YR (i := 5) (YR (i := 4) (YR (i := 3) (YR (i := 2) (YR (i := 1) (YR (i := 0) HG2.out Kr.out (.string name)) Kr.out (.bool false)) Kr.out (.int .i64 space)) Kr.out (.slice Au nu cu)) Kr.out (.slice none 0 0)) Kr.out (.slice none 0 0))
   have zR := (Below.setCell (p := ⟨gr, 5, none⟩) (Below.setCell (p := ⟨gr, 4, none⟩) (Below.setCell (p := ⟨gr, 3, none⟩) (Below.setCell (p := ⟨gr, 2, none⟩) (Below.setCell (p := ⟨gr, 1, none⟩) (Below.setCell (p := ⟨gr, 0, none⟩) HB2.out (Nat.le_trans hb0 Kr.out) (.string name)) (Nat.le_trans hb0 Kr.out) (.bool false)) (Nat.le_trans hb0 Kr.out) (.int .i64 space)) (Nat.le_trans hb0 Kr.out) (.slice Au nu cu)) (Nat.le_trans hb0 Kr.out) (.slice none 0 0)) (Nat.le_trans hb0 Kr.out) (.slice none 0 0))
   clear zWB zWC zWD zWE zWF zWG ze3 ze4 ze5 ze6 ze7 ze8 ze9 zfz zfq zfx zfj zfv
   generalize ((((((w2.setCell ⟨gr, 0, none⟩ (.string name)).setCell ⟨gr, 1, none⟩ (.bool false)).setCell ⟨gr, 2, none⟩ (.int .i64 space)).setCell ⟨gr, 3, none⟩ (.slice Au nu cu)).setCell ⟨gr, 4, none⟩ (.slice none 0 0)).setCell ⟨gr, 5, none⟩ (.slice none 0 0)) = w5 at zf zh zA zR ⊢
   refine bodyPost_ret (results_cell_row rfl _ _ gr 26 #[.string name, .bool false, .int .i64 space, .slice Au nu cu, .slice none 0 0, .slice none 0 0] (0, 0) _ rfl zf Tryz.underlying26 rfl (by kernel_rfl)) rfl ?_
   exact ⟨_, rfl, zh, zR, zA, HAc.out⟩
end Go.Proofs.YtaifemkokfoadaaGreatDoor
namespace Go.Proofs.YtaifemkokfoadaaGreatDoor
open Go.RowKit Go.Shelf
def Wz (l : List UInt8) (c : UInt8) : Bool := decide (0 ≤ Lib.indexByte l c)
def QG (c : UInt8) : Int :=
 if (Wz [105, 106, 108, 116, 102, 46, 44, 58, 59, 39, 124, 33] c || (c.toNat : Int) == 96) = true then 250
 else if Wz [40, 41, 91, 93, 123, 125, 45, 114, 115, 47, 92, 34] c = true then 350
 else if Wz [109, 119] c = true then 750
 else if Wz [77, 87, 64, 37] c = true then 900
 else if (decide (65 ≤ (c.toNat : Int)) && decide ((c.toNat : Int) ≤ 90)) = true then 650 else 500
set_option maxRecDepth 100000 in
theorem U9 (s : ByteArray) (c : UInt8) (B : Nat) (w : World) (hc : w.cell? ⟨B, 0, none⟩ = some (.int .u8 c.toNat)) :
  Calls Tryz.prog 91 #[.string s, .pointer (some ⟨B, 0, none⟩)] w fun e w' => e = .returned (.bool (Wz s.data.toList c)) ∧ w' = w := by
 have hi := Tryz.strings_IndexByte s (c.toNat : Int) w
 have hc8 : ((c.toNat : Int).toNat.toUInt8) = c := by rw [Int.toNat_natCast]; exact UInt8.ofNat_toNat
 rw [hc8] at hi
 have hx : Wz s.data.toList c = decide (0 ≤ Lib.indexByte s.data.toList c) := rfl
 generalize Lib.indexByte s.data.toList c = ix at hi hx
 generalize Wz s.data.toList c = b at hx ⊢
 subst hx
 clear hc8
 go_enter Tryz.func91, Tryz.ntmps91
 go_wp2_with (go_at_call 92; refine hi.mono ?_; rintro e w2 ⟨rfl, rfl⟩)
 go_ret
 exact ⟨rfl, rfl⟩
set_option maxRecDepth 100000 in
set_option maxHeartbeats 1000000 in
theorem zQj (c : UInt8) (w : World) :
  Calls Tryz.prog 30 #[.int .u8 c.toNat] w fun e w' => e = .returned (.int .i64 (QG c)) ∧ Below w.heap.size w w' := by
 have hb0 : Below w.heap.size w (w.alloc (.cells #[.int .u8 c.toNat] 5)) := (Below.refl _ w).alloc (Nat.le_refl _) _
 have hcell : (w.alloc (.cells #[.int .u8 c.toNat] 5)).cell? ⟨w.heap.size, 0, none⟩ = some (.int .u8 c.toNat) := by simp
 have h1 := U9 ⟨#[105, 106, 108, 116, 102, 46, 44, 58, 59, 39, 124, 33]⟩ c w.heap.size _ hcell
 have h2 := U9 ⟨#[40, 41, 91, 93, 123, 125, 45, 114, 115, 47, 92, 34]⟩ c w.heap.size _ hcell
 have h3 := U9 ⟨#[109, 119]⟩ c w.heap.size _ hcell
 have h4 := U9 ⟨#[77, 87, 64, 37]⟩ c w.heap.size _ hcell
 have hv : QG c = if (Wz (⟨#[105, 106, 108, 116, 102, 46, 44, 58, 59, 39, 124, 33]⟩ : ByteArray).data.toList c || (c.toNat : Int) == 96) = true then 250
  else if Wz (⟨#[40, 41, 91, 93, 123, 125, 45, 114, 115, 47, 92, 34]⟩ : ByteArray).data.toList c = true then 350
  else if Wz (⟨#[109, 119]⟩ : ByteArray).data.toList c = true then 750
  else if Wz (⟨#[77, 87, 64, 37]⟩ : ByteArray).data.toList c = true then 900
  else if (decide (65 ≤ (c.toNat : Int)) && decide ((c.toNat : Int) ≤ 90)) = true then 650 else 500 := rfl
 rw [hv]
 clear hv
 generalize Wz (⟨#[105, 106, 108, 116, 102, 46, 44, 58, 59, 39, 124, 33]⟩ : ByteArray).data.toList c = b1 at h1 ⊢
 generalize Wz (⟨#[40, 41, 91, 93, 123, 125, 45, 114, 115, 47, 92, 34]⟩ : ByteArray).data.toList c = b2 at h2 ⊢
 generalize Wz (⟨#[109, 119]⟩ : ByteArray).data.toList c = b3 at h3 ⊢
 generalize Wz (⟨#[77, 87, 64, 37]⟩ : ByteArray).data.toList c = b4 at h4 ⊢
 have hx0 := c.toNat_lt
 generalize (c.toNat : Int) = x at hb0 hcell h1 h2 h3 h4 ⊢
 generalize h96 : (x == 96) = b96
 generalize h65 : decide (65 ≤ x) = b65
 generalize h90 : decide (x ≤ 90) = b90
 cases b1 with
 | true =>
  go_enter Tryz.func30, Tryz.ntmps30
  go_wp2_with (first
   | (go_at_call 91; ((with_reducible refine h1.mono ?_); rintro e w2 ⟨rfl, rfl⟩))
   | (go_at_call 91; ((with_reducible refine h2.mono ?_); rintro e w2 ⟨rfl, rfl⟩))
   | (go_at_call 91; ((with_reducible refine h3.mono ?_); rintro e w2 ⟨rfl, rfl⟩))
   | (go_at_call 91; ((with_reducible refine h4.mono ?_); rintro e w2 ⟨rfl, rfl⟩)))
  go_ret
  exact ⟨rfl, hb0⟩
 | false =>
  cases b96 with
  | true =>
   go_enter Tryz.func30, Tryz.ntmps30
   go_wp2_with (first
    | (go_at_call 91; ((with_reducible refine h1.mono ?_); rintro e w2 ⟨rfl, rfl⟩))
    | (go_at_call 91; ((with_reducible refine h2.mono ?_); rintro e w2 ⟨rfl, rfl⟩))
    | (go_at_call 91; ((with_reducible refine h3.mono ?_); rintro e w2 ⟨rfl, rfl⟩))
    | (go_at_call 91; ((with_reducible refine h4.mono ?_); rintro e w2 ⟨rfl, rfl⟩)))
   go_ret
   exact ⟨rfl, hb0⟩
  | false =>
   cases b2 with
   | true =>
    go_enter Tryz.func30, Tryz.ntmps30
    go_wp2_with (first
     | (go_at_call 91; ((with_reducible refine h1.mono ?_); rintro e w2 ⟨rfl, rfl⟩))
     | (go_at_call 91; ((with_reducible refine h2.mono ?_); rintro e w2 ⟨rfl, rfl⟩))
     | (go_at_call 91; ((with_reducible refine h3.mono ?_); rintro e w2 ⟨rfl, rfl⟩))
     | (go_at_call 91; ((with_reducible refine h4.mono ?_); rintro e w2 ⟨rfl, rfl⟩)))
    go_ret
    exact ⟨rfl, hb0⟩
   | false =>
    cases b3 with
    | true =>
     go_enter Tryz.func30, Tryz.ntmps30
     go_wp2_with (first
      | (go_at_call 91; ((with_reducible refine h1.mono ?_); rintro e w2 ⟨rfl, rfl⟩))
      | (go_at_call 91; ((with_reducible refine h2.mono ?_); rintro e w2 ⟨rfl, rfl⟩))
      | (go_at_call 91; ((with_reducible refine h3.mono ?_); rintro e w2 ⟨rfl, rfl⟩))
      | (go_at_call 91; ((with_reducible refine h4.mono ?_); rintro e w2 ⟨rfl, rfl⟩)))
     go_ret
     exact ⟨rfl, hb0⟩
    | false =>
     cases b4 with
     | true =>
      go_enter Tryz.func30, Tryz.ntmps30
      go_wp2_with (first
       | (go_at_call 91; ((with_reducible refine h1.mono ?_); rintro e w2 ⟨rfl, rfl⟩))
       | (go_at_call 91; ((with_reducible refine h2.mono ?_); rintro e w2 ⟨rfl, rfl⟩))
       | (go_at_call 91; ((with_reducible refine h3.mono ?_); rintro e w2 ⟨rfl, rfl⟩))
       | (go_at_call 91; ((with_reducible refine h4.mono ?_); rintro e w2 ⟨rfl, rfl⟩)))
      go_ret
      exact ⟨rfl, hb0⟩
     | false =>
      cases b65 with
      | false =>
       go_enter Tryz.func30, Tryz.ntmps30
       go_wp2_with (first
        | (go_at_call 91; ((with_reducible refine h1.mono ?_); rintro e w2 ⟨rfl, rfl⟩))
        | (go_at_call 91; ((with_reducible refine h2.mono ?_); rintro e w2 ⟨rfl, rfl⟩))
        | (go_at_call 91; ((with_reducible refine h3.mono ?_); rintro e w2 ⟨rfl, rfl⟩))
        | (go_at_call 91; ((with_reducible refine h4.mono ?_); rintro e w2 ⟨rfl, rfl⟩)))
       go_ret
       exact ⟨rfl, hb0⟩
      | true =>
       cases b90 with
       | false =>
        go_enter Tryz.func30, Tryz.ntmps30
        go_wp2_with (first
         | (go_at_call 91; ((with_reducible refine h1.mono ?_); rintro e w2 ⟨rfl, rfl⟩))
         | (go_at_call 91; ((with_reducible refine h2.mono ?_); rintro e w2 ⟨rfl, rfl⟩))
         | (go_at_call 91; ((with_reducible refine h3.mono ?_); rintro e w2 ⟨rfl, rfl⟩))
         | (go_at_call 91; ((with_reducible refine h4.mono ?_); rintro e w2 ⟨rfl, rfl⟩)))
        go_ret
        exact ⟨rfl, hb0⟩
       | true =>
        go_enter Tryz.func30, Tryz.ntmps30
        go_wp2_with (first
         | (go_at_call 91; ((with_reducible refine h1.mono ?_); rintro e w2 ⟨rfl, rfl⟩))
         | (go_at_call 91; ((with_reducible refine h2.mono ?_); rintro e w2 ⟨rfl, rfl⟩))
         | (go_at_call 91; ((with_reducible refine h3.mono ?_); rintro e w2 ⟨rfl, rfl⟩))
         | (go_at_call 91; ((with_reducible refine h4.mono ?_); rintro e w2 ⟨rfl, rfl⟩)))
        go_ret
        exact ⟨rfl, hb0⟩
end Go.Proofs.YtaifemkokfoadaaGreatDoor
namespace Go.Proofs.YtaifemkokfoadaaGreatDoor
open Go.RowKit Go.Shelf Go.Proofs.zy.zu Go.Proofs.zy.yI Go.Proofs.zy.yD Go.Proofs.YtaifemkokfoadaaGreatDoor.PX
set_option linter.unusedSimpArgs false
def mR (s : ByteArray) : Int × Bool := if 6 < s.size then (0, false) else (zq1 s.data.toList, fB s.data.toList)
def number.T4 : Bool × List (List Nat × List Nat) := (true, [([], []), ([], []), ([1], [1]), ([0, 0], [0]), ([2, 3, 0, 1, 2, 3], [2])])
theorem number.zWN : u6 .any (opsOf Tryz.f36 4) = number.T4 := by kernel_rfl
set_option maxRecDepth 100000 in
theorem zwB (s : ByteArray) (w : World) (hs : s.size ≤ 140737488355328) (hG : GW w) :
  Calls Tryz.prog 36 #[.string s] w fun e w' => e = .returned (.tuple #[.int .i64 (mR s).1, .bool (mR s).2]) ∧ Below w.heap.size w w' := by
 unfold mR
 by_cases h6 : 6 < s.size
 ·rw [if_pos h6]
  have q1 : decide ((6 : Int) < (s.size : Int)) = true := decide_eq_true (by omega)
  go_enter Tryz.func36, Tryz.ntmps36
  go_wp2
  go_ret2
  exact ⟨rfl, Below.refl _ _⟩
 ·rw [if_neg h6]
  have q1 : decide ((6 : Int) < (s.size : Int)) = false := decide_eq_false (by omega)
  have ha := zQN s w hs hG
  generalize zq1 s.data.toList = N at ha ⊢
  generalize fB s.data.toList = B at ha ⊢
  cases B with
  | true =>
   go_enter Tryz.func36, Tryz.ntmps36
   go_wp2_with fail
   refine ha.mono ?_; rintro e w2 ⟨ev, rfl, h1, _, hb⟩
   obtain rfl := h1 (by simp)
   clear ha h1
   go_wp2
   refine Zj (n := 5) (S := fun _ => True) (ds := []) #[false, false, false, false, false] (by kernel_rfl) rfl rfl trivial (fun hHeld => ?_)
   refine cO number.zWN (fun zM => ?_)
   refine kC (i := 0) (N := some 14) (v := ?_) (a' := ?_) #[true, false, false, false, false] rfl rfl (jr zM.out (by kernel_rfl)) (fun _ _ _ h => h) (Or.inl ⟨by rfl, ?_⟩) ?_ ?_
   rotate_left
   ·intro w'
    go_simp
    with_reducible rfl
   rotate_left
   ·simp only [Act.put, List.setIfInBounds_toArray, List.set_cons_zero, List.set_cons_succ]
    rfl
   refine kC (i := 1) (N := some 15) (v := ?_) (a' := ?_) #[true, true, false, false, false] rfl rfl (jr zM.out (by kernel_rfl)) (fun _ _ _ h => h) (Or.inl ⟨by rfl, ?_⟩) ?_ ?_
   rotate_left
   ·intro w'
    go_simp
    with_reducible rfl
   rotate_left
   ·simp only [Act.put, List.setIfInBounds_toArray, List.set_cons_zero, List.set_cons_succ]
    rfl
   refine kC (i := 2) (N := some 16) (v := ?_) (a' := ?_) #[true, true, true, false, false] rfl rfl (jr zM.out (by kernel_rfl)) (fun _ _ _ h => h) (Or.inl ⟨by rfl, ?_⟩) ?_ ?_
   rotate_left
   ·intro w'
    go_simp
    with_reducible rfl
   rotate_left
   ·simp only [Act.put, List.setIfInBounds_toArray, List.set_cons_zero, List.set_cons_succ]
    rfl
   refine kC (i := 3) (N := some 2) (v := ?_) (a' := ?_) #[true, true, true, true, false] rfl rfl (jr zM.out (by kernel_rfl)) (fun _ _ _ h => h) (Or.inl ⟨by rfl, ?_⟩) ?_ ?_
   rotate_left
   ·intro w'
    go_simp
    with_reducible rfl
   rotate_left
   ·simp only [Act.put, List.setIfInBounds_toArray, List.set_cons_zero, List.set_cons_succ]
    rfl
   refine kC (i := 4) (N := some 3) (v := ?_) (a' := ?_) #[true, true, true, true, true] rfl rfl (jr zM.out (by kernel_rfl)) (fun _ _ _ h => h) (Or.inl ⟨by rfl, ?_⟩) ?_ ?_
   rotate_left
   ·intro w'
    go_simp
    with_reducible rfl
   rotate_left
   ·simp only [Act.put, List.setIfInBounds_toArray, List.set_cons_zero, List.set_cons_succ]
    rfl
   clear hHeld
   refine uO (vW zM.out (by kernel_rfl)) ?_
   go_wp2
   go_ret2
   exact ⟨rfl, hb.drew⟩
  | false =>
   go_enter Tryz.func36, Tryz.ntmps36
   go_wp2_with fail
   refine ha.mono ?_; rintro e w2 ⟨ev, rfl, _, h1, hb⟩
   obtain ⟨te, pe, rfl⟩ := h1 (by simp)
   clear ha h1
   go_wp2
   refine Zj (n := 5) (S := fun _ => True) (ds := []) #[false, false, false, false, false] (by kernel_rfl) rfl rfl trivial (fun hHeld => ?_)
   refine cO number.zWN (fun zM => ?_)
   refine kC (i := 0) (N := some 14) (v := ?_) (a' := ?_) #[true, false, false, false, false] rfl rfl (jr zM.out (by kernel_rfl)) (fun _ _ _ h => h) (Or.inl ⟨by rfl, ?_⟩) ?_ ?_
   rotate_left
   ·intro w'
    go_simp
    with_reducible rfl
   rotate_left
   ·simp only [Act.put, List.setIfInBounds_toArray, List.set_cons_zero, List.set_cons_succ]
    rfl
   refine kC (i := 1) (N := some 15) (v := ?_) (a' := ?_) #[true, true, false, false, false] rfl rfl (jr zM.out (by kernel_rfl)) (fun _ _ _ h => h) (Or.inl ⟨by rfl, ?_⟩) ?_ ?_
   rotate_left
   ·intro w'
    go_simp
    with_reducible rfl
   rotate_left
   ·simp only [Act.put, List.setIfInBounds_toArray, List.set_cons_zero, List.set_cons_succ]
    rfl
   refine kC (i := 2) (N := some 16) (v := ?_) (a' := ?_) #[true, true, true, false, false] rfl rfl (jr zM.out (by kernel_rfl)) (fun _ _ _ h => h) (Or.inl ⟨by rfl, ?_⟩) ?_ ?_
   rotate_left
   ·intro w'
    go_simp
    with_reducible rfl
   rotate_left
   ·simp only [Act.put, List.setIfInBounds_toArray, List.set_cons_zero, List.set_cons_succ]
    rfl
   refine kC (i := 3) (N := some 2) (v := ?_) (a' := ?_) #[true, true, true, true, false] rfl rfl (jr zM.out (by kernel_rfl)) (fun _ _ _ h => h) (Or.inl ⟨by rfl, ?_⟩) ?_ ?_
   rotate_left
   ·intro w'
    go_simp
    with_reducible rfl
   rotate_left
   ·simp only [Act.put, List.setIfInBounds_toArray, List.set_cons_zero, List.set_cons_succ]
    rfl
   refine kC (i := 4) (N := some 3) (v := ?_) (a' := ?_) #[true, true, true, true, true] rfl rfl (jr zM.out (by kernel_rfl)) (fun _ _ _ h => h) (Or.inl ⟨by rfl, ?_⟩) ?_ ?_
   rotate_left
   ·intro w'
    go_simp
    with_reducible rfl
   rotate_left
   ·simp only [Act.put, List.setIfInBounds_toArray, List.set_cons_zero, List.set_cons_succ]
    rfl
   clear hHeld
   refine uO (vW zM.out (by kernel_rfl)) ?_
   go_wp2
   go_ret2
   exact ⟨rfl, hb.drew⟩
theorem u8n (c : Nat) (h : c ≤ 126) : ((UInt8.ofNat c).toNat : Int) = c := by
 have : (UInt8.ofNat c).toNat = c := by simp; omega
 rw [this]
def iI (c : Nat) : Int := QG (UInt8.ofNat c)
def wdI (c : Nat) : Int := max 0 (QG (UInt8.ofNat c) - 20)
def wdB (c : Nat) : Int := QG (UInt8.ofNat c) + 50
def wdM (_ : Nat) : Int := 600
theorem mU (c : UInt8) : 0 ≤ QG c ∧ QG c ≤ 900 := by unfold QG; repeat' split <;> try omega
theorem zzr (c : Nat) (W : World) (_ : 33 ≤ c) (h : c ≤ 126) : Calls Tryz.prog 30 #[.int .u8 (c : Int)] W fun e w' => e = .returned (.int .i64 (iI c)) ∧ Below W.heap.size W w' := by
 have h := zQj (UInt8.ofNat c) W
 rw [u8n c (by assumption)] at h
 exact h
set_option maxRecDepth 100000 in
theorem zV8 (c : Nat) (W : World) (h0 : 33 ≤ c) (h : c ≤ 126) : Calls Tryz.prog 32 #[.int .u8 (c : Int)] W fun e w' => e = .returned (.int .i64 (wdI c)) ∧ Below W.heap.size W w' := by
 have hr := zzr c W h0 h
 have hv := mU (UInt8.ofNat c)
 unfold wdI
 unfold iI at hr
 generalize QG (UInt8.ofNat c) = v at hr hv ⊢
 go_enter Tryz.func32, Tryz.ntmps32
 have e1 : IntKind.i64.wrap (v - 20) = v - 20 := IntWalk.i64_in _ (by omega)
 go_wp2_with (go_at_call 30; refine hr.mono ?_; rintro e w2 ⟨rfl, hb2⟩)
 go_ret
 exact ⟨by first | rfl | (simp; done) | (simp [Int.max_def]; done), hb2⟩
set_option maxRecDepth 100000 in
theorem zV9 (c : Nat) (W : World) (h0 : 33 ≤ c) (h : c ≤ 126) : Calls Tryz.prog 33 #[.int .u8 (c : Int)] W fun e w' => e = .returned (.int .i64 (wdB c)) ∧ Below W.heap.size W w' := by
 have hr := zzr c W h0 h
 have hv := mU (UInt8.ofNat c)
 unfold wdB
 unfold iI at hr
 generalize QG (UInt8.ofNat c) = v at hr hv ⊢
 have e1 : IntKind.i64.wrap (v + 50) = v + 50 := IntWalk.i64_in _ (by omega)
 go_enter Tryz.func33, Tryz.ntmps33
 go_wp2_with (go_at_call 30; refine hr.mono ?_; rintro e w2 ⟨rfl, hb2⟩)
 go_ret
 exact ⟨by first | rfl | (rw [e1]; done), hb2⟩
theorem zKz (c : Nat) (W : World) (_ : 33 ≤ c) (_ : c ≤ 126) : Calls Tryz.prog 34 #[.int .u8 (c : Int)] W fun e w' => e = .returned (.int .i64 (wdM c)) ∧ Below W.heap.size W w' := by
 unfold wdM
 go_enter Tryz.func34, Tryz.ntmps34
 go_wp2
 go_ret
 exact ⟨rfl, Below.refl _ _⟩
end Go.Proofs.YtaifemkokfoadaaGreatDoor
namespace Go.Proofs.YtaifemkokfoadaaGreatDoor
open Go.RowKit Go.Shelf Go.Proofs.zy.zu Go.Proofs.zy.yD Go.Proofs.YtaifemkokfoadaaGreatDoor.PX
def V5 (wd : Nat → Int) (a n : Nat) : List qg := (List.range n).map fun i => ⟨chr (a + i), wd (a + i)⟩
def bFi : ByteArray := ⟨#[102, 105]⟩
def bFl : ByteArray := ⟨#[102, 108]⟩
def bFf : ByteArray := ⟨#[102, 102]⟩
def YJ (x : Int) : List qg := [⟨bFi, x⟩, ⟨bFl, x⟩, ⟨bFf, x⟩]
def Wq (wd : Nat → Int) (x : Int) : List qg := V5 wd 33 70 ++ ([⟨bFf, x⟩, ⟨bFi, x⟩, ⟨bFl, x⟩] ++ V5 wd 103 24)
theorem zXi (wd : Nat → Int) : YQ wd 127 = V5 wd 33 70 ++ V5 wd 103 24 := by
 have e0 : List.range (127 - 33) = List.range 70 ++ (List.range 24).map (70 + ·) := List.range_add (n := 70) (m := 24)
 have e1 : ((List.range 24).map (70 + ·)).map (fun i => (⟨chr (33 + i), wd (33 + i)⟩ : qg)) = V5 wd 103 24 := by
  rw [List.map_map]
  apply List.map_congr_left
  intro i _
  show (⟨chr (33 + (70 + i)), wd (33 + (70 + i))⟩ : qg) = ⟨chr (103 + i), wd (103 + i)⟩
  rw [show 33 + (70 + i) = 103 + i by omega]
 unfold YQ
 rw [e0, List.map_append, e1]
 unfold V5
 exact rfl
theorem zk5 (wd : Nat → Int) (x : Int) : (Wq wd x).Perm (YJ x ++ YQ wd 127) := by
 rw [zXi]
 unfold Wq YJ
 have h1 : ([⟨bFf, x⟩, ⟨bFi, x⟩, ⟨bFl, x⟩] : List qg).Perm [⟨bFi, x⟩, ⟨bFl, x⟩, ⟨bFf, x⟩] := by
  refine (List.Perm.swap _ _ _).trans ?_
  exact List.Perm.cons _ (List.Perm.swap _ _ _)
 generalize V5 wd 33 70 = A
 generalize V5 wd 103 24 = B
 refine (List.Perm.append_left A (List.Perm.append_right B h1)).trans ?_
 rw [← List.append_assoc, ← List.append_assoc]
 exact List.Perm.append_right B List.perm_append_comm
def Kg (n : Nat) : List ByteArray := if n = 0 then (List.range 94).map (fun i => chr (33 + i)) else (List.range 70).map (fun i => chr (33 + i)) ++ ([bFf, bFi, bFl] ++ (List.range 24).map (fun i => chr (103 + i)))
theorem zwC : (Kg 0).Pairwise fun a b => uF a b < 0 := by decide +kernel
theorem zwD : (Kg 1).Pairwise fun a b => uF a b < 0 := by decide +kernel
theorem zQv (wd : Nat → Int) (x : Int) : (Wq wd x).Pairwise fun a b => uF a.f0 b.f0 < 0 := by
 have h : ((Wq wd x).map (·.f0)) = Kg 1 := by
  simp [Wq, Kg, V5, List.map_map, Function.comp_def]
 have h2 := zwD
 rw [← h, List.pairwise_map] at h2
 exact h2
theorem zQk (wd : Nat → Int) : (YQ wd 127).Pairwise fun a b => uF a.f0 b.f0 < 0 := by
 have h : ((YQ wd 127).map (·.f0)) = Kg 0 := by
  simp [YQ, Kg, List.map_map, Function.comp_def]
 have h2 := zwC
 rw [← h, List.pairwise_map] at h2
 exact h2
end Go.Proofs.YtaifemkokfoadaaGreatDoor
namespace Go.Proofs.YtaifemkokfoadaaGreatDoor
open Go.RowKit Go.Shelf Go.Proofs.zy.zu Go.Proofs.zy.yI Go.Proofs.zy.yD Go.Proofs.YtaifemkokfoadaaGreatDoor.PX
set_option linter.unusedSimpArgs false
set_option linter.unusedVariables false
abbrev rG : ByteArray := ⟨(([33, 61, 32, 54, 48, 48, 32, 42, 97, 32, 53, 53, 48, 32, 42, 98, 32, 53, 53, 48, 32, 42, 100, 32, 53, 48, 48, 32, 42, 103, 32, 53, 48, 48, 32, 42, 108, 32, 53, 53, 48, 32, 42, 112, 32, 54, 48, 48, 32, 42, 115, 32, 54, 48, 48, 32, 42, 119, 32, 55, 48].append [48, 32, 45, 62, 32, 49, 48, 48, 48, 32, 60, 45, 32, 49, 48, 48, 48, 32, 60, 61, 32, 54, 48, 48, 32, 62, 61, 32, 54, 48, 48, 32, 98, 114, 32, 49, 48, 32, 98, 117, 32, 52, 54, 48, 32, 99, 111, 32, 56, 48, 48, 32, 100, 103, 32, 53, 48, 48, 32, 100, 105, 32]).append ([54, 48, 48, 32, 101, 109, 32, 49, 48, 48, 48, 32, 101, 110, 32, 53, 48, 48, 32, 101, 113, 32, 54, 48, 48, 32, 104, 121, 32, 51, 53, 48, 32, 105, 102, 32, 55, 48, 48, 32, 105, 115, 32, 52, 48, 48, 32, 109, 105, 32, 54, 48, 48, 32, 109, 117, 32, 54, 48, 48, 32, 112].append [100, 32, 55, 48, 48, 32, 112, 108, 32, 54, 48, 48, 32, 114, 104, 32, 49, 48, 48, 48, 32, 114, 117, 32, 53, 48, 48, 32, 115, 99, 32, 53, 48, 48, 32, 115, 113, 32, 54, 48, 48, 32, 115, 114, 32, 53, 48, 48, 32, 115, 117, 32, 55, 48, 48, 32, 117, 108, 32, 53, 48, 48])).toArray⟩
def aX : List (List UInt8) := Lib.fields rG.data.toList
theorem zjQ : aX.length = 70 := by decide +kernel
theorem zwE : ∀ x ∈ aX, x.length ≤ 6 := by decide +kernel
theorem zjF : ∀ (j : Nat) (b : UInt8), rG.data.toList[j]? = some b → b.toNat < 128 := by
 have h : ∀ b ∈ rG.data.toList, b.toNat < 128 := by decide +kernel
 intro j b hj
 exact h b (List.mem_of_getElem? hj)
theorem zjX (x : Int) (W : World) (b : Nat) (ok : Nat → Prop) : yS (uf.M W b ok) uf.sz (YJ x) [.string (⟨#[102, 105]⟩ : ByteArray), .int .i64 x, .string (⟨#[102, 108]⟩ : ByteArray), .int .i64 x, .string (⟨#[102, 102]⟩ : ByteArray), .int .i64 x] := by
 have h : ∀ (j : Nat) (p : qg), (YJ x)[j]? = some p → uf.M W b ok p (([.string (⟨#[102, 105]⟩ : ByteArray), .int .i64 x, .string (⟨#[102, 108]⟩ : ByteArray), .int .i64 x, .string (⟨#[102, 102]⟩ : ByteArray), .int .i64 x].drop (j * 2)).take 2) := by
  intro j p hj
  rcases j with _ | _ | _ | j
  ·obtain rfl := Option.some.inj hj
   exact UY W b ok ⟨bFi, x⟩
  ·obtain rfl := Option.some.inj hj
   exact UY W b ok ⟨bFl, x⟩
  ·obtain rfl := Option.some.inj hj
   exact UY W b ok ⟨bFf, x⟩
  ·simp [YJ] at hj
 exact ⟨rfl, h⟩
def rH : List xC := [⟨⟨#[102]⟩, ⟨#[102]⟩, ⟨#[102, 102]⟩⟩, ⟨⟨#[102]⟩, ⟨#[105]⟩, ⟨#[102, 105]⟩⟩, ⟨⟨#[102]⟩, ⟨#[108]⟩, ⟨#[102, 108]⟩⟩]
def Wx : List vk := [(⟨(⟨#[65]⟩ : ByteArray), (⟨#[86]⟩ : ByteArray), (-80)⟩ : vk), (⟨(⟨#[65]⟩ : ByteArray), (⟨#[87]⟩ : ByteArray), (-60)⟩ : vk), (⟨(⟨#[84]⟩ : ByteArray), (⟨#[111]⟩ : ByteArray), (-70)⟩ : vk), (⟨(⟨#[86]⟩ : ByteArray), (⟨#[65]⟩ : ByteArray), (-80)⟩ : vk), (⟨(⟨#[89]⟩ : ByteArray), (⟨#[111]⟩ : ByteArray), (-90)⟩ : vk)]
def FB (W : World) (lo hi g : Nat) (x : pq) : Prop :=
 ∃ v3 v4 v5, W.heap[g]? = some (.cells #[.string x.f0, .bool x.f1, .int .i64 x.f2, v3, v4, v5] 26 (0, 0)) ∧ lo ≤ g ∧ g < hi ∧ Kd.R uf 31 W lo (fun k => lo ≤ k ∧ k < hi) v3 x.f3 ∧
  Kd.R jd 86 W lo (fun k => lo ≤ k ∧ k < hi) v4 x.f4 ∧ Kd.R jh 76 W lo (fun k => lo ≤ k ∧ k < hi) v5 x.f5
theorem fJ {α : Type} {d : Kd α} {e lo hi : Nat} {W W' : World} {v : Value} {xs : List α} (h : d.R e W lo (fun k => lo ≤ k ∧ k < hi) v xs) (hb : Below hi W W') : d.R e W' lo (fun k => lo ≤ k ∧ k < hi) v xs :=
 Kd.Kl h (fun k hk _ => hb.block k hk.2)
theorem zXl {α : Type} {d : Kd α} {e lo : Nat} {W : World} {v : Value} {xs : List α} (h : d.R e W lo (fun _ => True) v xs) : d.R e W lo (fun k => lo ≤ k ∧ k < W.heap.size) v xs :=
 Kd.zL (Kd.YI h) (fun k hk => ⟨hk.2.1, hk.2.2.1⟩)
theorem FB.keep {W W' : World} {lo hi g : Nat} {x : pq} (h : FB W lo hi g x) (hb : Below hi W W') : FB W' lo hi g x := by
 obtain ⟨v3, v4, v5, h1, h2, h3, h4, h5, h6⟩ := h
 exact ⟨v3, v4, v5, (hb.block g h3).trans h1, h2, h3, fJ h4 hb, fJ h5 hb, fJ h6 hb⟩
theorem FB.mk {W : World} {lo g : Nat} (x : pq) {v3 v4 v5 : Value} (h1 : W.heap[g]? = some (.cells #[.string x.f0, .bool x.f1, .int .i64 x.f2, v3, v4, v5] 26 (0, 0))) (h2 : lo ≤ g) (h3 : Kd.R uf 31 W lo (fun _ => True) v3 x.f3)
  (h4 : Kd.R jd 86 W lo (fun _ => True) v4 x.f4) (h5 : Kd.R jh 76 W lo (fun _ => True) v5 x.f5) : FB W lo W.heap.size g x :=
 ⟨v3, v4, v5, h1, h2, uD h1, zXl h3, zXl h4, zXl h5⟩
def jI : pq := ⟨⟨#[82]⟩, false, 250, Wq iI 550, rH, Wx⟩
def zJl : pq := ⟨⟨#[73]⟩, false, 250, YQ wdI 127, [], []⟩
def zJm : pq := ⟨⟨#[66]⟩, false, 250, Wq wdB 600, rH, []⟩
def zJn : pq := ⟨⟨#[77]⟩, false, 600, YQ wdM 127, [], []⟩
theorem zQy (W : World) (b : Nat) (ok : Nat → Prop) : yS (jh.M W b ok) jh.sz Wx [.string (⟨#[65]⟩ : ByteArray), .string (⟨#[86]⟩ : ByteArray), .int .i64 (-80), .string (⟨#[65]⟩ : ByteArray), .string (⟨#[87]⟩ : ByteArray), .int .i64 (-60), .string (⟨#[84]⟩ : ByteArray), .string (⟨#[111]⟩ : ByteArray), .int .i64 (-70), .string (⟨#[86]⟩ : ByteArray), .string (⟨#[65]⟩ : ByteArray), .int .i64 (-80), .string (⟨#[89]⟩ : ByteArray), .string (⟨#[111]⟩ : ByteArray), .int .i64 (-90)] := by
 have h : ∀ (j : Nat) (p : vk), Wx[j]? = some p → jh.M W b ok p ((([.string (⟨#[65]⟩ : ByteArray), .string (⟨#[86]⟩ : ByteArray), .int .i64 (-80), .string (⟨#[65]⟩ : ByteArray), .string (⟨#[87]⟩ : ByteArray), .int .i64 (-60), .string (⟨#[84]⟩ : ByteArray), .string (⟨#[111]⟩ : ByteArray), .int .i64 (-70), .string (⟨#[86]⟩ : ByteArray), .string (⟨#[65]⟩ : ByteArray), .int .i64 (-80), .string (⟨#[89]⟩ : ByteArray), .string (⟨#[111]⟩ : ByteArray), .int .i64 (-90)] : List Value).drop (j * 3)).take 3) := by
  intro j p hj
  rcases j with _ | _ | _ | _ | _ | j
  ·obtain rfl := Option.some.inj hj
   exact JI W b ok (⟨(⟨#[65]⟩ : ByteArray), (⟨#[86]⟩ : ByteArray), (-80)⟩ : vk)
  ·obtain rfl := Option.some.inj hj
   exact JI W b ok (⟨(⟨#[65]⟩ : ByteArray), (⟨#[87]⟩ : ByteArray), (-60)⟩ : vk)
  ·obtain rfl := Option.some.inj hj
   exact JI W b ok (⟨(⟨#[84]⟩ : ByteArray), (⟨#[111]⟩ : ByteArray), (-70)⟩ : vk)
  ·obtain rfl := Option.some.inj hj
   exact JI W b ok (⟨(⟨#[86]⟩ : ByteArray), (⟨#[65]⟩ : ByteArray), (-80)⟩ : vk)
  ·obtain rfl := Option.some.inj hj
   exact JI W b ok (⟨(⟨#[89]⟩ : ByteArray), (⟨#[111]⟩ : ByteArray), (-90)⟩ : vk)
  ·simp [Wx] at hj
 exact ⟨rfl, h⟩
theorem FB.cells {W : World} {lo hi g : Nat} {x : pq} (h : FB W lo hi g x) : ∃ A3 n3 c3 A4 n4 c4 A5 n5 c5, W.heap[g]? = some (.cells #[.string x.f0, .bool x.f1, .int .i64 x.f2, .slice A3 n3 c3, .slice A4 n4 c4, .slice A5 n5 c5] 26 (0, 0)) ∧
  ∀ (W' : World) (base : Nat) (ok : Nat → Prop), Below W.heap.size W W' → base ≤ lo → (∀ k, lo ≤ k → k < hi → ok k) → k26.M W' base ok x [.string x.f0, .bool x.f1, .int .i64 x.f2, .slice A3 n3 c3, .slice A4 n4 c4, .slice A5 n5 c5] := by
 obtain ⟨v3, v4, v5, h1, h2, h3, h4, h5, h6⟩ := h
 obtain ⟨A3, c3, rfl⟩ := Kd.y9 h4
 obtain ⟨A4, c4, rfl⟩ := Kd.y9 h5
 obtain ⟨A5, c5, rfl⟩ := Kd.y9 h6
 refine ⟨A3, _, c3, A4, _, c4, A5, _, c5, h1, fun W' base ok hb hl hok => ?_⟩
 exact zVJ W' base ok x (Kd.zL (Kd.xI (Kd.qz h4 hb) hl) (fun k hk => hok k hk.1 hk.2)) (Kd.zL (Kd.xI (Kd.qz h5 hb) hl) (fun k hk => hok k hk.1 hk.2)) (Kd.zL (Kd.xI (Kd.qz h6 hb) hl) (fun k hk => hok k hk.1 hk.2))
theorem V6 {W : World} {g : Nat} (h : W.heap[g]? = some (.cells #[.string (⟨#[]⟩ : ByteArray), .bool false, .int .i64 0, .slice none 0 0, .slice none 0 0, .slice none 0 0] 26 (0, 0))) (a : ByteArray) (b : Bool) (c : Int) (v3 v4 v5 : Value) :
  ((((((W.setCell ⟨g, 0, none⟩ (.string a)).setCell ⟨g, 1, none⟩ (.bool b)).setCell ⟨g, 2, none⟩ (.int .i64 c)).setCell ⟨g, 3, none⟩ v3).setCell ⟨g, 4, none⟩ v4).setCell ⟨g, 5, none⟩ v5).heap[g]? = some (.cells #[.string a, .bool b, .int .i64 c, v3, v4, v5] 26 (0, 0)) :=
 yC (yC (yC (yC (yC (yC (cs' := #[.string a, .bool false, .int .i64 0, .slice none 0 0, .slice none 0 0, .slice none 0 0]) h 0 _ rfl) (cs' := #[.string a, .bool b, .int .i64 0, .slice none 0 0, .slice none 0 0, .slice none 0 0]) 1 _ rfl)
  (cs' := #[.string a, .bool b, .int .i64 c, .slice none 0 0, .slice none 0 0, .slice none 0 0]) 2 _ rfl) (cs' := #[.string a, .bool b, .int .i64 c, v3, .slice none 0 0, .slice none 0 0]) 3 _ rfl) (cs' := #[.string a, .bool b, .int .i64 c, v3, v4, .slice none 0 0]) 4 _ rfl) 5 _ rfl
theorem JK {W0 W : World} {B g : Nat} (h : Below B W0 W) (hg : B ≤ g) (u0 u1 u2 u3 u4 u5 : Value) :
  Below B W0 ((((((W.setCell ⟨g, 0, none⟩ u0).setCell ⟨g, 1, none⟩ u1).setCell ⟨g, 2, none⟩ u2).setCell ⟨g, 3, none⟩ u3).setCell ⟨g, 4, none⟩ u4).setCell ⟨g, 5, none⟩ u5) :=
 (((((h.setCell hg _).setCell hg _).setCell hg _).setCell hg _).setCell hg _).setCell hg _
def ZI (j : Nat) : ByteArray := ⟨(aX.getD j []).toArray⟩
theorem zjG (j : Nat) : (ZI j).size ≤ 6 := by
 show ((aX.getD j []).toArray).size ≤ 6
 rw [List.size_toArray, List.getD_eq_getElem?_getD]
 cases h : aX[j]? with
 | none => simp
 | some x => exact zwE x (List.mem_of_getElem? h)
def dW (m : Nat) : List qg := (List.range m).map fun i => ⟨ZI (2 * i), (mR (ZI (2 * i + 1))).1⟩
theorem zQw (m : Nat) : dW (m + 1) = dW m ++ [⟨ZI (2 * m), (mR (ZI (2 * m + 1))).1⟩] := by unfold dW; rw [List.range_succ, List.map_append]; rfl
theorem zXm (m : Nat) : (dW m).length = m := by simp [dW]
def zJo : pq := ⟨⟨#[83]⟩, true, 250, dW 35, [], []⟩
def Vp : Array Value := (aX.map fun l => Value.string ⟨l.toArray⟩).toArray
theorem dh (j : Nat) (h : j < 70) : Vp[j]? = some (.string (ZI j)) := by
 have hl : j < aX.length := by rw [zjQ]; exact h
 unfold Vp ZI
 simp [List.getD_eq_getElem?_getD, hl]
def dn : List pq := [jI, zJl, zJm, zJn, zJo]
def std.T14 : Bool × List (List Nat × List Nat) := (true, [([], []), ([0], [0]), ([], []), ([], []), ([2, 3], [2, 3]), ([4], [4]), ([], []), ([5, 6], [5, 6]), ([7], [7]), ([1, 8], [1, 8]), ([0, 1, 2, 3, 4, 5, 6, 7, 8, 9], []), ([10, 9, 9, 0, 1, 2, 3, 4, 5, 6, 7, 8, 9], [9, 10])])
theorem std.zwf : u6 .any (opsOf Tryz.f13 14) = std.T14 := by kernel_rfl
def zfk (W4 : World) (g5 bw : Nat) (x : Value) (wr : World) : Prop :=
 ∃ (m k : Nat) (u : Value), x = .int .i64 (k : Int) ∧ k = 2 * m ∧ m ≤ 35 ∧ Kd.R uf 31 wr W4.heap.size (fun _ => True) u (dW m) ∧ wr.heap[g5]? = some (.cells #[.string (⟨#[83]⟩ : ByteArray), .bool true, .int .i64 250, u, .slice none 0 0, .slice none 0 0] 26 (0, 0)) ∧
  wr.heap[bw]? = some (.cells Vp 9 (0, 0)) ∧ Below W4.heap.size W4 wr
set_option maxHeartbeats 8000000 in
set_option maxRecDepth 100000 in
theorem zKq (w : World) (hG : GW w) : Calls Tryz.prog 13 #[] w fun e w' => ∃ v : Value, e = .returned v ∧ Kd.S k26 26 w' w.heap.size (fun _ => True) v dn ∧ Below w.heap.size w w' := by
 have mJ := Tryz.underlying26
 have HGW := zx.mk hG
 clear hG
 have zwF := zx.mk (Below.refl w.heap.size w)
 generalize hW0 : w = nk at zwF HGW
 go_enter Tryz.func13, Tryz.ntmps13
 go_wp2_with (first | ((with_reducible refine qx (N := 13) rfl ?_); refine Kd.ZP uf nk.heap.size 31 ?hg (N := 13) ?hd (w0 := nk) (xs := (YJ 550)) (inner := [.string (⟨#[102, 105]⟩ : ByteArray), .int .i64 550, .string (⟨#[102, 108]⟩ : ByteArray), .int .i64 550, .string (⟨#[102, 102]⟩ : ByteArray), .int .i64 550]) (ok := fun _ => True) (jc := fun _ => True) ?hr ?hp (fun _ hk => hk) trivial zwF.out zwF.out.size (by simp [YJ]) ?_; (case hd => rfl); (case hg => rfl); (case hr => first | (go_simp; done) | (go_simp; rfl)); (case hp => exact zjX 550 _ _ _); intro u0 wl hol hbl hgl aJ; have HL_ := zx.mk hol; have aV := zx.mk hbl; have zXn := zx.mk aJ; clear hol hbl hgl aJ zwF))
 refine (dY 30 _ Tryz.func30 (by kernel_rfl) rfl iI zzr (⟨#[82]⟩ : ByteArray) 250 nk.heap.size u0 (YJ 550) (Wq iI 550) wl aV.out.size HL_.out (by simp [YJ]) (zk5 iI 550) (zQv iI 550)).mono ?_
 rintro e w1 ⟨v1, rfl, hr, hb, -, -⟩
 have HR1 := zx.mk hr
 have HB1 := zx.mk (aV.out.trans hb)
 clear hr hb HL_ aV zXn
 obtain ⟨A1, c1, e1⟩ := Kd.y9 HR1.out
 generalize (Wq iI 550).length = n1 at e1
 subst e1
 go_wp2_with (first | ((with_reducible refine qx (N := 1) rfl ?_); refine ql ?hg (N := 1) ?hd (cs := #[.string (⟨#[]⟩ : ByteArray), .bool false, .int .i64 0, .slice none 0 0, .slice none 0 0, .slice none 0 0]) (t := 26) ?hr ?_; (case hd => rfl); (case hg => rfl); (case hr => first | (go_simp; done) | (go_simp; rfl)); intro g1 WT w2 hbx hbq; have XH := zx.mk hbx; have zJp := zx.mk hbq; have zwG := zx.mk WT; clear hbx hbq WT; have zbf : w2.cell? ⟨g1, 0, none⟩ = some (.string (⟨#[]⟩ : ByteArray)) := (zk XH.out 0).trans rfl; have zbg : w2.cell? ⟨g1, 1, none⟩ = some (.bool false) := (zk XH.out 1).trans rfl; have zbh : w2.cell? ⟨g1, 2, none⟩ = some (.int .i64 0) := (zk XH.out 2).trans rfl; have zbi : w2.cell? ⟨g1, 3, none⟩ = some (.slice none 0 0) := (zk XH.out 3).trans rfl; have zbl : w2.cell? ⟨g1, 4, none⟩ = some (.slice none 0 0) := (zk XH.out 4).trans rfl; have zbm : w2.cell? ⟨g1, 5, none⟩ = some (.slice none 0 0) := (zk XH.out 5).trans rfl; have zbn := zw XH.out 0; have zbo := zw XH.out 1; have zbp := zw XH.out 2; have zbr := zw XH.out 3; have zbs := zw XH.out 4; have zbt := zw XH.out 5))
 have zf := zx.mk (V6 XH.out (⟨#[82]⟩ : ByteArray) false 250 (.slice A1 n1 c1) (.slice none 0 0) (.slice none 0 0))
 have zA := zx.mk (JK (zJp.out) (Nat.le_of_eq zwG.out.symm) (.string (⟨#[82]⟩ : ByteArray)) (.bool false) (.int .i64 250) (.slice A1 n1 c1) (.slice none 0 0) (.slice none 0 0))
 have LG1 := zx.mk (Nat.le_trans HB1.out.size (Nat.le_of_eq zwG.out.symm))
 clear zbf zbg zbh zbi zbl zbm zbn zbo zbp zbr zbs zbt
 generalize ((((((w2.setCell ⟨g1, 0, none⟩ (.string (⟨#[82]⟩ : ByteArray))).setCell ⟨g1, 1, none⟩ (.bool false)).setCell ⟨g1, 2, none⟩ (.int .i64 250)).setCell ⟨g1, 3, none⟩ (.slice A1 n1 c1)).setCell ⟨g1, 4, none⟩ (.slice none 0 0)).setCell ⟨g1, 5, none⟩ (.slice none 0 0)) = w3 at zf zA ⊢
 have zh := zx.mk (Kd.qz HR1.out zA.out)
 have zR := zx.mk (HB1.out.trans (zA.out.mono HB1.out.size))
 clear HR1 HB1 XH zJp zwG zA
 have QH := zf
 have HR1 := zh
 have HB1 := zR
 clear zf zh zR
 refine (QK.calls rH w3 rfl).mono ?_
 rintro e w4 ⟨v4, rfl, hr, hb⟩
 have zf := zx.mk (zl QH.out hb)
 have zh := zx.mk (Kd.qz HR1.out hb)
 have zA := zx.mk (Kd.xI hr HB1.out.size)
 have zR := zx.mk (HB1.out.trans (hb.mono HB1.out.size))
 clear QH HR1 HB1 hr hb
 have QH := zf
 have HR1 := zh
 have sF := zA
 have HB1 := zR
 clear zf zh zA zR
 obtain ⟨A4, c4, e4⟩ := Kd.y9 sF.out
 generalize rH.length = n4 at e4
 subst e4
 have hq4 : w4.cell? ⟨g1, 4, none⟩ = some (.slice none 0 0) := (zk QH.out 4).trans rfl
 have zXo := zw QH.out 4
 go_wp2_with (first | ((with_reducible refine qx (N := 22) rfl ?_); have zf := zx.mk (yC (cs' := #[.string (⟨#[82]⟩ : ByteArray), .bool false, .int .i64 250, .slice A1 n1 c1, .slice A4 n4 c4, .slice none 0 0]) QH.out 4 (.slice A4 n4 c4) rfl); have zh := zx.mk (Kd.YV HR1.out QH.out (by decide) 4 (.slice A4 n4 c4)); have zA := zx.mk (Kd.YV sF.out QH.out (by decide) 4 (.slice A4 n4 c4)); have zR := zx.mk (HB1.out.setCell (p := ⟨g1, 4, none⟩) LG1.out (.slice A4 n4 c4)); clear QH HR1 sF HB1 hq4 zXo; have QH := zf; have HR1 := zh; have sF := zA; have HB1 := zR; clear zf zh zA zR; generalize w4.setCell ⟨g1, 4, none⟩ (.slice A4 n4 c4) = w5 at QH HR1 sF HB1 ⊢; refine Kd.ZP jh nk.heap.size 76 ?hg (N := 22) ?hd (w0 := nk) (xs := Wx) (inner := [.string (⟨#[65]⟩ : ByteArray), .string (⟨#[86]⟩ : ByteArray), .int .i64 (-80), .string (⟨#[65]⟩ : ByteArray), .string (⟨#[87]⟩ : ByteArray), .int .i64 (-60), .string (⟨#[84]⟩ : ByteArray), .string (⟨#[111]⟩ : ByteArray), .int .i64 (-70), .string (⟨#[86]⟩ : ByteArray), .string (⟨#[65]⟩ : ByteArray), .int .i64 (-80), .string (⟨#[89]⟩ : ByteArray), .string (⟨#[111]⟩ : ByteArray), .int .i64 (-90)]) (ok := fun _ => True) (jc := fun _ => True) ?hr ?hp (fun _ hk => hk) trivial HB1.out HB1.out.size (by simp [Wx]) ?_; (case hd => rfl); (case hg => rfl); (case hr => first | (go_simp; done) | (go_simp; rfl)); (case hp => exact zQy _ _ _); intro v5 wk hol hbl hgl aJ; obtain ⟨A5, c5, e5⟩ := Kd.y9 hol; generalize Wx.length = n5 at e5; subst e5; have zf := zx.mk (qQ QH.out hgl (by simp)); have zh := zx.mk (Kd.zjN HR1.out hgl (fun _ _ => by simp)); have zA := zx.mk (Kd.zjN sF.out hgl (fun _ _ => by simp)); have zR := zx.mk hol; have qV := zx.mk hbl; clear QH HR1 sF HB1 hol hbl hgl aJ; have QH := zf; have HR1 := zh; have sF := zA; have jv := zR; have HB1 := qV; clear zf zh zA zR qV; have hq5 : wk.cell? ⟨g1, 5, none⟩ = some (.slice none 0 0) := (zk QH.out 5).trans rfl; have zfy := zw QH.out 5))
 have zf := zx.mk (yC (cs' := #[.string (⟨#[82]⟩ : ByteArray), .bool false, .int .i64 250, .slice A1 n1 c1, .slice A4 n4 c4, .slice A5 n5 c5]) QH.out 5 (.slice A5 n5 c5) rfl)
 have zh := zx.mk (Kd.YV HR1.out QH.out (by decide) 5 (.slice A5 n5 c5))
 have zA := zx.mk (Kd.YV sF.out QH.out (by decide) 5 (.slice A5 n5 c5))
 have zR := zx.mk (Kd.YV jv.out QH.out (by decide) 5 (.slice A5 n5 c5))
 have qV := zx.mk (HB1.out.setCell (p := ⟨g1, 5, none⟩) LG1.out (.slice A5 n5 c5))
 clear QH HR1 sF jv HB1 hq5 zfy
 generalize wk.setCell ⟨g1, 5, none⟩ (.slice A5 n5 c5) = W1_ at zf zh zA zR qV ⊢
 have FB1 := zx.mk (FB.mk jI zf.out LG1.out zh.out zA.out zR.out)
 have BW0 := zx.mk qV.out
 clear zf zh zA zR qV LG1
 refine (dY 32 _ Tryz.func32 (by kernel_rfl) rfl wdI zV8 (⟨#[73]⟩ : ByteArray) 250 W1_.heap.size (.slice none 0 0) [] (YQ wdI 127) W1_ (Nat.le_refl _) (Kd.ku _ _ _ _ _) (by simp [YJ]) (by rw [List.nil_append]) (zQk wdI)).mono ?_
 rintro e w6 ⟨v6, rfl, hr, hb, -, -⟩
 have HR2 := zx.mk hr
 have HB2 := zx.mk hb
 clear hr hb
 obtain ⟨A6, c6, e6⟩ := Kd.y9 HR2.out
 generalize (YQ wdI 127).length = n6 at e6
 subst e6
 go_wp2_with (first | ((with_reducible refine qx (N := 2) rfl ?_); refine ql ?hg (N := 2) ?hd (cs := #[.string (⟨#[]⟩ : ByteArray), .bool false, .int .i64 0, .slice none 0 0, .slice none 0 0, .slice none 0 0]) (t := 26) ?hr ?_; (case hd => rfl); (case hg => rfl); (case hr => first | (go_simp; done) | (go_simp; rfl)); intro g2 WT w7 hbx hbq; have XI := zx.mk hbx; have zJr := zx.mk hbq; have zwH := zx.mk WT; clear hbx hbq WT; have zbu : w7.cell? ⟨g2, 0, none⟩ = some (.string (⟨#[]⟩ : ByteArray)) := (zk XI.out 0).trans rfl; have zbA : w7.cell? ⟨g2, 1, none⟩ = some (.bool false) := (zk XI.out 1).trans rfl; have zbB : w7.cell? ⟨g2, 2, none⟩ = some (.int .i64 0) := (zk XI.out 2).trans rfl; have zbC : w7.cell? ⟨g2, 3, none⟩ = some (.slice none 0 0) := (zk XI.out 3).trans rfl; have zbD : w7.cell? ⟨g2, 4, none⟩ = some (.slice none 0 0) := (zk XI.out 4).trans rfl; have zbE : w7.cell? ⟨g2, 5, none⟩ = some (.slice none 0 0) := (zk XI.out 5).trans rfl; have zbF := zw XI.out 0; have zbG := zw XI.out 1; have zbH := zw XI.out 2; have zbI := zw XI.out 3; have zbL := zw XI.out 4; have zbM := zw XI.out 5) | ((with_reducible refine qx (N := 28) rfl ?_); have zf := zx.mk (V6 XI.out (⟨#[73]⟩ : ByteArray) false 250 (.slice A6 n6 c6) (.slice none 0 0) (.slice none 0 0)); have zA := zx.mk (JK (zJr.out) (Nat.le_of_eq zwH.out.symm) (.string (⟨#[73]⟩ : ByteArray)) (.bool false) (.int .i64 250) (.slice A6 n6 c6) (.slice none 0 0) (.slice none 0 0)); have LG2 := zx.mk (Nat.le_trans HB2.out.size (Nat.le_of_eq zwH.out.symm)); clear zbu zbA zbB zbC zbD zbE zbF zbG zbH zbI zbL zbM; generalize ((((((w7.setCell ⟨g2, 0, none⟩ (.string (⟨#[73]⟩ : ByteArray))).setCell ⟨g2, 1, none⟩ (.bool false)).setCell ⟨g2, 2, none⟩ (.int .i64 250)).setCell ⟨g2, 3, none⟩ (.slice A6 n6 c6)).setCell ⟨g2, 4, none⟩ (.slice none 0 0)).setCell ⟨g2, 5, none⟩ (.slice none 0 0)) = iL at zf zA ⊢; have FB2 := zx.mk (FB.mk zJl zf.out LG2.out (Kd.qz HR2.out zA.out) (Kd.ku _ _ _ _ _) (Kd.ku _ _ _ _ _)); have JY := zx.mk (HB2.out.trans (zA.out.mono HB2.out.size)); clear HR2 HB2 XI zJr zwH LG2 zf zA; refine Kd.ZP uf iL.heap.size 31 ?hg (N := 28) ?hd (w0 := iL) (xs := (YJ 600)) (inner := [.string (⟨#[102, 105]⟩ : ByteArray), .int .i64 600, .string (⟨#[102, 108]⟩ : ByteArray), .int .i64 600, .string (⟨#[102, 102]⟩ : ByteArray), .int .i64 600]) (ok := fun _ => True) (jc := fun _ => True) ?hr ?hp (fun _ hk => hk) trivial (Below.refl _ _) (Nat.le_refl _) (by simp [YJ]) ?_; (case hd => rfl); (case hg => rfl); (case hr => first | (go_simp; done) | (go_simp; rfl)); (case hp => exact zjX 600 _ _ _); intro u0 wl hol hbl hgl aJ; have HL_ := zx.mk hol; have aV := zx.mk hbl; have zXn := zx.mk aJ; clear hol hbl hgl aJ))
 refine (dY 33 _ Tryz.func33 (by kernel_rfl) rfl wdB zV9 (⟨#[66]⟩ : ByteArray) 250 iL.heap.size u0 (YJ 600) (Wq wdB 600) wl aV.out.size HL_.out (by simp [YJ]) (zk5 wdB 600) (zQv wdB 600)).mono ?_
 rintro e w9 ⟨v9, rfl, hr, hb, -, -⟩
 have HR3 := zx.mk hr
 have HB3 := zx.mk (aV.out.trans hb)
 clear hr hb HL_ aV zXn
 obtain ⟨A9, c9, e9⟩ := Kd.y9 HR3.out
 generalize (Wq wdB 600).length = n9 at e9
 subst e9
 go_wp2_with (first | ((with_reducible refine qx (N := 3) rfl ?_); refine ql ?hg (N := 3) ?hd (cs := #[.string (⟨#[]⟩ : ByteArray), .bool false, .int .i64 0, .slice none 0 0, .slice none 0 0, .slice none 0 0]) (t := 26) ?hr ?_; (case hd => rfl); (case hg => rfl); (case hr => first | (go_simp; done) | (go_simp; rfl)); intro g3 WT XE hbx hbq; have XL := zx.mk hbx; have zJs := zx.mk hbq; have zwI := zx.mk WT; clear hbx hbq WT; have zbN : XE.cell? ⟨g3, 0, none⟩ = some (.string (⟨#[]⟩ : ByteArray)) := (zk XL.out 0).trans rfl; have zbO : XE.cell? ⟨g3, 1, none⟩ = some (.bool false) := (zk XL.out 1).trans rfl; have zbP : XE.cell? ⟨g3, 2, none⟩ = some (.int .i64 0) := (zk XL.out 2).trans rfl; have zbR : XE.cell? ⟨g3, 3, none⟩ = some (.slice none 0 0) := (zk XL.out 3).trans rfl; have zbS : XE.cell? ⟨g3, 4, none⟩ = some (.slice none 0 0) := (zk XL.out 4).trans rfl; have zbT : XE.cell? ⟨g3, 5, none⟩ = some (.slice none 0 0) := (zk XL.out 5).trans rfl; have zbU := zw XL.out 0; have zb0 := zw XL.out 1; have zb1 := zw XL.out 2; have zb2 := zw XL.out 3; have zb3 := zw XL.out 4; have zb4 := zw XL.out 5))
 have zf := zx.mk (V6 XL.out (⟨#[66]⟩ : ByteArray) false 250 (.slice A9 n9 c9) (.slice none 0 0) (.slice none 0 0))
 have zA := zx.mk (JK (zJs.out) (Nat.le_of_eq zwI.out.symm) (.string (⟨#[66]⟩ : ByteArray)) (.bool false) (.int .i64 250) (.slice A9 n9 c9) (.slice none 0 0) (.slice none 0 0))
 have LG3 := zx.mk (Nat.le_trans HB3.out.size (Nat.le_of_eq zwI.out.symm))
 clear zbN zbO zbP zbR zbS zbT zbU zb0 zb1 zb2 zb3 zb4
 generalize ((((((XE.setCell ⟨g3, 0, none⟩ (.string (⟨#[66]⟩ : ByteArray))).setCell ⟨g3, 1, none⟩ (.bool false)).setCell ⟨g3, 2, none⟩ (.int .i64 250)).setCell ⟨g3, 3, none⟩ (.slice A9 n9 c9)).setCell ⟨g3, 4, none⟩ (.slice none 0 0)).setCell ⟨g3, 5, none⟩ (.slice none 0 0)) = sG at zf zA ⊢
 have zh := zx.mk (Kd.qz HR3.out zA.out)
 have zR := zx.mk (HB3.out.trans (zA.out.mono HB3.out.size))
 clear HR3 HB3 XL zJs zwI zA
 have iM := zf
 have HR3 := zh
 have HB3 := zR
 clear zf zh zR
 refine (QK.calls rH sG rfl).mono ?_
 rintro e Xz ⟨v12, rfl, hr, hb⟩
 have zf := zx.mk (zl iM.out hb)
 have zh := zx.mk (Kd.qz HR3.out hb)
 have zA := zx.mk (Kd.xI hr HB3.out.size)
 have zR := zx.mk (HB3.out.trans (hb.mono HB3.out.size))
 clear iM HR3 HB3 hr hb
 have iM := zf
 have HR3 := zh
 have HL3 := zA
 have HB3 := zR
 clear zf zh zA zR
 obtain ⟨ny, c12, e12⟩ := Kd.y9 HL3.out
 generalize rH.length = n12 at e12
 subst e12
 have hq4 : Xz.cell? ⟨g3, 4, none⟩ = some (.slice none 0 0) := (zk iM.out 4).trans rfl
 have zXo := zw iM.out 4
 go_wp2_with fail
 have zf := zx.mk (yC (cs' := #[.string (⟨#[66]⟩ : ByteArray), .bool false, .int .i64 250, .slice A9 n9 c9, .slice ny n12 c12, .slice none 0 0]) iM.out 4 (.slice ny n12 c12) rfl)
 have zh := zx.mk (Kd.YV HR3.out iM.out (by decide) 4 (.slice ny n12 c12))
 have zA := zx.mk (Kd.YV HL3.out iM.out (by decide) 4 (.slice ny n12 c12))
 have zR := zx.mk (HB3.out.setCell (p := ⟨g3, 4, none⟩) LG3.out (.slice ny n12 c12))
 clear iM HR3 HL3 HB3 hq4 zXo
 generalize Xz.setCell ⟨g3, 4, none⟩ (.slice ny n12 c12) = W3_ at zf zh zA zR ⊢
 have FB3 := zx.mk (FB.mk zJm zf.out LG3.out zh.out zA.out (Kd.ku _ _ _ _ _))
 have Jt := zx.mk zR.out
 clear zf zh zA zR LG3
 refine (dY 34 _ Tryz.func34 (by kernel_rfl) rfl wdM zKz (⟨#[77]⟩ : ByteArray) 600 W3_.heap.size (.slice none 0 0) [] (YQ wdM 127) W3_ (Nat.le_refl _) (Kd.ku _ _ _ _ _) (by simp [YJ]) (by rw [List.nil_append]) (zQk wdM)).mono ?_
 rintro e w13 ⟨v13, rfl, hr, hb, -, -⟩
 have HR4 := zx.mk hr
 have V7 := zx.mk hb
 clear hr hb
 obtain ⟨A13, c13, e13⟩ := Kd.y9 HR4.out
 generalize (YQ wdM 127).length = n13 at e13
 subst e13
 go_wp2_with (first | ((with_reducible refine qx (N := 4) rfl ?_); refine ql ?hg (N := 4) ?hd (cs := #[.string (⟨#[]⟩ : ByteArray), .bool false, .int .i64 0, .slice none 0 0, .slice none 0 0, .slice none 0 0]) (t := 26) ?hr ?_; (case hd => rfl); (case hg => rfl); (case hr => first | (go_simp; done) | (go_simp; rfl)); intro g4 WT Ya hbx hbq; have XM := zx.mk hbx; have zJt := zx.mk hbq; have zwL := zx.mk WT; clear hbx hbq WT; have zb5 : Ya.cell? ⟨g4, 0, none⟩ = some (.string (⟨#[]⟩ : ByteArray)) := (zk XM.out 0).trans rfl; have zb6 : Ya.cell? ⟨g4, 1, none⟩ = some (.bool false) := (zk XM.out 1).trans rfl; have zb7 : Ya.cell? ⟨g4, 2, none⟩ = some (.int .i64 0) := (zk XM.out 2).trans rfl; have zb8 : Ya.cell? ⟨g4, 3, none⟩ = some (.slice none 0 0) := (zk XM.out 3).trans rfl; have zb9 : Ya.cell? ⟨g4, 4, none⟩ = some (.slice none 0 0) := (zk XM.out 4).trans rfl; have zcz : Ya.cell? ⟨g4, 5, none⟩ = some (.slice none 0 0) := (zk XM.out 5).trans rfl; have zcq := zw XM.out 0; have zcx := zw XM.out 1; have zcj := zw XM.out 2; have zcv := zw XM.out 3; have zck := zw XM.out 4; have zcy := zw XM.out 5) | ((with_reducible refine qx (N := 5) rfl ?_); have zf := zx.mk (V6 XM.out (⟨#[77]⟩ : ByteArray) false 600 (.slice A13 n13 c13) (.slice none 0 0) (.slice none 0 0)); have zA := zx.mk (JK (zJt.out) (Nat.le_of_eq zwL.out.symm) (.string (⟨#[77]⟩ : ByteArray)) (.bool false) (.int .i64 600) (.slice A13 n13 c13) (.slice none 0 0) (.slice none 0 0)); have LG4 := zx.mk (Nat.le_trans V7.out.size (Nat.le_of_eq zwL.out.symm)); clear zb5 zb6 zb7 zb8 zb9 zcz zcq zcx zcj zcv zck zcy; generalize ((((((Ya.setCell ⟨g4, 0, none⟩ (.string (⟨#[77]⟩ : ByteArray))).setCell ⟨g4, 1, none⟩ (.bool false)).setCell ⟨g4, 2, none⟩ (.int .i64 600)).setCell ⟨g4, 3, none⟩ (.slice A13 n13 c13)).setCell ⟨g4, 4, none⟩ (.slice none 0 0)).setCell ⟨g4, 5, none⟩ (.slice none 0 0)) = nZ at zf zA ⊢; have FB4 := zx.mk (FB.mk zJn zf.out LG4.out (Kd.qz HR4.out zA.out) (Kd.ku _ _ _ _ _) (Kd.ku _ _ _ _ _)); have BW3 := zx.mk (V7.out.trans (zA.out.mono V7.out.size)); clear HR4 V7 XM zJt zwL LG4 zf zA; refine ql ?hg (N := 5) ?hd (cs := #[.string (⟨#[]⟩ : ByteArray), .bool false, .int .i64 0, .slice none 0 0, .slice none 0 0, .slice none 0 0]) (t := 26) ?hr ?_; (case hd => rfl); (case hg => rfl); (case hr => first | (go_simp; done) | (go_simp; rfl)); intro g5 WT JW hbx hbq; have XO := zx.mk hbx; have zJu := zx.mk hbq; have zwM := zx.mk WT; clear hbx hbq WT; have zcw : JW.cell? ⟨g5, 0, none⟩ = some (.string (⟨#[]⟩ : ByteArray)) := (zk XO.out 0).trans rfl; have zcZ : JW.cell? ⟨g5, 1, none⟩ = some (.bool false) := (zk XO.out 1).trans rfl; have zcQ : JW.cell? ⟨g5, 2, none⟩ = some (.int .i64 0) := (zk XO.out 2).trans rfl; have zcX : JW.cell? ⟨g5, 3, none⟩ = some (.slice none 0 0) := (zk XO.out 3).trans rfl; have zcJ : JW.cell? ⟨g5, 4, none⟩ = some (.slice none 0 0) := (zk XO.out 4).trans rfl; have zcV : JW.cell? ⟨g5, 5, none⟩ = some (.slice none 0 0) := (zk XO.out 5).trans rfl; have zcK := zw XO.out 0; have zcY := zw XO.out 1; have zcW := zw XO.out 2; have zca := zw XO.out 3; have zcb := zw XO.out 4; have zcc := zw XO.out 5))
 have zf := zx.mk (V6 XO.out (⟨#[83]⟩ : ByteArray) true 250 (.slice none 0 0) (.slice none 0 0) (.slice none 0 0))
 have zA := zx.mk (JK (zJu.out) (Nat.le_of_eq zwM.out.symm) (.string (⟨#[83]⟩ : ByteArray)) (.bool true) (.int .i64 250) (.slice none 0 0) (.slice none 0 0) (.slice none 0 0))
 have LG5 := zx.mk (Nat.le_of_eq zwM.out.symm)
 clear zcw zcZ zcQ zcX zcJ zcV zcK zcY zcW zca zcb zcc
 generalize ((((((JW.setCell ⟨g5, 0, none⟩ (.string (⟨#[83]⟩ : ByteArray))).setCell ⟨g5, 1, none⟩ (.bool true)).setCell ⟨g5, 2, none⟩ (.int .i64 250)).setCell ⟨g5, 3, none⟩ (.slice none 0 0)).setCell ⟨g5, 4, none⟩ (.slice none 0 0)).setCell ⟨g5, 5, none⟩ (.slice none 0 0)) = w16 at zf zA ⊢
 clear XO zJu zwM
 have BX5 := zf
 have Qo := zA
 clear zf zA
 have GWS := zx.mk (HGW.out.under (BW0.out.trans ((JY.out.mono BW0.out.size).trans ((Jt.out.mono (Nat.le_trans BW0.out.size JY.out.size)).trans (BW3.out.mono (Nat.le_trans BW0.out.size (Nat.le_trans JY.out.size Jt.out.size)))))))
 refine (Tryz.strings_Fields rG w16 (by decide +kernel) zjF (GWS.out.under Qo.out).spc).mono ?_
 rintro e Zw ⟨rfl, zjJ⟩
 have hlen : (Lib.fields rG.data.toList).length = 70 := zjQ
 rw [hlen]
 clear hlen
 have hcw : ((Lib.fields rG.data.toList).map fun l => Value.string ⟨l.toArray⟩).toArray = Vp := rfl
 rw [hcw] at zjJ
 have BKW := zx.mk (show Zw.heap[w16.heap.size]? = some (.cells Vp 9 (0, 0)) by rw [zjJ]; exact je _ _)
 have zf := zZ BX5.out (.cells Vp 9)
 rw [← zjJ] at zf
 have zh := zx.mk (show Below nZ.heap.size nZ Zw by rw [zjJ]; exact Qo.out.alloc Qo.out.size _)
 clear BX5 Qo zjJ hcw
 have BX5 := zx.mk zf
 have Qo := zh
 clear zf zh
 generalize w16.heap.size = bw at BKW ⊢
 go_wp2
 go_loopw [7, 8, 9] (fun x y z wr => zfk nZ g5 bw x wr) (fun x y z _ => 70 - (intOf x).toNat)
 case atStart => exact ⟨0, 0, _, rfl, rfl, by omega, Kd.ku _ _ _ _ _, BX5.out, BKW.out, Qo.out⟩
 case round =>
  obtain ⟨m, k, u, rfl, hk0, hm, kG, BX0, BK0, HB0⟩ := hrel
  have HKK := zx.mk hk0
  have hkm : k ≤ 2 * m := by omega
  have hmk : 2 * m ≤ k := by omega
  clear hk0
  have ZB := zx.mk kG
  have BX := zx.mk BX0
  have BK := zx.mk BK0
  have YX := zx.mk HB0
  clear kG BX0 BK0 HB0 BX5 BKW Qo
  by_cases hlt : m < 35
  ·have q1 : decide ((k : Int) < 70) = true := decide_eq_true (by omega)
   have q2 : IntKind.i64.wrap ((k : Int) + 1) = (k : Int) + 1 := IntWalk.i64_in _ (by omega)
   have hcell : wr.cell? ⟨bw, k + 1, none⟩ = some (.string (ZI (k + 1))) := (zk BK.out _).trans (dh _ (by omega))
   go_wp2_with fail
   have zzs := zwB (ZI (k + 1)) wr (by have := zjG (k + 1); omega) (GWS.out.under YX.out)
   refine zzs.mono ?_
   rintro e YD ⟨rfl, hb⟩
   clear zzs hcell q2
   have zf := zx.mk (Kd.qw (Kd.qz ZB.out hb))
   have zh := zx.mk (zX (zl BX.out hb))
   have zA := zx.mk (zX (zl BK.out hb))
   have zR := zx.mk ((YX.out.trans (hb.mono YX.out.size)).drew)
   clear ZB BX BK YX hb
   have ZB := zf
   have BX := zh
   have BK := zA
   have YX := zR
   clear zf zh zA zR
   have zXp : k < 70 := by omega
   have q5 : ((k : Int) < 70) = True := eq_true (by omega)
   go_wp2
   refine Zj (n := 12) (S := fun w' => w'.cell? ⟨g5, 3, none⟩ = some u ∧ w'.cell? ⟨bw, k, none⟩ = some (.string (ZI k))) (ds := [11]) #[false, false, false, false, false, false, false, false, false, false, false, false] (by kernel_rfl) rfl rfl ⟨(zk BX.out 3).trans rfl, (zk BK.out _).trans (dh _ zXp)⟩ (fun hHeld => ?_)
   refine cO std.zwf (fun zM => ?_)
   generalize YD.drew = w16 at ZB BX BK YX hHeld ⊢
   refine kC (i := 0) (N := some 50) (v := ?_) (a' := ?_) #[true, false, false, false, false, false, false, false, false, false, false, false] rfl rfl (jr zM.out (by kernel_rfl)) (fun _ _ _ h => h) (Or.inl ⟨by rfl, ?_⟩) ?_ ?_
   rotate_left
   ·intro w'
    go_simp
    with_reducible rfl
   rotate_left
   ·simp only [Act.put, List.setIfInBounds_toArray, List.set_cons_zero, List.set_cons_succ]
    rfl
   refine kC (i := 2) (N := some 52) (v := ?_) (a' := ?_) #[true, false, true, false, false, false, false, false, false, false, false, false] rfl rfl (jr zM.out (by kernel_rfl)) (fun _ _ _ h => h) (Or.inl ⟨by rfl, ?_⟩) ?_ ?_
   rotate_left
   ·intro w'
    go_simp
    with_reducible rfl
   rotate_left
   ·simp only [Act.put, List.setIfInBounds_toArray, List.set_cons_zero, List.set_cons_succ]
    rfl
   refine kC (i := 3) (N := some 53) (v := ?_) (a' := ?_) #[true, false, true, true, false, false, false, false, false, false, false, false] rfl rfl (jr zM.out (by kernel_rfl)) (fun _ _ _ h => h) (Or.inl ⟨by rfl, ?_⟩) ?_ ?_
   rotate_left
   ·intro w'
    go_simp
    with_reducible rfl
   rotate_left
   ·simp only [Act.put, List.setIfInBounds_toArray, List.set_cons_zero, List.set_cons_succ]
    rfl
   refine kC (i := 4) (N := some 54) (v := ?_) (a' := ?_) #[true, false, true, true, true, false, false, false, false, false, false, false] rfl rfl (jr zM.out (by kernel_rfl)) (fun _ _ _ h => h) (Or.inl ⟨by rfl, ?_⟩) ?_ ?_
   rotate_left
   ·intro w'
    go_simp
    with_reducible rfl
   rotate_left
   ·simp only [Act.put, List.setIfInBounds_toArray, List.set_cons_zero, List.set_cons_succ]
    rfl
   refine kC (i := 6) (N := some 56) (v := ?_) (a' := ?_) #[true, false, true, true, true, false, true, false, false, false, false, false] rfl rfl (jr zM.out (by kernel_rfl)) (fun _ _ _ h => h) (Or.inl ⟨by rfl, ?_⟩) ?_ ?_
   rotate_left
   ·intro w'
    go_simp
    with_reducible rfl
   rotate_left
   ·simp only [Act.put, List.setIfInBounds_toArray, List.set_cons_zero, List.set_cons_succ]
    rfl
   refine cB (i := 1) (N := some 51) (v := ?_) (a' := ?_) #[true, true, true, true, true, false, true, false, false, false, false, false] rfl rfl (ni zM.out (by kernel_rfl)) (fun _ _ _ h => h) (Or.inl ⟨by rfl, ?_⟩) hHeld ?_ ?_
   rotate_left
   ·rintro w' ⟨s0, s1⟩
    go_simp
    with_reducible rfl
   rotate_left
   ·simp only [Act.put, List.setIfInBounds_toArray, List.set_cons_zero, List.set_cons_succ]
    rfl
   refine cB (i := 5) (N := some 55) (v := ?_) (a' := ?_) #[true, true, true, true, true, true, true, false, false, false, false, false] rfl rfl (ni zM.out (by kernel_rfl)) (fun _ _ _ h => h) (Or.inl ⟨by rfl, ?_⟩) hHeld ?_ ?_
   rotate_left
   ·rintro w' ⟨s0, s1⟩
    go_simp
    with_reducible rfl
   rotate_left
   ·simp only [Act.put, List.setIfInBounds_toArray, List.set_cons_zero, List.set_cons_succ]
    rfl
   refine kC (i := 7) (N := some 57) (v := ?_) (a' := ?_) #[true, true, true, true, true, true, true, true, false, false, false, false] rfl rfl (jr zM.out (by kernel_rfl)) (fun _ _ _ h => h) (Or.inl ⟨by rfl, ?_⟩) ?_ ?_
   rotate_left
   ·intro w'
    go_simp
    with_reducible rfl
   rotate_left
   ·simp only [Act.put, List.setIfInBounds_toArray, List.set_cons_zero, List.set_cons_succ]
    rfl
   refine sO (i := 8) (N := some 58) #[true, true, true, true, true, true, true, true, true, false, false, false] rfl rfl (wI zM.out (by kernel_rfl)) (by decide) (fun K hK => ?_)
   refine zxb (w1 := ?_) (v := ?_) (by rfl) rfl ?_ ?_
   rotate_left 2
   ·go_simp
    constructor
    ·rfl
    ·rfl
   refine hK.out _ _ ⟨(zk (zZ BX.out _) 3).trans rfl, (zk (zZ BK.out _) _).trans (dh _ zXp)⟩ (fun hHeld => ?_)
   clear hK K
   refine YK (a' := ?_) ?_ ?_
   rotate_left
   ·show Act.put _ (some 58) _ = _
    simp only [Act.put, List.setIfInBounds_toArray, List.set_cons_zero, List.set_cons_succ]
    rfl
   refine sO (i := 9) (N := some 59) #[true, true, true, true, true, true, true, true, true, true, false, false] rfl rfl (wI zM.out (by kernel_rfl)) (by decide) (fun K hK => ?_)
   refine Kd.kL uf (w0 := nZ) nZ.heap.size (by rfl) (.tmp 51) (.tmp 58) 22 31 (.agg #[(.string ⟨#[]⟩), (.int .i64 0)]) 24 rfl Tryz.underlying22 zxh rfl (by decide) (by omega) u (dW m) (⟨ZI k, (mR (ZI (k + 1))).1⟩ : qg) [.string (ZI k), .int .i64 (mR (ZI (k + 1))).1] (fun _ => True) (fun _ => False) rfl rfl ?aP (fun _ hk => hk.elim) ?aF ?aO ?aB ?aS ?aL ?_
   (case aP => exact UY _ _ _ (⟨ZI k, (mR (ZI (k + 1))).1⟩ : qg))
   (case aF => exact (fun _ _ => trivial))
   (case aO => exact ZB.out)
   (case aB => exact YX.out)
   (case aS => exact YX.out.size)
   (case aL => rw [zXm]; omega)
   intro v1 YD ho hb hg hat
   rw [HKK.out, ← zQw] at ho
   obtain ⟨Ao, co, eo⟩ := Kd.y9 ho
   subst eo
   generalize (dW (m + 1)).length = nn at ho hat ⊢
   have zf := zx.mk (qQ BX.out hg (Kd.kE ZB.out BX.out (by decide)))
   have zh := zx.mk (qQ BK.out hg (Kd.kE ZB.out BK.out (by decide)))
   have zA := zx.mk hb
   have zR := zx.mk ho
   clear BX BK YX ZB ho hb hg hat hHeld
   have BX := zf
   have BK := zh
   have YX := zA
   have ZB := zR
   clear zf zh zA zR
   refine hK.out _ _ ⟨(zk BX.out 3).trans rfl, (zk BK.out _).trans (dh _ zXp)⟩ (fun hHeld => ?_)
   clear hK K
   refine YK (a' := ?_) ?_ ?_
   rotate_left
   ·show Act.put _ (some 59) _ = _
    simp only [Act.put, List.setIfInBounds_toArray, List.set_cons_zero, List.set_cons_succ]
    rfl
   refine kC (i := 10) (N := some 60) (v := ?_) (a' := ?_) #[true, true, true, true, true, true, true, true, true, true, true, false] rfl rfl (jr zM.out (by kernel_rfl)) (fun _ _ _ h => h) (Or.inl ⟨by rfl, ?_⟩) ?_ ?_
   rotate_left
   ·intro w'
    go_simp
    with_reducible rfl
   rotate_left
   ·simp only [Act.put, List.setIfInBounds_toArray, List.set_cons_zero, List.set_cons_succ]
    rfl
   refine Qw (i := 11) (N := none) #[true, true, true, true, true, true, true, true, true, true, true, true] rfl rfl (wI zM.out (by kernel_rfl)) (by decide) (fun K hK => ?_)
   have QS : YD.cell? ⟨g5, 3, none⟩ = some u := (zk BX.out 3).trans rfl
   have XZ := zw BX.out 3
   refine QZ (w1 := ?_) (by rfl) rfl ?_ ?_
   rotate_left
   ·go_simp
    rfl
   refine hK.out _ _ ?_
   clear hK K
   refine uO (vW zM.out (by kernel_rfl)) ?_
   have zf := zx.mk (yC (cs' := #[.string (⟨#[83]⟩ : ByteArray), .bool true, .int .i64 250, .slice Ao nn co, .slice none 0 0, .slice none 0 0]) BX.out 3 (.slice Ao nn co) rfl)
   have zh := zx.mk (zO BK.out (p := ⟨g5, 3, none⟩) (zYh BK.out BX.out (by decide)) (.slice Ao nn co))
   have zA := zx.mk (YX.out.setCell (p := ⟨g5, 3, none⟩) LG5.out (.slice Ao nn co))
   have zR := zx.mk (Kd.YV ZB.out BX.out (by decide) 3 (.slice Ao nn co))
   clear BX BK YX ZB hHeld QS XZ
   generalize YD.setCell ⟨g5, 3, none⟩ (.slice Ao nn co) = mP at zf zh zA zR ⊢
   have q4 : IntKind.i64.wrap ((k : Int) + 2) = ((k + 2 : Nat) : Int) := (IntWalk.i64_in _ (by omega)).trans (by omega)
   go_wp2
   go_roundw
   case rel => exact ⟨m + 1, k + 2, .slice Ao nn co, by first | rfl | (rw [q4]; done) | (simp; done), by have := HKK.out; omega, by omega, zR.out, zf.out, zh.out, zA.out⟩
   case measure => first | (simp [intOf]; omega) | (rw [q4]; simp [intOf]; omega)
  ·have zWO : m = 35 := by omega
   have q1 : decide ((k : Int) < 70) = false := decide_eq_false (by omega)
   have hR5 := ZB.out
   rw [zWO] at hR5
   have BC3 := BW3.out.trans (YX.out.mono BW3.out.size)
   have bH := Jt.out.trans (BC3.mono Jt.out.size)
   have BC1 := JY.out.trans (bH.mono JY.out.size)
   have BC0 := BW0.out.trans (BC1.mono BW0.out.size)
   obtain ⟨Aa1, na1, ca1, Ab1, nb1, cb1, Ac1, nc1, cc1, bk1, KM1⟩ := (FB1.out.keep BC1).cells
   obtain ⟨Aa2, na2, ca2, Ab2, nb2, cb2, Ac2, nc2, cc2, bk2, KM2⟩ := (FB2.out.keep bH).cells
   obtain ⟨Aa3, na3, ca3, Ab3, nb3, cb3, Ac3, nc3, cc3, bk3, KM3⟩ := (FB3.out.keep BC3).cells
   obtain ⟨Aa4, na4, ca4, Ab4, nb4, cb4, Ac4, nc4, cc4, bk4, KM4⟩ := (FB4.out.keep YX.out).cells
   obtain ⟨Aa5, na5, ca5, Ab5, nb5, cb5, Ac5, nc5, cc5, bk5, KM5⟩ := (FB.mk zJo BX.out LG5.out hR5 (Kd.ku _ _ _ _ _) (Kd.ku _ _ _ _ _)).cells
   have BCA := zx.mk BC0
   have KA1 := zx.mk KM1
   have KA2 := zx.mk KM2
   have KA3 := zx.mk KM3
   have KA4 := zx.mk KM4
   have KA5 := zx.mk KM5
   have S0 := zx.mk BW0.out.size
   have S1 := zx.mk JY.out.size
   have S2 := zx.mk Jt.out.size
   have S3 := zx.mk BW3.out.size
   have S4 := zx.mk YX.out.size
   have zfw : wr.cell? ⟨g1, 0, none⟩ = some (.string (⟨#[82]⟩ : ByteArray)) := (zk bk1 0).trans rfl
   have zfZ : wr.cell? ⟨g1, 1, none⟩ = some (.bool false) := (zk bk1 1).trans rfl
   have zfQ : wr.cell? ⟨g1, 2, none⟩ = some (.int .i64 250) := (zk bk1 2).trans rfl
   have zfX : wr.cell? ⟨g1, 3, none⟩ = some (.slice Aa1 na1 ca1) := (zk bk1 3).trans rfl
   have zfJ : wr.cell? ⟨g1, 4, none⟩ = some (.slice Ab1 nb1 cb1) := (zk bk1 4).trans rfl
   have zfV : wr.cell? ⟨g1, 5, none⟩ = some (.slice Ac1 nc1 cc1) := (zk bk1 5).trans rfl
   have zfK : wr.cell? ⟨g2, 0, none⟩ = some (.string (⟨#[73]⟩ : ByteArray)) := (zk bk2 0).trans rfl
   have zfY : wr.cell? ⟨g2, 1, none⟩ = some (.bool false) := (zk bk2 1).trans rfl
   have zfW : wr.cell? ⟨g2, 2, none⟩ = some (.int .i64 250) := (zk bk2 2).trans rfl
   have zfa : wr.cell? ⟨g2, 3, none⟩ = some (.slice Aa2 na2 ca2) := (zk bk2 3).trans rfl
   have hx24 : wr.cell? ⟨g2, 4, none⟩ = some (.slice Ab2 nb2 cb2) := (zk bk2 4).trans rfl
   have hx25 : wr.cell? ⟨g2, 5, none⟩ = some (.slice Ac2 nc2 cc2) := (zk bk2 5).trans rfl
   have zfb : wr.cell? ⟨g3, 0, none⟩ = some (.string (⟨#[66]⟩ : ByteArray)) := (zk bk3 0).trans rfl
   have hx31 : wr.cell? ⟨g3, 1, none⟩ = some (.bool false) := (zk bk3 1).trans rfl
   have hx32 : wr.cell? ⟨g3, 2, none⟩ = some (.int .i64 250) := (zk bk3 2).trans rfl
   have zfc : wr.cell? ⟨g3, 3, none⟩ = some (.slice Aa3 na3 ca3) := (zk bk3 3).trans rfl
   have hx34 : wr.cell? ⟨g3, 4, none⟩ = some (.slice Ab3 nb3 cb3) := (zk bk3 4).trans rfl
   have zfd : wr.cell? ⟨g3, 5, none⟩ = some (.slice Ac3 nc3 cc3) := (zk bk3 5).trans rfl
   have zfe : wr.cell? ⟨g4, 0, none⟩ = some (.string (⟨#[77]⟩ : ByteArray)) := (zk bk4 0).trans rfl
   have zff : wr.cell? ⟨g4, 1, none⟩ = some (.bool false) := (zk bk4 1).trans rfl
   have zfg : wr.cell? ⟨g4, 2, none⟩ = some (.int .i64 600) := (zk bk4 2).trans rfl
   have zfh : wr.cell? ⟨g4, 3, none⟩ = some (.slice Aa4 na4 ca4) := (zk bk4 3).trans rfl
   have zfi : wr.cell? ⟨g4, 4, none⟩ = some (.slice Ab4 nb4 cb4) := (zk bk4 4).trans rfl
   have zfl : wr.cell? ⟨g4, 5, none⟩ = some (.slice Ac4 nc4 cc4) := (zk bk4 5).trans rfl
   have zWP : wr.cell? ⟨g5, 0, none⟩ = some (.string (⟨#[83]⟩ : ByteArray)) := (zk bk5 0).trans rfl
   have zfm : wr.cell? ⟨g5, 1, none⟩ = some (.bool true) := (zk bk5 1).trans rfl
   have zfn : wr.cell? ⟨g5, 2, none⟩ = some (.int .i64 250) := (zk bk5 2).trans rfl
   have zfo : wr.cell? ⟨g5, 3, none⟩ = some (.slice Aa5 na5 ca5) := (zk bk5 3).trans rfl
   have zfp : wr.cell? ⟨g5, 4, none⟩ = some (.slice Ab5 nb5 cb5) := (zk bk5 4).trans rfl
   have zfr : wr.cell? ⟨g5, 5, none⟩ = some (.slice Ac5 nc5 cc5) := (zk bk5 5).trans rfl
   clear hR5 BC0 BC1 bH BC3 KM1 KM2 KM3 KM4 KM5 bk1 bk2 bk3 bk4 bk5 ZB BX BK YX hkm hmk zWO hm hlt HKK FB1 FB2 FB3 FB4 BW0 JY Jt BW3 GWS HGW LG5
   go_wp2
   clear zfw zfZ zfQ zfX zfJ zfV zfK zfY zfW zfa hx24 hx25 zfb hx31 hx32 zfc hx34 zfd zfe zff zfg zfh zfi zfl zWP zfm zfn zfo zfp zfr
   have hbn := yu (Below.refl wr.heap.size wr) (.cells #[.string (⟨#[82]⟩ : ByteArray), .bool false, .int .i64 250, .slice Aa1 na1 ca1, .slice Ab1 nb1 cb1, .slice Ac1 nc1 cc1, .string (⟨#[73]⟩ : ByteArray), .bool false, .int .i64 250, .slice Aa2 na2 ca2, .slice Ab2 nb2 cb2, .slice Ac2 nc2 cc2, .string (⟨#[66]⟩ : ByteArray), .bool false, .int .i64 250, .slice Aa3 na3 ca3, .slice Ab3 nb3 cb3, .slice Ac3 nc3 cc3, .string (⟨#[77]⟩ : ByteArray), .bool false, .int .i64 600, .slice Aa4 na4 ca4, .slice Ab4 nb4 cb4, .slice Ac4 nc4 cc4, .string (⟨#[83]⟩ : ByteArray), .bool true, .int .i64 250, .slice Aa5 na5 ca5, .slice Ab5 nb5 cb5, .slice Ac5 nc5 cc5] 26)
   have hnew := je wr (.cells #[.string (⟨#[82]⟩ : ByteArray), .bool false, .int .i64 250, .slice Aa1 na1 ca1, .slice Ab1 nb1 cb1, .slice Ac1 nc1 cc1, .string (⟨#[73]⟩ : ByteArray), .bool false, .int .i64 250, .slice Aa2 na2 ca2, .slice Ab2 nb2 cb2, .slice Ac2 nc2 cc2, .string (⟨#[66]⟩ : ByteArray), .bool false, .int .i64 250, .slice Aa3 na3 ca3, .slice Ab3 nb3 cb3, .slice Ac3 nc3 cc3, .string (⟨#[77]⟩ : ByteArray), .bool false, .int .i64 600, .slice Aa4 na4 ca4, .slice Ab4 nb4 cb4, .slice Ac4 nc4 cc4, .string (⟨#[83]⟩ : ByteArray), .bool true, .int .i64 250, .slice Aa5 na5 ca5, .slice Ab5 nb5 cb5, .slice Ac5 nc5 cc5] 26 (0, 0))
   have hbw := BCA.out.alloc BCA.out.size (.cells #[.string (⟨#[82]⟩ : ByteArray), .bool false, .int .i64 250, .slice Aa1 na1 ca1, .slice Ab1 nb1 cb1, .slice Ac1 nc1 cc1, .string (⟨#[73]⟩ : ByteArray), .bool false, .int .i64 250, .slice Aa2 na2 ca2, .slice Ab2 nb2 cb2, .slice Ac2 nc2 cc2, .string (⟨#[66]⟩ : ByteArray), .bool false, .int .i64 250, .slice Aa3 na3 ca3, .slice Ab3 nb3 cb3, .slice Ac3 nc3 cc3, .string (⟨#[77]⟩ : ByteArray), .bool false, .int .i64 600, .slice Aa4 na4 ca4, .slice Ab4 nb4 cb4, .slice Ac4 nc4 cc4, .string (⟨#[83]⟩ : ByteArray), .bool true, .int .i64 250, .slice Aa5 na5 ca5, .slice Ab5 nb5 cb5, .slice Ac5 nc5 cc5] 26)
   have hS : Kd.S k26 26 (wr.alloc (.cells #[.string (⟨#[82]⟩ : ByteArray), .bool false, .int .i64 250, .slice Aa1 na1 ca1, .slice Ab1 nb1 cb1, .slice Ac1 nc1 cc1, .string (⟨#[73]⟩ : ByteArray), .bool false, .int .i64 250, .slice Aa2 na2 ca2, .slice Ab2 nb2 cb2, .slice Ac2 nc2 cc2, .string (⟨#[66]⟩ : ByteArray), .bool false, .int .i64 250, .slice Aa3 na3 ca3, .slice Ab3 nb3 cb3, .slice Ac3 nc3 cc3, .string (⟨#[77]⟩ : ByteArray), .bool false, .int .i64 600, .slice Aa4 na4 ca4, .slice Ab4 nb4 cb4, .slice Ac4 nc4 cc4, .string (⟨#[83]⟩ : ByteArray), .bool true, .int .i64 250, .slice Aa5 na5 ca5, .slice Ab5 nb5 cb5, .slice Ac5 nc5 cc5] 26)) nk.heap.size (fun _ => True) (.slice (some ⟨wr.heap.size, 0, none⟩) 5 5) dn := by
    generalize wr.alloc (.cells #[.string (⟨#[82]⟩ : ByteArray), .bool false, .int .i64 250, .slice Aa1 na1 ca1, .slice Ab1 nb1 cb1, .slice Ac1 nc1 cc1, .string (⟨#[73]⟩ : ByteArray), .bool false, .int .i64 250, .slice Aa2 na2 ca2, .slice Ab2 nb2 cb2, .slice Ac2 nc2 cc2, .string (⟨#[66]⟩ : ByteArray), .bool false, .int .i64 250, .slice Aa3 na3 ca3, .slice Ab3 nb3 cb3, .slice Ac3 nc3 cc3, .string (⟨#[77]⟩ : ByteArray), .bool false, .int .i64 600, .slice Aa4 na4 ca4, .slice Ab4 nb4 cb4, .slice Ac4 nc4 cc4, .string (⟨#[83]⟩ : ByteArray), .bool true, .int .i64 250, .slice Aa5 na5 ca5, .slice Ab5 nb5 cb5, .slice Ac5 nc5 cc5] 26) = w' at hbn hnew ⊢
    have s0 := S0.out
    have s1 := S1.out
    have s2 := S2.out
    have s3 := S3.out
    have s4 := S4.out
    refine ⟨fun k => if k < W1_.heap.size then 0 else if k < iL.heap.size then 1 else if k < W3_.heap.size then 2 else if k < nZ.heap.size then 3 else 4, fun _ _ => trivial, [.string (⟨#[82]⟩ : ByteArray), .bool false, .int .i64 250, .slice Aa1 na1 ca1, .slice Ab1 nb1 cb1, .slice Ac1 nc1 cc1, .string (⟨#[73]⟩ : ByteArray), .bool false, .int .i64 250, .slice Aa2 na2 ca2, .slice Ab2 nb2 cb2, .slice Ac2 nc2 cc2, .string (⟨#[66]⟩ : ByteArray), .bool false, .int .i64 250, .slice Aa3 na3 ca3, .slice Ab3 nb3 cb3, .slice Ac3 nc3 cc3, .string (⟨#[77]⟩ : ByteArray), .bool false, .int .i64 600, .slice Aa4 na4 ca4, .slice Ab4 nb4 cb4, .slice Ac4 nc4 cc4, .string (⟨#[83]⟩ : ByteArray), .bool true, .int .i64 250, .slice Aa5 na5 ca5, .slice Ab5 nb5 cb5, .slice Ac5 nc5 cc5], ⟨rfl, .inr ⟨wr.heap.size, 5, _, rfl, BCA.out.size, hnew, by decide, by decide, rfl, rfl⟩⟩, rfl, fun j p hj => ?_⟩
    have hne : ∀ q, q < wr.heap.size → some q ≠ (Value.slice (some ⟨wr.heap.size, 0, none⟩) 5 5).ownBlock := by
     intro q hq e
     have : wr.heap.size = q := by simpa [Value.ownBlock] using e.symm
     omega
    rcases j with _ | _ | _ | _ | _ | j
    ·obtain rfl := Option.some.inj hj
     refine KA1.out w' nk.heap.size _ hbn (by omega) (fun q h1 h2 => ⟨⟨trivial, hne q (by omega)⟩, ?_⟩)
     show (if q < W1_.heap.size then 0 else if q < iL.heap.size then 1 else if q < W3_.heap.size then 2 else if q < nZ.heap.size then 3 else 4) = 0
     repeat' split
     all_goals omega
    ·obtain rfl := Option.some.inj hj
     refine KA2.out w' nk.heap.size _ hbn (by omega) (fun q h1 h2 => ⟨⟨trivial, hne q (by omega)⟩, ?_⟩)
     show (if q < W1_.heap.size then 0 else if q < iL.heap.size then 1 else if q < W3_.heap.size then 2 else if q < nZ.heap.size then 3 else 4) = 1
     repeat' split
     all_goals omega
    ·obtain rfl := Option.some.inj hj
     refine KA3.out w' nk.heap.size _ hbn (by omega) (fun q h1 h2 => ⟨⟨trivial, hne q (by omega)⟩, ?_⟩)
     show (if q < W1_.heap.size then 0 else if q < iL.heap.size then 1 else if q < W3_.heap.size then 2 else if q < nZ.heap.size then 3 else 4) = 2
     repeat' split
     all_goals omega
    ·obtain rfl := Option.some.inj hj
     refine KA4.out w' nk.heap.size _ hbn (by omega) (fun q h1 h2 => ⟨⟨trivial, hne q (by omega)⟩, ?_⟩)
     show (if q < W1_.heap.size then 0 else if q < iL.heap.size then 1 else if q < W3_.heap.size then 2 else if q < nZ.heap.size then 3 else 4) = 3
     repeat' split
     all_goals omega
    ·obtain rfl := Option.some.inj hj
     refine KA5.out w' nk.heap.size _ hbn (by omega) (fun q h1 h2 => ⟨⟨trivial, hne q (by omega)⟩, ?_⟩)
     show (if q < W1_.heap.size then 0 else if q < iL.heap.size then 1 else if q < W3_.heap.size then 2 else if q < nZ.heap.size then 3 else 4) = 4
     repeat' split
     all_goals omega
    ·simp [dn] at hj
   clear hbn hnew
   go_ret
   exact ⟨_, rfl, hS, hbw⟩
def wF.f : Option (List pq) := some dn
theorem wF.calls (r : List pq) (w : World) (hG : GW w) (h : wF.f = some r) :
  Calls Tryz.prog 13 #[] w fun e w' => ∃ Jk : Value, e = .returned Jk ∧ Kd.S k26 26 w' w.heap.size (fun _ => True) Jk r ∧ Below w.heap.size w w' := by
 obtain rfl := Option.some.inj h
 exact zKq w hG
end Go.Proofs.YtaifemkokfoadaaGreatDoor
namespace Go.Proofs.YtaifemkokfoadaaGreatDoor
open Go.RowKit Go.Proofs.zy.zu Go.Proofs.zy.yD Go.Proofs.YtaifemkokfoadaaGreatDoor.PX
set_option maxRecDepth 100000
set_option linter.unusedVariables false
theorem zKx : vG.f 1000 = some dn := by kernel_rfl
theorem zXr : dn.length = 5 := rfl
end Go.Proofs.YtaifemkokfoadaaGreatDoor
namespace Go.Proofs.YtaifemkokfoadaaGreatDoor.PX
open Go.RowKit Go.Proofs.zy.zu Go.Proofs.zy.yI Go.Proofs.zy.yD
attribute [local go_sem] xw xZ xP xR qD qE xQ xX   -- for this text's walks alone
set_option linter.unusedVariables false
set_option linter.unusedSimpArgs false
def kI.f (zG : ByteArray) (zH : Bool) (zC : Int) (ze : List (qg)) (zn : List (xC)) (zm : List (vk)) (a1 : Int) : Option (Bool) := if a1 ≥ 1 then (if a1 ≤ 1000 then ((jV.f zG zH zC ze zn zm).bind fun zzt => (some zzt)) else (some false)) else (some false)
set_option maxHeartbeats 8000000 in
set_option maxRecDepth 100000 in
theorem kI.calls (zG : ByteArray) (zH : Bool) (zC : Int) (yG : Option Addr) (yH : Nat) (ze : List (qg)) (yM : Option Addr) (yN : Nat) (zn : List (xC)) (yO : Option Addr) (yP : Nat) (zm : List (vk)) (a1 : Int) (r : Bool) (w : World) (vS : Kd.C uf w yG ze.length ze) (uP : ze.length ≤ yH) (uR : Kd.C jd w yM zn.length zn) (uS : zn.length ≤ yN) (uT : Kd.C jh w yO zm.length zm) (uU : zm.length ≤ yP) (hG : GW w) (h : kI.f zG zH zC ze zn zm a1 = some r) :
  Calls Tryz.prog 26 #[.agg #[.string zG, .bool zH, .int .i64 zC, .slice yG ze.length yH, .slice yM zn.length yN, .slice yO zm.length yP], .int .i64 a1] w fun e w' => e = .returned (.bool r) ∧ Below w.heap.size w w' := by
 have mJ := Tryz.underlying26
 have HG := zx.mk hG
 clear hG
 have uG := zx.mk vS
 have jD := zx.mk uP
 clear vS uP
 have jy := zx.mk uR
 have jE := zx.mk uS
 clear uR uS
 have jw := zx.mk uT
 have jF := zx.mk uU
 clear uT uU
 have HB := zx.mk (Below.refl w.heap.size w)
 have H : (if a1 ≥ 1 then (if a1 ≤ 1000 then ((jV.f zG zH zC ze zn zm).bind fun zzt => (some zzt)) else (some false)) else (some false)) = some r := h
 clear h
 by_cases c3 : a1 ≥ 1
 ·rw [if_pos c3] at H
  have ZR : decide (1 ≤ a1) = true := decide_eq_true c3
  clear c3
  by_cases c4 : a1 ≤ 1000
  ·rw [if_pos c4] at H
   have Xw : decide (a1 ≤ 1000) = true := decide_eq_true c4
   clear c4
   replace H := Option.bind_eq_some_iff.mp H
   obtain ⟨zzt, A50, H⟩ := H
   replace H : (some zzt) = some r := H
   have A5 := zx.mk A50
   clear A50
   obtain rfl := Option.some.inj H
   go_enter Tryz.func26, Tryz.ntmps26
   go_wp2_with (first | ((with_reducible refine qx (N := 2) rfl ?_); refine ql ?hg (N := 2) ?hd (cs := #[.string zG, .bool zH, .int .i64 zC, .slice yG ze.length yH, .slice yM zn.length yN, .slice yO zm.length yP]) (t := 26) ?hr ?_; (case hd => rfl); (case hg => rfl); (case hr => first | (go_simp; done) | (go_simp; rfl)); intro Xd hg w6 qK hb; have zf := zx.mk (zI (zD HB.out) hb); have zh := zx.mk (qK); have zA := zx.mk ((by rw [hg]; exact (zV (zD HB.out)) : w.heap.size ≤ Xd)); have zR := zx.mk ((by rw [hg]; exact (zV (zD HB.out)) : w.heap.size ≤ Xd)); clear HB; have HB := zf; have Yr := zh; have zJA := zA; have iN := zR; clear zf zh zA zR; clear hb qK hg; have zxt : w6.cell? ⟨Xd, 0, none⟩ = some (.string zG) := (zk Yr.out 0).trans rfl; have zxu : w6.cell? ⟨Xd, 1, none⟩ = some (.bool zH) := (zk Yr.out 1).trans rfl; have zxA : w6.cell? ⟨Xd, 2, none⟩ = some (.int .i64 zC) := (zk Yr.out 2).trans rfl; have zxB : w6.cell? ⟨Xd, 3, none⟩ = some (.slice yG ze.length yH) := (zk Yr.out 3).trans rfl; have zxC : w6.cell? ⟨Xd, 4, none⟩ = some (.slice yM zn.length yN) := (zk Yr.out 4).trans rfl; have zxD : w6.cell? ⟨Xd, 5, none⟩ = some (.slice yO zm.length yP) := (zk Yr.out 5).trans rfl; have zxE := zw Yr.out 0; have zxF := zw Yr.out 1; have zxG := zw Yr.out 2; have zxH := zw Yr.out 3; have zxI := zw Yr.out 4; have zxL := zw Yr.out 5) | (go_at_call 17; (with_reducible refine (jV.calls zG zH zC _ _ ze _ _ zn _ _ zm zzt _ ?y8 ?qy ?vT ?vU ?uz ?uq ?pK A5.out).mono ?_); (case y8 => repeat (first | exact (Kd.zY uG.out HB.out) | (with_reducible refine Kd.zS ?_ _) | (with_reducible refine Kd.zT ?_ _) | (with_reducible refine Kd.yc ?_))); (case qy => exact jD.out); (case vT => repeat (first | exact (Kd.zY jy.out HB.out) | (with_reducible refine Kd.zS ?_ _) | (with_reducible refine Kd.zT ?_ _) | (with_reducible refine Kd.yc ?_))); (case vU => exact jE.out); (case uz => repeat (first | exact (Kd.zY jw.out HB.out) | (with_reducible refine Kd.zS ?_ _) | (with_reducible refine Kd.zT ?_ _) | (with_reducible refine Kd.yc ?_))); (case uq => exact jF.out); (case pK => exact GW.under HG.out (zD HB.out)); rintro e w8 ⟨rfl, hb⟩; have zf := zx.mk (zl (g := Xd) (o := .cells #[.string zG, .bool zH, .int .i64 zC, .slice yG ze.length yH, .slice yM zn.length yN, .slice yO zm.length yP] 26 (0, 0)) (yt Yr.out) hb); have zh := zx.mk (zI (zD HB.out) hb); clear Yr; clear HB; have Yr := zf; have HB := zh; clear zf zh; (try clear hb); (try clear hb2); (try clear hk); (try clear hi)))
   go_ret
   exact ⟨by first | rfl | (simp [zU, z8] <;> rfl) | (simp [*, zU, z8] <;> rfl), by repeat (first | (with_reducible first | exact HB.out | apply yu | apply zP | apply yT | refine qB ?_ iN.out) | exact HB.out)⟩
  ·rw [if_neg c4] at H
   have Xw : decide (a1 ≤ 1000) = false := decide_eq_false c4
   clear c4
   obtain rfl := Option.some.inj H
   go_enter Tryz.func26, Tryz.ntmps26
   go_wp2_with (first | ((with_reducible refine qx (N := 2) rfl ?_); refine ql ?hg (N := 2) ?hd (cs := #[.string zG, .bool zH, .int .i64 zC, .slice yG ze.length yH, .slice yM zn.length yN, .slice yO zm.length yP]) (t := 26) ?hr ?_; (case hd => rfl); (case hg => rfl); (case hr => first | (go_simp; done) | (go_simp; rfl)); intro Xd hg w9 qK hb; have zf := zx.mk (zI (zD HB.out) hb); have zh := zx.mk (qK); have zA := zx.mk ((by rw [hg]; exact (zV (zD HB.out)) : w.heap.size ≤ Xd)); have zR := zx.mk ((by rw [hg]; exact (zV (zD HB.out)) : w.heap.size ≤ Xd)); clear HB; have HB := zf; have Yr := zh; have zJA := zA; have iN := zR; clear zf zh zA zR; clear hb qK hg))
   go_ret
   exact ⟨by first | rfl | (simp [zU, z8] <;> rfl) | (simp [*, zU, z8] <;> rfl), by repeat (first | (with_reducible first | exact HB.out | apply yu | apply zP | apply yT | refine qB ?_ iN.out) | exact HB.out)⟩
 ·rw [if_neg c3] at H
  have ZR : decide (1 ≤ a1) = false := decide_eq_false c3
  clear c3
  obtain rfl := Option.some.inj H
  go_enter Tryz.func26, Tryz.ntmps26
  go_wp2_with (first | ((with_reducible refine qx (N := 2) rfl ?_); refine ql ?hg (N := 2) ?hd (cs := #[.string zG, .bool zH, .int .i64 zC, .slice yG ze.length yH, .slice yM zn.length yN, .slice yO zm.length yP]) (t := 26) ?hr ?_; (case hd => rfl); (case hg => rfl); (case hr => first | (go_simp; done) | (go_simp; rfl)); intro Xd hg XE qK hb; have zf := zx.mk (zI (zD HB.out) hb); have zh := zx.mk (qK); have zA := zx.mk ((by rw [hg]; exact (zV (zD HB.out)) : w.heap.size ≤ Xd)); have zR := zx.mk ((by rw [hg]; exact (zV (zD HB.out)) : w.heap.size ≤ Xd)); clear HB; have HB := zf; have Yr := zh; have zJA := zA; have iN := zR; clear zf zh zA zR; clear hb qK hg))
  go_ret
  exact ⟨by first | rfl | (simp [zU, z8] <;> rfl) | (simp [*, zU, z8] <;> rfl), by repeat (first | (with_reducible first | exact HB.out | apply yu | apply zP | apply yT | refine qB ?_ iN.out) | exact HB.out)⟩
def Qb.f (a0 : Int) (a1 : Int) : Option (Int) := if a0 < 0 then (if a1 = 0 then (none) else (some (wrap64 (-(wrap64 (Int.tdiv (wrap64 ((wrap64 ((wrap64 (-a0)) + a1)) - 1)) a1)))))) else (if a1 = 0 then (none) else (some (wrap64 (Int.tdiv a0 a1))))
set_option maxHeartbeats 8000000 in
set_option maxRecDepth 100000 in
theorem Qb.calls (a0 : Int) (a1 : Int) (r : Int) (w : World) (h : Qb.f a0 a1 = some r) :
  Calls Tryz.prog 88 #[.int .i64 a0, .int .i64 a1] w fun e w' => e = .returned (.int .i64 r) ∧ yx w w' := by
 have H : (if a0 < 0 then (if a1 = 0 then (none) else (some (wrap64 (-(wrap64 (Int.tdiv (wrap64 ((wrap64 ((wrap64 (-a0)) + a1)) - 1)) a1)))))) else (if a1 = 0 then (none) else (some (wrap64 (Int.tdiv a0 a1))))) = some r := h
 clear h
 by_cases c3 : a0 < 0
 ·rw [if_pos c3] at H
  have ZR : decide (a0 < 0) = true := decide_eq_true c3
  clear c3
  by_cases c4 : a1 = 0
  ·rw [if_pos c4] at H
   exact absurd H (by simp)
  ·rw [if_neg c4] at H
   have Xw : (a1 == 0) = false := beq_eq_false_iff_ne.mpr c4
   have zmZ : (a1 != 0) = true := bne_iff_ne.mpr c4
   obtain rfl := Option.some.inj H
   go_enter Tryz.func88, Tryz.ntmps88
   go_wp2
   go_ret
   exact ⟨by first | rfl | (simp; done) | (simp [*]; done), by repeat (first | exact yx.refl _ | apply yx.step)⟩
 ·rw [if_neg c3] at H
  have ZR : decide (a0 < 0) = false := decide_eq_false c3
  clear c3
  by_cases c5 : a1 = 0
  ·rw [if_pos c5] at H
   exact absurd H (by simp)
  ·rw [if_neg c5] at H
   have p8 : (a1 == 0) = false := beq_eq_false_iff_ne.mpr c5
   have ou : (a1 != 0) = true := bne_iff_ne.mpr c5
   obtain rfl := Option.some.inj H
   go_enter Tryz.func88, Tryz.ntmps88
   go_wp2
   go_ret
   exact ⟨by first | rfl | (simp; done) | (simp [*]; done), by repeat (first | exact yx.refl _ | apply yx.step)⟩
def uh.f (a0 : Int) (a1 : Int) : Option (Int) := (Qb.f (wrap64 ((wrap64 (10 * a1)) * a0)) 1000).bind fun zzu => (some zzu)
set_option maxHeartbeats 8000000 in
set_option maxRecDepth 100000 in
theorem uh.calls (a0 : Int) (a1 : Int) (r : Int) (w : World) (h : uh.f a0 a1 = some r) :
  Calls Tryz.prog 28 #[.int .i64 a0, .int .i64 a1] w fun e w' => e = .returned (.int .i64 r) ∧ yx w w' := by
 have H : ((Qb.f (wrap64 ((wrap64 (10 * a1)) * a0)) 1000).bind fun zzu => (some zzu)) = some r := h
 clear h
 replace H := Option.bind_eq_some_iff.mp H
 obtain ⟨zzu, Wu, H⟩ := H
 replace H : (some zzu) = some r := H
 have A3 := zx.mk Wu
 clear Wu
 obtain rfl := Option.some.inj H
 go_enter Tryz.func28, Tryz.ntmps28
 go_wp2_with (first | ((with_reducible refine yY (f := 88) rfl ?_); refine uN (some 9) Tryz.func88 #[.int .i64 (wrap64 ((wrap64 (10 * a1)) * a0)), .int .i64 1000] ?_; (with_reducible refine (Qb.calls (wrap64 ((wrap64 (10 * a1)) * a0)) 1000 zzu _ A3.out).mono ?_); rintro e w' ⟨rfl, ⟨nd, rfl⟩⟩; refine ⟨_, rfl, ?_⟩))
 go_ret
 exact ⟨by first | rfl | (simp; done) | (simp [*]; done), by repeat (first | exact yx.refl _ | apply yx.step)⟩
end Go.Proofs.YtaifemkokfoadaaGreatDoor.PX
namespace Go.Proofs.YtaifemkokfoadaaGreatDoor.PX
open Go.RowKit Go.Proofs.zy.zu Go.Proofs.zy.yI Go.Proofs.zy.yD
attribute [local go_sem] xw xZ xP xR qD qE xQ xX   -- for this text's walks alone
set_option linter.unusedVariables false
set_option linter.unusedSimpArgs false
def kT.f (zG : ByteArray) (zH : Bool) (zC : Int) (ze : List (qg)) (zn : List (xC)) (zm : List (vk)) (a1 : ByteArray) (a2 : Int) : Option (Int × Int) := (kI.f zG zH zC ze zn zm a2).bind fun zzA => (if zzA = true then ((kF.f zG zH zC ze zn zm a1).bind fun Z7 => (if Z7.2 = true then (if 0 ≤ Z7.1 then (if Z7.1 < (ze.length : Int) then ((uh.f ((xL ze Z7.1).f1) a2).bind fun V8 => (some (V8, 0))) else (none)) else (none)) else (some (0, 3)))) else (some (0, 1)))
set_option maxHeartbeats 8000000 in
set_option maxRecDepth 100000 in
theorem kT.calls (zG : ByteArray) (zH : Bool) (zC : Int) (yG : Option Addr) (yH : Nat) (ze : List (qg)) (yM : Option Addr) (yN : Nat) (zn : List (xC)) (yO : Option Addr) (yP : Nat) (zm : List (vk)) (a1 : ByteArray) (a2 : Int) (r1 : Int) (r2 : Int) (w : World) (vS : Kd.C uf w yG ze.length ze) (uP : ze.length ≤ yH) (uR : Kd.C jd w yM zn.length zn) (uS : zn.length ≤ yN) (uT : Kd.C jh w yO zm.length zm) (uU : zm.length ≤ yP) (hG : GW w) (h : kT.f zG zH zC ze zn zm a1 a2 = some (r1, r2)) :
  Calls Tryz.prog 11 #[.agg #[.string zG, .bool zH, .int .i64 zC, .slice yG ze.length yH, .slice yM zn.length yN, .slice yO zm.length yP], .string a1, .int .i64 a2] w fun e w' => e = .returned (.tuple #[.int .i64 r1, .int .i64 r2]) ∧ Below w.heap.size w w' := by
 have mJ := Tryz.underlying26
 have HG := zx.mk hG
 clear hG
 have uG := zx.mk vS
 have jD := zx.mk uP
 clear vS uP
 have jy := zx.mk uR
 have jE := zx.mk uS
 clear uR uS
 have jw := zx.mk uT
 have jF := zx.mk uU
 clear uT uU
 have HB := zx.mk (Below.refl w.heap.size w)
 have H : ((kI.f zG zH zC ze zn zm a2).bind fun zzA => (if zzA = true then ((kF.f zG zH zC ze zn zm a1).bind fun Z7 => (if Z7.2 = true then (if 0 ≤ Z7.1 then (if Z7.1 < (ze.length : Int) then ((uh.f ((xL ze Z7.1).f1) a2).bind fun V8 => (some (V8, 0))) else (none)) else (none)) else (some (0, 3)))) else (some (0, 1)))) = some (r1, r2) := h
 clear h
 replace H := Option.bind_eq_some_iff.mp H
 obtain ⟨zzA, Jy, H⟩ := H
 replace H : (if zzA = true then ((kF.f zG zH zC ze zn zm a1).bind fun Z7 => (if Z7.2 = true then (if 0 ≤ Z7.1 then (if Z7.1 < (ze.length : Int) then ((uh.f ((xL ze Z7.1).f1) a2).bind fun V8 => (some (V8, 0))) else (none)) else (none)) else (some (0, 3)))) else (some (0, 1))) = some (r1, r2) := H
 have A4 := zx.mk Jy
 clear Jy
 by_cases c5 : zzA = true
 ·subst c5
  have H1 : ((kF.f zG zH zC ze zn zm a1).bind fun Z7 => (if Z7.2 = true then (if 0 ≤ Z7.1 then (if Z7.1 < (ze.length : Int) then ((uh.f ((xL ze Z7.1).f1) a2).bind fun V8 => (some (V8, 0))) else (none)) else (none)) else (some (0, 3)))) = some (r1, r2) := by rw [if_pos rfl] at H; exact H
  clear H
  have H := H1
  clear H1
  replace H := Option.bind_eq_some_iff.mp H
  obtain ⟨⟨Qx, zWR⟩, A60, H⟩ := H
  replace H : (if zWR = true then (if 0 ≤ Qx then (if Qx < (ze.length : Int) then ((uh.f ((xL ze Qx).f1) a2).bind fun V8 => (some (V8, 0))) else (none)) else (none)) else (some (0, 3))) = some (r1, r2) := H
  have A6 := zx.mk A60
  clear A60
  by_cases c7 : zWR = true
  ·subst c7
   have H1 : (if 0 ≤ Qx then (if Qx < (ze.length : Int) then ((uh.f ((xL ze Qx).f1) a2).bind fun V8 => (some (V8, 0))) else (none)) else (none)) = some (r1, r2) := by rw [if_pos rfl] at H; exact H
   clear H
   have H := H1
   clear H1
   by_cases c8 : 0 ≤ Qx
   ·rw [if_pos c8] at H
    have Pj : decide (0 ≤ Qx) = true := decide_eq_true c8
    clear c8
    by_cases c9 : Qx < (ze.length : Int)
    ·rw [if_pos c9] at H
     have mQ : decide (Qx < (ze.length : Int)) = true := decide_eq_true c9
     clear c9
     replace H := Option.bind_eq_some_iff.mp H
     obtain ⟨V8, zjV, H⟩ := H
     replace H : (some (V8, 0)) = some (r1, r2) := H
     have iE := zx.mk zjV
     clear zjV
     simp only [Option.some.injEq, Prod.mk.injEq] at H
     obtain ⟨rfl, rfl⟩ := H
     go_enter Tryz.func11, Tryz.ntmps11
     go_wp2_with (first | ((with_reducible refine qx (N := 3) rfl ?_); refine ql ?hg (N := 3) ?hd (cs := #[.string zG, .bool zH, .int .i64 zC, .slice yG ze.length yH, .slice yM zn.length yN, .slice yO zm.length yP]) (t := 26) ?hr ?_; (case hd => rfl); (case hg => rfl); (case hr => first | (go_simp; done) | (go_simp; rfl)); intro uj hg sG qK hb; have zf := zx.mk (zI (zD HB.out) hb); have zh := zx.mk (qK); have zA := zx.mk ((by rw [hg]; exact (zV (zD HB.out)) : w.heap.size ≤ uj)); have zR := zx.mk ((by rw [hg]; exact (zV (zD HB.out)) : w.heap.size ≤ uj)); clear HB; have HB := zf; have qb := zh; have zJB := zA; have iO := zR; clear zf zh zA zR; clear hb qK hg; have zk6 : sG.cell? ⟨uj, 0, none⟩ = some (.string zG) := (zk qb.out 0).trans rfl; have zk7 : sG.cell? ⟨uj, 1, none⟩ = some (.bool zH) := (zk qb.out 1).trans rfl; have zk8 : sG.cell? ⟨uj, 2, none⟩ = some (.int .i64 zC) := (zk qb.out 2).trans rfl; have zk9 : sG.cell? ⟨uj, 3, none⟩ = some (.slice yG ze.length yH) := (zk qb.out 3).trans rfl; have zyz : sG.cell? ⟨uj, 4, none⟩ = some (.slice yM zn.length yN) := (zk qb.out 4).trans rfl; have zyq : sG.cell? ⟨uj, 5, none⟩ = some (.slice yO zm.length yP) := (zk qb.out 5).trans rfl; have zyx := zw qb.out 0; have zyj := zw qb.out 1; have zyv := zw qb.out 2; have zyk := zw qb.out 3; have zyy := zw qb.out 4; have zyw := zw qb.out 5) | ((with_reducible refine yY (f := 26) rfl ?_); refine uN (some 12) Tryz.func26 #[.agg #[.string zG, .bool zH, .int .i64 zC, .slice yG ze.length yH, .slice yM zn.length yN, .slice yO zm.length yP], .int .i64 a2] ?_; (with_reducible refine (kI.calls zG zH zC _ _ ze _ _ zn _ _ zm a2 true _ ?y8 ?qy ?vT ?vU ?uz ?uq ?pK A4.out).mono ?_); (case y8 => repeat (first | exact (Kd.zY uG.out HB.out) | (with_reducible refine Kd.zS ?_ _) | (with_reducible refine Kd.zT ?_ _) | (with_reducible refine Kd.yc ?_))); (case qy => exact jD.out); (case vT => repeat (first | exact (Kd.zY jy.out HB.out) | (with_reducible refine Kd.zS ?_ _) | (with_reducible refine Kd.zT ?_ _) | (with_reducible refine Kd.yc ?_))); (case vU => exact jE.out); (case uz => repeat (first | exact (Kd.zY jw.out HB.out) | (with_reducible refine Kd.zS ?_ _) | (with_reducible refine Kd.zT ?_ _) | (with_reducible refine Kd.yc ?_))); (case uq => exact jF.out); (case pK => exact GW.under HG.out (zD HB.out)); rintro e w13 ⟨rfl, hb⟩; refine ⟨_, rfl, ?_⟩; have zf := zx.mk (zl (g := uj) (o := .cells #[.string zG, .bool zH, .int .i64 zC, .slice yG ze.length yH, .slice yM zn.length yN, .slice yO zm.length yP] 26 (0, 0)) (yt qb.out) hb); have zh := zx.mk (zI (zD HB.out) hb); clear qb; clear HB; have qb := zf; have HB := zh; clear zf zh; (try clear hb); (try clear hb2); (try clear hk); (try clear hi); have bn : w13.cell? ⟨uj, 0, none⟩ = some (.string zG) := (zk qb.out 0).trans rfl; have bA : w13.cell? ⟨uj, 1, none⟩ = some (.bool zH) := (zk qb.out 1).trans rfl; have bB : w13.cell? ⟨uj, 2, none⟩ = some (.int .i64 zC) := (zk qb.out 2).trans rfl; have bC : w13.cell? ⟨uj, 3, none⟩ = some (.slice yG ze.length yH) := (zk qb.out 3).trans rfl; have bD : w13.cell? ⟨uj, 4, none⟩ = some (.slice yM zn.length yN) := (zk qb.out 4).trans rfl; have bE : w13.cell? ⟨uj, 5, none⟩ = some (.slice yO zm.length yP) := (zk qb.out 5).trans rfl; have Kk := zw qb.out 0; have Ky := zw qb.out 1; have Kw := zw qb.out 2; have KZ := zw qb.out 3; have KQ := zw qb.out 4; have KX := zw qb.out 5) | ((with_reducible refine yY (f := 27) rfl ?_); refine uN (some 17) Tryz.func27 #[.agg #[.string zG, .bool zH, .int .i64 zC, .slice yG ze.length yH, .slice yM zn.length yN, .slice yO zm.length yP], .string a1] ?_; (with_reducible refine (kF.calls zG zH zC _ _ ze _ _ zn _ _ zm a1 Qx true _ ?y8 ?qy ?vT ?vU ?uz ?uq ?pK A6.out).mono ?_); (case y8 => repeat (first | exact (Kd.zY uG.out HB.out) | (with_reducible refine Kd.zS ?_ _) | (with_reducible refine Kd.zT ?_ _) | (with_reducible refine Kd.yc ?_))); (case qy => exact jD.out); (case vT => repeat (first | exact (Kd.zY jy.out HB.out) | (with_reducible refine Kd.zS ?_ _) | (with_reducible refine Kd.zT ?_ _) | (with_reducible refine Kd.yc ?_))); (case vU => exact jE.out); (case uz => repeat (first | exact (Kd.zY jw.out HB.out) | (with_reducible refine Kd.zS ?_ _) | (with_reducible refine Kd.zT ?_ _) | (with_reducible refine Kd.yc ?_))); (case uq => exact jF.out); (case pK => exact GW.under HG.out (zD HB.out)); rintro e JW ⟨rfl, hb⟩; refine ⟨_, rfl, ?_⟩; have zf := zx.mk (zl (g := uj) (o := .cells #[.string zG, .bool zH, .int .i64 zC, .slice yG ze.length yH, .slice yM zn.length yN, .slice yO zm.length yP] 26 (0, 0)) (yt qb.out) hb); have zh := zx.mk (zI (zD HB.out) hb); clear qb; clear HB; have qb := zf; have HB := zh; clear zf zh; (try clear hb); (try clear hb2); (try clear hk); (try clear hi); have zKj : JW.cell? ⟨uj, 0, none⟩ = some (.string zG) := (zk qb.out 0).trans rfl; have zKv : JW.cell? ⟨uj, 1, none⟩ = some (.bool zH) := (zk qb.out 1).trans rfl; have zKk : JW.cell? ⟨uj, 2, none⟩ = some (.int .i64 zC) := (zk qb.out 2).trans rfl; have zKy : JW.cell? ⟨uj, 3, none⟩ = some (.slice yG ze.length yH) := (zk qb.out 3).trans rfl; have zKw : JW.cell? ⟨uj, 4, none⟩ = some (.slice yM zn.length yN) := (zk qb.out 4).trans rfl; have zKZ : JW.cell? ⟨uj, 5, none⟩ = some (.slice yO zm.length yP) := (zk qb.out 5).trans rfl; have zKQ := zw qb.out 0; have zKX := zw qb.out 1; have zKJ := zw qb.out 2; have zKV := zw qb.out 3; have zKK := zw qb.out 4; have zKY := zw qb.out 5; have zXs : 0 ≤ (Qx : Int) := of_decide_eq_true (by first | (with_reducible assumption) | assumption); have zXt : Qx < (ze.length : Int) := of_decide_eq_true (by first | (with_reducible assumption) | assumption); obtain ⟨zlW, e246, zzB, zzC⟩ := VB uG.out Qx zXs zXt; cases e246; replace zzB := (HB.out.cell (World.block_lt_of_cell? w _ zzB)).trans zzB; replace zzC := (HB.out.cell (World.block_lt_of_cell? w _ zzC)).trans zzC; replace zXs := eq_true zXs; replace zXt := eq_true zXt) | ((with_reducible refine yY (f := 28) rfl ?_); refine uN (some 29) Tryz.func28 #[.int .i64 ((xL ze Qx).f1), .int .i64 a2] ?_; (with_reducible refine (uh.calls ((xL ze Qx).f1) a2 V8 _ iE.out).mono ?_); rintro e w' ⟨rfl, ⟨nd, rfl⟩⟩; refine ⟨_, rfl, ?_⟩))
     go_ret2
     exact ⟨by first | rfl | (simp [zU, z8] <;> rfl) | (simp [*, zU, z8] <;> rfl), by repeat (first | (with_reducible first | exact HB.out | apply yu | apply zP | apply yT | refine qB ?_ iO.out) | exact HB.out)⟩
    ·rw [if_neg c9] at H
     exact absurd H (by simp)
   ·rw [if_neg c8] at H
    exact absurd H (by simp)
  ·replace c7 := Bool.eq_false_iff.mpr c7
   subst c7
   have H1 : (some (0, 3)) = some (r1, r2) := by rw [if_neg (show ¬ (false = true) by decide)] at H; exact H
   clear H
   have H := H1
   clear H1
   simp only [Option.some.injEq, Prod.mk.injEq] at H
   obtain ⟨rfl, rfl⟩ := H
   go_enter Tryz.func11, Tryz.ntmps11
   go_wp2_with (first | ((with_reducible refine qx (N := 3) rfl ?_); refine ql ?hg (N := 3) ?hd (cs := #[.string zG, .bool zH, .int .i64 zC, .slice yG ze.length yH, .slice yM zn.length yN, .slice yO zm.length yP]) (t := 26) ?hr ?_; (case hd => rfl); (case hg => rfl); (case hr => first | (go_simp; done) | (go_simp; rfl)); intro uj hg Zw qK hb; have zf := zx.mk (zI (zD HB.out) hb); have zh := zx.mk (qK); have zA := zx.mk ((by rw [hg]; exact (zV (zD HB.out)) : w.heap.size ≤ uj)); have zR := zx.mk ((by rw [hg]; exact (zV (zD HB.out)) : w.heap.size ≤ uj)); clear HB; have HB := zf; have qb := zh; have zJB := zA; have iO := zR; clear zf zh zA zR; clear hb qK hg; have zKW : Zw.cell? ⟨uj, 0, none⟩ = some (.string zG) := (zk qb.out 0).trans rfl; have zKa : Zw.cell? ⟨uj, 1, none⟩ = some (.bool zH) := (zk qb.out 1).trans rfl; have zKb : Zw.cell? ⟨uj, 2, none⟩ = some (.int .i64 zC) := (zk qb.out 2).trans rfl; have zKc : Zw.cell? ⟨uj, 3, none⟩ = some (.slice yG ze.length yH) := (zk qb.out 3).trans rfl; have zKd : Zw.cell? ⟨uj, 4, none⟩ = some (.slice yM zn.length yN) := (zk qb.out 4).trans rfl; have zKe : Zw.cell? ⟨uj, 5, none⟩ = some (.slice yO zm.length yP) := (zk qb.out 5).trans rfl; have zKf := zw qb.out 0; have zKg := zw qb.out 1; have zKh := zw qb.out 2; have zKi := zw qb.out 3; have zKl := zw qb.out 4; have zKm := zw qb.out 5) | ((with_reducible refine yY (f := 26) rfl ?_); refine uN (some 12) Tryz.func26 #[.agg #[.string zG, .bool zH, .int .i64 zC, .slice yG ze.length yH, .slice yM zn.length yN, .slice yO zm.length yP], .int .i64 a2] ?_; (with_reducible refine (kI.calls zG zH zC _ _ ze _ _ zn _ _ zm a2 true _ ?y8 ?qy ?vT ?vU ?uz ?uq ?pK A4.out).mono ?_); (case y8 => repeat (first | exact (Kd.zY uG.out HB.out) | (with_reducible refine Kd.zS ?_ _) | (with_reducible refine Kd.zT ?_ _) | (with_reducible refine Kd.yc ?_))); (case qy => exact jD.out); (case vT => repeat (first | exact (Kd.zY jy.out HB.out) | (with_reducible refine Kd.zS ?_ _) | (with_reducible refine Kd.zT ?_ _) | (with_reducible refine Kd.yc ?_))); (case vU => exact jE.out); (case uz => repeat (first | exact (Kd.zY jw.out HB.out) | (with_reducible refine Kd.zS ?_ _) | (with_reducible refine Kd.zT ?_ _) | (with_reducible refine Kd.yc ?_))); (case uq => exact jF.out); (case pK => exact GW.under HG.out (zD HB.out)); rintro e mP ⟨rfl, hb⟩; refine ⟨_, rfl, ?_⟩; have zf := zx.mk (zl (g := uj) (o := .cells #[.string zG, .bool zH, .int .i64 zC, .slice yG ze.length yH, .slice yM zn.length yN, .slice yO zm.length yP] 26 (0, 0)) (yt qb.out) hb); have zh := zx.mk (zI (zD HB.out) hb); clear qb; clear HB; have qb := zf; have HB := zh; clear zf zh; (try clear hb); (try clear hb2); (try clear hk); (try clear hi); have zzk : mP.cell? ⟨uj, 0, none⟩ = some (.string zG) := (zk qb.out 0).trans rfl; have zzy : mP.cell? ⟨uj, 1, none⟩ = some (.bool zH) := (zk qb.out 1).trans rfl; have zzw : mP.cell? ⟨uj, 2, none⟩ = some (.int .i64 zC) := (zk qb.out 2).trans rfl; have zzZ : mP.cell? ⟨uj, 3, none⟩ = some (.slice yG ze.length yH) := (zk qb.out 3).trans rfl; have zzQ : mP.cell? ⟨uj, 4, none⟩ = some (.slice yM zn.length yN) := (zk qb.out 4).trans rfl; have zzX : mP.cell? ⟨uj, 5, none⟩ = some (.slice yO zm.length yP) := (zk qb.out 5).trans rfl; have rZ := zw qb.out 0; have rQ := zw qb.out 1; have rX := zw qb.out 2; have rJ := zw qb.out 3; have rV := zw qb.out 4; have rY := zw qb.out 5) | ((with_reducible refine yY (f := 27) rfl ?_); refine uN (some 17) Tryz.func27 #[.agg #[.string zG, .bool zH, .int .i64 zC, .slice yG ze.length yH, .slice yM zn.length yN, .slice yO zm.length yP], .string a1] ?_; (with_reducible refine (kF.calls zG zH zC _ _ ze _ _ zn _ _ zm a1 Qx false _ ?y8 ?qy ?vT ?vU ?uz ?uq ?pK A6.out).mono ?_); (case y8 => repeat (first | exact (Kd.zY uG.out HB.out) | (with_reducible refine Kd.zS ?_ _) | (with_reducible refine Kd.zT ?_ _) | (with_reducible refine Kd.yc ?_))); (case qy => exact jD.out); (case vT => repeat (first | exact (Kd.zY jy.out HB.out) | (with_reducible refine Kd.zS ?_ _) | (with_reducible refine Kd.zT ?_ _) | (with_reducible refine Kd.yc ?_))); (case vU => exact jE.out); (case uz => repeat (first | exact (Kd.zY jw.out HB.out) | (with_reducible refine Kd.zS ?_ _) | (with_reducible refine Kd.zT ?_ _) | (with_reducible refine Kd.yc ?_))); (case uq => exact jF.out); (case pK => exact GW.under HG.out (zD HB.out)); rintro e eD ⟨rfl, hb⟩; refine ⟨_, rfl, ?_⟩; have zf := zx.mk (zl (g := uj) (o := .cells #[.string zG, .bool zH, .int .i64 zC, .slice yG ze.length yH, .slice yM zn.length yN, .slice yO zm.length yP] 26 (0, 0)) (yt qb.out) hb); have zh := zx.mk (zI (zD HB.out) hb); clear qb; clear HB; have qb := zf; have HB := zh; clear zf zh; (try clear hb); (try clear hb2); (try clear hk); (try clear hi)))
   go_ret2
   exact ⟨by first | rfl | (simp [zU, z8] <;> rfl) | (simp [*, zU, z8] <;> rfl), by repeat (first | (with_reducible first | exact HB.out | apply yu | apply zP | apply yT | refine qB ?_ iO.out) | exact HB.out)⟩
 ·replace c5 := Bool.eq_false_iff.mpr c5
  subst c5
  have H1 : (some (0, 1)) = some (r1, r2) := by rw [if_neg (show ¬ (false = true) by decide)] at H; exact H
  clear H
  have H := H1
  clear H1
  simp only [Option.some.injEq, Prod.mk.injEq] at H
  obtain ⟨rfl, rfl⟩ := H
  go_enter Tryz.func11, Tryz.ntmps11
  go_wp2_with (first | ((with_reducible refine qx (N := 3) rfl ?_); refine ql ?hg (N := 3) ?hd (cs := #[.string zG, .bool zH, .int .i64 zC, .slice yG ze.length yH, .slice yM zn.length yN, .slice yO zm.length yP]) (t := 26) ?hr ?_; (case hd => rfl); (case hg => rfl); (case hr => first | (go_simp; done) | (go_simp; rfl)); intro uj hg w22 qK hb; have zf := zx.mk (zI (zD HB.out) hb); have zh := zx.mk (qK); have zA := zx.mk ((by rw [hg]; exact (zV (zD HB.out)) : w.heap.size ≤ uj)); have zR := zx.mk ((by rw [hg]; exact (zV (zD HB.out)) : w.heap.size ≤ uj)); clear HB; have HB := zf; have qb := zh; have zJB := zA; have iO := zR; clear zf zh zA zR; clear hb qK hg; have zgo : w22.cell? ⟨uj, 0, none⟩ = some (.string zG) := (zk qb.out 0).trans rfl; have zgp : w22.cell? ⟨uj, 1, none⟩ = some (.bool zH) := (zk qb.out 1).trans rfl; have zgr : w22.cell? ⟨uj, 2, none⟩ = some (.int .i64 zC) := (zk qb.out 2).trans rfl; have zgs : w22.cell? ⟨uj, 3, none⟩ = some (.slice yG ze.length yH) := (zk qb.out 3).trans rfl; have zgt : w22.cell? ⟨uj, 4, none⟩ = some (.slice yM zn.length yN) := (zk qb.out 4).trans rfl; have zgu : w22.cell? ⟨uj, 5, none⟩ = some (.slice yO zm.length yP) := (zk qb.out 5).trans rfl; have zgA := zw qb.out 0; have zgB := zw qb.out 1; have zgC := zw qb.out 2; have zgD := zw qb.out 3; have zgE := zw qb.out 4; have zgF := zw qb.out 5) | ((with_reducible refine yY (f := 26) rfl ?_); refine uN (some 12) Tryz.func26 #[.agg #[.string zG, .bool zH, .int .i64 zC, .slice yG ze.length yH, .slice yM zn.length yN, .slice yO zm.length yP], .int .i64 a2] ?_; (with_reducible refine (kI.calls zG zH zC _ _ ze _ _ zn _ _ zm a2 false _ ?y8 ?qy ?vT ?vU ?uz ?uq ?pK A4.out).mono ?_); (case y8 => repeat (first | exact (Kd.zY uG.out HB.out) | (with_reducible refine Kd.zS ?_ _) | (with_reducible refine Kd.zT ?_ _) | (with_reducible refine Kd.yc ?_))); (case qy => exact jD.out); (case vT => repeat (first | exact (Kd.zY jy.out HB.out) | (with_reducible refine Kd.zS ?_ _) | (with_reducible refine Kd.zT ?_ _) | (with_reducible refine Kd.yc ?_))); (case vU => exact jE.out); (case uz => repeat (first | exact (Kd.zY jw.out HB.out) | (with_reducible refine Kd.zS ?_ _) | (with_reducible refine Kd.zT ?_ _) | (with_reducible refine Kd.yc ?_))); (case uq => exact jF.out); (case pK => exact GW.under HG.out (zD HB.out)); rintro e w24 ⟨rfl, hb⟩; refine ⟨_, rfl, ?_⟩; have zf := zx.mk (zl (g := uj) (o := .cells #[.string zG, .bool zH, .int .i64 zC, .slice yG ze.length yH, .slice yM zn.length yN, .slice yO zm.length yP] 26 (0, 0)) (yt qb.out) hb); have zh := zx.mk (zI (zD HB.out) hb); clear qb; clear HB; have qb := zf; have HB := zh; clear zf zh; (try clear hb); (try clear hb2); (try clear hk); (try clear hi)))
  go_ret2
  exact ⟨by first | rfl | (simp [zU, z8] <;> rfl) | (simp [*, zU, z8] <;> rfl), by repeat (first | (with_reducible first | exact HB.out | apply yu | apply zP | apply yT | refine qB ?_ iO.out) | exact HB.out)⟩
def YG.f  : Option (Bool) := (wF.f).bind fun vY => (if (vY.length : Int) = 5 then (if 0 < (vY.length : Int) then ((kT.f ((yQ vY 0).f0) ((yQ vY 0).f1) ((yQ vY 0).f2) ((yQ vY 0).f3) ((yQ vY 0).f4) ((yQ vY 0).f5) (⟨#[109]⟩ : ByteArray) 10).bind fun WU => (if WU.1 = 75 then (some (WU.2 == 0)) else (some false))) else (none)) else (some false))
set_option maxHeartbeats 8000000 in
set_option maxRecDepth 100000 in
theorem YG.calls  (r : Bool) (w : World) (hG : GW w) (h : YG.f  = some r) :
  Calls Tryz.prog 12 #[] w fun e w' => e = .returned (.bool r) ∧ Below w.heap.size w w' := by
 have mJ := Tryz.underlying26
 have HG := zx.mk hG
 clear hG
 have HB := zx.mk (Below.refl w.heap.size w)
 have H : ((wF.f).bind fun vY => (if (vY.length : Int) = 5 then (if 0 < (vY.length : Int) then ((kT.f ((yQ vY 0).f0) ((yQ vY 0).f1) ((yQ vY 0).f2) ((yQ vY 0).f3) ((yQ vY 0).f4) ((yQ vY 0).f5) (⟨#[109]⟩ : ByteArray) 10).bind fun WU => (if WU.1 = 75 then (some (WU.2 == 0)) else (some false))) else (none)) else (some false))) = some r := h
 clear h
 replace H := Option.bind_eq_some_iff.mp H
 obtain ⟨vY, iE, H⟩ := H
 replace H : (if (vY.length : Int) = 5 then (if 0 < (vY.length : Int) then ((kT.f ((yQ vY 0).f0) ((yQ vY 0).f1) ((yQ vY 0).f2) ((yQ vY 0).f3) ((yQ vY 0).f4) ((yQ vY 0).f5) (⟨#[109]⟩ : ByteArray) 10).bind fun WU => (if WU.1 = 75 then (some (WU.2 == 0)) else (some false))) else (none)) else (some false)) = some r := H
 have A1 := zx.mk iE
 clear iE
 by_cases c2 : (vY.length : Int) = 5
 ·rw [if_pos c2] at H
  have mZ : ((vY.length : Int) == 5) = true := beq_iff_eq.mpr c2
  have zfs : ((vY.length : Int) != 5) = false := bne_eq_false_iff_eq.mpr c2
  clear c2
  by_cases c3 : 0 < (vY.length : Int)
  ·rw [if_pos c3] at H
   have ZR : decide (0 < (vY.length : Int)) = true := decide_eq_true c3
   have zft : decide (0 < vY.length) = true := decide_eq_true (by omega)
   clear c3
   replace H := Option.bind_eq_some_iff.mp H
   obtain ⟨⟨nQ, zXu⟩, Jy, H⟩ := H
   replace H : (if nQ = 75 then (some (zXu == 0)) else (some false)) = some r := H
   have A4 := zx.mk Jy
   clear Jy
   by_cases c5 : nQ = 75
   ·rw [if_pos c5] at H
    have p8 : (nQ == 75) = true := beq_iff_eq.mpr c5
    have ou : (nQ != 75) = false := bne_eq_false_iff_eq.mpr c5
    clear c5
    obtain rfl := Option.some.inj H
    go_enter Tryz.func12, Tryz.ntmps12
    go_wp2_with (first | ((with_reducible refine yY (f := 13) rfl ?_); refine uN (some 4) Tryz.func13 #[] ?_; (with_reducible refine (wF.calls  vY _ ?y8 A1.out).mono ?_); (case y8 => exact GW.under HG.out (zD HB.out)); rintro e w6 ⟨zWS, rfl, ho0, hb⟩; refine ⟨_, rfl, ?_⟩; have zf := zx.mk (Kd.oZ ho0 (zV (zD HB.out))); have zh := zx.mk (zI (zD HB.out) hb); clear HB; have Yt := zf; have HB := zh; clear zf zh; (try clear hb); (try clear hb2); (try clear hk); (try clear hi); (try clear ho0); obtain ⟨Ao7, gD, eo7⟩ := Kd.oQ Yt.out; subst eo7; have dD : 0 ≤ (0 : Int) := (by omega); have dF : 0 < (vY.length : Int) := of_decide_eq_true (by first | (with_reducible assumption) | assumption); obtain ⟨zcd, zjK, zjY, zjW, zja, zjb, zjc, e251, Ui, Ul, Um, Qc, Qd, Qe, bI, bL, bM, bN, bO, bP⟩ := zxn (Kd.dx Yt.out).2.2 0 dD dF; cases e251; obtain ⟨zce, zjd, zje, V9⟩ := Kd.zX8 Yt.out z26 0 dD (by first | exact dF | exact of_decide_eq_true (by first | (with_reducible assumption) | assumption) | (have e_ := (Kd.dx Yt.out).1; omega)); obtain ⟨zKn, zKo, zKp, rfl, Un, Uo, Ur⟩ := zqC zje; have YS := V9 3 _ rfl; rw [vX _ _ 3 (by omega)] at YS; replace YS := Option.some.inj (YS.symm.trans Qc); rw [YS] at Un; have Us := zx.mk (show Kd.R uf 31 _ _ _ _ ((yQ vY 0).f3) from Un); clear YS Un; have YT := V9 4 _ rfl; rw [vX _ _ 4 (by omega)] at YT; replace YT := Option.some.inj (YT.symm.trans Qd); rw [YT] at Uo; have Ut := zx.mk (show Kd.R jd 86 _ _ _ _ ((yQ vY 0).f4) from Uo); clear YT Uo; have YU := V9 5 _ rfl; rw [vX _ _ 5 (by omega)] at YU; replace YU := Option.some.inj (YU.symm.trans Qe); rw [YU] at Ur; have Uu := zx.mk (show Kd.R jh 76 _ _ _ _ ((yQ vY 0).f5) from Ur); clear YU Ur; clear V9 zjd; have zcf : (0 < vY.length) = True := eq_true (by omega); (try rw [show ((0 : Int)).toNat = 0 from rfl] at Ui); (try rw [show 0 * 6 = 0 from rfl] at Ui); (try rw [Addr.add_zero'] at Ui); (try rw [show ((0 : Int)).toNat = 0 from rfl] at Ul); (try rw [show 0 * 6 = 0 from rfl] at Ul); (try rw [Addr.add_zero'] at Ul); (try rw [show ((0 : Int)).toNat = 0 from rfl] at Um); (try rw [show 0 * 6 = 0 from rfl] at Um); (try rw [Addr.add_zero'] at Um); (try rw [show ((0 : Int)).toNat = 0 from rfl] at Qc); (try rw [show 0 * 6 = 0 from rfl] at Qc); (try rw [Addr.add_zero'] at Qc); (try rw [show ((0 : Int)).toNat = 0 from rfl] at Qd); (try rw [show 0 * 6 = 0 from rfl] at Qd); (try rw [Addr.add_zero'] at Qd); (try rw [show ((0 : Int)).toNat = 0 from rfl] at Qe); (try rw [show 0 * 6 = 0 from rfl] at Qe); (try rw [Addr.add_zero'] at Qe); have Yv := zx.mk bL; have zzD := zx.mk bI; clear bL bI; have Yk := zx.mk bN; have zzE := zx.mk bM; clear bN bM; have Yy := zx.mk bP; have zzF := zx.mk bO; clear bP bO; replace dD := eq_true dD; replace dF := eq_true dF) | ((with_reducible refine yY (f := 11) rfl ?_); refine uN (some 12) Tryz.func11 #[.agg #[.string ((yQ vY 0).f0), .bool ((yQ vY 0).f1), .int .i64 ((yQ vY 0).f2), .slice zjK ((yQ vY 0).f3).length zjY, .slice zjW ((yQ vY 0).f4).length zja, .slice zjb ((yQ vY 0).f5).length zjc], .string (⟨#[109]⟩ : ByteArray), .int .i64 10] ?_; (with_reducible refine (kT.calls ((yQ vY 0).f0) ((yQ vY 0).f1) ((yQ vY 0).f2) _ _ ((yQ vY 0).f3) _ _ ((yQ vY 0).f4) _ _ ((yQ vY 0).f5) (⟨#[109]⟩ : ByteArray) 10 nQ zXu _ ?y8 ?qy ?vT ?vU ?uz ?uq ?pK A4.out).mono ?_); (case y8 => repeat (first | exact (by repeat (first | (with_reducible exact Yv.out) | (with_reducible refine Kd.zS ?_ _) | (with_reducible refine Kd.zT ?_ _) | (with_reducible refine Kd.yc ?_) | exact Yv.out)) | (with_reducible refine Kd.zS ?_ _) | (with_reducible refine Kd.zT ?_ _) | (with_reducible refine Kd.yc ?_))); (case qy => exact zzD.out); (case vT => repeat (first | exact (by repeat (first | (with_reducible exact Yk.out) | (with_reducible refine Kd.zS ?_ _) | (with_reducible refine Kd.zT ?_ _) | (with_reducible refine Kd.yc ?_) | exact Yk.out)) | (with_reducible refine Kd.zS ?_ _) | (with_reducible refine Kd.zT ?_ _) | (with_reducible refine Kd.yc ?_))); (case vU => exact zzE.out); (case uz => repeat (first | exact (by repeat (first | (with_reducible exact Yy.out) | (with_reducible refine Kd.zS ?_ _) | (with_reducible refine Kd.zT ?_ _) | (with_reducible refine Kd.yc ?_) | exact Yy.out)) | (with_reducible refine Kd.zS ?_ _) | (with_reducible refine Kd.zT ?_ _) | (with_reducible refine Kd.yc ?_))); (case uq => exact zzF.out); (case pK => exact GW.under HG.out (zD HB.out)); rintro e w8 ⟨rfl, hb⟩; refine ⟨_, rfl, ?_⟩; have zf := zx.mk (Kd.PE (by (with_reducible repeat (first | apply Kd.zjP | apply Kd.zjR | apply Kd.zZo)); exact Yt.out) hb); have zh := zx.mk (Kd.qz (yF Us.out) hb); have zA := zx.mk (Kd.qz (yF Ut.out) hb); have zR := zx.mk (Kd.qz (yF Uu.out) hb); have qV := zx.mk (Kd.zY (by repeat (first | (with_reducible exact Yv.out) | (with_reducible refine Kd.zS ?_ _) | (with_reducible refine Kd.zT ?_ _) | (with_reducible refine Kd.yc ?_) | exact Yv.out)) hb); have xD := zx.mk (Kd.zY (by repeat (first | (with_reducible exact Yk.out) | (with_reducible refine Kd.zS ?_ _) | (with_reducible refine Kd.zT ?_ _) | (with_reducible refine Kd.yc ?_) | exact Yk.out)) hb); have vE := zx.mk (Kd.zY (by repeat (first | (with_reducible exact Yy.out) | (with_reducible refine Kd.zS ?_ _) | (with_reducible refine Kd.zT ?_ _) | (with_reducible refine Kd.yc ?_) | exact Yy.out)) hb); have vR := zx.mk (zI (zD HB.out) hb); clear Yt; clear Us; clear Ut; clear Uu; clear Yv; clear Yk; clear Yy; clear HB; have Yt := zf; have Us := zh; have Ut := zA; have Uu := zR; have Yv := qV; have Yk := xD; have Yy := vE; have HB := vR; clear zf zh zA zR qV xD vE vR; (try clear hb); (try clear hb2); (try clear hk); (try clear hi)))
    go_ret
    exact ⟨by first | rfl | (simp [zU, z8] <;> rfl) | (simp [*, zU, z8] <;> rfl), by repeat (first | (with_reducible first | exact HB.out | apply yu | apply zP | apply yT) | exact HB.out)⟩
   ·rw [if_neg c5] at H
    have p8 : (nQ == 75) = false := beq_eq_false_iff_ne.mpr c5
    have ou : (nQ != 75) = true := bne_iff_ne.mpr c5
    obtain rfl := Option.some.inj H
    go_enter Tryz.func12, Tryz.ntmps12
    go_wp2_with (first | ((with_reducible refine yY (f := 13) rfl ?_); refine uN (some 4) Tryz.func13 #[] ?_; (with_reducible refine (wF.calls  vY _ ?y8 A1.out).mono ?_); (case y8 => exact GW.under HG.out (zD HB.out)); rintro e w9 ⟨zWS, rfl, ho0, hb⟩; refine ⟨_, rfl, ?_⟩; have zf := zx.mk (Kd.oZ ho0 (zV (zD HB.out))); have zh := zx.mk (zI (zD HB.out) hb); clear HB; have Yt := zf; have HB := zh; clear zf zh; (try clear hb); (try clear hb2); (try clear hk); (try clear hi); (try clear ho0); obtain ⟨ay, aZ, zjx⟩ := Kd.oQ Yt.out; subst zjx; have dD : 0 ≤ (0 : Int) := (by omega); have dF : 0 < (vY.length : Int) := of_decide_eq_true (by first | (with_reducible assumption) | assumption); obtain ⟨zcd, zjK, zjY, zjW, zja, zjb, zjc, e251, Ui, Ul, Um, Qc, Qd, Qe, bI, bL, bM, bN, bO, bP⟩ := zxn (Kd.dx Yt.out).2.2 0 dD dF; cases e251; obtain ⟨zce, zjd, zje, V9⟩ := Kd.zX8 Yt.out z26 0 dD (by first | exact dF | exact of_decide_eq_true (by first | (with_reducible assumption) | assumption) | (have e_ := (Kd.dx Yt.out).1; omega)); obtain ⟨zKn, zKo, zKp, rfl, Un, Uo, Ur⟩ := zqC zje; have YS := V9 3 _ rfl; rw [vX _ _ 3 (by omega)] at YS; replace YS := Option.some.inj (YS.symm.trans Qc); rw [YS] at Un; have Us := zx.mk (show Kd.R uf 31 _ _ _ _ ((yQ vY 0).f3) from Un); clear YS Un; have YT := V9 4 _ rfl; rw [vX _ _ 4 (by omega)] at YT; replace YT := Option.some.inj (YT.symm.trans Qd); rw [YT] at Uo; have Ut := zx.mk (show Kd.R jd 86 _ _ _ _ ((yQ vY 0).f4) from Uo); clear YT Uo; have YU := V9 5 _ rfl; rw [vX _ _ 5 (by omega)] at YU; replace YU := Option.some.inj (YU.symm.trans Qe); rw [YU] at Ur; have Uu := zx.mk (show Kd.R jh 76 _ _ _ _ ((yQ vY 0).f5) from Ur); clear YU Ur; clear V9 zjd; have zcf : (0 < vY.length) = True := eq_true (by omega); (try rw [show ((0 : Int)).toNat = 0 from rfl] at Ui); (try rw [show 0 * 6 = 0 from rfl] at Ui); (try rw [Addr.add_zero'] at Ui); (try rw [show ((0 : Int)).toNat = 0 from rfl] at Ul); (try rw [show 0 * 6 = 0 from rfl] at Ul); (try rw [Addr.add_zero'] at Ul); (try rw [show ((0 : Int)).toNat = 0 from rfl] at Um); (try rw [show 0 * 6 = 0 from rfl] at Um); (try rw [Addr.add_zero'] at Um); (try rw [show ((0 : Int)).toNat = 0 from rfl] at Qc); (try rw [show 0 * 6 = 0 from rfl] at Qc); (try rw [Addr.add_zero'] at Qc); (try rw [show ((0 : Int)).toNat = 0 from rfl] at Qd); (try rw [show 0 * 6 = 0 from rfl] at Qd); (try rw [Addr.add_zero'] at Qd); (try rw [show ((0 : Int)).toNat = 0 from rfl] at Qe); (try rw [show 0 * 6 = 0 from rfl] at Qe); (try rw [Addr.add_zero'] at Qe); have Yv := zx.mk bL; have zzD := zx.mk bI; clear bL bI; have Yk := zx.mk bN; have zzE := zx.mk bM; clear bN bM; have Yy := zx.mk bP; have zzF := zx.mk bO; clear bP bO; replace dD := eq_true dD; replace dF := eq_true dF) | ((with_reducible refine yY (f := 11) rfl ?_); refine uN (some 12) Tryz.func11 #[.agg #[.string ((yQ vY 0).f0), .bool ((yQ vY 0).f1), .int .i64 ((yQ vY 0).f2), .slice zjK ((yQ vY 0).f3).length zjY, .slice zjW ((yQ vY 0).f4).length zja, .slice zjb ((yQ vY 0).f5).length zjc], .string (⟨#[109]⟩ : ByteArray), .int .i64 10] ?_; (with_reducible refine (kT.calls ((yQ vY 0).f0) ((yQ vY 0).f1) ((yQ vY 0).f2) _ _ ((yQ vY 0).f3) _ _ ((yQ vY 0).f4) _ _ ((yQ vY 0).f5) (⟨#[109]⟩ : ByteArray) 10 nQ zXu _ ?y8 ?qy ?vT ?vU ?uz ?uq ?pK A4.out).mono ?_); (case y8 => repeat (first | exact (by repeat (first | (with_reducible exact Yv.out) | (with_reducible refine Kd.zS ?_ _) | (with_reducible refine Kd.zT ?_ _) | (with_reducible refine Kd.yc ?_) | exact Yv.out)) | (with_reducible refine Kd.zS ?_ _) | (with_reducible refine Kd.zT ?_ _) | (with_reducible refine Kd.yc ?_))); (case qy => exact zzD.out); (case vT => repeat (first | exact (by repeat (first | (with_reducible exact Yk.out) | (with_reducible refine Kd.zS ?_ _) | (with_reducible refine Kd.zT ?_ _) | (with_reducible refine Kd.yc ?_) | exact Yk.out)) | (with_reducible refine Kd.zS ?_ _) | (with_reducible refine Kd.zT ?_ _) | (with_reducible refine Kd.yc ?_))); (case vU => exact zzE.out); (case uz => repeat (first | exact (by repeat (first | (with_reducible exact Yy.out) | (with_reducible refine Kd.zS ?_ _) | (with_reducible refine Kd.zT ?_ _) | (with_reducible refine Kd.yc ?_) | exact Yy.out)) | (with_reducible refine Kd.zS ?_ _) | (with_reducible refine Kd.zT ?_ _) | (with_reducible refine Kd.yc ?_))); (case uq => exact zzF.out); (case pK => exact GW.under HG.out (zD HB.out)); rintro e sG ⟨rfl, hb⟩; refine ⟨_, rfl, ?_⟩; have zf := zx.mk (Kd.PE (by (with_reducible repeat (first | apply Kd.zjP | apply Kd.zjR | apply Kd.zZo)); exact Yt.out) hb); have zh := zx.mk (Kd.qz (yF Us.out) hb); have zA := zx.mk (Kd.qz (yF Ut.out) hb); have zR := zx.mk (Kd.qz (yF Uu.out) hb); have qV := zx.mk (Kd.zY (by repeat (first | (with_reducible exact Yv.out) | (with_reducible refine Kd.zS ?_ _) | (with_reducible refine Kd.zT ?_ _) | (with_reducible refine Kd.yc ?_) | exact Yv.out)) hb); have xD := zx.mk (Kd.zY (by repeat (first | (with_reducible exact Yk.out) | (with_reducible refine Kd.zS ?_ _) | (with_reducible refine Kd.zT ?_ _) | (with_reducible refine Kd.yc ?_) | exact Yk.out)) hb); have vE := zx.mk (Kd.zY (by repeat (first | (with_reducible exact Yy.out) | (with_reducible refine Kd.zS ?_ _) | (with_reducible refine Kd.zT ?_ _) | (with_reducible refine Kd.yc ?_) | exact Yy.out)) hb); have vR := zx.mk (zI (zD HB.out) hb); clear Yt; clear Us; clear Ut; clear Uu; clear Yv; clear Yk; clear Yy; clear HB; have Yt := zf; have Us := zh; have Ut := zA; have Uu := zR; have Yv := qV; have Yk := xD; have Yy := vE; have HB := vR; clear zf zh zA zR qV xD vE vR; (try clear hb); (try clear hb2); (try clear hk); (try clear hi)))
    go_ret
    exact ⟨by first | rfl | (simp [zU, z8] <;> rfl) | (simp [*, zU, z8] <;> rfl), by repeat (first | (with_reducible first | exact HB.out | apply yu | apply zP | apply yT) | exact HB.out)⟩
  ·rw [if_neg c3] at H
   exact absurd H (by simp)
 ·rw [if_neg c2] at H
  have mZ : ((vY.length : Int) == 5) = false := beq_eq_false_iff_ne.mpr c2
  have zfs : ((vY.length : Int) != 5) = true := bne_iff_ne.mpr c2
  obtain rfl := Option.some.inj H
  go_enter Tryz.func12, Tryz.ntmps12
  go_wp2_with (first | ((with_reducible refine yY (f := 13) rfl ?_); refine uN (some 4) Tryz.func13 #[] ?_; (with_reducible refine (wF.calls  vY _ ?y8 A1.out).mono ?_); (case y8 => exact GW.under HG.out (zD HB.out)); rintro e Xz ⟨zWS, rfl, ho0, hb⟩; refine ⟨_, rfl, ?_⟩; have zf := zx.mk (Kd.oZ ho0 (zV (zD HB.out))); have zh := zx.mk (zI (zD HB.out) hb); clear HB; have Yt := zf; have HB := zh; clear zf zh; (try clear hb); (try clear hb2); (try clear hk); (try clear hi); (try clear ho0); obtain ⟨QU, Q0, zjw⟩ := Kd.oQ Yt.out; subst zjw))
  go_ret
  exact ⟨by first | rfl | (simp [zU, z8] <;> rfl) | (simp [*, zU, z8] <;> rfl), by repeat (first | (with_reducible first | exact HB.out | apply yu | apply zP | apply yT) | exact HB.out)⟩
end Go.Proofs.YtaifemkokfoadaaGreatDoor.PX
namespace Go.Proofs.YtaifemkokfoadaaGreatDoor.PX
open Go.RowKit Go.Proofs.zy.zu Go.Proofs.zy.yI Go.Proofs.zy.yD
attribute [local go_sem] xw xZ xP xR qD qE xQ xX   -- for this text's walks alone
set_option linter.unusedVariables false
set_option linter.unusedSimpArgs false
theorem zcg (d : Nat) (w : World) (x0 y0 : ByteArray) (x1 y1 : Int) :
  (Op.equalIn (d + 2) 81 (.agg #[.string x0, .int .i64 x1]) (.agg #[.string y0, .int .i64 y1])).run Tryz.prog w = .ok (x0.toList == y0.toList && (x1 == y1)) w := by
 refine PI Tryz.underlying81 (by kernel_rfl) ?_
 refine Yu (by rfl) (by go_simp; rfl) (by go_simp; rfl) (by go_simp) ?_
 exact UJ (by rfl) (by go_simp; rfl) (by go_simp; rfl) (by go_simp)
end Go.Proofs.YtaifemkokfoadaaGreatDoor.PX
namespace Go.Proofs.YtaifemkokfoadaaGreatDoor.PX
open Go.RowKit Go.Proofs.zy.zu Go.Proofs.zy.yI Go.Proofs.zy.yD
attribute [local go_sem] xw xZ xP xR qD qE xQ xX   -- for this text's walks alone
set_option linter.unusedVariables false
set_option linter.unusedSimpArgs false
theorem zch (d : Nat) (w : World) (x0 y0 : ByteArray) (x1 y1 : ByteArray) (x2 y2 : ByteArray) :
  (Op.equalIn (d + 2) 83 (.agg #[.string x0, .string x1, .string x2]) (.agg #[.string y0, .string y1, .string y2])).run Tryz.prog w = .ok (x0.toList == y0.toList && (x1.toList == y1.toList && (x2.toList == y2.toList))) w := by
 refine PI Tryz.underlying83 (by kernel_rfl) ?_
 refine Yu (by rfl) (by go_simp; rfl) (by go_simp; rfl) (by go_simp) ?_
 refine Yu (by rfl) (by go_simp; rfl) (by go_simp; rfl) (by go_simp) ?_
 exact UJ (by rfl) (by go_simp; rfl) (by go_simp; rfl) (by go_simp)
end Go.Proofs.YtaifemkokfoadaaGreatDoor.PX
namespace Go.Proofs.YtaifemkokfoadaaGreatDoor.PX
open Go.RowKit Go.Proofs.zy.zu Go.Proofs.zy.yI Go.Proofs.zy.yD
attribute [local go_sem] xw xZ xP xR qD qE xQ xX   -- for this text's walks alone
set_option linter.unusedVariables false
set_option linter.unusedSimpArgs false
theorem zci (d : Nat) (w : World) (x0 y0 : ByteArray) (x1 y1 : ByteArray) (x2 y2 : Int) :
  (Op.equalIn (d + 2) 84 (.agg #[.string x0, .string x1, .int .i64 x2]) (.agg #[.string y0, .string y1, .int .i64 y2])).run Tryz.prog w = .ok (x0.toList == y0.toList && (x1.toList == y1.toList && (x2 == y2))) w := by
 refine PI Tryz.underlying84 (by kernel_rfl) ?_
 refine Yu (by rfl) (by go_simp; rfl) (by go_simp; rfl) (by go_simp) ?_
 refine Yu (by rfl) (by go_simp; rfl) (by go_simp; rfl) (by go_simp) ?_
 exact UJ (by rfl) (by go_simp; rfl) (by go_simp; rfl) (by go_simp)
end Go.Proofs.YtaifemkokfoadaaGreatDoor.PX
namespace Go.Proofs.YtaifemkokfoadaaGreatDoor.PX
open Go.RowKit Go.Proofs.zy.zu Go.Proofs.zy.yI Go.Proofs.zy.yD
attribute [local go_sem] xw xZ xP xR qD qE xQ xX   -- for this text's walks alone
set_option linter.unusedVariables false
set_option linter.unusedSimpArgs false
attribute [local go_sem high] zcg zch zci
end Go.Proofs.YtaifemkokfoadaaGreatDoor.PX
namespace Go.Proofs.YtaifemkokfoadaaGreatDoor.PX
open Go.RowKit Go.Proofs.zy.zu Go.Proofs.zy.yI Go.Proofs.zy.yD
attribute [local go_sem] xw xZ xP xR qD qE xQ xX   -- for this text's walks alone
set_option linter.unusedVariables false
set_option linter.unusedSimpArgs false
end Go.Proofs.YtaifemkokfoadaaGreatDoor.PX
namespace Go.Proofs.YtaifemkokfoadaaGreatDoor.PX
open Go.RowKit Go.Proofs.zy.zu Go.Proofs.zy.yI Go.Proofs.zy.yD
attribute [local go_sem] xw xZ xP xR qD qE xQ xX   -- for this text's walks alone
set_option linter.unusedVariables false
set_option linter.unusedSimpArgs false
theorem zcl (d : Nat) (w : World) (x0 y0 : ByteArray) (x1 y1 : Int) :
  (Op.equalIn (d + 2) 31 (.agg #[.string x0, .int .i64 x1]) (.agg #[.string y0, .int .i64 y1])).run Tryz.prog w = .ok (x0.toList == y0.toList && (x1 == y1)) w := by
 refine PI Tryz.underlying31 (by kernel_rfl) ?_
 refine Yu (by rfl) (by go_simp; rfl) (by go_simp; rfl) (by go_simp) ?_
 exact UJ (by rfl) (by go_simp; rfl) (by go_simp; rfl) (by go_simp)
end Go.Proofs.YtaifemkokfoadaaGreatDoor.PX
namespace Go.Proofs.YtaifemkokfoadaaGreatDoor.PX
open Go.RowKit Go.Proofs.zy.zu Go.Proofs.zy.yI Go.Proofs.zy.yD
attribute [local go_sem] xw xZ xP xR qD qE xQ xX   -- for this text's walks alone
set_option linter.unusedVariables false
set_option linter.unusedSimpArgs false
attribute [local go_sem high] zcl
end Go.Proofs.YtaifemkokfoadaaGreatDoor.PX
namespace Go.Proofs.YtaifemkokfoadaaGreatDoor.PX
open Go.RowKit Go.Proofs.zy.zu Go.Proofs.zy.yI Go.Proofs.zy.yD
attribute [local go_sem] xw xZ xP xR qD qE xQ xX   -- for this text's walks alone
set_option linter.unusedVariables false
set_option linter.unusedSimpArgs false
theorem zcm (d : Nat) (w : World) (x0 y0 : ByteArray) (x1 y1 : ByteArray) (x2 y2 : ByteArray) :
  (Op.equalIn (d + 2) 86 (.agg #[.string x0, .string x1, .string x2]) (.agg #[.string y0, .string y1, .string y2])).run Tryz.prog w = .ok (x0.toList == y0.toList && (x1.toList == y1.toList && (x2.toList == y2.toList))) w := by
 refine PI Tryz.underlying86 (by kernel_rfl) ?_
 refine Yu (by rfl) (by go_simp; rfl) (by go_simp; rfl) (by go_simp) ?_
 refine Yu (by rfl) (by go_simp; rfl) (by go_simp; rfl) (by go_simp) ?_
 exact UJ (by rfl) (by go_simp; rfl) (by go_simp; rfl) (by go_simp)
end Go.Proofs.YtaifemkokfoadaaGreatDoor.PX
namespace Go.Proofs.YtaifemkokfoadaaGreatDoor.PX
open Go.RowKit Go.Proofs.zy.zu Go.Proofs.zy.yI Go.Proofs.zy.yD
attribute [local go_sem] xw xZ xP xR qD qE xQ xX   -- for this text's walks alone
set_option linter.unusedVariables false
set_option linter.unusedSimpArgs false
attribute [local go_sem high] zcm
end Go.Proofs.YtaifemkokfoadaaGreatDoor.PX
namespace Go.Proofs.YtaifemkokfoadaaGreatDoor.PX
open Go.RowKit Go.Proofs.zy.zu Go.Proofs.zy.yI Go.Proofs.zy.yD
attribute [local go_sem] xw xZ xP xR qD qE xQ xX   -- for this text's walks alone
set_option linter.unusedVariables false
set_option linter.unusedSimpArgs false
theorem zcn (d : Nat) (w : World) (x0 y0 : ByteArray) (x1 y1 : ByteArray) (x2 y2 : Int) :
  (Op.equalIn (d + 2) 76 (.agg #[.string x0, .string x1, .int .i64 x2]) (.agg #[.string y0, .string y1, .int .i64 y2])).run Tryz.prog w = .ok (x0.toList == y0.toList && (x1.toList == y1.toList && (x2 == y2))) w := by
 refine PI Tryz.underlying76 (by kernel_rfl) ?_
 refine Yu (by rfl) (by go_simp; rfl) (by go_simp; rfl) (by go_simp) ?_
 refine Yu (by rfl) (by go_simp; rfl) (by go_simp; rfl) (by go_simp) ?_
 exact UJ (by rfl) (by go_simp; rfl) (by go_simp; rfl) (by go_simp)
end Go.Proofs.YtaifemkokfoadaaGreatDoor.PX
namespace Go.Proofs.YtaifemkokfoadaaGreatDoor.PX
open Go.RowKit Go.Proofs.zy.zu Go.Proofs.zy.yI Go.Proofs.zy.yD
attribute [local go_sem] xw xZ xP xR qD qE xQ xX   -- for this text's walks alone
set_option linter.unusedVariables false
set_option linter.unusedSimpArgs false
attribute [local go_sem high] zcn
end Go.Proofs.YtaifemkokfoadaaGreatDoor.PX
namespace Go.Proofs.YtaifemkokfoadaaGreatDoor.PX
open Go.RowKit Go.Proofs.zy.zu Go.Proofs.zy.yI Go.Proofs.zy.yD
attribute [local go_sem] xw xZ xP xR qD qE xQ xX   -- for this text's walks alone
set_option linter.unusedVariables false
set_option linter.unusedSimpArgs false
end Go.Proofs.YtaifemkokfoadaaGreatDoor.PX
namespace Go.Proofs.YtaifemkokfoadaaGreatDoor.PX
open Go.RowKit Go.Proofs.zy.zu Go.Proofs.zy.yI Go.Proofs.zy.yD
attribute [local go_sem] xw xZ xP xR qD qE xQ xX   -- for this text's walks alone
set_option linter.unusedVariables false
set_option linter.unusedSimpArgs false
end Go.Proofs.YtaifemkokfoadaaGreatDoor.PX
namespace Go.Proofs.YtaifemkokfoadaaGreatDoor
open Go.RowKit Go.Proofs.zy.zu Go.Proofs.zy.yD Go.Proofs.YtaifemkokfoadaaGreatDoor.PX
set_option linter.unusedSimpArgs false
set_option linter.unusedVariables false
theorem toList_inj {a b : ByteArray} : a.toList = b.toList ↔ a = b := by
 constructor
 ·intro h
  rw [Lib.toList_data, Lib.toList_data] at h
  exact ByteArray.ext (Array.toList_inj.1 h)
 ·rintro rfl
  rfl
theorem zWT : qC jI.f0 jI.f2 jI.f3 jI.f4 jI.f5 = true := by decide +kernel
theorem zKr : YG.f = some true := by
 have h1 : jV.f jI.f0 jI.f1 jI.f2 jI.f3 jI.f4 jI.f5 = some true := by
  unfold jV.f
  rw [zWT]
  decide +kernel
 have h2 : kF.f jI.f0 jI.f1 jI.f2 jI.f3 jI.f4 jI.f5 (⟨#[109]⟩ : ByteArray) = some (79, true) := by decide +kernel
 have h3 : (xL jI.f3 79).f1 = 750 := by decide +kernel
 have h4 : uh.f 750 10 = some 75 := by decide +kernel
 have h5 : kT.f jI.f0 jI.f1 jI.f2 jI.f3 jI.f4 jI.f5 (⟨#[109]⟩ : ByteArray) 10 = some (75, 0) := by
  have hlen : jI.f3.length = 97 := by decide +kernel
  unfold kT.f kI.f
  rw [if_pos (by decide), if_pos (by decide), h1, h2]
  simp only [Option.bind_some, if_true]
  rw [if_pos (by decide), if_pos (by rw [hlen]; decide), h3, h4]
  rfl
 show (wF.f).bind _ = _
 unfold wF.f
 simp only [Option.bind_some]
 rw [if_pos (by decide), if_pos (by decide)]
 show (kT.f jI.f0 jI.f1 jI.f2 jI.f3 jI.f4 jI.f5 (⟨#[109]⟩ : ByteArray) 10).bind _ = _
 rw [h5]
 rfl
end Go.Proofs.YtaifemkokfoadaaGreatDoor
namespace Go.Proofs.YtaifemkokfoadaaGreatDoor
open Go.RowKit Go.Shelf Go.Proofs.zy.zu Go.Proofs.zy.yI Go.Proofs.zy.yD Go.Proofs.YtaifemkokfoadaaGreatDoor.PX
set_option linter.unusedSimpArgs false
set_option linter.unusedVariables false
theorem zQZ {a : ByteArray} {c : Int} {l3 : List qg} {l4 : List xC} {l5 : List vk} (h : qC a c l3 l4 l5 = true) : l3.length ≤ 400 ∧ l4.length ≤ 50 ∧ l5.length ≤ 500 := by
 unfold qC at h
 split at h
 ·cases h
 ·rename_i q1
  simp only [Bool.or_eq_true, not_or, decide_eq_true_eq] at q1
  omega
theorem zqH {a : ByteArray} {c : Int} {l3 : List qg} {l4 : List xC} {l5 : List vk} (h : qC a c l3 l4 l5 = true) : Asc l3 := by
 unfold qC at h
 split at h
 ·cases h
 ·split at h
  ·cases h
  ·rename_i q2
   simp only [Bool.or_eq_true, not_or, Bool.not_eq_true, Bool.not_eq_false'] at q2
   exact zZ9 q2.2
theorem dG {a : ByteArray} {c : Int} {l3 : List qg} {l4 : List xC} {l5 : List vk} (h : qC a c l3 l4 l5 = true) : ∀ x ∈ l3, 0 ≤ x.f1 ∧ x.f1 ≤ 3000 := by
 unfold qC at h
 split at h
 ·cases h
 ·split at h
  ·cases h
  ·rename_i q2
   intro x hx
   simp only [Bool.or_eq_true, not_or, Bool.not_eq_true, Bool.not_eq_false'] at q2
   have h1 := List.any_eq_false.1 q2.1 x hx
   unfold Jh XF at h1
   simp only [Bool.or_eq_true, not_or, decide_eq_true_eq] at h1
   omega
theorem rM (a n : Int) (h0 : 0 < n) (h1 : n ≤ 1000000) : ∃ i : Nat, (i : Int) < n ∧ wrap64 ((IntKind.u64.wrap a).tmod n) = (i : Int) := by
 have hu : 0 ≤ IntKind.u64.wrap a := by
  show 0 ≤ a % 18446744073709551616
  exact Int.emod_nonneg _ (by decide)
 generalize IntKind.u64.wrap a = u at hu
 rw [Int.tmod_eq_emod_of_nonneg hu]
 have e0 := Int.emod_nonneg u (by omega : n ≠ 0)
 have e1 := Int.emod_lt_of_pos u h0
 generalize u % n = r at e0 e1
 exact ⟨r.toNat, by omega, by rw [Yi (by omega) (by omega)]; omega⟩
end Go.Proofs.YtaifemkokfoadaaGreatDoor
namespace Go.Proofs.YtaifemkokfoadaaGreatDoor.PX
open Go.RowKit Go.Proofs.zy.zu Go.Proofs.zy.yI Go.Proofs.zy.yD
attribute [local go_sem] xw xZ xP xR qD qE xQ xX   -- for this text's walks alone
set_option linter.unusedVariables false
set_option linter.unusedSimpArgs false
def vK.l0 : Nat → Int → ByteArray → Bool → Int → List (zo) → List (qF) → List (qG) → Option (Bool)
 | 0, _, _, _, _, _, _, _ => none
 | k + 1, x3, zKs, zKt, zyZ, zzG, zKu, zKA => if x3 < (zzG.length : Int) then (if 0 ≤ x3 then (if ((zN zzG x3).f1) = zyZ then (vK.l0 k (wrap64 (x3 + 1)) zKs zKt zyZ zzG zKu zKA) else (some false)) else (none)) else (some true)
def vK.f (k : Nat) (zG : ByteArray) (zH : Bool) (zC : Int) (ze : List (zo)) (zn : List (qF)) (zm : List (qG)) : Option (Bool) := vK.l0 k 0 zG zH zC ze zn zm
set_option maxHeartbeats 8000000 in
set_option maxRecDepth 100000 in
theorem vK.calls (k : Nat) (zG : ByteArray) (zH : Bool) (zC : Int) (yG : Option Addr) (yH : Nat) (ze : List (zo)) (yM : Option Addr) (yN : Nat) (zn : List (qF)) (yO : Option Addr) (yP : Nat) (zm : List (qG)) (r : Bool) (w : World) (vS : Kd.C qJ w yG ze.length ze) (uP : ze.length ≤ yH) (uR : Kd.C jC w yM zn.length zn) (uS : zn.length ≤ yN) (uT : Kd.C jS w yO zm.length zm) (uU : zm.length ≤ yP) (h : vK.f k zG zH zC ze zn zm = some r) :
  Calls Tryz.prog 65 #[.agg #[.string zG, .bool zH, .int .i64 zC, .slice yG ze.length yH, .slice yM zn.length yN, .slice yO zm.length yP]] w fun e w' => e = .returned (.bool r) ∧ Below w.heap.size w w' := by
 have Ku := Tryz.underlying44
 have uG := zx.mk vS
 have jD := zx.mk uP
 clear vS uP
 have jy := zx.mk uR
 have jE := zx.mk uS
 clear uR uS
 have jw := zx.mk uT
 have jF := zx.mk uU
 clear uT uU
 have HB := zx.mk (Below.refl w.heap.size w)
 have H : (vK.l0 k 0 zG zH zC ze zn zm) = some r := h
 clear h
 have H' := zx.mk H
 clear H
 go_enter Tryz.func65, Tryz.ntmps65
 go_wp2_with (first | ((with_reducible refine qx (N := 1) rfl ?_); refine ql ?hg (N := 1) ?hd (cs := #[.string zG, .bool zH, .int .i64 zC, .slice yG ze.length yH, .slice yM zn.length yN, .slice yO zm.length yP]) (t := 44) ?hr ?_; (case hd => rfl); (case hg => rfl); (case hr => first | (go_simp; done) | (go_simp; rfl)); intro kU hg w2 qK hb; have zf := zx.mk (zI (zD HB.out) hb); have zh := zx.mk (qK); have zA := zx.mk ((by rw [hg]; exact (zV (zD HB.out)) : w.heap.size ≤ kU)); have zR := zx.mk ((by rw [hg]; exact (zV (zD HB.out)) : w.heap.size ≤ kU)); clear HB; have HB := zf; have uH := zh; have zJC := zA; have zxZ := zR; clear zf zh zA zR; clear hb qK hg))
 repeat (go_quiet (first | ((with_reducible refine qx (N := 1) rfl ?_); refine ql ?hg (N := 1) ?hd (cs := #[.string zG, .bool zH, .int .i64 zC, .slice yG ze.length yH, .slice yM zn.length yN, .slice yO zm.length yP]) (t := 44) ?hr ?_; (case hd => rfl); (case hg => rfl); (case hr => first | (go_simp; done) | (go_simp; rfl)); intro kU hg w2 qK hb; have zf := zx.mk (zI (zD HB.out) hb); have zh := zx.mk (qK); have zA := zx.mk ((by rw [hg]; exact (zV (zD HB.out)) : w.heap.size ≤ kU)); have zR := zx.mk ((by rw [hg]; exact (zV (zD HB.out)) : w.heap.size ≤ kU)); clear HB; have HB := zf; have uH := zh; have zJC := zA; have zxZ := zR; clear zf zh zA zR; clear hb qK hg)); try go_wp2_with (first | ((with_reducible refine qx (N := 1) rfl ?_); refine ql ?hg (N := 1) ?hd (cs := #[.string zG, .bool zH, .int .i64 zC, .slice yG ze.length yH, .slice yM zn.length yN, .slice yO zm.length yP]) (t := 44) ?hr ?_; (case hd => rfl); (case hg => rfl); (case hr => first | (go_simp; done) | (go_simp; rfl)); intro kU hg w2 qK hb; have zf := zx.mk (zI (zD HB.out) hb); have zh := zx.mk (qK); have zA := zx.mk ((by rw [hg]; exact (zV (zD HB.out)) : w.heap.size ≤ kU)); have zR := zx.mk ((by rw [hg]; exact (zV (zD HB.out)) : w.heap.size ≤ kU)); clear HB; have HB := zf; have uH := zh; have zJC := zA; have zxZ := zR; clear zf zh zA zR; clear hb qK hg)))
 go_loopg [3] k (fun kq v3 w' => ∃ (qh : Int), v3 = .int .i64 qh ∧ zx (vK.l0 kq qh zG zH zC ze zn zm = some r) ∧ zx (kq ≤ k) ∧ zx (w'.heap[kU]? = some (.cells #[.string zG, .bool zH, .int .i64 zC, (.slice yG ze.length yH), (.slice yM zn.length yN), (.slice yO zm.length yP)] 44 (0, 0))) ∧ zx (Below w.heap.size w w'))
 case atStart => exact ⟨(0), (by first | rfl | (simp; done) | (simp [*]; done)), H', ⟨Nat.le_refl _⟩, ⟨yt uH.out⟩, ⟨zD HB.out⟩⟩
 case round =>
  clear H'
  try clear p2
  obtain ⟨qh, rfl, HA, jv, uH, HB⟩ := hrel
  cases gk with
  | zero => exact absurd HA.out (by simp [vK.l0])
  | succ k1 =>
   have H := HA.out
   clear HA
   simp only [vK.l0] at H
   by_cases c3 : qh < (ze.length : Int)
   ·rw [if_pos c3] at H
    have ZR : decide (qh < (ze.length : Int)) = true := decide_eq_true c3
    clear c3
    by_cases c4 : 0 ≤ qh
    ·rw [if_pos c4] at H
     have Xw : decide (0 ≤ qh) = true := decide_eq_true c4
     clear c4
     by_cases c5 : ((zN ze qh).f1) = zC
     ·rw [if_pos c5] at H
      have p8 : (((zN ze qh).f1) == zC) = true := beq_iff_eq.mpr c5
      have ou : (((zN ze qh).f1) != zC) = false := bne_eq_false_iff_eq.mpr c5
      clear c5
      have H' := zx.mk H
      clear H
      have zQQ : wr.cell? ⟨kU, 0, none⟩ = some (.string zG) := (zk uH.out 0).trans rfl
      have zQX : wr.cell? ⟨kU, 1, none⟩ = some (.bool zH) := (zk uH.out 1).trans rfl
      have zQJ : wr.cell? ⟨kU, 2, none⟩ = some (.int .i64 zC) := (zk uH.out 2).trans rfl
      have zQV : wr.cell? ⟨kU, 3, none⟩ = some (.slice yG ze.length yH) := (zk uH.out 3).trans rfl
      have zQK : wr.cell? ⟨kU, 4, none⟩ = some (.slice yM zn.length yN) := (zk uH.out 4).trans rfl
      have zQY : wr.cell? ⟨kU, 5, none⟩ = some (.slice yO zm.length yP) := (zk uH.out 5).trans rfl
      have zQW := zw uH.out 0
      have zQa := zw uH.out 1
      have zQb := zw uH.out 2
      have zQc := zw uH.out 3
      have zQd := zw uH.out 4
      have zQe := zw uH.out 5
      have aK : 0 ≤ (qh : Int) := of_decide_eq_true (by first | (with_reducible assumption) | assumption)
      have aY : qh < (ze.length : Int) := of_decide_eq_true (by first | (with_reducible assumption) | assumption)
      obtain ⟨zco, zXA, UA, UC⟩ := ZY uG.out qh aK aY
      cases zXA
      replace UA := (HB.out.cell (World.block_lt_of_cell? w _ UA)).trans UA
      replace UC := (HB.out.cell (World.block_lt_of_cell? w _ UC)).trans UC
      replace aK := eq_true aK
      replace aY := eq_true aY
      go_wp2
      repeat (go_quiet (fail); try go_wp2)
      go_roundg k1
      case measure => have := jv.out; omega
      case rel => exact ⟨(wrap64 (qh + 1)), (by first | rfl | (simp; done) | (simp [*]; done)), H', ⟨by have := jv.out; omega⟩, ⟨yt uH.out⟩, ⟨zD HB.out⟩⟩
     ·rw [if_neg c5] at H
      have p8 : (((zN ze qh).f1) == zC) = false := beq_eq_false_iff_ne.mpr c5
      have ou : (((zN ze qh).f1) != zC) = true := bne_iff_ne.mpr c5
      obtain rfl := Option.some.inj H
      have zxt : wr.cell? ⟨kU, 0, none⟩ = some (.string zG) := (zk uH.out 0).trans rfl
      have zxu : wr.cell? ⟨kU, 1, none⟩ = some (.bool zH) := (zk uH.out 1).trans rfl
      have zxA : wr.cell? ⟨kU, 2, none⟩ = some (.int .i64 zC) := (zk uH.out 2).trans rfl
      have zxB : wr.cell? ⟨kU, 3, none⟩ = some (.slice yG ze.length yH) := (zk uH.out 3).trans rfl
      have zxC : wr.cell? ⟨kU, 4, none⟩ = some (.slice yM zn.length yN) := (zk uH.out 4).trans rfl
      have zxD : wr.cell? ⟨kU, 5, none⟩ = some (.slice yO zm.length yP) := (zk uH.out 5).trans rfl
      have zxE := zw uH.out 0
      have zxF := zw uH.out 1
      have zxG := zw uH.out 2
      have zxH := zw uH.out 3
      have zxI := zw uH.out 4
      have zxL := zw uH.out 5
      have aK : 0 ≤ (qh : Int) := of_decide_eq_true (by first | (with_reducible assumption) | assumption)
      have aY : qh < (ze.length : Int) := of_decide_eq_true (by first | (with_reducible assumption) | assumption)
      obtain ⟨zco, zXA, UA, UC⟩ := ZY uG.out qh aK aY
      cases zXA
      replace UA := (HB.out.cell (World.block_lt_of_cell? w _ UA)).trans UA
      replace UC := (HB.out.cell (World.block_lt_of_cell? w _ UC)).trans UC
      replace aK := eq_true aK
      replace aY := eq_true aY
      go_wp2
      repeat (go_quiet (fail); try go_wp2)
      go_ret
      exact ⟨by first | rfl | (simp [zU, z8] <;> rfl) | (simp [*, zU, z8] <;> rfl), by repeat (first | (with_reducible first | exact HB.out | apply yu | apply zP | apply yT | refine qB ?_ zxZ.out) | exact HB.out)⟩
    ·rw [if_neg c4] at H
     exact absurd H (by simp)
   ·rw [if_neg c3] at H
    have ZR : decide (qh < (ze.length : Int)) = false := decide_eq_false c3
    clear c3
    obtain rfl := Option.some.inj H
    have zZM : wr.cell? ⟨kU, 0, none⟩ = some (.string zG) := (zk uH.out 0).trans rfl
    have zZN : wr.cell? ⟨kU, 1, none⟩ = some (.bool zH) := (zk uH.out 1).trans rfl
    have zZO : wr.cell? ⟨kU, 2, none⟩ = some (.int .i64 zC) := (zk uH.out 2).trans rfl
    have zZP : wr.cell? ⟨kU, 3, none⟩ = some (.slice yG ze.length yH) := (zk uH.out 3).trans rfl
    have zZR : wr.cell? ⟨kU, 4, none⟩ = some (.slice yM zn.length yN) := (zk uH.out 4).trans rfl
    have zZS : wr.cell? ⟨kU, 5, none⟩ = some (.slice yO zm.length yP) := (zk uH.out 5).trans rfl
    have zZT := zw uH.out 0
    have zZU := zw uH.out 1
    have zZ0 := zw uH.out 2
    have zZ1 := zw uH.out 3
    have zZ2 := zw uH.out 4
    have zZ3 := zw uH.out 5
    go_wp2
    repeat (go_quiet (fail); try go_wp2)
    go_ret
    exact ⟨by first | rfl | (simp [zU, z8] <;> rfl) | (simp [*, zU, z8] <;> rfl), by repeat (first | (with_reducible first | exact HB.out | apply yu | apply zP | apply yT | refine qB ?_ zxZ.out) | exact HB.out)⟩
end Go.Proofs.YtaifemkokfoadaaGreatDoor.PX
namespace Go.Proofs.YtaifemkokfoadaaGreatDoor.PX
open Go.RowKit Go.Proofs.zy.zu Go.Proofs.zy.yI Go.Proofs.zy.yD
attribute [local go_sem] xw xZ xP xR qD qE xQ xX   -- for this text's walks alone
set_option linter.unusedVariables false
set_option linter.unusedSimpArgs false
def wN.f (a0 : Int) (a1 : Int) : Option (Int) := if a1 = 0 then (none) else (if (Int.tmod a0 a1) < 0 then (some (wrap64 ((wrap64 (Int.tdiv a0 a1)) - 1))) else (some (wrap64 (Int.tdiv a0 a1))))
set_option maxHeartbeats 8000000 in
set_option maxRecDepth 100000 in
theorem wN.calls (a0 : Int) (a1 : Int) (r : Int) (w : World) (h : wN.f a0 a1 = some r) :
  Calls Tryz.prog 134 #[.int .i64 a0, .int .i64 a1] w fun e w' => e = .returned (.int .i64 r) ∧ yx w w' := by
 have H : (if a1 = 0 then (none) else (if (Int.tmod a0 a1) < 0 then (some (wrap64 ((wrap64 (Int.tdiv a0 a1)) - 1))) else (some (wrap64 (Int.tdiv a0 a1))))) = some r := h
 clear h
 by_cases c3 : a1 = 0
 ·rw [if_pos c3] at H
  exact absurd H (by simp)
 ·rw [if_neg c3] at H
  have ZR : (a1 == 0) = false := beq_eq_false_iff_ne.mpr c3
  have zft : (a1 != 0) = true := bne_iff_ne.mpr c3
  by_cases c4 : (Int.tmod a0 a1) < 0
  ·rw [if_pos c4] at H
   have Xw : decide ((Int.tmod a0 a1) < 0) = true := decide_eq_true c4
   clear c4
   obtain rfl := Option.some.inj H
   go_enter Tryz.func134, Tryz.ntmps134
   go_wp2
   go_ret
   exact ⟨by first | rfl | (simp; done) | (simp [*]; done), by repeat (first | exact yx.refl _ | apply yx.step)⟩
  ·rw [if_neg c4] at H
   have Xw : decide ((Int.tmod a0 a1) < 0) = false := decide_eq_false c4
   clear c4
   obtain rfl := Option.some.inj H
   go_enter Tryz.func134, Tryz.ntmps134
   go_wp2
   go_ret
   exact ⟨by first | rfl | (simp; done) | (simp [*]; done), by repeat (first | exact yx.refl _ | apply yx.step)⟩
def vw.f (a0 : Int) (a1 : Int) : Option (Int) := (wN.f (wrap64 ((wrap64 (10 * a1)) * a0)) 1000).bind fun zzH => (some zzH)
set_option maxHeartbeats 8000000 in
set_option maxRecDepth 100000 in
theorem vw.calls (a0 : Int) (a1 : Int) (r : Int) (w : World) (h : vw.f a0 a1 = some r) :
  Calls Tryz.prog 110 #[.int .i64 a0, .int .i64 a1] w fun e w' => e = .returned (.int .i64 r) ∧ yx w w' := by
 have H : ((wN.f (wrap64 ((wrap64 (10 * a1)) * a0)) 1000).bind fun zzH => (some zzH)) = some r := h
 clear h
 replace H := Option.bind_eq_some_iff.mp H
 obtain ⟨zzH, Wu, H⟩ := H
 replace H : (some zzH) = some r := H
 have A3 := zx.mk Wu
 clear Wu
 obtain rfl := Option.some.inj H
 go_enter Tryz.func110, Tryz.ntmps110
 go_wp2_with (first | ((with_reducible refine yY (f := 134) rfl ?_); refine uN (some 9) Tryz.func134 #[.int .i64 (wrap64 ((wrap64 (10 * a1)) * a0)), .int .i64 1000] ?_; (with_reducible refine (wN.calls (wrap64 ((wrap64 (10 * a1)) * a0)) 1000 zzH _ A3.out).mono ?_); rintro e w' ⟨rfl, ⟨nd, rfl⟩⟩; refine ⟨_, rfl, ?_⟩))
 go_ret
 exact ⟨by first | rfl | (simp; done) | (simp [*]; done), by repeat (first | exact yx.refl _ | apply yx.step)⟩
end Go.Proofs.YtaifemkokfoadaaGreatDoor.PX
namespace Go.Proofs.YtaifemkokfoadaaGreatDoor.PX
open Go.RowKit Go.Proofs.zy.zu Go.Proofs.zy.yI Go.Proofs.zy.yD
attribute [local go_sem] xw xZ xP xR qD qE xQ xX   -- for this text's walks alone
set_option linter.unusedVariables false
set_option linter.unusedSimpArgs false
def qO.l0 : Nat → ByteArray → Int → Int → ByteArray → Bool → Int → List (zo) → List (qF) → List (qG) → Option (Int × Bool)
 | 0, _, _, _, _, _, _, _, _, _ => none
 | k + 1, x1, x2, x8, zKB, zKC, zKD, rO, zKE, zKF => if x8 < (rO.length : Int) then (if 0 ≤ x8 then (if ((zN rO x8).f0).toList = x1.toList then ((vw.f ((zN rO x8).f1) x2).bind fun zwN => (some (zwN, true))) else (qO.l0 k x1 x2 (wrap64 (x8 + 1)) zKB zKC zKD rO zKE zKF)) else (none)) else (some (0, false))
def qO.f (k : Nat) (zG : ByteArray) (zH : Bool) (zC : Int) (ze : List (zo)) (zn : List (qF)) (zm : List (qG)) (a1 : ByteArray) (a2 : Int) : Option (Int × Bool) := qO.l0 k a1 a2 0 zG zH zC ze zn zm
set_option maxHeartbeats 8000000 in
set_option maxRecDepth 100000 in
theorem qO.calls (k : Nat) (zG : ByteArray) (zH : Bool) (zC : Int) (yG : Option Addr) (yH : Nat) (ze : List (zo)) (yM : Option Addr) (yN : Nat) (zn : List (qF)) (yO : Option Addr) (yP : Nat) (zm : List (qG)) (a1 : ByteArray) (a2 : Int) (r1 : Int) (r2 : Bool) (w : World) (vS : Kd.C qJ w yG ze.length ze) (uP : ze.length ≤ yH) (uR : Kd.C jC w yM zn.length zn) (uS : zn.length ≤ yN) (uT : Kd.C jS w yO zm.length zm) (uU : zm.length ≤ yP) (h : qO.f k zG zH zC ze zn zm a1 a2 = some (r1, r2)) :
  Calls Tryz.prog 109 #[.agg #[.string zG, .bool zH, .int .i64 zC, .slice yG ze.length yH, .slice yM zn.length yN, .slice yO zm.length yP], .string a1, .int .i64 a2] w fun e w' => e = .returned (.tuple #[.int .i64 r1, .bool r2]) ∧ Below w.heap.size w w' := by
 have Ku := Tryz.underlying44
 have uG := zx.mk vS
 have jD := zx.mk uP
 clear vS uP
 have jy := zx.mk uR
 have jE := zx.mk uS
 clear uR uS
 have jw := zx.mk uT
 have jF := zx.mk uU
 clear uT uU
 have HB := zx.mk (Below.refl w.heap.size w)
 have H : (qO.l0 k a1 a2 0 zG zH zC ze zn zm) = some (r1, r2) := h
 clear h
 have H' := zx.mk H
 clear H
 go_enter Tryz.func109, Tryz.ntmps109
 go_wp2_with (first | ((with_reducible refine qx (N := 3) rfl ?_); refine ql ?hg (N := 3) ?hd (cs := #[.string zG, .bool zH, .int .i64 zC, .slice yG ze.length yH, .slice yM zn.length yN, .slice yO zm.length yP]) (t := 44) ?hr ?_; (case hd => rfl); (case hg => rfl); (case hr => first | (go_simp; done) | (go_simp; rfl)); intro ZV hg w4 qK hb; have zf := zx.mk (zI (zD HB.out) hb); have zh := zx.mk (qK); have zA := zx.mk ((by rw [hg]; exact (zV (zD HB.out)) : w.heap.size ≤ ZV)); have zR := zx.mk ((by rw [hg]; exact (zV (zD HB.out)) : w.heap.size ≤ ZV)); clear HB; have HB := zf; have jQ := zh; have zla := zA; have zJD := zR; clear zf zh zA zR; clear hb qK hg))
 go_loopg [8] k (fun kq v8 w' => ∃ (xW : Int), v8 = .int .i64 xW ∧ zx (qO.l0 kq a1 a2 xW zG zH zC ze zn zm = some (r1, r2)) ∧ zx (kq ≤ k) ∧ zx (w'.heap[ZV]? = some (.cells #[.string zG, .bool zH, .int .i64 zC, (.slice yG ze.length yH), (.slice yM zn.length yN), (.slice yO zm.length yP)] 44 (0, 0))) ∧ zx (Below w.heap.size w w'))
 case atStart => exact ⟨(0), (by first | rfl | (simp; done) | (simp [*]; done)), H', ⟨Nat.le_refl _⟩, ⟨yt jQ.out⟩, ⟨zD HB.out⟩⟩
 case round =>
  clear H'
  try clear c1
  try clear p2
  obtain ⟨xW, rfl, HA, jv, jQ, HB⟩ := hrel
  cases gk with
  | zero => exact absurd HA.out (by simp [qO.l0])
  | succ k1 =>
   have H := HA.out
   clear HA
   simp only [qO.l0] at H
   by_cases c5 : xW < (ze.length : Int)
   ·rw [if_pos c5] at H
    have p8 : decide (xW < (ze.length : Int)) = true := decide_eq_true c5
    clear c5
    by_cases c6 : 0 ≤ xW
    ·rw [if_pos c6] at H
     have ZF : decide (0 ≤ xW) = true := decide_eq_true c6
     clear c6
     by_cases c7 : ((zN ze xW).f0).toList = a1.toList
     ·rw [if_pos c7] at H
      have ZT : (((zN ze xW).f0).toList == a1.toList) = true := beq_iff_eq.mpr c7
      have oI : (((zN ze xW).f0).toList != a1.toList) = false := bne_eq_false_iff_eq.mpr c7
      clear c7
      replace H := Option.bind_eq_some_iff.mp H
      obtain ⟨zwN, A80, H⟩ := H
      replace H : (some (zwN, true)) = some (r1, r2) := H
      have A8 := zx.mk A80
      clear A80
      simp only [Option.some.injEq, Prod.mk.injEq] at H
      obtain ⟨rfl, rfl⟩ := H
      have KA : wr.cell? ⟨ZV, 0, none⟩ = some (.string zG) := (zk jQ.out 0).trans rfl
      have KC : wr.cell? ⟨ZV, 1, none⟩ = some (.bool zH) := (zk jQ.out 1).trans rfl
      have PO : wr.cell? ⟨ZV, 2, none⟩ = some (.int .i64 zC) := (zk jQ.out 2).trans rfl
      have PS : wr.cell? ⟨ZV, 3, none⟩ = some (.slice yG ze.length yH) := (zk jQ.out 3).trans rfl
      have PU : wr.cell? ⟨ZV, 4, none⟩ = some (.slice yM zn.length yN) := (zk jQ.out 4).trans rfl
      have P6 : wr.cell? ⟨ZV, 5, none⟩ = some (.slice yO zm.length yP) := (zk jQ.out 5).trans rfl
      have KD := zw jQ.out 0
      have KE := zw jQ.out 1
      have P7 := zw jQ.out 2
      have P8 := zw jQ.out 3
      have P9 := zw jQ.out 4
      have bq := zw jQ.out 5
      have aW : 0 ≤ (xW : Int) := of_decide_eq_true (by first | (with_reducible assumption) | assumption)
      have ah : xW < (ze.length : Int) := of_decide_eq_true (by first | (with_reducible assumption) | assumption)
      obtain ⟨zJE, zXB, UD, UE⟩ := ZY uG.out xW aW ah
      cases zXB
      replace UD := (HB.out.cell (World.block_lt_of_cell? w _ UD)).trans UD
      replace UE := (HB.out.cell (World.block_lt_of_cell? w _ UE)).trans UE
      replace aW := eq_true aW
      replace ah := eq_true ah
      have zXC : 0 ≤ (xW : Int) := of_decide_eq_true (by first | (with_reducible assumption) | assumption)
      have zXD : xW < (ze.length : Int) := of_decide_eq_true (by first | (with_reducible assumption) | assumption)
      obtain ⟨zcp, zfu, zzI, zzL⟩ := ZY uG.out xW zXC zXD
      obtain rfl : zJE = zcp := (by injection zfu)
      replace zzI := (HB.out.cell (World.block_lt_of_cell? w _ zzI)).trans zzI
      replace zzL := (HB.out.cell (World.block_lt_of_cell? w _ zzL)).trans zzL
      replace zXC := eq_true zXC
      replace zXD := eq_true zXD
      go_wp2_with (first | ((with_reducible refine yY (f := 110) rfl ?_); refine uN (some 31) Tryz.func110 #[.int .i64 ((zN ze xW).f1), .int .i64 a2] ?_; (with_reducible refine (vw.calls ((zN ze xW).f1) a2 zwN _ A8.out).mono ?_); rintro e w' ⟨rfl, ⟨nd, rfl⟩⟩; refine ⟨_, rfl, ?_⟩))
      go_ret2
      exact ⟨by first | rfl | (simp [zU, z8] <;> rfl) | (simp [*, zU, z8] <;> rfl), by repeat (first | (with_reducible first | exact HB.out | apply yu | apply zP | apply yT | refine qB ?_ zJD.out) | exact HB.out)⟩
     ·rw [if_neg c7] at H
      have ZT : (((zN ze xW).f0).toList == a1.toList) = false := beq_eq_false_iff_ne.mpr c7
      have oI : (((zN ze xW).f0).toList != a1.toList) = true := bne_iff_ne.mpr c7
      have H' := zx.mk H
      clear H
      have bJ : wr.cell? ⟨ZV, 0, none⟩ = some (.string zG) := (zk jQ.out 0).trans rfl
      have bV : wr.cell? ⟨ZV, 1, none⟩ = some (.bool zH) := (zk jQ.out 1).trans rfl
      have bK : wr.cell? ⟨ZV, 2, none⟩ = some (.int .i64 zC) := (zk jQ.out 2).trans rfl
      have bY : wr.cell? ⟨ZV, 3, none⟩ = some (.slice yG ze.length yH) := (zk jQ.out 3).trans rfl
      have bW : wr.cell? ⟨ZV, 4, none⟩ = some (.slice yM zn.length yN) := (zk jQ.out 4).trans rfl
      have bg : wr.cell? ⟨ZV, 5, none⟩ = some (.slice yO zm.length yP) := (zk jQ.out 5).trans rfl
      have J8 := zw jQ.out 0
      have J9 := zw jQ.out 1
      have Kz := zw jQ.out 2
      have Kq := zw jQ.out 3
      have Kj := zw jQ.out 4
      have Kv := zw jQ.out 5
      have aW : 0 ≤ (xW : Int) := of_decide_eq_true (by first | (with_reducible assumption) | assumption)
      have ah : xW < (ze.length : Int) := of_decide_eq_true (by first | (with_reducible assumption) | assumption)
      obtain ⟨zJE, zXB, UD, UE⟩ := ZY uG.out xW aW ah
      cases zXB
      replace UD := (HB.out.cell (World.block_lt_of_cell? w _ UD)).trans UD
      replace UE := (HB.out.cell (World.block_lt_of_cell? w _ UE)).trans UE
      replace aW := eq_true aW
      replace ah := eq_true ah
      go_wp2
      go_roundg k1
      case measure => have := jv.out; omega
      case rel => exact ⟨(wrap64 (xW + 1)), (by first | rfl | (simp; done) | (simp [*]; done)), H', ⟨by have := jv.out; omega⟩, ⟨yt jQ.out⟩, ⟨zD HB.out⟩⟩
    ·rw [if_neg c6] at H
     exact absurd H (by simp)
   ·rw [if_neg c5] at H
    have p8 : decide (xW < (ze.length : Int)) = false := decide_eq_false c5
    clear c5
    simp only [Option.some.injEq, Prod.mk.injEq] at H
    obtain ⟨rfl, rfl⟩ := H
    have JL : wr.cell? ⟨ZV, 0, none⟩ = some (.string zG) := (zk jQ.out 0).trans rfl
    have JM : wr.cell? ⟨ZV, 1, none⟩ = some (.bool zH) := (zk jQ.out 1).trans rfl
    have JN : wr.cell? ⟨ZV, 2, none⟩ = some (.int .i64 zC) := (zk jQ.out 2).trans rfl
    have JO : wr.cell? ⟨ZV, 3, none⟩ = some (.slice yG ze.length yH) := (zk jQ.out 3).trans rfl
    have JR : wr.cell? ⟨ZV, 4, none⟩ = some (.slice yM zn.length yN) := (zk jQ.out 4).trans rfl
    have JU : wr.cell? ⟨ZV, 5, none⟩ = some (.slice yO zm.length yP) := (zk jQ.out 5).trans rfl
    have J2 := zw jQ.out 0
    have J3 := zw jQ.out 1
    have J4 := zw jQ.out 2
    have J5 := zw jQ.out 3
    have J6 := zw jQ.out 4
    have J7 := zw jQ.out 5
    go_wp2
    go_ret2
    exact ⟨by first | rfl | (simp [zU, z8] <;> rfl) | (simp [*, zU, z8] <;> rfl), by repeat (first | (with_reducible first | exact HB.out | apply yu | apply zP | apply yT | refine qB ?_ zJD.out) | exact HB.out)⟩
end Go.Proofs.YtaifemkokfoadaaGreatDoor.PX
