/-
  Texts that lean on one another, laid in one file. No condition.
-/
import Derived.Test.YtaifemkokfoadaaGreatDoorGSB2
import Derived.Laws.Runes
import Derived.ChangeAlike
import Derived.RangeFuncRecord
import Derived.Laws.EntriesVeiled
import Derived.Sort.Walk0
import Derived.Test.YtaifemkokfoadaaGreatDoorGSB1
namespace Go.Proofs.YtaifemkokfoadaaGreatDoor
open Go.RowKit Go.Shelf Go.Proofs.zx.zK Go.Proofs.zx.zU Go.Proofs.zx.zN Go.Proofs.YtaifemkokfoadaaGreatDoor.PX
set_option linter.unusedSimpArgs false
theorem zz6 {w W w1 : World} {r r' : Option Nat} (h : w.grownBy W r) (g : W.grownBy w1 r') (hr : r' = r ∨ ∃ b, r' = some b ∧ w.heap.size ≤ b) : w.grownBy w1 r := by
 refine ⟨g.os.trans h.os, g.tape.trans h.tape, g.output.trans h.output, Nat.le_trans h.size g.size, fun k hk hne => ?_⟩
 refine (g.block k (Nat.lt_of_lt_of_le hk h.size) ?_).trans (h.block k hk hne)
 rcases hr with rfl | ⟨b, rfl, hb⟩
 ·exact hne
 ·intro e
  injection e with e
  omega
theorem Ky {w W w1 : World} {r : Option Nat} (h : w.grownBy W r) (g : Below W.heap.size W w1) : w.grownBy w1 r :=
 ⟨g.os.trans h.os, g.tape.trans h.tape, g.output.trans h.output, Nat.le_trans h.size g.size, fun k hk hne => (g.block k (Nat.lt_of_lt_of_le hk h.size)).trans (h.block k hk hne)⟩
theorem Z0 {w W : World} {r : Option Nat} {g i : Nat} (h : w.grownBy W r) (hg : w.heap.size ≤ g) (v : Value) : w.grownBy (W.setCell ⟨g, i, none⟩ v) r :=
 ⟨h.os, h.tape, h.output, by simpa using h.size, fun k hk hne => (Below.heap_setCell W ⟨g, i, none⟩ v k (by show k ≠ g; omega)).trans (h.block k hk hne)⟩
theorem zZh {w W : World} {r : Option Nat} (h : w.grownBy W r) : w.grownBy W.drew r := Ky h ⟨rfl, rfl, rfl, Nat.le_refl _, fun _ _ => rfl⟩
theorem mh {α : Type} {d : Kd α} {e b0 : Nat} {w wr w2 : World} {ok : Nat → Prop} {u : Value} {xs : List α} (hB : Below b0 w wr) (hs : b0 ≤ wr.heap.size) (hR : d.R e wr b0 ok u xs) (hg : wr.grownBy w2 u.ownBlock) : Below b0 w w2 := by
 refine hB.trans ⟨hg.os, hg.tape, hg.output, hg.size, fun k hk => hg.block k (Nat.lt_of_lt_of_le hk hs) ?_⟩
 intro e
 obtain ⟨inner, ho⟩ := Kd.JO hR
 have := QI ho k e.symm
 omega
def chr (c : Nat) : ByteArray := Utf8.encode (c : Int)
def pU (wd : Nat → Int) (c : Nat) : List qw := (List.range (c - 33)).map fun i => ⟨chr (33 + i), wd (33 + i)⟩
theorem zX7 (c : Nat) : Utf8.encode (c : Int) = chr c := rfl
attribute [irreducible] chr
theorem zvW (wd : Nat → Int) (c : Nat) (h : 33 ≤ c) : pU wd (c + 1) = pU wd c ++ [⟨chr c, wd c⟩] := by
 obtain ⟨m, rfl⟩ : ∃ m, c = 33 + m := ⟨c - 33, by omega⟩
 unfold pU
 rw [show 33 + m + 1 - 33 = m + 1 by omega, show 33 + m - 33 = m by omega, List.range_succ, List.map_append]
 rfl
theorem dw (wd : Nat → Int) (c : Nat) : (pU wd c).length = c - 33 := by simp [pU]
def made.T5 : Bool × List (List Nat × List Nat) := (true, [([], []), ([0], [0]), ([], []), ([2], [2]), ([3], [3]), ([], []), ([], []), ([5, 6], [5, 6]), ([4, 7], [4, 7]), ([8], [8]), ([1, 9, 7], [1, 9]), ([0, 1, 2, 3, 4, 5, 6, 7, 8, 9, 10], []), ([11, 10, 10, 0, 1, 2, 3, 4, 5, 6, 7, 8, 9, 10], [10, 11])])
theorem made.lN : vB .any (opsOf Tryz.f29 5) = made.T5 := by kernel_rfl
def zVT (name : ByteArray) (space : Int) (more : List qw) (wd : Nat → Int) (u0 : Value) (b0 : Nat) (w : World) (gr gf : Nat) (x : Value) (wr : World) : Prop :=
 ∃ (c : Nat) (u : Value), x = .int .u8 (c : Int) ∧ 33 ≤ c ∧ c ≤ 127 ∧ Kd.R uy 31 wr b0 (fun _ => True) u (more ++ pU wd c) ∧
  wr.heap[gr]? = some (.cells #[.string (⟨#[]⟩ : ByteArray), .bool false, .int .i64 0, .slice none 0 0, .slice none 0 0, .slice none 0 0] 26 (0, 0)) ∧
  wr.heap[gf]? = some (.cells #[.string name, .bool false, .int .i64 space, u, .slice none 0 0, .slice none 0 0] 26 (0, 0)) ∧
  Below b0 w wr ∧ w.grownBy wr u0.ownBlock ∧ (u.ownBlock = u0.ownBlock ∨ ∃ b, u.ownBlock = some b ∧ w.heap.size ≤ b)
set_option maxHeartbeats 8000000 in
set_option maxRecDepth 100000 in
theorem Kw (F : FuncId) (fn : Func) (hfn : Tryz.prog.funcs[F]? = some fn) (hname : (fn.name == "runtime.NumGoroutine") = false) (hbody : fn.body.isSome = true) (wd : Nat → Int)
  (hwd : ∀ (c : Nat) (W : World), 33 ≤ c → c ≤ 126 → Calls Tryz.prog F #[.int .u8 (c : Int)] W fun e w' => e = .returned (.int .i64 (wd c)) ∧ Below W.heap.size W w')
  (name : ByteArray) (space : Int) (b0 : Nat) (u0 : Value) (more ys : List qw) (w : World) (hb0 : b0 ≤ w.heap.size) (hR : Kd.R uy 31 w b0 (fun _ => True) u0 more) (hm : more.length ≤ 10)
  (hp : ys.Perm (more ++ pU wd 127)) (hs : ys.Pairwise fun a b => vL a.f0 b.f0 < 0) :
  Calls Tryz.prog 29 #[.string name, .int .i64 space, .func (.func F) #[] #[], u0] w fun e w' => ∃ v, e = .returned (.agg #[.string name, .bool false, .int .i64 space, v, .slice none 0 0, .slice none 0 0]) ∧
   Kd.R uy 31 w' b0 (fun _ => True) v ys ∧ Below b0 w w' ∧ w.grownBy w' u0.ownBlock ∧ (v.ownBlock = u0.ownBlock ∨ ∃ b, v.ownBlock = some b ∧ w.heap.size ≤ b) := by
 have bS := Tryz.underlying26
 have HB := zy.mk (Below.refl b0 w)
 have HG := zy.mk (World.grownBy.refl w u0.ownBlock)
 have kF := zy.mk hR
 have HWD := zy.mk hwd
 have HP := zy.mk hp
 have HS := zy.mk hs
 have zW0 := zy.mk (PK hfn hname hbody)
 clear hR hwd hp hs hfn hname hbody
 obtain ⟨A0, c0, e0⟩ := Kd.yx kF.out
 subst e0
 go_enter Tryz.func29, Tryz.ntmps29
 go_wp2_with (first
  | ((with_reducible refine xI (N := 8) rfl ?_); refine xR ?hg (N := 8) ?hd (cs := #[.string (⟨#[]⟩ : ByteArray), .bool false, .int .i64 0, .slice none 0 0, .slice none 0 0, .slice none 0 0]) (t := 26) ?hr ?_; (case hd => rfl); (case hg => rfl); (case hr => first | (go_simp; done) | (go_simp; rfl)); intro gr hgr w2 BR hb2; have Kr := zy.mk (Nat.le_of_eq hgr.symm); have zn := zy.mk (HB.out.trans (hb2.mono hb0)); have zA := zy.mk (Ky HG.out hb2); clear HB HG; have HB := zn; have HG := zA; have HR1 := zy.mk (Kd.zR kF.out hb2); have BRA := zy.mk BR; clear zn zA BR hb2 hgr)
  | ((with_reducible refine xI (N := 9) rfl ?_); refine xR ?hg (N := 9) ?hd (cs := #[.string (⟨#[]⟩ : ByteArray), .bool false, .int .i64 0, .slice none 0 0, .slice none 0 0, .slice none 0 0]) (t := 26) ?hr ?_; (case hd => rfl); (case hg => rfl); (case hr => first | (go_simp; done) | (go_simp; rfl)); intro gf hgf w3 BF hb3; have Kf := zy.mk (Nat.le_trans HG.out.size (Nat.le_of_eq hgf.symm)); have zn := zy.mk (HB.out.trans (hb3.mono (Nat.le_trans hb0 HG.out.size))); have zA := zy.mk (Ky HG.out hb3); have zH := zy.mk (zf BRA.out hb3); have zP := zy.mk (Kd.zR HR1.out hb3); have oQ := zy.mk (show gr ≠ gf by rw [hgf]; exact Nat.ne_of_lt (uS BRA.out)); clear HB HG BRA HR1 kF; have HB := zn; have HG := zA; have BRA := zH; have HR1 := zP; clear zn zA zH zP hgf hb3; have zX8 : w3.cell? ⟨gf, 0, none⟩ = some (.string (⟨#[]⟩ : ByteArray)) := (zk BF 0).trans rfl; have zX9 : w3.cell? ⟨gf, 1, none⟩ = some (.bool false) := (zk BF 1).trans rfl; have zJz : w3.cell? ⟨gf, 2, none⟩ = some (.int .i64 0) := (zk BF 2).trans rfl; have zJq : w3.cell? ⟨gf, 3, none⟩ = some (.slice none 0 0) := (zk BF 3).trans rfl; have zJx : w3.cell? ⟨gf, 4, none⟩ = some (.slice none 0 0) := (zk BF 4).trans rfl; have zJj : w3.cell? ⟨gf, 5, none⟩ = some (.slice none 0 0) := (zk BF 5).trans rfl; have ziF := zw BF 0; have ziG := zw BF 1; have ziH := zw BF 2; have ziI := zw BF 3; have ziL := zw BF 4; have ziM := zw BF 5; have BFA := zy.mk BF; clear BF))
 have oJ := zy.mk (Nat.le_trans hb0 Kf.out)
 go_loopw [10] (fun x wr => zVT name space more wd (.slice A0 more.length c0) b0 w gr gf x wr) (fun x _ => 127 - (intOf x).toNat)
 case atStart =>
  refine ⟨33, .slice A0 more.length c0, rfl, by omega, by omega, ?_, ?_, ?_, ?_, ?_, Or.inl rfl⟩
  ·rw [show pU wd 33 = [] from rfl, List.append_nil]
   have h := Kd.vQ HR1.out BFA.out (by decide)
   exact Kd.yN (Kd.qy (p := ⟨gf, 5, none⟩) (Kd.qy (p := ⟨gf, 4, none⟩) (Kd.qy (p := ⟨gf, 3, none⟩) (Kd.qy (p := ⟨gf, 2, none⟩) (Kd.qy (p := ⟨gf, 1, none⟩) (Kd.qy (p := ⟨gf, 0, none⟩) h (fun _ hk => hk.2) _) (fun _ hk => hk.2) _) (fun _ hk => hk.2) _) (fun _ hk => hk.2) _) (fun _ hk => hk.2) _) (fun _ hk => hk.2) _) (fun _ _ => trivial)
  ·refine vE ?_ oQ.out _
   refine vE ?_ oQ.out _
   refine vE ?_ oQ.out _
   refine vE ?_ oQ.out _
   refine vE ?_ oQ.out _
   refine vE ?_ oQ.out _
   exact BRA.out
  ·refine zD (cs := #[.string name, .bool false, .int .i64 space, .slice A0 more.length c0, .slice none 0 0, .slice none 0 0]) ?_ 5 _ rfl
   refine zD (cs := #[.string name, .bool false, .int .i64 space, .slice A0 more.length c0, .slice none 0 0, .slice none 0 0]) ?_ 4 _ rfl
   refine zD (cs := #[.string name, .bool false, .int .i64 space, .slice none 0 0, .slice none 0 0, .slice none 0 0]) ?_ 3 _ rfl
   refine zD (cs := #[.string name, .bool false, .int .i64 0, .slice none 0 0, .slice none 0 0, .slice none 0 0]) ?_ 2 _ rfl
   refine zD (cs := #[.string name, .bool false, .int .i64 0, .slice none 0 0, .slice none 0 0, .slice none 0 0]) ?_ 1 _ rfl
   refine zD (cs := #[.string (⟨#[]⟩ : ByteArray), .bool false, .int .i64 0, .slice none 0 0, .slice none 0 0, .slice none 0 0]) ?_ 0 _ rfl
   exact BFA.out
  ·exact (((((HB.out.setCell oJ.out _).setCell oJ.out _).setCell oJ.out _).setCell oJ.out _).setCell oJ.out _).setCell oJ.out _
  ·exact Z0 (Z0 (Z0 (Z0 (Z0 (Z0 HG.out Kf.out _) Kf.out _) Kf.out _) Kf.out _) Kf.out _) Kf.out _
 case round =>
  obtain ⟨c, u, rfl, h33, h127, zJv, BR0, BF0, zJk, zJy, zJw⟩ := hrel
  have wG := zy.mk zJv
  have BR := zy.mk BR0
  have BF := zy.mk BF0
  have p8 := zy.mk zJk
  have QG := zy.mk zJy
  have oV := zy.mk zJw
  clear zJv BR0 BF0 zJk zJy zJw BRA BFA HR1 HB HG
  by_cases hlt : c < 127
  ·have hw32 : IntKind.i32.wrap (c : Int) = c := by unfold IntKind.wrap; simp [IntKind.bits, IntKind.signed]; omega
   have q1 : decide ((c : Int) < 127) = true := decide_eq_true (by omega)
   go_wp2
   have zn := zy.mk (Kd.yR wG.out)
   have zA := zy.mk (zo BR.out)
   have zH := zy.mk (zo BF.out)
   have zP := zy.mk (p8.out.drew)
   have qj := zy.mk (zZh QG.out)
   clear wG BR BF p8 QG
   have wG := zn
   have BR := zA
   have BF := zH
   have p8 := zP
   have QG := qj
   clear zn zA zH zP qj
   refine jU (n := 13) (S := fun w' => w'.cell? ⟨gf, 3, none⟩ = some u) (ds := [12]) #[false, false, false, false, false, false, false, false, false, false, false, false, false] (by kernel_rfl) rfl rfl ((zk BF.out 3).trans rfl) (fun hHeld => ?_)
   refine J3 made.lN (fun zi => ?_)
   generalize wr.drew = w16 at wG BR BF p8 QG hHeld ⊢
   refine jh (i := 0) (N := some 19) (v := ?_) (a' := ?_) #[true, false, false, false, false, false, false, false, false, false, false, false, false] rfl rfl (uF zi.out (by kernel_rfl)) (fun _ _ _ h => h) (Or.inl ⟨by rfl, ?_⟩) ?_ ?_
   rotate_left
   ·intro w'
    go_simp
    with_reducible rfl
   rotate_left
   ·simp only [Act.put, List.setIfInBounds_toArray, List.set_cons_zero, List.set_cons_succ]
    rfl
   refine jh (i := 2) (N := some 21) (v := ?_) (a' := ?_) #[true, false, true, false, false, false, false, false, false, false, false, false, false] rfl rfl (uF zi.out (by kernel_rfl)) (fun _ _ _ h => h) (Or.inl ⟨by rfl, ?_⟩) ?_ ?_
   rotate_left
   ·intro w'
    go_simp
    with_reducible rfl
   rotate_left
   ·simp only [Act.put, List.setIfInBounds_toArray, List.set_cons_zero, List.set_cons_succ]
    rfl
   refine jh (i := 3) (N := some 22) (v := ?_) (a' := ?_) #[true, false, true, true, false, false, false, false, false, false, false, false, false] rfl rfl (uF zi.out (by kernel_rfl)) (fun _ _ _ h => h) (Or.inl ⟨by rfl, ?_⟩) ?_ ?_
   rotate_left
   ·intro w'
    go_simp
    with_reducible rfl
   rotate_left
   ·simp only [Act.put, List.setIfInBounds_toArray, List.set_cons_zero, List.set_cons_succ, hw32]
    rfl
   refine jh (i := 4) (N := some 23) (v := ?_) (a' := ?_) #[true, false, true, true, true, false, false, false, false, false, false, false, false] rfl rfl (uF zi.out (by kernel_rfl)) (fun _ _ _ h => h) (Or.inl ⟨by rfl, ?_⟩) ?_ ?_
   rotate_left
   ·intro w'
    go_simp
    with_reducible rfl
   rotate_left
   ·simp only [Act.put, List.setIfInBounds_toArray, List.set_cons_zero, List.set_cons_succ, zX7]
    rfl
   refine jh (i := 5) (N := some 24) (v := ?_) (a' := ?_) #[true, false, true, true, true, true, false, false, false, false, false, false, false] rfl rfl (uF zi.out (by kernel_rfl)) (fun _ _ _ h => h) (Or.inl ⟨by rfl, ?_⟩) ?_ ?_
   rotate_left
   ·intro w'
    go_simp
    with_reducible rfl
   rotate_left
   ·simp only [Act.put, List.setIfInBounds_toArray, List.set_cons_zero, List.set_cons_succ]
    rfl
   refine jh (i := 6) (N := some 25) (v := ?_) (a' := ?_) #[true, false, true, true, true, true, true, false, false, false, false, false, false] rfl rfl (uF zi.out (by kernel_rfl)) (fun _ _ _ h => h) (Or.inl ⟨by rfl, ?_⟩) ?_ ?_
   rotate_left
   ·intro w'
    go_simp
    with_reducible rfl
   rotate_left
   ·simp only [Act.put, List.setIfInBounds_toArray, List.set_cons_zero, List.set_cons_succ]
    rfl
   refine UC (i := 1) (N := some 20) (v := ?_) (a' := ?_) #[true, true, true, true, true, true, true, false, false, false, false, false, false] rfl rfl (PW zi.out (by kernel_rfl)) (fun _ _ _ h => h) (Or.inl ⟨by rfl, ?_⟩) hHeld ?_ ?_
   rotate_left
   ·rintro w' s0
    go_simp
    with_reducible rfl
   rotate_left
   ·simp only [Act.put, List.setIfInBounds_toArray, List.set_cons_zero, List.set_cons_succ]
    rfl
   refine XI (i := 7) (N := some 26) #[true, true, true, true, true, true, true, true, false, false, false, false, false] rfl rfl (vG zi.out (by kernel_rfl)) (by decide) (fun K hK => ?_)
   refine call_ F #[.int .u8 (c : Int)] (by rfl) rfl (by have he := zW0.out #[.int .u8 (c : Int)] w16; go_simp) ?_
   refine (HWD.out c _ h33 (by omega)).mono ?_
   rintro e kW ⟨rfl, hb⟩
   refine ⟨_, rfl, ?_⟩
   have zn := zy.mk (Kd.zR wG.out hb)
   have zA := zy.mk (zf BR.out hb)
   have zH := zy.mk (zf BF.out hb)
   have zP := zy.mk (p8.out.trans (hb.mono (Nat.le_trans hb0 QG.out.size)))
   have qj := zy.mk (Ky QG.out hb)
   clear wG BR BF p8 QG hHeld hb
   have wG := zn
   have BR := zA
   have BF := zH
   have p8 := zP
   have QG := qj
   clear zn zA zH zP qj
   refine hK.out _ _ ((zk BF.out 3).trans rfl) (fun hHeld => ?_)
   clear hK K
   refine wF (a' := ?_) ?_ ?_
   rotate_left
   ·show Act.put _ (some 26) _ = _
    simp only [Act.put, List.setIfInBounds_toArray, List.set_cons_zero, List.set_cons_succ]
    rfl
   refine jh (i := 8) (N := some 27) (v := ?_) (a' := ?_) #[true, true, true, true, true, true, true, true, true, false, false, false, false] rfl rfl (uF zi.out (by kernel_rfl)) (fun _ _ _ h => h) (Or.inl ⟨by rfl, ?_⟩) ?_ ?_
   rotate_left
   ·intro w'
    go_simp
    with_reducible rfl
   rotate_left
   ·simp only [Act.put, List.setIfInBounds_toArray, List.set_cons_zero, List.set_cons_succ]
    rfl
   refine XI (i := 9) (N := some 28) #[true, true, true, true, true, true, true, true, true, true, false, false, false] rfl rfl (vG zi.out (by kernel_rfl)) (by decide) (fun K hK => ?_)
   refine Jd (w1 := ?_) (v := ?_) (by rfl) rfl ?_ ?_
   rotate_left 2
   ·go_simp
    constructor
    ·rfl
    ·rfl
   refine hK.out _ _ ((zk (zV BF.out _) 3).trans rfl) (fun hHeld => ?_)
   clear hK K
   refine wF (a' := ?_) ?_ ?_
   rotate_left
   ·show Act.put _ (some 28) _ = _
    simp only [Act.put, List.setIfInBounds_toArray, List.set_cons_zero, List.set_cons_succ]
    rfl
   refine XI (i := 10) (N := some 29) #[true, true, true, true, true, true, true, true, true, true, true, false, false] rfl rfl (vG zi.out (by kernel_rfl)) (by decide) (fun K hK => ?_)
   refine Kd.vD uy (w0 := w) b0 (by rfl) (.tmp 20) (.tmp 28) 22 31 (.agg #[(.string ⟨#[]⟩), (.int .i64 0)]) 24 rfl Tryz.underlying22 gP rfl (by decide) (by omega) u (more ++ pU wd c) (⟨chr c, wd c⟩ : qw) [.string (chr c), .int .i64 (wd c)] (fun _ => True) (fun _ => False) rfl rfl ?aP (fun _ hk => hk.elim) ?aF ?aO ?aB ?aS ?aL ?_
   (case aP => exact X8 _ _ _ (⟨chr c, wd c⟩ : qw))
   (case aF => exact (fun _ _ => trivial))
   (case aO => exact wG.out)
   (case aB => exact p8.out)
   (case aS => exact Nat.le_trans hb0 QG.out.size)
   (case aL => have := dw wd c; rw [List.length_append]; omega)
   intro v1 Yj ho hb hg hat
   rw [List.append_assoc, ← zvW wd c h33] at ho
   obtain ⟨Ao, co, eo⟩ := Kd.yx ho
   subst eo
   generalize (more ++ pU wd (c + 1)).length = nn at ho hat ⊢
   have zn := zy.mk (qx BR.out hg (Kd.uX wG.out BR.out (by decide)))
   have zA := zy.mk (qx BF.out hg (Kd.uX wG.out BF.out (by decide)))
   have zH := zy.mk hb
   have zP := zy.mk (zz6 QG.out hg oV.out)
   have qj := zy.mk ho
   have xw : zy ((Value.slice Ao nn co).ownBlock = (Value.slice A0 more.length c0).ownBlock ∨ ∃ b, (Value.slice Ao nn co).ownBlock = some b ∧ w.heap.size ≤ b) := zy.mk (by
    rcases hat with hat | ⟨b, h1, h2⟩
    ·rw [hat]; exact oV.out
    ·exact Or.inr ⟨b, h1, Nat.le_trans QG.out.size h2⟩)
   clear BR BF p8 QG wG oV ho hb hg hat hHeld
   have BR := zn
   have BF := zA
   have p8 := zH
   have QG := zP
   have wG := qj
   have oV := xw
   clear zn zA zH zP qj xw
   refine hK.out _ _ ((zk BF.out 3).trans rfl) (fun hHeld => ?_)
   clear hK K
   refine wF (a' := ?_) ?_ ?_
   rotate_left
   ·show Act.put _ (some 29) _ = _
    simp only [Act.put, List.setIfInBounds_toArray, List.set_cons_zero, List.set_cons_succ]
    rfl
   refine jh (i := 11) (N := some 30) (v := ?_) (a' := ?_) #[true, true, true, true, true, true, true, true, true, true, true, true, false] rfl rfl (uF zi.out (by kernel_rfl)) (fun _ _ _ h => h) (Or.inl ⟨by rfl, ?_⟩) ?_ ?_
   rotate_left
   ·intro w'
    go_simp
    with_reducible rfl
   rotate_left
   ·simp only [Act.put, List.setIfInBounds_toArray, List.set_cons_zero, List.set_cons_succ]
    rfl
   refine kD (i := 12) (N := none) #[true, true, true, true, true, true, true, true, true, true, true, true, true] rfl rfl (vG zi.out (by kernel_rfl)) (by decide) (fun K hK => ?_)
   have XM : Yj.cell? ⟨gf, 3, none⟩ = some u := (zk BF.out 3).trans rfl
   have YV := zw BF.out 3
   refine Zy (w1 := ?_) (by rfl) rfl ?_ ?_
   rotate_left
   ·go_simp
    rfl
   refine hK.out _ _ ?_
   clear hK K
   refine vO (xH zi.out (by kernel_rfl)) ?_
   have zn := zy.mk (vE BR.out (p := ⟨gf, 3, none⟩) oQ.out (.slice Ao nn co : Value))
   have zA := zy.mk (zD (cs' := #[.string name, .bool false, .int .i64 space, (.slice Ao nn co : Value), .slice none 0 0, .slice none 0 0]) BF.out 3 (.slice Ao nn co : Value) rfl)
   have zH := zy.mk (p8.out.setCell (p := ⟨gf, 3, none⟩) oJ.out (.slice Ao nn co : Value))
   have zP := zy.mk (Z0 (i := 3) QG.out Kf.out (.slice Ao nn co : Value))
   have qj := zy.mk (Kd.jg wG.out BF.out (by decide) 3 (.slice Ao nn co : Value))
   clear BR BF p8 QG wG hHeld XM YV
   generalize Yj.setCell ⟨gf, 3, none⟩ (.slice Ao nn co : Value) = bg at zn zA zH zP qj ⊢
   go_wp2
   go_roundw
   case rel => exact ⟨c + 1, (.slice Ao nn co : Value), by first | rfl | (simp; done) | go_num, by omega, by omega, qj.out, zn.out, zA.out, zH.out, zP.out, oV.out⟩
   case measure => simp [intOf]; omega
  ·have hc : c = 127 := by omega
   have q1 : decide ((c : Int) < 127) = false := decide_eq_false (by omega)
   obtain ⟨Au, cu, eu⟩ := Kd.yx wG.out
   generalize (more ++ pU wd c).length = nu at eu
   subst eu
   have hRs := wG.out
   rw [hc] at hRs
   have hsort := zZg wr b0 (.slice Au nu cu) _ ys hRs (by rw [List.length_append, dw]; omega) (by rw [List.length_append, dw]; omega) HP.out HS.out
   have zyM := zy.mk hsort
   have hcu : wr.cell? ⟨gf, 3, none⟩ = some (.slice Au nu cu) := (zk BF.out 3).trans rfl
   clear hsort hRs hlt h33 h127
   go_wp2_with (go_at_call 89; refine zyM.out.mono ?_; rintro e w2 ⟨rfl, hR2, hg2⟩; clear zyM hcu; have hne1 := Kd.uX wG.out BF.out (by decide); have zA := zy.mk (qx BR.out hg2 (Kd.uX wG.out BR.out (by decide))); have zH := zy.mk (qx BF.out hg2 hne1); have zP := zy.mk hR2; have qj := zy.mk (zz6 QG.out hg2 oV.out); have xw := zy.mk (mh p8.out (Nat.le_trans hb0 QG.out.size) wG.out hg2); clear wG BR BF p8 QG hne1 hR2 hg2; have BR := zA; have BF := zH; have HR2 := zP; have HG2 := qj; have HB2 := xw; clear zA zH zP qj xw; have zX8 : w2.cell? ⟨gf, 0, none⟩ = some (.string name) := (zk BF.out 0).trans rfl; have zX9 : w2.cell? ⟨gf, 1, none⟩ = some (.bool false) := (zk BF.out 1).trans rfl; have zJz : w2.cell? ⟨gf, 2, none⟩ = some (.int .i64 space) := (zk BF.out 2).trans rfl; have zJq : w2.cell? ⟨gf, 3, none⟩ = some (.slice Au nu cu) := (zk BF.out 3).trans rfl; have zJx : w2.cell? ⟨gf, 4, none⟩ = some (.slice none 0 0) := (zk BF.out 4).trans rfl; have zJj : w2.cell? ⟨gf, 5, none⟩ = some (.slice none 0 0) := (zk BF.out 5).trans rfl; have zW1 : w2.cell? ⟨gr, 0, none⟩ = some (.string (⟨#[]⟩ : ByteArray)) := (zk BR.out 0).trans rfl; have zW2 : w2.cell? ⟨gr, 1, none⟩ = some (.bool false) := (zk BR.out 1).trans rfl; have zW3 : w2.cell? ⟨gr, 2, none⟩ = some (.int .i64 0) := (zk BR.out 2).trans rfl; have zW4 : w2.cell? ⟨gr, 3, none⟩ = some (.slice none 0 0) := (zk BR.out 3).trans rfl; have zW5 : w2.cell? ⟨gr, 4, none⟩ = some (.slice none 0 0) := (zk BR.out 4).trans rfl; have zW6 : w2.cell? ⟨gr, 5, none⟩ = some (.slice none 0 0) := (zk BR.out 5).trans rfl; have zW7 := zw BR.out 0; have zW8 := zw BR.out 1; have zW9 := zw BR.out 2; have zaz := zw BR.out 3; have zaq := zw BR.out 4; have zax := zw BR.out 5)
   have zn := (zD (cs' := #[.string name, .bool false, .int .i64 space, .slice Au nu cu, .slice none 0 0, .slice none 0 0]) (zD (cs' := #[.string name, .bool false, .int .i64 space, .slice Au nu cu, .slice none 0 0, .slice none 0 0]) (zD (cs' := #[.string name, .bool false, .int .i64 space, .slice Au nu cu, .slice none 0 0, .slice none 0 0]) (zD (cs' := #[.string name, .bool false, .int .i64 space, .slice none 0 0, .slice none 0 0, .slice none 0 0]) (zD (cs' := #[.string name, .bool false, .int .i64 0, .slice none 0 0, .slice none 0 0, .slice none 0 0]) (zD (cs' := #[.string name, .bool false, .int .i64 0, .slice none 0 0, .slice none 0 0, .slice none 0 0]) BR.out 0 (.string name) rfl) 1 (.bool false) rfl) 2 (.int .i64 space) rfl) 3 (.slice Au nu cu) rfl) 4 (.slice none 0 0) rfl) 5 (.slice none 0 0) rfl)
   have zA := Kd.yN (Kd.qy (p := ⟨gr, 5, none⟩) (Kd.qy (p := ⟨gr, 4, none⟩) (Kd.qy (p := ⟨gr, 3, none⟩) (Kd.qy (p := ⟨gr, 2, none⟩) (Kd.qy (p := ⟨gr, 1, none⟩) (Kd.qy (p := ⟨gr, 0, none⟩) (Kd.vQ HR2.out BR.out (by decide)) (fun _ hk => hk.2) (.string name)) (fun _ hk => hk.2) (.bool false)) (fun _ hk => hk.2) (.int .i64 space)) (fun _ hk => hk.2) (.slice Au nu cu)) (fun _ hk => hk.2) (.slice none 0 0)) (fun _ hk => hk.2) (.slice none 0 0)) (fun _ _ => trivial)
   have zH := (Z0 (i := 5) (Z0 (i := 4) (Z0 (i := 3) (Z0 (i := 2) (Z0 (i := 1) (Z0 (i := 0) HG2.out Kr.out (.string name)) Kr.out (.bool false)) Kr.out (.int .i64 space)) Kr.out (.slice Au nu cu)) Kr.out (.slice none 0 0)) Kr.out (.slice none 0 0))
   have zP := (Below.setCell (p := ⟨gr, 5, none⟩) (Below.setCell (p := ⟨gr, 4, none⟩) (Below.setCell (p := ⟨gr, 3, none⟩) (Below.setCell (p := ⟨gr, 2, none⟩) (Below.setCell (p := ⟨gr, 1, none⟩) (Below.setCell (p := ⟨gr, 0, none⟩) HB2.out (Nat.le_trans hb0 Kr.out) (.string name)) (Nat.le_trans hb0 Kr.out) (.bool false)) (Nat.le_trans hb0 Kr.out) (.int .i64 space)) (Nat.le_trans hb0 Kr.out) (.slice Au nu cu)) (Nat.le_trans hb0 Kr.out) (.slice none 0 0)) (Nat.le_trans hb0 Kr.out) (.slice none 0 0))
   clear zX8 zX9 zJz zJq zJx zJj zW1 zW2 zW3 zW4 zW5 zW6 zW7 zW8 zW9 zaz zaq zax
   generalize ((((((w2.setCell ⟨gr, 0, none⟩ (.string name)).setCell ⟨gr, 1, none⟩ (.bool false)).setCell ⟨gr, 2, none⟩ (.int .i64 space)).setCell ⟨gr, 3, none⟩ (.slice Au nu cu)).setCell ⟨gr, 4, none⟩ (.slice none 0 0)).setCell ⟨gr, 5, none⟩ (.slice none 0 0)) = w5 at zn zA zH zP ⊢
   refine bodyPost_ret (results_cell_row rfl _ _ gr 26 #[.string name, .bool false, .int .i64 space, .slice Au nu cu, .slice none 0 0, .slice none 0 0] (0, 0) _ rfl zn Tryz.underlying26 rfl (by kernel_rfl)) rfl ?_
   exact ⟨_, rfl, zA, zP, zH, oV.out⟩
end Go.Proofs.YtaifemkokfoadaaGreatDoor
namespace Go.Proofs.YtaifemkokfoadaaGreatDoor
open Go.RowKit Go.Shelf
def Uf (l : List UInt8) (c : UInt8) : Bool := decide (0 ≤ Lib.indexByte l c)
def Xo (c : UInt8) : Int :=
 if (Uf [105, 106, 108, 116, 102, 46, 44, 58, 59, 39, 124, 33] c || (c.toNat : Int) == 96) = true then 250
 else if Uf [40, 41, 91, 93, 123, 125, 45, 114, 115, 47, 92, 34] c = true then 350
 else if Uf [109, 119] c = true then 750
 else if Uf [77, 87, 64, 37] c = true then 900
 else if (decide (65 ≤ (c.toNat : Int)) && decide ((c.toNat : Int) ≤ 90)) = true then 650 else 500
set_option maxRecDepth 100000 in
theorem Vb (s : ByteArray) (c : UInt8) (B : Nat) (w : World) (hc : w.cell? ⟨B, 0, none⟩ = some (.int .u8 c.toNat)) :
  Calls Tryz.prog 91 #[.string s, .pointer (some ⟨B, 0, none⟩)] w fun e w' => e = .returned (.bool (Uf s.data.toList c)) ∧ w' = w := by
 have hi := Tryz.strings_IndexByte s (c.toNat : Int) w
 have hc8 : ((c.toNat : Int).toNat.toUInt8) = c := by rw [Int.toNat_natCast]; exact UInt8.ofNat_toNat
 rw [hc8] at hi
 have hx : Uf s.data.toList c = decide (0 ≤ Lib.indexByte s.data.toList c) := rfl
 generalize Lib.indexByte s.data.toList c = ix at hi hx
 generalize Uf s.data.toList c = b at hx ⊢
 subst hx
 clear hc8
 go_enter Tryz.func91, Tryz.ntmps91
 go_wp2_with (go_at_call 92; refine hi.mono ?_; rintro e w2 ⟨rfl, rfl⟩)
 go_ret
 exact ⟨rfl, rfl⟩
set_option maxRecDepth 100000 in
set_option maxHeartbeats 1000000 in
theorem zva (c : UInt8) (w : World) :
  Calls Tryz.prog 30 #[.int .u8 c.toNat] w fun e w' => e = .returned (.int .i64 (Xo c)) ∧ Below w.heap.size w w' := by
 have hb0 : Below w.heap.size w (w.alloc (.cells #[.int .u8 c.toNat] 5)) := (Below.refl _ w).alloc (Nat.le_refl _) _
 have hcell : (w.alloc (.cells #[.int .u8 c.toNat] 5)).cell? ⟨w.heap.size, 0, none⟩ = some (.int .u8 c.toNat) := by simp
 have h1 := Vb ⟨#[105, 106, 108, 116, 102, 46, 44, 58, 59, 39, 124, 33]⟩ c w.heap.size _ hcell
 have h2 := Vb ⟨#[40, 41, 91, 93, 123, 125, 45, 114, 115, 47, 92, 34]⟩ c w.heap.size _ hcell
 have h3 := Vb ⟨#[109, 119]⟩ c w.heap.size _ hcell
 have h4 := Vb ⟨#[77, 87, 64, 37]⟩ c w.heap.size _ hcell
 have hv : Xo c = if (Uf (⟨#[105, 106, 108, 116, 102, 46, 44, 58, 59, 39, 124, 33]⟩ : ByteArray).data.toList c || (c.toNat : Int) == 96) = true then 250
  else if Uf (⟨#[40, 41, 91, 93, 123, 125, 45, 114, 115, 47, 92, 34]⟩ : ByteArray).data.toList c = true then 350
  else if Uf (⟨#[109, 119]⟩ : ByteArray).data.toList c = true then 750
  else if Uf (⟨#[77, 87, 64, 37]⟩ : ByteArray).data.toList c = true then 900
  else if (decide (65 ≤ (c.toNat : Int)) && decide ((c.toNat : Int) ≤ 90)) = true then 650 else 500 := rfl
 rw [hv]
 clear hv
 generalize Uf (⟨#[105, 106, 108, 116, 102, 46, 44, 58, 59, 39, 124, 33]⟩ : ByteArray).data.toList c = b1 at h1 ⊢
 generalize Uf (⟨#[40, 41, 91, 93, 123, 125, 45, 114, 115, 47, 92, 34]⟩ : ByteArray).data.toList c = b2 at h2 ⊢
 generalize Uf (⟨#[109, 119]⟩ : ByteArray).data.toList c = b3 at h3 ⊢
 generalize Uf (⟨#[77, 87, 64, 37]⟩ : ByteArray).data.toList c = b4 at h4 ⊢
 have hx0 := c.toNat_lt
 generalize (c.toNat : Int) = x at hb0 hcell h1 h2 h3 h4 ⊢
 generalize h96 : (x == 96) = b96
 generalize h65 : decide (65 ≤ x) = b65
 generalize h90 : decide (x ≤ 90) = b90
 cases b1 with
 | true =>
  go_enter Tryz.func30, Tryz.ntmps30
  go_wp2_with (first
   | (go_at_call 91; ((with_reducible refine h1.mono ?_); rintro e w2 ⟨rfl, rfl⟩))
   | (go_at_call 91; ((with_reducible refine h2.mono ?_); rintro e w2 ⟨rfl, rfl⟩))
   | (go_at_call 91; ((with_reducible refine h3.mono ?_); rintro e w2 ⟨rfl, rfl⟩))
   | (go_at_call 91; ((with_reducible refine h4.mono ?_); rintro e w2 ⟨rfl, rfl⟩)))
  go_ret
  exact ⟨rfl, hb0⟩
 | false =>
  cases b96 with
  | true =>
   go_enter Tryz.func30, Tryz.ntmps30
   go_wp2_with (first
    | (go_at_call 91; ((with_reducible refine h1.mono ?_); rintro e w2 ⟨rfl, rfl⟩))
    | (go_at_call 91; ((with_reducible refine h2.mono ?_); rintro e w2 ⟨rfl, rfl⟩))
    | (go_at_call 91; ((with_reducible refine h3.mono ?_); rintro e w2 ⟨rfl, rfl⟩))
    | (go_at_call 91; ((with_reducible refine h4.mono ?_); rintro e w2 ⟨rfl, rfl⟩)))
   go_ret
   exact ⟨rfl, hb0⟩
  | false =>
   cases b2 with
   | true =>
    go_enter Tryz.func30, Tryz.ntmps30
    go_wp2_with (first
     | (go_at_call 91; ((with_reducible refine h1.mono ?_); rintro e w2 ⟨rfl, rfl⟩))
     | (go_at_call 91; ((with_reducible refine h2.mono ?_); rintro e w2 ⟨rfl, rfl⟩))
     | (go_at_call 91; ((with_reducible refine h3.mono ?_); rintro e w2 ⟨rfl, rfl⟩))
     | (go_at_call 91; ((with_reducible refine h4.mono ?_); rintro e w2 ⟨rfl, rfl⟩)))
    go_ret
    exact ⟨rfl, hb0⟩
   | false =>
    cases b3 with
    | true =>
     go_enter Tryz.func30, Tryz.ntmps30
     go_wp2_with (first
      | (go_at_call 91; ((with_reducible refine h1.mono ?_); rintro e w2 ⟨rfl, rfl⟩))
      | (go_at_call 91; ((with_reducible refine h2.mono ?_); rintro e w2 ⟨rfl, rfl⟩))
      | (go_at_call 91; ((with_reducible refine h3.mono ?_); rintro e w2 ⟨rfl, rfl⟩))
      | (go_at_call 91; ((with_reducible refine h4.mono ?_); rintro e w2 ⟨rfl, rfl⟩)))
     go_ret
     exact ⟨rfl, hb0⟩
    | false =>
     cases b4 with
     | true =>
      go_enter Tryz.func30, Tryz.ntmps30
      go_wp2_with (first
       | (go_at_call 91; ((with_reducible refine h1.mono ?_); rintro e w2 ⟨rfl, rfl⟩))
       | (go_at_call 91; ((with_reducible refine h2.mono ?_); rintro e w2 ⟨rfl, rfl⟩))
       | (go_at_call 91; ((with_reducible refine h3.mono ?_); rintro e w2 ⟨rfl, rfl⟩))
       | (go_at_call 91; ((with_reducible refine h4.mono ?_); rintro e w2 ⟨rfl, rfl⟩)))
      go_ret
      exact ⟨rfl, hb0⟩
     | false =>
      cases b65 with
      | false =>
       go_enter Tryz.func30, Tryz.ntmps30
       go_wp2_with (first
        | (go_at_call 91; ((with_reducible refine h1.mono ?_); rintro e w2 ⟨rfl, rfl⟩))
        | (go_at_call 91; ((with_reducible refine h2.mono ?_); rintro e w2 ⟨rfl, rfl⟩))
        | (go_at_call 91; ((with_reducible refine h3.mono ?_); rintro e w2 ⟨rfl, rfl⟩))
        | (go_at_call 91; ((with_reducible refine h4.mono ?_); rintro e w2 ⟨rfl, rfl⟩)))
       go_ret
       exact ⟨rfl, hb0⟩
      | true =>
       cases b90 with
       | false =>
        go_enter Tryz.func30, Tryz.ntmps30
        go_wp2_with (first
         | (go_at_call 91; ((with_reducible refine h1.mono ?_); rintro e w2 ⟨rfl, rfl⟩))
         | (go_at_call 91; ((with_reducible refine h2.mono ?_); rintro e w2 ⟨rfl, rfl⟩))
         | (go_at_call 91; ((with_reducible refine h3.mono ?_); rintro e w2 ⟨rfl, rfl⟩))
         | (go_at_call 91; ((with_reducible refine h4.mono ?_); rintro e w2 ⟨rfl, rfl⟩)))
        go_ret
        exact ⟨rfl, hb0⟩
       | true =>
        go_enter Tryz.func30, Tryz.ntmps30
        go_wp2_with (first
         | (go_at_call 91; ((with_reducible refine h1.mono ?_); rintro e w2 ⟨rfl, rfl⟩))
         | (go_at_call 91; ((with_reducible refine h2.mono ?_); rintro e w2 ⟨rfl, rfl⟩))
         | (go_at_call 91; ((with_reducible refine h3.mono ?_); rintro e w2 ⟨rfl, rfl⟩))
         | (go_at_call 91; ((with_reducible refine h4.mono ?_); rintro e w2 ⟨rfl, rfl⟩)))
        go_ret
        exact ⟨rfl, hb0⟩
end Go.Proofs.YtaifemkokfoadaaGreatDoor
namespace Go.Proofs.YtaifemkokfoadaaGreatDoor
open Go.RowKit Go.Shelf Go.Proofs.zx.zK Go.Proofs.zx.zU Go.Proofs.zx.zN Go.Proofs.YtaifemkokfoadaaGreatDoor.PX
set_option linter.unusedSimpArgs false
def kV (s : ByteArray) : Int × Bool := if 6 < s.size then (0, false) else (Po s.data.toList, Kv s.data.toList)
def number.T4 : Bool × List (List Nat × List Nat) := (true, [([], []), ([], []), ([1], [1]), ([0, 0], [0]), ([2, 3, 0, 1, 2, 3], [2])])
theorem number.zJZ : vB .any (opsOf Tryz.f36 4) = number.T4 := by kernel_rfl
set_option maxRecDepth 100000 in
theorem V3 (s : ByteArray) (w : World) (hs : s.size ≤ 140737488355328) (hG : GW w) :
  Calls Tryz.prog 36 #[.string s] w fun e w' => e = .returned (.tuple #[.int .i64 (kV s).1, .bool (kV s).2]) ∧ Below w.heap.size w w' := by
 unfold kV
 by_cases h6 : 6 < s.size
 ·rw [if_pos h6]
  have q1 : decide ((6 : Int) < (s.size : Int)) = true := decide_eq_true (by omega)
  go_enter Tryz.func36, Tryz.ntmps36
  go_wp2
  go_ret2
  exact ⟨rfl, Below.refl _ _⟩
 ·rw [if_neg h6]
  have q1 : decide ((6 : Int) < (s.size : Int)) = false := decide_eq_false (by omega)
  have ha := zkW s w hs hG
  generalize Po s.data.toList = N at ha ⊢
  generalize Kv s.data.toList = B at ha ⊢
  cases B with
  | true =>
   go_enter Tryz.func36, Tryz.ntmps36
   go_wp2_with fail
   refine ha.mono ?_; rintro e w2 ⟨ev, rfl, h1, _, hb⟩
   obtain rfl := h1 (by simp)
   clear ha h1
   go_wp2
   refine jU (n := 5) (S := fun _ => True) (ds := []) #[false, false, false, false, false] (by kernel_rfl) rfl rfl trivial (fun hHeld => ?_)
   refine J3 number.zJZ (fun zi => ?_)
   refine jh (i := 0) (N := some 14) (v := ?_) (a' := ?_) #[true, false, false, false, false] rfl rfl (uF zi.out (by kernel_rfl)) (fun _ _ _ h => h) (Or.inl ⟨by rfl, ?_⟩) ?_ ?_
   rotate_left
   ·intro w'
    go_simp
    with_reducible rfl
   rotate_left
   ·simp only [Act.put, List.setIfInBounds_toArray, List.set_cons_zero, List.set_cons_succ]
    rfl
   refine jh (i := 1) (N := some 15) (v := ?_) (a' := ?_) #[true, true, false, false, false] rfl rfl (uF zi.out (by kernel_rfl)) (fun _ _ _ h => h) (Or.inl ⟨by rfl, ?_⟩) ?_ ?_
   rotate_left
   ·intro w'
    go_simp
    with_reducible rfl
   rotate_left
   ·simp only [Act.put, List.setIfInBounds_toArray, List.set_cons_zero, List.set_cons_succ]
    rfl
   refine jh (i := 2) (N := some 16) (v := ?_) (a' := ?_) #[true, true, true, false, false] rfl rfl (uF zi.out (by kernel_rfl)) (fun _ _ _ h => h) (Or.inl ⟨by rfl, ?_⟩) ?_ ?_
   rotate_left
   ·intro w'
    go_simp
    with_reducible rfl
   rotate_left
   ·simp only [Act.put, List.setIfInBounds_toArray, List.set_cons_zero, List.set_cons_succ]
    rfl
   refine jh (i := 3) (N := some 2) (v := ?_) (a' := ?_) #[true, true, true, true, false] rfl rfl (uF zi.out (by kernel_rfl)) (fun _ _ _ h => h) (Or.inl ⟨by rfl, ?_⟩) ?_ ?_
   rotate_left
   ·intro w'
    go_simp
    with_reducible rfl
   rotate_left
   ·simp only [Act.put, List.setIfInBounds_toArray, List.set_cons_zero, List.set_cons_succ]
    rfl
   refine jh (i := 4) (N := some 3) (v := ?_) (a' := ?_) #[true, true, true, true, true] rfl rfl (uF zi.out (by kernel_rfl)) (fun _ _ _ h => h) (Or.inl ⟨by rfl, ?_⟩) ?_ ?_
   rotate_left
   ·intro w'
    go_simp
    with_reducible rfl
   rotate_left
   ·simp only [Act.put, List.setIfInBounds_toArray, List.set_cons_zero, List.set_cons_succ]
    rfl
   clear hHeld
   refine vO (xH zi.out (by kernel_rfl)) ?_
   go_wp2
   go_ret2
   exact ⟨rfl, hb.drew⟩
  | false =>
   go_enter Tryz.func36, Tryz.ntmps36
   go_wp2_with fail
   refine ha.mono ?_; rintro e w2 ⟨ev, rfl, _, h1, hb⟩
   obtain ⟨te, pe, rfl⟩ := h1 (by simp)
   clear ha h1
   go_wp2
   refine jU (n := 5) (S := fun _ => True) (ds := []) #[false, false, false, false, false] (by kernel_rfl) rfl rfl trivial (fun hHeld => ?_)
   refine J3 number.zJZ (fun zi => ?_)
   refine jh (i := 0) (N := some 14) (v := ?_) (a' := ?_) #[true, false, false, false, false] rfl rfl (uF zi.out (by kernel_rfl)) (fun _ _ _ h => h) (Or.inl ⟨by rfl, ?_⟩) ?_ ?_
   rotate_left
   ·intro w'
    go_simp
    with_reducible rfl
   rotate_left
   ·simp only [Act.put, List.setIfInBounds_toArray, List.set_cons_zero, List.set_cons_succ]
    rfl
   refine jh (i := 1) (N := some 15) (v := ?_) (a' := ?_) #[true, true, false, false, false] rfl rfl (uF zi.out (by kernel_rfl)) (fun _ _ _ h => h) (Or.inl ⟨by rfl, ?_⟩) ?_ ?_
   rotate_left
   ·intro w'
    go_simp
    with_reducible rfl
   rotate_left
   ·simp only [Act.put, List.setIfInBounds_toArray, List.set_cons_zero, List.set_cons_succ]
    rfl
   refine jh (i := 2) (N := some 16) (v := ?_) (a' := ?_) #[true, true, true, false, false] rfl rfl (uF zi.out (by kernel_rfl)) (fun _ _ _ h => h) (Or.inl ⟨by rfl, ?_⟩) ?_ ?_
   rotate_left
   ·intro w'
    go_simp
    with_reducible rfl
   rotate_left
   ·simp only [Act.put, List.setIfInBounds_toArray, List.set_cons_zero, List.set_cons_succ]
    rfl
   refine jh (i := 3) (N := some 2) (v := ?_) (a' := ?_) #[true, true, true, true, false] rfl rfl (uF zi.out (by kernel_rfl)) (fun _ _ _ h => h) (Or.inl ⟨by rfl, ?_⟩) ?_ ?_
   rotate_left
   ·intro w'
    go_simp
    with_reducible rfl
   rotate_left
   ·simp only [Act.put, List.setIfInBounds_toArray, List.set_cons_zero, List.set_cons_succ]
    rfl
   refine jh (i := 4) (N := some 3) (v := ?_) (a' := ?_) #[true, true, true, true, true] rfl rfl (uF zi.out (by kernel_rfl)) (fun _ _ _ h => h) (Or.inl ⟨by rfl, ?_⟩) ?_ ?_
   rotate_left
   ·intro w'
    go_simp
    with_reducible rfl
   rotate_left
   ·simp only [Act.put, List.setIfInBounds_toArray, List.set_cons_zero, List.set_cons_succ]
    rfl
   clear hHeld
   refine vO (xH zi.out (by kernel_rfl)) ?_
   go_wp2
   go_ret2
   exact ⟨rfl, hb.drew⟩
theorem u8n (c : Nat) (h : c ≤ 126) : ((UInt8.ofNat c).toNat : Int) = c := by
 have : (UInt8.ofNat c).toNat = c := by simp; omega
 rw [this]
def mo (c : Nat) : Int := Xo (UInt8.ofNat c)
def oK (c : Nat) : Int := max 0 (Xo (UInt8.ofNat c) - 20)
def fP (c : Nat) : Int := Xo (UInt8.ofNat c) + 50
def oW (_ : Nat) : Int := 600
theorem Wm (c : UInt8) : 0 ≤ Xo c ∧ Xo c ≤ 900 := by unfold Xo; repeat' split <;> try omega
theorem tC (c : Nat) (W : World) (_ : 33 ≤ c) (h : c ≤ 126) : Calls Tryz.prog 30 #[.int .u8 (c : Int)] W fun e w' => e = .returned (.int .i64 (mo c)) ∧ Below W.heap.size W w' := by
 have h := zva (UInt8.ofNat c) W
 rw [u8n c (by assumption)] at h
 exact h
set_option maxRecDepth 100000 in
theorem zZi (c : Nat) (W : World) (h0 : 33 ≤ c) (h : c ≤ 126) : Calls Tryz.prog 32 #[.int .u8 (c : Int)] W fun e w' => e = .returned (.int .i64 (oK c)) ∧ Below W.heap.size W w' := by
 have hr := tC c W h0 h
 have hv := Wm (UInt8.ofNat c)
 unfold oK
 unfold mo at hr
 generalize Xo (UInt8.ofNat c) = v at hr hv ⊢
 go_enter Tryz.func32, Tryz.ntmps32
 have e1 : IntKind.i64.wrap (v - 20) = v - 20 := IntWalk.i64_in _ (by omega)
 go_wp2_with (go_at_call 30; refine hr.mono ?_; rintro e w2 ⟨rfl, hb2⟩)
 go_ret
 exact ⟨by first | rfl | (simp; done) | (simp [Int.max_def]; done), hb2⟩
set_option maxRecDepth 100000 in
theorem zZl (c : Nat) (W : World) (h0 : 33 ≤ c) (h : c ≤ 126) : Calls Tryz.prog 33 #[.int .u8 (c : Int)] W fun e w' => e = .returned (.int .i64 (fP c)) ∧ Below W.heap.size W w' := by
 have hr := tC c W h0 h
 have hv := Wm (UInt8.ofNat c)
 unfold fP
 unfold mo at hr
 generalize Xo (UInt8.ofNat c) = v at hr hv ⊢
 have e1 : IntKind.i64.wrap (v + 50) = v + 50 := IntWalk.i64_in _ (by omega)
 go_enter Tryz.func33, Tryz.ntmps33
 go_wp2_with (go_at_call 30; refine hr.mono ?_; rintro e w2 ⟨rfl, hb2⟩)
 go_ret
 exact ⟨by first | rfl | (rw [e1]; done), hb2⟩
theorem zZm (c : Nat) (W : World) (_ : 33 ≤ c) (_ : c ≤ 126) : Calls Tryz.prog 34 #[.int .u8 (c : Int)] W fun e w' => e = .returned (.int .i64 (oW c)) ∧ Below W.heap.size W w' := by
 unfold oW
 go_enter Tryz.func34, Tryz.ntmps34
 go_wp2
 go_ret
 exact ⟨rfl, Below.refl _ _⟩
end Go.Proofs.YtaifemkokfoadaaGreatDoor
namespace Go.Proofs.YtaifemkokfoadaaGreatDoor
open Go.RowKit Go.Shelf Go.Proofs.zx.zK Go.Proofs.zx.zN Go.Proofs.YtaifemkokfoadaaGreatDoor.PX
def Qf (wd : Nat → Int) (a n : Nat) : List qw := (List.range n).map fun i => ⟨chr (a + i), wd (a + i)⟩
def bFi : ByteArray := ⟨#[102, 105]⟩
def bFl : ByteArray := ⟨#[102, 108]⟩
def bFf : ByteArray := ⟨#[102, 102]⟩
def p9 (x : Int) : List qw := [⟨bFi, x⟩, ⟨bFl, x⟩, ⟨bFf, x⟩]
def Ug (wd : Nat → Int) (x : Int) : List qw := Qf wd 33 70 ++ ([⟨bFf, x⟩, ⟨bFi, x⟩, ⟨bFl, x⟩] ++ Qf wd 103 24)
theorem zkt (wd : Nat → Int) : pU wd 127 = Qf wd 33 70 ++ Qf wd 103 24 := by
 have e0 : List.range (127 - 33) = List.range 70 ++ (List.range 24).map (70 + ·) := List.range_add (n := 70) (m := 24)
 have e1 : ((List.range 24).map (70 + ·)).map (fun i => (⟨chr (33 + i), wd (33 + i)⟩ : qw)) = Qf wd 103 24 := by
  rw [List.map_map]
  apply List.map_congr_left
  intro i _
  show (⟨chr (33 + (70 + i)), wd (33 + (70 + i))⟩ : qw) = ⟨chr (103 + i), wd (103 + i)⟩
  rw [show 33 + (70 + i) = 103 + i by omega]
 unfold pU
 rw [e0, List.map_append, e1]
 unfold Qf
 exact rfl
theorem zz7 (wd : Nat → Int) (x : Int) : (Ug wd x).Perm (p9 x ++ pU wd 127) := by
 rw [zkt]
 unfold Ug p9
 have h1 : ([⟨bFf, x⟩, ⟨bFi, x⟩, ⟨bFl, x⟩] : List qw).Perm [⟨bFi, x⟩, ⟨bFl, x⟩, ⟨bFf, x⟩] := by
  refine (List.Perm.swap _ _ _).trans ?_
  exact List.Perm.cons _ (List.Perm.swap _ _ _)
 generalize Qf wd 33 70 = A
 generalize Qf wd 103 24 = B
 refine (List.Perm.append_left A (List.Perm.append_right B h1)).trans ?_
 rw [← List.append_assoc, ← List.append_assoc]
 exact List.Perm.append_right B List.perm_append_comm
def Uq (n : Nat) : List ByteArray := if n = 0 then (List.range 94).map (fun i => chr (33 + i)) else (List.range 70).map (fun i => chr (33 + i)) ++ ([bFf, bFi, bFl] ++ (List.range 24).map (fun i => chr (103 + i)))
theorem zxF : (Uq 0).Pairwise fun a b => vL a b < 0 := by decide +kernel
theorem zxG : (Uq 1).Pairwise fun a b => vL a b < 0 := by decide +kernel
theorem zvb (wd : Nat → Int) (x : Int) : (Ug wd x).Pairwise fun a b => vL a.f0 b.f0 < 0 := by
 have h : ((Ug wd x).map (·.f0)) = Uq 1 := by
  simp [Ug, Uq, Qf, List.map_map, Function.comp_def]
 have h2 := zxG
 rw [← h, List.pairwise_map] at h2
 exact h2
theorem zvc (wd : Nat → Int) : (pU wd 127).Pairwise fun a b => vL a.f0 b.f0 < 0 := by
 have h : ((pU wd 127).map (·.f0)) = Uq 0 := by
  simp [pU, Uq, List.map_map, Function.comp_def]
 have h2 := zxF
 rw [← h, List.pairwise_map] at h2
 exact h2
end Go.Proofs.YtaifemkokfoadaaGreatDoor
namespace Go.Proofs.YtaifemkokfoadaaGreatDoor
open Go.RowKit Go.Shelf Go.Proofs.zx.zK Go.Proofs.zx.zU Go.Proofs.zx.zN Go.Proofs.YtaifemkokfoadaaGreatDoor.PX
set_option linter.unusedSimpArgs false
set_option linter.unusedVariables false
abbrev Pp : ByteArray := ⟨(([33, 61, 32, 54, 48, 48, 32, 42, 97, 32, 53, 53, 48, 32, 42, 98, 32, 53, 53, 48, 32, 42, 100, 32, 53, 48, 48, 32, 42, 103, 32, 53, 48, 48, 32, 42, 108, 32, 53, 53, 48, 32, 42, 112, 32, 54, 48, 48, 32, 42, 115, 32, 54, 48, 48, 32, 42, 119, 32, 55, 48].append [48, 32, 45, 62, 32, 49, 48, 48, 48, 32, 60, 45, 32, 49, 48, 48, 48, 32, 60, 61, 32, 54, 48, 48, 32, 62, 61, 32, 54, 48, 48, 32, 98, 114, 32, 49, 48, 32, 98, 117, 32, 52, 54, 48, 32, 99, 111, 32, 56, 48, 48, 32, 100, 103, 32, 53, 48, 48, 32, 100, 105, 32]).append ([54, 48, 48, 32, 101, 109, 32, 49, 48, 48, 48, 32, 101, 110, 32, 53, 48, 48, 32, 101, 113, 32, 54, 48, 48, 32, 104, 121, 32, 51, 53, 48, 32, 105, 102, 32, 55, 48, 48, 32, 105, 115, 32, 52, 48, 48, 32, 109, 105, 32, 54, 48, 48, 32, 109, 117, 32, 54, 48, 48, 32, 112].append [100, 32, 55, 48, 48, 32, 112, 108, 32, 54, 48, 48, 32, 114, 104, 32, 49, 48, 48, 48, 32, 114, 117, 32, 53, 48, 48, 32, 115, 99, 32, 53, 48, 48, 32, 115, 113, 32, 54, 48, 48, 32, 115, 114, 32, 53, 48, 48, 32, 115, 117, 32, 55, 48, 48, 32, 117, 108, 32, 53, 48, 48])).toArray⟩
def dZ : List (List UInt8) := Lib.fields Pp.data.toList
theorem oh : dZ.length = 70 := by decide +kernel
theorem zxH : ∀ x ∈ dZ, x.length ≤ 6 := by decide +kernel
theorem zzC : ∀ (j : Nat) (b : UInt8), Pp.data.toList[j]? = some b → b.toNat < 128 := by
 have h : ∀ b ∈ Pp.data.toList, b.toNat < 128 := by decide +kernel
 intro j b hj
 exact h b (List.mem_of_getElem? hj)
theorem om (x : Int) (W : World) (b : Nat) (ok : Nat → Prop) : xA (uy.M W b ok) uy.sz (p9 x) [.string (⟨#[102, 105]⟩ : ByteArray), .int .i64 x, .string (⟨#[102, 108]⟩ : ByteArray), .int .i64 x, .string (⟨#[102, 102]⟩ : ByteArray), .int .i64 x] := by
 have h : ∀ (j : Nat) (p : qw), (p9 x)[j]? = some p → uy.M W b ok p (([.string (⟨#[102, 105]⟩ : ByteArray), .int .i64 x, .string (⟨#[102, 108]⟩ : ByteArray), .int .i64 x, .string (⟨#[102, 102]⟩ : ByteArray), .int .i64 x].drop (j * 2)).take 2) := by
  intro j p hj
  rcases j with _ | _ | _ | j
  ·obtain rfl := Option.some.inj hj
   exact X8 W b ok ⟨bFi, x⟩
  ·obtain rfl := Option.some.inj hj
   exact X8 W b ok ⟨bFl, x⟩
  ·obtain rfl := Option.some.inj hj
   exact X8 W b ok ⟨bFf, x⟩
  ·simp [p9] at hj
 exact ⟨rfl, h⟩
def Pt : List qh := [⟨⟨#[102]⟩, ⟨#[102]⟩, ⟨#[102, 102]⟩⟩, ⟨⟨#[102]⟩, ⟨#[105]⟩, ⟨#[102, 105]⟩⟩, ⟨⟨#[102]⟩, ⟨#[108]⟩, ⟨#[102, 108]⟩⟩]
def Uh : List xq := [(⟨(⟨#[65]⟩ : ByteArray), (⟨#[86]⟩ : ByteArray), (-80)⟩ : xq), (⟨(⟨#[65]⟩ : ByteArray), (⟨#[87]⟩ : ByteArray), (-60)⟩ : xq), (⟨(⟨#[84]⟩ : ByteArray), (⟨#[111]⟩ : ByteArray), (-70)⟩ : xq), (⟨(⟨#[86]⟩ : ByteArray), (⟨#[65]⟩ : ByteArray), (-80)⟩ : xq), (⟨(⟨#[89]⟩ : ByteArray), (⟨#[111]⟩ : ByteArray), (-90)⟩ : xq)]
def FB (W : World) (lo hi g : Nat) (x : Xn) : Prop :=
 ∃ v3 v4 v5, W.heap[g]? = some (.cells #[.string x.f0, .bool x.f1, .int .i64 x.f2, v3, v4, v5] 26 (0, 0)) ∧ lo ≤ g ∧ g < hi ∧ Kd.R uy 31 W lo (fun k => lo ≤ k ∧ k < hi) v3 x.f3 ∧
  Kd.R uU 86 W lo (fun k => lo ≤ k ∧ k < hi) v4 x.f4 ∧ Kd.R jy 76 W lo (fun k => lo ≤ k ∧ k < hi) v5 x.f5
theorem gL {α : Type} {d : Kd α} {e lo hi : Nat} {W W' : World} {v : Value} {xs : List α} (h : d.R e W lo (fun k => lo ≤ k ∧ k < hi) v xs) (hb : Below hi W W') : d.R e W' lo (fun k => lo ≤ k ∧ k < hi) v xs :=
 Kd.Ja h (fun k hk _ => hb.block k hk.2)
theorem zku {α : Type} {d : Kd α} {e lo : Nat} {W : World} {v : Value} {xs : List α} (h : d.R e W lo (fun _ => True) v xs) : d.R e W lo (fun k => lo ≤ k ∧ k < W.heap.size) v xs :=
 Kd.yN (Kd.jv h) (fun k hk => ⟨hk.2.1, hk.2.2.1⟩)
theorem FB.keep {W W' : World} {lo hi g : Nat} {x : Xn} (h : FB W lo hi g x) (hb : Below hi W W') : FB W' lo hi g x := by
 obtain ⟨v3, v4, v5, h1, h2, h3, h4, h5, h6⟩ := h
 exact ⟨v3, v4, v5, (hb.block g h3).trans h1, h2, h3, gL h4 hb, gL h5 hb, gL h6 hb⟩
theorem FB.mk {W : World} {lo g : Nat} (x : Xn) {v3 v4 v5 : Value} (h1 : W.heap[g]? = some (.cells #[.string x.f0, .bool x.f1, .int .i64 x.f2, v3, v4, v5] 26 (0, 0))) (h2 : lo ≤ g) (h3 : Kd.R uy 31 W lo (fun _ => True) v3 x.f3)
  (h4 : Kd.R uU 86 W lo (fun _ => True) v4 x.f4) (h5 : Kd.R jy 76 W lo (fun _ => True) v5 x.f5) : FB W lo W.heap.size g x :=
 ⟨v3, v4, v5, h1, h2, uS h1, zku h3, zku h4, zku h5⟩
def u7 : Xn := ⟨⟨#[82]⟩, false, 250, Ug mo 550, Pt, Uh⟩
def zyN : Xn := ⟨⟨#[73]⟩, false, 250, pU oK 127, [], []⟩
def zyO : Xn := ⟨⟨#[66]⟩, false, 250, Ug fP 600, Pt, []⟩
def zyP : Xn := ⟨⟨#[77]⟩, false, 600, pU oW 127, [], []⟩
theorem zvd (W : World) (b : Nat) (ok : Nat → Prop) : xA (jy.M W b ok) jy.sz Uh [.string (⟨#[65]⟩ : ByteArray), .string (⟨#[86]⟩ : ByteArray), .int .i64 (-80), .string (⟨#[65]⟩ : ByteArray), .string (⟨#[87]⟩ : ByteArray), .int .i64 (-60), .string (⟨#[84]⟩ : ByteArray), .string (⟨#[111]⟩ : ByteArray), .int .i64 (-70), .string (⟨#[86]⟩ : ByteArray), .string (⟨#[65]⟩ : ByteArray), .int .i64 (-80), .string (⟨#[89]⟩ : ByteArray), .string (⟨#[111]⟩ : ByteArray), .int .i64 (-90)] := by
 have h : ∀ (j : Nat) (p : xq), Uh[j]? = some p → jy.M W b ok p ((([.string (⟨#[65]⟩ : ByteArray), .string (⟨#[86]⟩ : ByteArray), .int .i64 (-80), .string (⟨#[65]⟩ : ByteArray), .string (⟨#[87]⟩ : ByteArray), .int .i64 (-60), .string (⟨#[84]⟩ : ByteArray), .string (⟨#[111]⟩ : ByteArray), .int .i64 (-70), .string (⟨#[86]⟩ : ByteArray), .string (⟨#[65]⟩ : ByteArray), .int .i64 (-80), .string (⟨#[89]⟩ : ByteArray), .string (⟨#[111]⟩ : ByteArray), .int .i64 (-90)] : List Value).drop (j * 3)).take 3) := by
  intro j p hj
  rcases j with _ | _ | _ | _ | _ | j
  ·obtain rfl := Option.some.inj hj
   exact QM W b ok (⟨(⟨#[65]⟩ : ByteArray), (⟨#[86]⟩ : ByteArray), (-80)⟩ : xq)
  ·obtain rfl := Option.some.inj hj
   exact QM W b ok (⟨(⟨#[65]⟩ : ByteArray), (⟨#[87]⟩ : ByteArray), (-60)⟩ : xq)
  ·obtain rfl := Option.some.inj hj
   exact QM W b ok (⟨(⟨#[84]⟩ : ByteArray), (⟨#[111]⟩ : ByteArray), (-70)⟩ : xq)
  ·obtain rfl := Option.some.inj hj
   exact QM W b ok (⟨(⟨#[86]⟩ : ByteArray), (⟨#[65]⟩ : ByteArray), (-80)⟩ : xq)
  ·obtain rfl := Option.some.inj hj
   exact QM W b ok (⟨(⟨#[89]⟩ : ByteArray), (⟨#[111]⟩ : ByteArray), (-90)⟩ : xq)
  ·simp [Uh] at hj
 exact ⟨rfl, h⟩
theorem FB.cells {W : World} {lo hi g : Nat} {x : Xn} (h : FB W lo hi g x) : ∃ A3 n3 c3 A4 n4 c4 A5 n5 c5, W.heap[g]? = some (.cells #[.string x.f0, .bool x.f1, .int .i64 x.f2, .slice A3 n3 c3, .slice A4 n4 c4, .slice A5 n5 c5] 26 (0, 0)) ∧
  ∀ (W' : World) (base : Nat) (ok : Nat → Prop), Below W.heap.size W W' → base ≤ lo → (∀ k, lo ≤ k → k < hi → ok k) → k26.M W' base ok x [.string x.f0, .bool x.f1, .int .i64 x.f2, .slice A3 n3 c3, .slice A4 n4 c4, .slice A5 n5 c5] := by
 obtain ⟨v3, v4, v5, h1, h2, h3, h4, h5, h6⟩ := h
 obtain ⟨A3, c3, rfl⟩ := Kd.yx h4
 obtain ⟨A4, c4, rfl⟩ := Kd.yx h5
 obtain ⟨A5, c5, rfl⟩ := Kd.yx h6
 refine ⟨A3, _, c3, A4, _, c4, A5, _, c5, h1, fun W' base ok hb hl hok => ?_⟩
 exact zw4 W' base ok x (Kd.yN (Kd.jk (Kd.zR h4 hb) hl) (fun k hk => hok k hk.1 hk.2)) (Kd.yN (Kd.jk (Kd.zR h5 hb) hl) (fun k hk => hok k hk.1 hk.2)) (Kd.yN (Kd.jk (Kd.zR h6 hb) hl) (fun k hk => hok k hk.1 hk.2))
theorem Qg {W : World} {g : Nat} (h : W.heap[g]? = some (.cells #[.string (⟨#[]⟩ : ByteArray), .bool false, .int .i64 0, .slice none 0 0, .slice none 0 0, .slice none 0 0] 26 (0, 0))) (a : ByteArray) (b : Bool) (c : Int) (v3 v4 v5 : Value) :
  ((((((W.setCell ⟨g, 0, none⟩ (.string a)).setCell ⟨g, 1, none⟩ (.bool b)).setCell ⟨g, 2, none⟩ (.int .i64 c)).setCell ⟨g, 3, none⟩ v3).setCell ⟨g, 4, none⟩ v4).setCell ⟨g, 5, none⟩ v5).heap[g]? = some (.cells #[.string a, .bool b, .int .i64 c, v3, v4, v5] 26 (0, 0)) :=
 zD (zD (zD (zD (zD (zD (cs' := #[.string a, .bool false, .int .i64 0, .slice none 0 0, .slice none 0 0, .slice none 0 0]) h 0 _ rfl) (cs' := #[.string a, .bool b, .int .i64 0, .slice none 0 0, .slice none 0 0, .slice none 0 0]) 1 _ rfl)
  (cs' := #[.string a, .bool b, .int .i64 c, .slice none 0 0, .slice none 0 0, .slice none 0 0]) 2 _ rfl) (cs' := #[.string a, .bool b, .int .i64 c, v3, .slice none 0 0, .slice none 0 0]) 3 _ rfl) (cs' := #[.string a, .bool b, .int .i64 c, v3, v4, .slice none 0 0]) 4 _ rfl) 5 _ rfl
theorem Vt {W0 W : World} {B g : Nat} (h : Below B W0 W) (hg : B ≤ g) (u0 u1 u2 u3 u4 u5 : Value) :
  Below B W0 ((((((W.setCell ⟨g, 0, none⟩ u0).setCell ⟨g, 1, none⟩ u1).setCell ⟨g, 2, none⟩ u2).setCell ⟨g, 3, none⟩ u3).setCell ⟨g, 4, none⟩ u4).setCell ⟨g, 5, none⟩ u5) :=
 (((((h.setCell hg _).setCell hg _).setCell hg _).setCell hg _).setCell hg _).setCell hg _
def wO (j : Nat) : ByteArray := ⟨(dZ.getD j []).toArray⟩
theorem zzD (j : Nat) : (wO j).size ≤ 6 := by
 show ((dZ.getD j []).toArray).size ≤ 6
 rw [List.size_toArray, List.getD_eq_getElem?_getD]
 cases h : dZ[j]? with
 | none => simp
 | some x => exact zxH x (List.mem_of_getElem? h)
def KZ (m : Nat) : List qw := (List.range m).map fun i => ⟨wO (2 * i), (kV (wO (2 * i + 1))).1⟩
theorem zve (m : Nat) : KZ (m + 1) = KZ m ++ [⟨wO (2 * m), (kV (wO (2 * m + 1))).1⟩] := by unfold KZ; rw [List.range_succ, List.map_append]; rfl
theorem zkA (m : Nat) : (KZ m).length = m := by simp [KZ]
def zyR : Xn := ⟨⟨#[83]⟩, true, 250, KZ 35, [], []⟩
def Qk : Array Value := (dZ.map fun l => Value.string ⟨l.toArray⟩).toArray
theorem KQ (j : Nat) (h : j < 70) : Qk[j]? = some (.string (wO j)) := by
 have hl : j < dZ.length := by rw [oh]; exact h
 unfold Qk wO
 simp [List.getD_eq_getElem?_getD, hl]
def zxI : List Xn := [u7, zyN, zyO, zyP, zyR]
def std.T14 : Bool × List (List Nat × List Nat) := (true, [([], []), ([0], [0]), ([], []), ([], []), ([2, 3], [2, 3]), ([4], [4]), ([], []), ([5, 6], [5, 6]), ([7], [7]), ([1, 8], [1, 8]), ([0, 1, 2, 3, 4, 5, 6, 7, 8, 9], []), ([10, 9, 9, 0, 1, 2, 3, 4, 5, 6, 7, 8, 9], [9, 10])])
theorem std.zVU : vB .any (opsOf Tryz.f13 14) = std.T14 := by kernel_rfl
def zaj (W4 : World) (g5 bw : Nat) (x : Value) (wr : World) : Prop :=
 ∃ (m k : Nat) (u : Value), x = .int .i64 (k : Int) ∧ k = 2 * m ∧ m ≤ 35 ∧ Kd.R uy 31 wr W4.heap.size (fun _ => True) u (KZ m) ∧ wr.heap[g5]? = some (.cells #[.string (⟨#[83]⟩ : ByteArray), .bool true, .int .i64 250, u, .slice none 0 0, .slice none 0 0] 26 (0, 0)) ∧
  wr.heap[bw]? = some (.cells Qk 9 (0, 0)) ∧ Below W4.heap.size W4 wr
set_option maxHeartbeats 8000000 in
set_option maxRecDepth 100000 in
theorem zZn (w : World) (hG : GW w) : Calls Tryz.prog 13 #[] w fun e w' => ∃ v : Value, e = .returned v ∧ Kd.S k26 26 w' w.heap.size (fun _ => True) v zxI ∧ Below w.heap.size w w' := by
 have bS := Tryz.underlying26
 have HGW := zy.mk hG
 clear hG
 have zxL := zy.mk (Below.refl w.heap.size w)
 generalize hW0 : w = Wn at zxL HGW
 go_enter Tryz.func13, Tryz.ntmps13
 go_wp2_with (first | ((with_reducible refine xI (N := 13) rfl ?_); refine Kd.J2 uy Wn.heap.size 31 ?hg (N := 13) ?hd (w0 := Wn) (xs := (p9 550)) (inner := [.string (⟨#[102, 105]⟩ : ByteArray), .int .i64 550, .string (⟨#[102, 108]⟩ : ByteArray), .int .i64 550, .string (⟨#[102, 102]⟩ : ByteArray), .int .i64 550]) (ok := fun _ => True) (pK := fun _ => True) ?hr ?hp (fun _ hk => hk) trivial zxL.out zxL.out.size (by simp [p9]) ?_; (case hd => rfl); (case hg => rfl); (case hr => first | (go_simp; done) | (go_simp; rfl)); (case hp => exact om 550 _ _ _); intro u0 wl hol hbl hgl dQ; have HL_ := zy.mk hol; have dX := zy.mk hbl; have zkB := zy.mk dQ; clear hol hbl hgl dQ zxL))
 refine (Kw 30 _ Tryz.func30 (by kernel_rfl) rfl mo tC (⟨#[82]⟩ : ByteArray) 250 Wn.heap.size u0 (p9 550) (Ug mo 550) wl dX.out.size HL_.out (by simp [p9]) (zz7 mo 550) (zvb mo 550)).mono ?_
 rintro e w1 ⟨v1, rfl, hr, hb, -, -⟩
 have HR1 := zy.mk hr
 have HB1 := zy.mk (dX.out.trans hb)
 clear hr hb HL_ dX zkB
 obtain ⟨A1, c1, e1⟩ := Kd.yx HR1.out
 generalize (Ug mo 550).length = n1 at e1
 subst e1
 go_wp2_with (first | ((with_reducible refine xI (N := 1) rfl ?_); refine xR ?hg (N := 1) ?hd (cs := #[.string (⟨#[]⟩ : ByteArray), .bool false, .int .i64 0, .slice none 0 0, .slice none 0 0, .slice none 0 0]) (t := 26) ?hr ?_; (case hd => rfl); (case hg => rfl); (case hr => first | (go_simp; done) | (go_simp; rfl)); intro g1 UF w2 hbx hbq; have YD := zy.mk hbx; have zyS := zy.mk hbq; have zxM := zy.mk UF; clear hbx hbq UF; have zV0 : w2.cell? ⟨g1, 0, none⟩ = some (.string (⟨#[]⟩ : ByteArray)) := (zk YD.out 0).trans rfl; have zV1 : w2.cell? ⟨g1, 1, none⟩ = some (.bool false) := (zk YD.out 1).trans rfl; have zV2 : w2.cell? ⟨g1, 2, none⟩ = some (.int .i64 0) := (zk YD.out 2).trans rfl; have zV3 : w2.cell? ⟨g1, 3, none⟩ = some (.slice none 0 0) := (zk YD.out 3).trans rfl; have zV4 : w2.cell? ⟨g1, 4, none⟩ = some (.slice none 0 0) := (zk YD.out 4).trans rfl; have zV5 : w2.cell? ⟨g1, 5, none⟩ = some (.slice none 0 0) := (zk YD.out 5).trans rfl; have zV6 := zw YD.out 0; have zV7 := zw YD.out 1; have zV8 := zw YD.out 2; have zV9 := zw YD.out 3; have zKz := zw YD.out 4; have zKq := zw YD.out 5))
 have zn := zy.mk (Qg YD.out (⟨#[82]⟩ : ByteArray) false 250 (.slice A1 n1 c1) (.slice none 0 0) (.slice none 0 0))
 have zH := zy.mk (Vt (zyS.out) (Nat.le_of_eq zxM.out.symm) (.string (⟨#[82]⟩ : ByteArray)) (.bool false) (.int .i64 250) (.slice A1 n1 c1) (.slice none 0 0) (.slice none 0 0))
 have LG1 := zy.mk (Nat.le_trans HB1.out.size (Nat.le_of_eq zxM.out.symm))
 clear zV0 zV1 zV2 zV3 zV4 zV5 zV6 zV7 zV8 zV9 zKz zKq
 generalize ((((((w2.setCell ⟨g1, 0, none⟩ (.string (⟨#[82]⟩ : ByteArray))).setCell ⟨g1, 1, none⟩ (.bool false)).setCell ⟨g1, 2, none⟩ (.int .i64 250)).setCell ⟨g1, 3, none⟩ (.slice A1 n1 c1)).setCell ⟨g1, 4, none⟩ (.slice none 0 0)).setCell ⟨g1, 5, none⟩ (.slice none 0 0)) = w3 at zn zH ⊢
 have zA := zy.mk (Kd.zR HR1.out zH.out)
 have zP := zy.mk (HB1.out.trans (zH.out.mono HB1.out.size))
 clear HR1 HB1 YD zyS zxM zH
 have Xp := zn
 have HR1 := zA
 have HB1 := zP
 clear zn zA zP
 refine (Xq.calls Pt w3 rfl).mono ?_
 rintro e w4 ⟨v4, rfl, hr, hb⟩
 have zn := zy.mk (zf Xp.out hb)
 have zA := zy.mk (Kd.zR HR1.out hb)
 have zH := zy.mk (Kd.jk hr HB1.out.size)
 have zP := zy.mk (HB1.out.trans (hb.mono HB1.out.size))
 clear Xp HR1 HB1 hr hb
 have Xp := zn
 have HR1 := zA
 have bB := zH
 have HB1 := zP
 clear zn zA zH zP
 obtain ⟨A4, c4, e4⟩ := Kd.yx bB.out
 generalize Pt.length = n4 at e4
 subst e4
 have hq4 : w4.cell? ⟨g1, 4, none⟩ = some (.slice none 0 0) := (zk Xp.out 4).trans rfl
 have zkC := zw Xp.out 4
 go_wp2_with (first | ((with_reducible refine xI (N := 22) rfl ?_); have zn := zy.mk (zD (cs' := #[.string (⟨#[82]⟩ : ByteArray), .bool false, .int .i64 250, .slice A1 n1 c1, .slice A4 n4 c4, .slice none 0 0]) Xp.out 4 (.slice A4 n4 c4) rfl); have zA := zy.mk (Kd.jg HR1.out Xp.out (by decide) 4 (.slice A4 n4 c4)); have zH := zy.mk (Kd.jg bB.out Xp.out (by decide) 4 (.slice A4 n4 c4)); have zP := zy.mk (HB1.out.setCell (p := ⟨g1, 4, none⟩) LG1.out (.slice A4 n4 c4)); clear Xp HR1 bB HB1 hq4 zkC; have Xp := zn; have HR1 := zA; have bB := zH; have HB1 := zP; clear zn zA zH zP; generalize w4.setCell ⟨g1, 4, none⟩ (.slice A4 n4 c4) = w5 at Xp HR1 bB HB1 ⊢; refine Kd.J2 jy Wn.heap.size 76 ?hg (N := 22) ?hd (w0 := Wn) (xs := Uh) (inner := [.string (⟨#[65]⟩ : ByteArray), .string (⟨#[86]⟩ : ByteArray), .int .i64 (-80), .string (⟨#[65]⟩ : ByteArray), .string (⟨#[87]⟩ : ByteArray), .int .i64 (-60), .string (⟨#[84]⟩ : ByteArray), .string (⟨#[111]⟩ : ByteArray), .int .i64 (-70), .string (⟨#[86]⟩ : ByteArray), .string (⟨#[65]⟩ : ByteArray), .int .i64 (-80), .string (⟨#[89]⟩ : ByteArray), .string (⟨#[111]⟩ : ByteArray), .int .i64 (-90)]) (ok := fun _ => True) (pK := fun _ => True) ?hr ?hp (fun _ hk => hk) trivial HB1.out HB1.out.size (by simp [Uh]) ?_; (case hd => rfl); (case hg => rfl); (case hr => first | (go_simp; done) | (go_simp; rfl)); (case hp => exact zvd _ _ _); intro v5 wk hol hbl hgl dQ; obtain ⟨A5, c5, e5⟩ := Kd.yx hol; generalize Uh.length = n5 at e5; subst e5; have zn := zy.mk (qx Xp.out hgl (by simp)); have zA := zy.mk (Kd.Y8 HR1.out hgl (fun _ _ => by simp)); have zH := zy.mk (Kd.Y8 bB.out hgl (fun _ _ => by simp)); have zP := zy.mk hol; have qj := zy.mk hbl; clear Xp HR1 bB HB1 hol hbl hgl dQ; have Xp := zn; have HR1 := zA; have bB := zH; have vT := zP; have HB1 := qj; clear zn zA zH zP qj; have hq5 : wk.cell? ⟨g1, 5, none⟩ = some (.slice none 0 0) := (zk Xp.out 5).trans rfl; have zav := zw Xp.out 5))
 have zn := zy.mk (zD (cs' := #[.string (⟨#[82]⟩ : ByteArray), .bool false, .int .i64 250, .slice A1 n1 c1, .slice A4 n4 c4, .slice A5 n5 c5]) Xp.out 5 (.slice A5 n5 c5) rfl)
 have zA := zy.mk (Kd.jg HR1.out Xp.out (by decide) 5 (.slice A5 n5 c5))
 have zH := zy.mk (Kd.jg bB.out Xp.out (by decide) 5 (.slice A5 n5 c5))
 have zP := zy.mk (Kd.jg vT.out Xp.out (by decide) 5 (.slice A5 n5 c5))
 have qj := zy.mk (HB1.out.setCell (p := ⟨g1, 5, none⟩) LG1.out (.slice A5 n5 c5))
 clear Xp HR1 bB vT HB1 hq5 zav
 generalize wk.setCell ⟨g1, 5, none⟩ (.slice A5 n5 c5) = fT at zn zA zH zP qj ⊢
 have FB1 := zy.mk (FB.mk u7 zn.out LG1.out zA.out zH.out zP.out)
 have fU := zy.mk qj.out
 clear zn zA zH zP qj LG1
 refine (Kw 32 _ Tryz.func32 (by kernel_rfl) rfl oK zZi (⟨#[73]⟩ : ByteArray) 250 fT.heap.size (.slice none 0 0) [] (pU oK 127) fT (Nat.le_refl _) (Kd.xE _ _ _ _ _) (by simp [p9]) (by rw [List.nil_append]) (zvc oK)).mono ?_
 rintro e w6 ⟨v6, rfl, hr, hb, -, -⟩
 have HR2 := zy.mk hr
 have HB2 := zy.mk hb
 clear hr hb
 obtain ⟨A6, c6, e6⟩ := Kd.yx HR2.out
 generalize (pU oK 127).length = n6 at e6
 subst e6
 go_wp2_with (first | ((with_reducible refine xI (N := 2) rfl ?_); refine xR ?hg (N := 2) ?hd (cs := #[.string (⟨#[]⟩ : ByteArray), .bool false, .int .i64 0, .slice none 0 0, .slice none 0 0, .slice none 0 0]) (t := 26) ?hr ?_; (case hd => rfl); (case hg => rfl); (case hr => first | (go_simp; done) | (go_simp; rfl)); intro g2 UF w7 hbx hbq; have YE := zy.mk hbx; have zyT := zy.mk hbq; have zxN := zy.mk UF; clear hbx hbq UF; have zKx : w7.cell? ⟨g2, 0, none⟩ = some (.string (⟨#[]⟩ : ByteArray)) := (zk YE.out 0).trans rfl; have zKj : w7.cell? ⟨g2, 1, none⟩ = some (.bool false) := (zk YE.out 1).trans rfl; have zKv : w7.cell? ⟨g2, 2, none⟩ = some (.int .i64 0) := (zk YE.out 2).trans rfl; have zKk : w7.cell? ⟨g2, 3, none⟩ = some (.slice none 0 0) := (zk YE.out 3).trans rfl; have zKy : w7.cell? ⟨g2, 4, none⟩ = some (.slice none 0 0) := (zk YE.out 4).trans rfl; have zKw : w7.cell? ⟨g2, 5, none⟩ = some (.slice none 0 0) := (zk YE.out 5).trans rfl; have zKZ := zw YE.out 0; have zKQ := zw YE.out 1; have zKX := zw YE.out 2; have zKJ := zw YE.out 3; have zKV := zw YE.out 4; have zKK := zw YE.out 5) | ((with_reducible refine xI (N := 28) rfl ?_); have zn := zy.mk (Qg YE.out (⟨#[73]⟩ : ByteArray) false 250 (.slice A6 n6 c6) (.slice none 0 0) (.slice none 0 0)); have zH := zy.mk (Vt (zyT.out) (Nat.le_of_eq zxN.out.symm) (.string (⟨#[73]⟩ : ByteArray)) (.bool false) (.int .i64 250) (.slice A6 n6 c6) (.slice none 0 0) (.slice none 0 0)); have LG2 := zy.mk (Nat.le_trans HB2.out.size (Nat.le_of_eq zxN.out.symm)); clear zKx zKj zKv zKk zKy zKw zKZ zKQ zKX zKJ zKV zKK; generalize ((((((w7.setCell ⟨g2, 0, none⟩ (.string (⟨#[73]⟩ : ByteArray))).setCell ⟨g2, 1, none⟩ (.bool false)).setCell ⟨g2, 2, none⟩ (.int .i64 250)).setCell ⟨g2, 3, none⟩ (.slice A6 n6 c6)).setCell ⟨g2, 4, none⟩ (.slice none 0 0)).setCell ⟨g2, 5, none⟩ (.slice none 0 0)) = mD at zn zH ⊢; have FB2 := zy.mk (FB.mk zyN zn.out LG2.out (Kd.zR HR2.out zH.out) (Kd.xE _ _ _ _ _) (Kd.xE _ _ _ _ _)); have oo := zy.mk (HB2.out.trans (zH.out.mono HB2.out.size)); clear HR2 HB2 YE zyT zxN LG2 zn zH; refine Kd.J2 uy mD.heap.size 31 ?hg (N := 28) ?hd (w0 := mD) (xs := (p9 600)) (inner := [.string (⟨#[102, 105]⟩ : ByteArray), .int .i64 600, .string (⟨#[102, 108]⟩ : ByteArray), .int .i64 600, .string (⟨#[102, 102]⟩ : ByteArray), .int .i64 600]) (ok := fun _ => True) (pK := fun _ => True) ?hr ?hp (fun _ hk => hk) trivial (Below.refl _ _) (Nat.le_refl _) (by simp [p9]) ?_; (case hd => rfl); (case hg => rfl); (case hr => first | (go_simp; done) | (go_simp; rfl)); (case hp => exact om 600 _ _ _); intro u0 wl hol hbl hgl dQ; have HL_ := zy.mk hol; have dX := zy.mk hbl; have zkB := zy.mk dQ; clear hol hbl hgl dQ))
 refine (Kw 33 _ Tryz.func33 (by kernel_rfl) rfl fP zZl (⟨#[66]⟩ : ByteArray) 250 mD.heap.size u0 (p9 600) (Ug fP 600) wl dX.out.size HL_.out (by simp [p9]) (zz7 fP 600) (zvb fP 600)).mono ?_
 rintro e w9 ⟨v9, rfl, hr, hb, -, -⟩
 have HR3 := zy.mk hr
 have HB3 := zy.mk (dX.out.trans hb)
 clear hr hb HL_ dX zkB
 obtain ⟨A9, c9, e9⟩ := Kd.yx HR3.out
 generalize (Ug fP 600).length = n9 at e9
 subst e9
 go_wp2_with (first | ((with_reducible refine xI (N := 3) rfl ?_); refine xR ?hg (N := 3) ?hd (cs := #[.string (⟨#[]⟩ : ByteArray), .bool false, .int .i64 0, .slice none 0 0, .slice none 0 0, .slice none 0 0]) (t := 26) ?hr ?_; (case hd => rfl); (case hg => rfl); (case hr => first | (go_simp; done) | (go_simp; rfl)); intro g3 UF KO hbx hbq; have YF := zy.mk hbx; have zyU := zy.mk hbq; have zxO := zy.mk UF; clear hbx hbq UF; have zKY : KO.cell? ⟨g3, 0, none⟩ = some (.string (⟨#[]⟩ : ByteArray)) := (zk YF.out 0).trans rfl; have zKW : KO.cell? ⟨g3, 1, none⟩ = some (.bool false) := (zk YF.out 1).trans rfl; have zKa : KO.cell? ⟨g3, 2, none⟩ = some (.int .i64 0) := (zk YF.out 2).trans rfl; have zKb : KO.cell? ⟨g3, 3, none⟩ = some (.slice none 0 0) := (zk YF.out 3).trans rfl; have zKc : KO.cell? ⟨g3, 4, none⟩ = some (.slice none 0 0) := (zk YF.out 4).trans rfl; have zKd : KO.cell? ⟨g3, 5, none⟩ = some (.slice none 0 0) := (zk YF.out 5).trans rfl; have zKe := zw YF.out 0; have zKf := zw YF.out 1; have zKg := zw YF.out 2; have zKh := zw YF.out 3; have zKi := zw YF.out 4; have zKl := zw YF.out 5))
 have zn := zy.mk (Qg YF.out (⟨#[66]⟩ : ByteArray) false 250 (.slice A9 n9 c9) (.slice none 0 0) (.slice none 0 0))
 have zH := zy.mk (Vt (zyU.out) (Nat.le_of_eq zxO.out.symm) (.string (⟨#[66]⟩ : ByteArray)) (.bool false) (.int .i64 250) (.slice A9 n9 c9) (.slice none 0 0) (.slice none 0 0))
 have LG3 := zy.mk (Nat.le_trans HB3.out.size (Nat.le_of_eq zxO.out.symm))
 clear zKY zKW zKa zKb zKc zKd zKe zKf zKg zKh zKi zKl
 generalize ((((((KO.setCell ⟨g3, 0, none⟩ (.string (⟨#[66]⟩ : ByteArray))).setCell ⟨g3, 1, none⟩ (.bool false)).setCell ⟨g3, 2, none⟩ (.int .i64 250)).setCell ⟨g3, 3, none⟩ (.slice A9 n9 c9)).setCell ⟨g3, 4, none⟩ (.slice none 0 0)).setCell ⟨g3, 5, none⟩ (.slice none 0 0)) = Xr at zn zH ⊢
 have zA := zy.mk (Kd.zR HR3.out zH.out)
 have zP := zy.mk (HB3.out.trans (zH.out.mono HB3.out.size))
 clear HR3 HB3 YF zyU zxO zH
 have mE := zn
 have HR3 := zA
 have HB3 := zP
 clear zn zA zP
 refine (Xq.calls Pt Xr rfl).mono ?_
 rintro e jm ⟨v12, rfl, hr, hb⟩
 have zn := zy.mk (zf mE.out hb)
 have zA := zy.mk (Kd.zR HR3.out hb)
 have zH := zy.mk (Kd.jk hr HB3.out.size)
 have zP := zy.mk (HB3.out.trans (hb.mono HB3.out.size))
 clear mE HR3 HB3 hr hb
 have mE := zn
 have HR3 := zA
 have HL3 := zH
 have HB3 := zP
 clear zn zA zH zP
 obtain ⟨A12, c12, e12⟩ := Kd.yx HL3.out
 generalize Pt.length = n12 at e12
 subst e12
 have hq4 : jm.cell? ⟨g3, 4, none⟩ = some (.slice none 0 0) := (zk mE.out 4).trans rfl
 have zkC := zw mE.out 4
 go_wp2_with fail
 have zn := zy.mk (zD (cs' := #[.string (⟨#[66]⟩ : ByteArray), .bool false, .int .i64 250, .slice A9 n9 c9, .slice A12 n12 c12, .slice none 0 0]) mE.out 4 (.slice A12 n12 c12) rfl)
 have zA := zy.mk (Kd.jg HR3.out mE.out (by decide) 4 (.slice A12 n12 c12))
 have zH := zy.mk (Kd.jg HL3.out mE.out (by decide) 4 (.slice A12 n12 c12))
 have zP := zy.mk (HB3.out.setCell (p := ⟨g3, 4, none⟩) LG3.out (.slice A12 n12 c12))
 clear mE HR3 HL3 HB3 hq4 zkC
 generalize jm.setCell ⟨g3, 4, none⟩ (.slice A12 n12 c12) = eZ at zn zA zH zP ⊢
 have FB3 := zy.mk (FB.mk zyO zn.out LG3.out zA.out zH.out (Kd.xE _ _ _ _ _))
 have BW2 := zy.mk zP.out
 clear zn zA zH zP LG3
 refine (Kw 34 _ Tryz.func34 (by kernel_rfl) rfl oW zZm (⟨#[77]⟩ : ByteArray) 600 eZ.heap.size (.slice none 0 0) [] (pU oW 127) eZ (Nat.le_refl _) (Kd.xE _ _ _ _ _) (by simp [p9]) (by rw [List.nil_append]) (zvc oW)).mono ?_
 rintro e mF ⟨v13, rfl, hr, hb, -, -⟩
 have HR4 := zy.mk hr
 have kI := zy.mk hb
 clear hr hb
 obtain ⟨A13, c13, e13⟩ := Kd.yx HR4.out
 generalize (pU oW 127).length = n13 at e13
 subst e13
 go_wp2_with (first | ((with_reducible refine xI (N := 4) rfl ?_); refine xR ?hg (N := 4) ?hd (cs := #[.string (⟨#[]⟩ : ByteArray), .bool false, .int .i64 0, .slice none 0 0, .slice none 0 0, .slice none 0 0]) (t := 26) ?hr ?_; (case hd => rfl); (case hg => rfl); (case hr => first | (go_simp; done) | (go_simp; rfl)); intro g4 UF mJ hbx hbq; have YG := zy.mk hbx; have zy0 := zy.mk hbq; have zxP := zy.mk UF; clear hbx hbq UF; have zKm : mJ.cell? ⟨g4, 0, none⟩ = some (.string (⟨#[]⟩ : ByteArray)) := (zk YG.out 0).trans rfl; have zKn : mJ.cell? ⟨g4, 1, none⟩ = some (.bool false) := (zk YG.out 1).trans rfl; have zKo : mJ.cell? ⟨g4, 2, none⟩ = some (.int .i64 0) := (zk YG.out 2).trans rfl; have zKp : mJ.cell? ⟨g4, 3, none⟩ = some (.slice none 0 0) := (zk YG.out 3).trans rfl; have zKr : mJ.cell? ⟨g4, 4, none⟩ = some (.slice none 0 0) := (zk YG.out 4).trans rfl; have zKs : mJ.cell? ⟨g4, 5, none⟩ = some (.slice none 0 0) := (zk YG.out 5).trans rfl; have zKt := zw YG.out 0; have zKu := zw YG.out 1; have zKA := zw YG.out 2; have zKB := zw YG.out 3; have zKC := zw YG.out 4; have zKD := zw YG.out 5) | ((with_reducible refine xI (N := 5) rfl ?_); have zn := zy.mk (Qg YG.out (⟨#[77]⟩ : ByteArray) false 600 (.slice A13 n13 c13) (.slice none 0 0) (.slice none 0 0)); have zH := zy.mk (Vt (zy0.out) (Nat.le_of_eq zxP.out.symm) (.string (⟨#[77]⟩ : ByteArray)) (.bool false) (.int .i64 600) (.slice A13 n13 c13) (.slice none 0 0) (.slice none 0 0)); have LG4 := zy.mk (Nat.le_trans kI.out.size (Nat.le_of_eq zxP.out.symm)); clear zKm zKn zKo zKp zKr zKs zKt zKu zKA zKB zKC zKD; generalize ((((((mJ.setCell ⟨g4, 0, none⟩ (.string (⟨#[77]⟩ : ByteArray))).setCell ⟨g4, 1, none⟩ (.bool false)).setCell ⟨g4, 2, none⟩ (.int .i64 600)).setCell ⟨g4, 3, none⟩ (.slice A13 n13 c13)).setCell ⟨g4, 4, none⟩ (.slice none 0 0)).setCell ⟨g4, 5, none⟩ (.slice none 0 0)) = Wo at zn zH ⊢; have FB4 := zy.mk (FB.mk zyP zn.out LG4.out (Kd.zR HR4.out zH.out) (Kd.xE _ _ _ _ _) (Kd.xE _ _ _ _ _)); have BW3 := zy.mk (kI.out.trans (zH.out.mono kI.out.size)); clear HR4 kI YG zy0 zxP LG4 zn zH; refine xR ?hg (N := 5) ?hd (cs := #[.string (⟨#[]⟩ : ByteArray), .bool false, .int .i64 0, .slice none 0 0, .slice none 0 0, .slice none 0 0]) (t := 26) ?hr ?_; (case hd => rfl); (case hg => rfl); (case hr => first | (go_simp; done) | (go_simp; rfl)); intro g5 UF QF hbx hbq; have YH := zy.mk hbx; have zy1 := zy.mk hbq; have zxR := zy.mk UF; clear hbx hbq UF; have zKE : QF.cell? ⟨g5, 0, none⟩ = some (.string (⟨#[]⟩ : ByteArray)) := (zk YH.out 0).trans rfl; have zKF : QF.cell? ⟨g5, 1, none⟩ = some (.bool false) := (zk YH.out 1).trans rfl; have zKG : QF.cell? ⟨g5, 2, none⟩ = some (.int .i64 0) := (zk YH.out 2).trans rfl; have zKH : QF.cell? ⟨g5, 3, none⟩ = some (.slice none 0 0) := (zk YH.out 3).trans rfl; have zKI : QF.cell? ⟨g5, 4, none⟩ = some (.slice none 0 0) := (zk YH.out 4).trans rfl; have zKL : QF.cell? ⟨g5, 5, none⟩ = some (.slice none 0 0) := (zk YH.out 5).trans rfl; have zKM := zw YH.out 0; have zKN := zw YH.out 1; have zKO := zw YH.out 2; have zKP := zw YH.out 3; have zKR := zw YH.out 4; have zKS := zw YH.out 5))
 have zn := zy.mk (Qg YH.out (⟨#[83]⟩ : ByteArray) true 250 (.slice none 0 0) (.slice none 0 0) (.slice none 0 0))
 have zH := zy.mk (Vt (zy1.out) (Nat.le_of_eq zxR.out.symm) (.string (⟨#[83]⟩ : ByteArray)) (.bool true) (.int .i64 250) (.slice none 0 0) (.slice none 0 0) (.slice none 0 0))
 have LG5 := zy.mk (Nat.le_of_eq zxR.out.symm)
 clear zKE zKF zKG zKH zKI zKL zKM zKN zKO zKP zKR zKS
 generalize ((((((QF.setCell ⟨g5, 0, none⟩ (.string (⟨#[83]⟩ : ByteArray))).setCell ⟨g5, 1, none⟩ (.bool true)).setCell ⟨g5, 2, none⟩ (.int .i64 250)).setCell ⟨g5, 3, none⟩ (.slice none 0 0)).setCell ⟨g5, 4, none⟩ (.slice none 0 0)).setCell ⟨g5, 5, none⟩ (.slice none 0 0)) = w16 at zn zH ⊢
 clear YH zy1 zxR
 have BX5 := zn
 have Zi := zH
 clear zn zH
 have GWS := zy.mk (HGW.out.under (fU.out.trans ((oo.out.mono fU.out.size).trans ((BW2.out.mono (Nat.le_trans fU.out.size oo.out.size)).trans (BW3.out.mono (Nat.le_trans fU.out.size (Nat.le_trans oo.out.size BW2.out.size)))))))
 refine (Tryz.strings_Fields Pp w16 (by decide +kernel) zzC (GWS.out.under Zi.out).spc).mono ?_
 rintro e kW ⟨rfl, ou⟩
 have hlen : (Lib.fields Pp.data.toList).length = 70 := oh
 rw [hlen]
 clear hlen
 have hcw : ((Lib.fields Pp.data.toList).map fun l => Value.string ⟨l.toArray⟩).toArray = Qk := rfl
 rw [hcw] at ou
 have BKW := zy.mk (show kW.heap[w16.heap.size]? = some (.cells Qk 9 (0, 0)) by rw [ou]; exact vY _ _)
 have zn := zV BX5.out (.cells Qk 9)
 rw [← ou] at zn
 have zA := zy.mk (show Below Wo.heap.size Wo kW by rw [ou]; exact Zi.out.alloc Zi.out.size _)
 clear BX5 Zi ou hcw
 have BX5 := zy.mk zn
 have Zi := zA
 clear zn zA
 generalize w16.heap.size = bw at BKW ⊢
 go_wp2
 go_loopw [7, 8, 9] (fun x y z wr => zaj Wo g5 bw x wr) (fun x y z _ => 70 - (intOf x).toNat)
 case atStart => exact ⟨0, 0, _, rfl, rfl, by omega, Kd.xE _ _ _ _ _, BX5.out, BKW.out, Zi.out⟩
 case round =>
  obtain ⟨m, k, u, rfl, hk0, hm, kF, BX0, BK0, HB0⟩ := hrel
  have HKK := zy.mk hk0
  have hkm : k ≤ 2 * m := by omega
  have hmk : 2 * m ≤ k := by omega
  clear hk0
  have wG := zy.mk kF
  have BX := zy.mk BX0
  have BK := zy.mk BK0
  have p8 := zy.mk HB0
  clear kF BX0 BK0 HB0 BX5 BKW Zi
  by_cases hlt : m < 35
  ·have q1 : decide ((k : Int) < 70) = true := decide_eq_true (by omega)
   have q2 : IntKind.i64.wrap ((k : Int) + 1) = (k : Int) + 1 := IntWalk.i64_in _ (by omega)
   have hcell : wr.cell? ⟨bw, k + 1, none⟩ = some (.string (wO (k + 1))) := (zk BK.out _).trans (KQ _ (by omega))
   go_wp2_with fail
   have Yt := V3 (wO (k + 1)) wr (by have := zzD (k + 1); omega) (GWS.out.under p8.out)
   refine Yt.mono ?_
   rintro e Yj ⟨rfl, hb⟩
   clear Yt hcell q2
   have zn := zy.mk (Kd.yR (Kd.zR wG.out hb))
   have zA := zy.mk (zo (zf BX.out hb))
   have zH := zy.mk (zo (zf BK.out hb))
   have zP := zy.mk ((p8.out.trans (hb.mono p8.out.size)).drew)
   clear wG BX BK p8 hb
   have wG := zn
   have BX := zA
   have BK := zH
   have p8 := zP
   clear zn zA zH zP
   have zkD : k < 70 := by omega
   have q5 : ((k : Int) < 70) = True := eq_true (by omega)
   go_wp2
   refine jU (n := 12) (S := fun w' => w'.cell? ⟨g5, 3, none⟩ = some u ∧ w'.cell? ⟨bw, k, none⟩ = some (.string (wO k))) (ds := [11]) #[false, false, false, false, false, false, false, false, false, false, false, false] (by kernel_rfl) rfl rfl ⟨(zk BX.out 3).trans rfl, (zk BK.out _).trans (KQ _ zkD)⟩ (fun hHeld => ?_)
   refine J3 std.zVU (fun zi => ?_)
   generalize Yj.drew = w16 at wG BX BK p8 hHeld ⊢
   refine jh (i := 0) (N := some 50) (v := ?_) (a' := ?_) #[true, false, false, false, false, false, false, false, false, false, false, false] rfl rfl (uF zi.out (by kernel_rfl)) (fun _ _ _ h => h) (Or.inl ⟨by rfl, ?_⟩) ?_ ?_
   rotate_left
   ·intro w'
    go_simp
    with_reducible rfl
   rotate_left
   ·simp only [Act.put, List.setIfInBounds_toArray, List.set_cons_zero, List.set_cons_succ]
    rfl
   refine jh (i := 2) (N := some 52) (v := ?_) (a' := ?_) #[true, false, true, false, false, false, false, false, false, false, false, false] rfl rfl (uF zi.out (by kernel_rfl)) (fun _ _ _ h => h) (Or.inl ⟨by rfl, ?_⟩) ?_ ?_
   rotate_left
   ·intro w'
    go_simp
    with_reducible rfl
   rotate_left
   ·simp only [Act.put, List.setIfInBounds_toArray, List.set_cons_zero, List.set_cons_succ]
    rfl
   refine jh (i := 3) (N := some 53) (v := ?_) (a' := ?_) #[true, false, true, true, false, false, false, false, false, false, false, false] rfl rfl (uF zi.out (by kernel_rfl)) (fun _ _ _ h => h) (Or.inl ⟨by rfl, ?_⟩) ?_ ?_
   rotate_left
   ·intro w'
    go_simp
    with_reducible rfl
   rotate_left
   ·simp only [Act.put, List.setIfInBounds_toArray, List.set_cons_zero, List.set_cons_succ]
    rfl
   refine jh (i := 4) (N := some 54) (v := ?_) (a' := ?_) #[true, false, true, true, true, false, false, false, false, false, false, false] rfl rfl (uF zi.out (by kernel_rfl)) (fun _ _ _ h => h) (Or.inl ⟨by rfl, ?_⟩) ?_ ?_
   rotate_left
   ·intro w'
    go_simp
    with_reducible rfl
   rotate_left
   ·simp only [Act.put, List.setIfInBounds_toArray, List.set_cons_zero, List.set_cons_succ]
    rfl
   refine jh (i := 6) (N := some 56) (v := ?_) (a' := ?_) #[true, false, true, true, true, false, true, false, false, false, false, false] rfl rfl (uF zi.out (by kernel_rfl)) (fun _ _ _ h => h) (Or.inl ⟨by rfl, ?_⟩) ?_ ?_
   rotate_left
   ·intro w'
    go_simp
    with_reducible rfl
   rotate_left
   ·simp only [Act.put, List.setIfInBounds_toArray, List.set_cons_zero, List.set_cons_succ]
    rfl
   refine UC (i := 1) (N := some 51) (v := ?_) (a' := ?_) #[true, true, true, true, true, false, true, false, false, false, false, false] rfl rfl (PW zi.out (by kernel_rfl)) (fun _ _ _ h => h) (Or.inl ⟨by rfl, ?_⟩) hHeld ?_ ?_
   rotate_left
   ·rintro w' ⟨s0, s1⟩
    go_simp
    with_reducible rfl
   rotate_left
   ·simp only [Act.put, List.setIfInBounds_toArray, List.set_cons_zero, List.set_cons_succ]
    rfl
   refine UC (i := 5) (N := some 55) (v := ?_) (a' := ?_) #[true, true, true, true, true, true, true, false, false, false, false, false] rfl rfl (PW zi.out (by kernel_rfl)) (fun _ _ _ h => h) (Or.inl ⟨by rfl, ?_⟩) hHeld ?_ ?_
   rotate_left
   ·rintro w' ⟨s0, s1⟩
    go_simp
    with_reducible rfl
   rotate_left
   ·simp only [Act.put, List.setIfInBounds_toArray, List.set_cons_zero, List.set_cons_succ]
    rfl
   refine jh (i := 7) (N := some 57) (v := ?_) (a' := ?_) #[true, true, true, true, true, true, true, true, false, false, false, false] rfl rfl (uF zi.out (by kernel_rfl)) (fun _ _ _ h => h) (Or.inl ⟨by rfl, ?_⟩) ?_ ?_
   rotate_left
   ·intro w'
    go_simp
    with_reducible rfl
   rotate_left
   ·simp only [Act.put, List.setIfInBounds_toArray, List.set_cons_zero, List.set_cons_succ]
    rfl
   refine XI (i := 8) (N := some 58) #[true, true, true, true, true, true, true, true, true, false, false, false] rfl rfl (vG zi.out (by kernel_rfl)) (by decide) (fun K hK => ?_)
   refine Jd (w1 := ?_) (v := ?_) (by rfl) rfl ?_ ?_
   rotate_left 2
   ·go_simp
    constructor
    ·rfl
    ·rfl
   refine hK.out _ _ ⟨(zk (zV BX.out _) 3).trans rfl, (zk (zV BK.out _) _).trans (KQ _ zkD)⟩ (fun hHeld => ?_)
   clear hK K
   refine wF (a' := ?_) ?_ ?_
   rotate_left
   ·show Act.put _ (some 58) _ = _
    simp only [Act.put, List.setIfInBounds_toArray, List.set_cons_zero, List.set_cons_succ]
    rfl
   refine XI (i := 9) (N := some 59) #[true, true, true, true, true, true, true, true, true, true, false, false] rfl rfl (vG zi.out (by kernel_rfl)) (by decide) (fun K hK => ?_)
   refine Kd.vD uy (w0 := Wo) Wo.heap.size (by rfl) (.tmp 51) (.tmp 58) 22 31 (.agg #[(.string ⟨#[]⟩), (.int .i64 0)]) 24 rfl Tryz.underlying22 gP rfl (by decide) (by omega) u (KZ m) (⟨wO k, (kV (wO (k + 1))).1⟩ : qw) [.string (wO k), .int .i64 (kV (wO (k + 1))).1] (fun _ => True) (fun _ => False) rfl rfl ?aP (fun _ hk => hk.elim) ?aF ?aO ?aB ?aS ?aL ?_
   (case aP => exact X8 _ _ _ (⟨wO k, (kV (wO (k + 1))).1⟩ : qw))
   (case aF => exact (fun _ _ => trivial))
   (case aO => exact wG.out)
   (case aB => exact p8.out)
   (case aS => exact p8.out.size)
   (case aL => rw [zkA]; omega)
   intro v1 Yj ho hb hg hat
   rw [HKK.out, ← zve] at ho
   obtain ⟨Ao, co, eo⟩ := Kd.yx ho
   subst eo
   generalize (KZ (m + 1)).length = nn at ho hat ⊢
   have zn := zy.mk (qx BX.out hg (Kd.uX wG.out BX.out (by decide)))
   have zA := zy.mk (qx BK.out hg (Kd.uX wG.out BK.out (by decide)))
   have zH := zy.mk hb
   have zP := zy.mk ho
   clear BX BK p8 wG ho hb hg hat hHeld
   have BX := zn
   have BK := zA
   have p8 := zH
   have wG := zP
   clear zn zA zH zP
   refine hK.out _ _ ⟨(zk BX.out 3).trans rfl, (zk BK.out _).trans (KQ _ zkD)⟩ (fun hHeld => ?_)
   clear hK K
   refine wF (a' := ?_) ?_ ?_
   rotate_left
   ·show Act.put _ (some 59) _ = _
    simp only [Act.put, List.setIfInBounds_toArray, List.set_cons_zero, List.set_cons_succ]
    rfl
   refine jh (i := 10) (N := some 60) (v := ?_) (a' := ?_) #[true, true, true, true, true, true, true, true, true, true, true, false] rfl rfl (uF zi.out (by kernel_rfl)) (fun _ _ _ h => h) (Or.inl ⟨by rfl, ?_⟩) ?_ ?_
   rotate_left
   ·intro w'
    go_simp
    with_reducible rfl
   rotate_left
   ·simp only [Act.put, List.setIfInBounds_toArray, List.set_cons_zero, List.set_cons_succ]
    rfl
   refine kD (i := 11) (N := none) #[true, true, true, true, true, true, true, true, true, true, true, true] rfl rfl (vG zi.out (by kernel_rfl)) (by decide) (fun K hK => ?_)
   have XM : Yj.cell? ⟨g5, 3, none⟩ = some u := (zk BX.out 3).trans rfl
   have YV := zw BX.out 3
   refine Zy (w1 := ?_) (by rfl) rfl ?_ ?_
   rotate_left
   ·go_simp
    rfl
   refine hK.out _ _ ?_
   clear hK K
   refine vO (xH zi.out (by kernel_rfl)) ?_
   have zn := zy.mk (zD (cs' := #[.string (⟨#[83]⟩ : ByteArray), .bool true, .int .i64 250, .slice Ao nn co, .slice none 0 0, .slice none 0 0]) BX.out 3 (.slice Ao nn co) rfl)
   have zA := zy.mk (vE BK.out (p := ⟨g5, 3, none⟩) (zQ0 BK.out BX.out (by decide)) (.slice Ao nn co))
   have zH := zy.mk (p8.out.setCell (p := ⟨g5, 3, none⟩) LG5.out (.slice Ao nn co))
   have zP := zy.mk (Kd.jg wG.out BX.out (by decide) 3 (.slice Ao nn co))
   clear BX BK p8 wG hHeld XM YV
   generalize Yj.setCell ⟨g5, 3, none⟩ (.slice Ao nn co) = bg at zn zA zH zP ⊢
   have q4 : IntKind.i64.wrap ((k : Int) + 2) = ((k + 2 : Nat) : Int) := (IntWalk.i64_in _ (by omega)).trans (by omega)
   go_wp2
   go_roundw
   case rel => exact ⟨m + 1, k + 2, .slice Ao nn co, by first | rfl | (rw [q4]; done) | (simp; done), by have := HKK.out; omega, by omega, zP.out, zn.out, zA.out, zH.out⟩
   case measure => first | (simp [intOf]; omega) | (rw [q4]; simp [intOf]; omega)
  ·have zJQ : m = 35 := by omega
   have q1 : decide ((k : Int) < 70) = false := decide_eq_false (by omega)
   have hR5 := wG.out
   rw [zJQ] at hR5
   have BC3 := BW3.out.trans (p8.out.mono BW3.out.size)
   have BC2 := BW2.out.trans (BC3.mono BW2.out.size)
   have BC1 := oo.out.trans (BC2.mono oo.out.size)
   have BC0 := fU.out.trans (BC1.mono fU.out.size)
   obtain ⟨oC, oD, oF, oG, oH, oI, oL, oM, oN, bk1, KM1⟩ := (FB1.out.keep BC1).cells
   obtain ⟨oO, oP, oU, o7, o8, o9, Ac2, nc2, cc2, bk2, KM2⟩ := (FB2.out.keep BC2).cells
   obtain ⟨Aa3, na3, ca3, Ab3, nb3, cb3, Ac3, nc3, cc3, bk3, KM3⟩ := (FB3.out.keep BC3).cells
   obtain ⟨Aa4, na4, ca4, Ab4, nb4, cb4, Ac4, nc4, cc4, bk4, KM4⟩ := (FB4.out.keep p8.out).cells
   obtain ⟨Aa5, na5, ca5, Ab5, nb5, cb5, Ac5, nc5, cc5, bk5, KM5⟩ := (FB.mk zyR BX.out LG5.out hR5 (Kd.xE _ _ _ _ _) (Kd.xE _ _ _ _ _)).cells
   have BCA := zy.mk BC0
   have KA1 := zy.mk KM1
   have KA2 := zy.mk KM2
   have KA3 := zy.mk KM3
   have KA4 := zy.mk KM4
   have KA5 := zy.mk KM5
   have S0 := zy.mk fU.out.size
   have S1 := zy.mk oo.out.size
   have S2 := zy.mk BW2.out.size
   have S3 := zy.mk BW3.out.size
   have S4 := zy.mk p8.out.size
   have zzq : wr.cell? ⟨g1, 0, none⟩ = some (.string (⟨#[82]⟩ : ByteArray)) := (zk bk1 0).trans rfl
   have zak : wr.cell? ⟨g1, 1, none⟩ = some (.bool false) := (zk bk1 1).trans rfl
   have zxS : wr.cell? ⟨g1, 2, none⟩ = some (.int .i64 250) := (zk bk1 2).trans rfl
   have zay : wr.cell? ⟨g1, 3, none⟩ = some (.slice oC oD oF) := (zk bk1 3).trans rfl
   have zaw : wr.cell? ⟨g1, 4, none⟩ = some (.slice oG oH oI) := (zk bk1 4).trans rfl
   have zJX : wr.cell? ⟨g1, 5, none⟩ = some (.slice oL oM oN) := (zk bk1 5).trans rfl
   have zaZ : wr.cell? ⟨g2, 0, none⟩ = some (.string (⟨#[73]⟩ : ByteArray)) := (zk bk2 0).trans rfl
   have zaQ : wr.cell? ⟨g2, 1, none⟩ = some (.bool false) := (zk bk2 1).trans rfl
   have zaX : wr.cell? ⟨g2, 2, none⟩ = some (.int .i64 250) := (zk bk2 2).trans rfl
   have zaJ : wr.cell? ⟨g2, 3, none⟩ = some (.slice oO oP oU) := (zk bk2 3).trans rfl
   have hx24 : wr.cell? ⟨g2, 4, none⟩ = some (.slice o7 o8 o9) := (zk bk2 4).trans rfl
   have hx25 : wr.cell? ⟨g2, 5, none⟩ = some (.slice Ac2 nc2 cc2) := (zk bk2 5).trans rfl
   have zaV : wr.cell? ⟨g3, 0, none⟩ = some (.string (⟨#[66]⟩ : ByteArray)) := (zk bk3 0).trans rfl
   have hx31 : wr.cell? ⟨g3, 1, none⟩ = some (.bool false) := (zk bk3 1).trans rfl
   have hx32 : wr.cell? ⟨g3, 2, none⟩ = some (.int .i64 250) := (zk bk3 2).trans rfl
   have zaK : wr.cell? ⟨g3, 3, none⟩ = some (.slice Aa3 na3 ca3) := (zk bk3 3).trans rfl
   have hx34 : wr.cell? ⟨g3, 4, none⟩ = some (.slice Ab3 nb3 cb3) := (zk bk3 4).trans rfl
   have zaY : wr.cell? ⟨g3, 5, none⟩ = some (.slice Ac3 nc3 cc3) := (zk bk3 5).trans rfl
   have zaW : wr.cell? ⟨g4, 0, none⟩ = some (.string (⟨#[77]⟩ : ByteArray)) := (zk bk4 0).trans rfl
   have zaa : wr.cell? ⟨g4, 1, none⟩ = some (.bool false) := (zk bk4 1).trans rfl
   have zab : wr.cell? ⟨g4, 2, none⟩ = some (.int .i64 600) := (zk bk4 2).trans rfl
   have zac : wr.cell? ⟨g4, 3, none⟩ = some (.slice Aa4 na4 ca4) := (zk bk4 3).trans rfl
   have zad : wr.cell? ⟨g4, 4, none⟩ = some (.slice Ab4 nb4 cb4) := (zk bk4 4).trans rfl
   have zae : wr.cell? ⟨g4, 5, none⟩ = some (.slice Ac4 nc4 cc4) := (zk bk4 5).trans rfl
   have zXs : wr.cell? ⟨g5, 0, none⟩ = some (.string (⟨#[83]⟩ : ByteArray)) := (zk bk5 0).trans rfl
   have zaf : wr.cell? ⟨g5, 1, none⟩ = some (.bool true) := (zk bk5 1).trans rfl
   have zah : wr.cell? ⟨g5, 2, none⟩ = some (.int .i64 250) := (zk bk5 2).trans rfl
   have zai : wr.cell? ⟨g5, 3, none⟩ = some (.slice Aa5 na5 ca5) := (zk bk5 3).trans rfl
   have zal : wr.cell? ⟨g5, 4, none⟩ = some (.slice Ab5 nb5 cb5) := (zk bk5 4).trans rfl
   have zam : wr.cell? ⟨g5, 5, none⟩ = some (.slice Ac5 nc5 cc5) := (zk bk5 5).trans rfl
   clear hR5 BC0 BC1 BC2 BC3 KM1 KM2 KM3 KM4 KM5 bk1 bk2 bk3 bk4 bk5 wG BX BK p8 hkm hmk zJQ hm hlt HKK FB1 FB2 FB3 FB4 fU oo BW2 BW3 GWS HGW LG5
   go_wp2
   clear zzq zak zxS zay zaw zJX zaZ zaQ zaX zaJ hx24 hx25 zaV hx31 hx32 zaK hx34 zaY zaW zaa zab zac zad zae zXs zaf zah zai zal zam
   have hbn := yt (Below.refl wr.heap.size wr) (.cells #[.string (⟨#[82]⟩ : ByteArray), .bool false, .int .i64 250, .slice oC oD oF, .slice oG oH oI, .slice oL oM oN, .string (⟨#[73]⟩ : ByteArray), .bool false, .int .i64 250, .slice oO oP oU, .slice o7 o8 o9, .slice Ac2 nc2 cc2, .string (⟨#[66]⟩ : ByteArray), .bool false, .int .i64 250, .slice Aa3 na3 ca3, .slice Ab3 nb3 cb3, .slice Ac3 nc3 cc3, .string (⟨#[77]⟩ : ByteArray), .bool false, .int .i64 600, .slice Aa4 na4 ca4, .slice Ab4 nb4 cb4, .slice Ac4 nc4 cc4, .string (⟨#[83]⟩ : ByteArray), .bool true, .int .i64 250, .slice Aa5 na5 ca5, .slice Ab5 nb5 cb5, .slice Ac5 nc5 cc5] 26)
   have hnew := vY wr (.cells #[.string (⟨#[82]⟩ : ByteArray), .bool false, .int .i64 250, .slice oC oD oF, .slice oG oH oI, .slice oL oM oN, .string (⟨#[73]⟩ : ByteArray), .bool false, .int .i64 250, .slice oO oP oU, .slice o7 o8 o9, .slice Ac2 nc2 cc2, .string (⟨#[66]⟩ : ByteArray), .bool false, .int .i64 250, .slice Aa3 na3 ca3, .slice Ab3 nb3 cb3, .slice Ac3 nc3 cc3, .string (⟨#[77]⟩ : ByteArray), .bool false, .int .i64 600, .slice Aa4 na4 ca4, .slice Ab4 nb4 cb4, .slice Ac4 nc4 cc4, .string (⟨#[83]⟩ : ByteArray), .bool true, .int .i64 250, .slice Aa5 na5 ca5, .slice Ab5 nb5 cb5, .slice Ac5 nc5 cc5] 26 (0, 0))
   have hbw := BCA.out.alloc BCA.out.size (.cells #[.string (⟨#[82]⟩ : ByteArray), .bool false, .int .i64 250, .slice oC oD oF, .slice oG oH oI, .slice oL oM oN, .string (⟨#[73]⟩ : ByteArray), .bool false, .int .i64 250, .slice oO oP oU, .slice o7 o8 o9, .slice Ac2 nc2 cc2, .string (⟨#[66]⟩ : ByteArray), .bool false, .int .i64 250, .slice Aa3 na3 ca3, .slice Ab3 nb3 cb3, .slice Ac3 nc3 cc3, .string (⟨#[77]⟩ : ByteArray), .bool false, .int .i64 600, .slice Aa4 na4 ca4, .slice Ab4 nb4 cb4, .slice Ac4 nc4 cc4, .string (⟨#[83]⟩ : ByteArray), .bool true, .int .i64 250, .slice Aa5 na5 ca5, .slice Ab5 nb5 cb5, .slice Ac5 nc5 cc5] 26)
   have hS : Kd.S k26 26 (wr.alloc (.cells #[.string (⟨#[82]⟩ : ByteArray), .bool false, .int .i64 250, .slice oC oD oF, .slice oG oH oI, .slice oL oM oN, .string (⟨#[73]⟩ : ByteArray), .bool false, .int .i64 250, .slice oO oP oU, .slice o7 o8 o9, .slice Ac2 nc2 cc2, .string (⟨#[66]⟩ : ByteArray), .bool false, .int .i64 250, .slice Aa3 na3 ca3, .slice Ab3 nb3 cb3, .slice Ac3 nc3 cc3, .string (⟨#[77]⟩ : ByteArray), .bool false, .int .i64 600, .slice Aa4 na4 ca4, .slice Ab4 nb4 cb4, .slice Ac4 nc4 cc4, .string (⟨#[83]⟩ : ByteArray), .bool true, .int .i64 250, .slice Aa5 na5 ca5, .slice Ab5 nb5 cb5, .slice Ac5 nc5 cc5] 26)) Wn.heap.size (fun _ => True) (.slice (some ⟨wr.heap.size, 0, none⟩) 5 5) zxI := by
    generalize wr.alloc (.cells #[.string (⟨#[82]⟩ : ByteArray), .bool false, .int .i64 250, .slice oC oD oF, .slice oG oH oI, .slice oL oM oN, .string (⟨#[73]⟩ : ByteArray), .bool false, .int .i64 250, .slice oO oP oU, .slice o7 o8 o9, .slice Ac2 nc2 cc2, .string (⟨#[66]⟩ : ByteArray), .bool false, .int .i64 250, .slice Aa3 na3 ca3, .slice Ab3 nb3 cb3, .slice Ac3 nc3 cc3, .string (⟨#[77]⟩ : ByteArray), .bool false, .int .i64 600, .slice Aa4 na4 ca4, .slice Ab4 nb4 cb4, .slice Ac4 nc4 cc4, .string (⟨#[83]⟩ : ByteArray), .bool true, .int .i64 250, .slice Aa5 na5 ca5, .slice Ab5 nb5 cb5, .slice Ac5 nc5 cc5] 26) = w' at hbn hnew ⊢
    have s0 := S0.out
    have s1 := S1.out
    have s2 := S2.out
    have s3 := S3.out
    have s4 := S4.out
    refine ⟨fun k => if k < fT.heap.size then 0 else if k < mD.heap.size then 1 else if k < eZ.heap.size then 2 else if k < Wo.heap.size then 3 else 4, fun _ _ => trivial, [.string (⟨#[82]⟩ : ByteArray), .bool false, .int .i64 250, .slice oC oD oF, .slice oG oH oI, .slice oL oM oN, .string (⟨#[73]⟩ : ByteArray), .bool false, .int .i64 250, .slice oO oP oU, .slice o7 o8 o9, .slice Ac2 nc2 cc2, .string (⟨#[66]⟩ : ByteArray), .bool false, .int .i64 250, .slice Aa3 na3 ca3, .slice Ab3 nb3 cb3, .slice Ac3 nc3 cc3, .string (⟨#[77]⟩ : ByteArray), .bool false, .int .i64 600, .slice Aa4 na4 ca4, .slice Ab4 nb4 cb4, .slice Ac4 nc4 cc4, .string (⟨#[83]⟩ : ByteArray), .bool true, .int .i64 250, .slice Aa5 na5 ca5, .slice Ab5 nb5 cb5, .slice Ac5 nc5 cc5], ⟨rfl, .inr ⟨wr.heap.size, 5, _, rfl, BCA.out.size, hnew, by decide, by decide, rfl, rfl⟩⟩, rfl, fun j p hj => ?_⟩
    have hne : ∀ q, q < wr.heap.size → some q ≠ (Value.slice (some ⟨wr.heap.size, 0, none⟩) 5 5).ownBlock := by
     intro q hq e
     have : wr.heap.size = q := by simpa [Value.ownBlock] using e.symm
     omega
    rcases j with _ | _ | _ | _ | _ | j
    ·obtain rfl := Option.some.inj hj
     refine KA1.out w' Wn.heap.size _ hbn (by omega) (fun q h1 h2 => ⟨⟨trivial, hne q (by omega)⟩, ?_⟩)
     show (if q < fT.heap.size then 0 else if q < mD.heap.size then 1 else if q < eZ.heap.size then 2 else if q < Wo.heap.size then 3 else 4) = 0
     repeat' split
     all_goals omega
    ·obtain rfl := Option.some.inj hj
     refine KA2.out w' Wn.heap.size _ hbn (by omega) (fun q h1 h2 => ⟨⟨trivial, hne q (by omega)⟩, ?_⟩)
     show (if q < fT.heap.size then 0 else if q < mD.heap.size then 1 else if q < eZ.heap.size then 2 else if q < Wo.heap.size then 3 else 4) = 1
     repeat' split
     all_goals omega
    ·obtain rfl := Option.some.inj hj
     refine KA3.out w' Wn.heap.size _ hbn (by omega) (fun q h1 h2 => ⟨⟨trivial, hne q (by omega)⟩, ?_⟩)
     show (if q < fT.heap.size then 0 else if q < mD.heap.size then 1 else if q < eZ.heap.size then 2 else if q < Wo.heap.size then 3 else 4) = 2
     repeat' split
     all_goals omega
    ·obtain rfl := Option.some.inj hj
     refine KA4.out w' Wn.heap.size _ hbn (by omega) (fun q h1 h2 => ⟨⟨trivial, hne q (by omega)⟩, ?_⟩)
     show (if q < fT.heap.size then 0 else if q < mD.heap.size then 1 else if q < eZ.heap.size then 2 else if q < Wo.heap.size then 3 else 4) = 3
     repeat' split
     all_goals omega
    ·obtain rfl := Option.some.inj hj
     refine KA5.out w' Wn.heap.size _ hbn (by omega) (fun q h1 h2 => ⟨⟨trivial, hne q (by omega)⟩, ?_⟩)
     show (if q < fT.heap.size then 0 else if q < mD.heap.size then 1 else if q < eZ.heap.size then 2 else if q < Wo.heap.size then 3 else 4) = 4
     repeat' split
     all_goals omega
    ·simp [zxI] at hj
   clear hbn hnew
   go_ret
   exact ⟨_, rfl, hS, hbw⟩
def kQ.f : Option (List Xn) := some zxI
theorem kQ.calls (r : List Xn) (w : World) (hG : GW w) (h : kQ.f = some r) :
  Calls Tryz.prog 13 #[] w fun e w' => ∃ fH : Value, e = .returned fH ∧ Kd.S k26 26 w' w.heap.size (fun _ => True) fH r ∧ Below w.heap.size w w' := by
 obtain rfl := Option.some.inj h
 exact zZn w hG
end Go.Proofs.YtaifemkokfoadaaGreatDoor
namespace Go.Proofs.YtaifemkokfoadaaGreatDoor
open Go.RowKit Go.Shelf Go.Proofs.zx.zK Go.Proofs.zx.zN Go.Proofs.YtaifemkokfoadaaGreatDoor.PX
set_option linter.unusedSimpArgs false
set_option linter.unusedVariables false
theorem zz8 {w : World} {g : Nat} {ns : List ByteArray} {t : TypeId} (h : w.heap[g]? = some (.cells (ns.map Value.string).toArray t (0, 0))) (hn : ns.length ≤ 1000) : Kd.C Kd.string w (some ⟨g, 0, none⟩) ns.length ns := by
 refine ⟨rfl, by omega, fun _ => ⟨_, rfl, fun j p hj => ⟨[.string p], rfl, rfl, fun i u hi => ?_⟩⟩⟩
 rcases i with _ | i
 ·cases hi
  have hs : Kd.string.sz = 1 := rfl
  rw [Addr.add_lit, hs]
  refine xV h _ _ ?_
  simp [hj]
 ·simp at hi
def Q0 (l3 : List qw) (x : qh) : Bool := !XR l3 [x.f0, x.f1, x.f2]
def Yu (l3 : List qw) (x : xq) : Bool := decide (x.f2 = 0) || (decide (x.f2 < -500) || (decide (500 < x.f2) || !XR l3 [x.f0, x.f1]))
set_option maxRecDepth 100000 in
set_option maxHeartbeats 1000000 in
theorem zkE (B : Nat) (a : ByteArray) (b : Bool) (c : Int) (A3 : Option Addr) (c3 : Nat) (l3 : List qw) (A4 : Option Addr) (c4 : Nat) (l4 : List qh) (A5 : Option Addr) (c5 : Nat) (l5 : List xq) (g3 : l3.length ≤ c3) (g4 : l4.length ≤ c4) (g5 : l5.length ≤ c5) (hl3 : l3.length ≤ 1000000000) (w : World) (hF : Ym w B a b c A3 c3 l3 A4 c4 l4 A5 c5 l5) :
  PredBelow Tryz.prog 49 #[.pointer (some ⟨B, 0, none⟩)] (fun x => .agg (oz x).toArray) (Q0 l3) w := fun W x hb => by
 have hl := (Array.getElem?_eq_some_iff.1 hF.blk).1
 have Qy := hF.below hb
 have hlW : B < W.heap.size := Nat.lt_of_lt_of_le hl hb.size
 show Calls Tryz.prog 49 #[.agg #[.string x.f0, .string x.f1, .string x.f2], .pointer (some ⟨B, 0, none⟩)] W _
 have hbW : Below W.heap.size W ((W.alloc (.cells #[.string x.f0, .string x.f1, .string x.f2] 86)).alloc (.cells #[.string x.f0, .string x.f1, .string x.f2] 9)) := ((Below.refl _ W).alloc (Nat.le_refl _) _).alloc (by simp) _
 have hF2 := Qy.below hbW
 have hblk : ((W.alloc (.cells #[.string x.f0, .string x.f1, .string x.f2] 86)).alloc (.cells #[.string x.f0, .string x.f1, .string x.f2] 9)).heap[W.heap.size + 1]? = some (.cells (([x.f0, x.f1, x.f2].map Value.string).toArray) 9 (0, 0)) := by
  have := World.alloc_heap_new (W.alloc (.cells #[.string x.f0, .string x.f1, .string x.f2] 86)) (.cells #[.string x.f0, .string x.f1, .string x.f2] 9)
  rwa [World.size_alloc] at this
 have ha := zz5 a b c A3 c3 l3 A4 c4 l4 A5 c5 l5 _ 3 [x.f0, x.f1, x.f2] _ hF2.h3 g3 hF2.h4 g4 hF2.h5 g5 (zz8 hblk (by simp)) (by simp) hF2.gw hl3 (by simp)
 have k0 := xV Qy.blk 0 _ rfl
 have k1 := xV Qy.blk 1 _ rfl
 have k2 := xV Qy.blk 2 _ rfl
 have k3 := xV Qy.blk 3 _ rfl
 have k4 := xV Qy.blk 4 _ rfl
 have k5 := xV Qy.blk 5 _ rfl
 have hend := hb.trans (hbW.mono hb.size)
 unfold Q0
 generalize XR l3 [x.f0, x.f1, x.f2] = r at ha ⊢
 clear hF Qy hF2 hblk hb g3 g4 g5
 go_enter Tryz.func49, Tryz.ntmps49
 go_wp2_with (go_at_call 50; refine ha.mono ?_; rintro e w1 ⟨rfl, hb1⟩)
 go_ret
 exact ⟨rfl, hend.trans (hb1.mono hend.size)⟩
set_option maxRecDepth 100000 in
set_option maxHeartbeats 1000000 in
theorem zkF (B : Nat) (a : ByteArray) (b : Bool) (c : Int) (A3 : Option Addr) (c3 : Nat) (l3 : List qw) (A4 : Option Addr) (c4 : Nat) (l4 : List qh) (A5 : Option Addr) (c5 : Nat) (l5 : List xq) (g3 : l3.length ≤ c3) (g4 : l4.length ≤ c4) (g5 : l5.length ≤ c5) (hl3 : l3.length ≤ 1000000000) (w : World) (hF : Ym w B a b c A3 c3 l3 A4 c4 l4 A5 c5 l5) :
  PredBelow Tryz.prog 54 #[.pointer (some ⟨B, 0, none⟩)] (fun x => .agg (oq x).toArray) (Yu l3) w := fun W x hb => by
 have hl := (Array.getElem?_eq_some_iff.1 hF.blk).1
 have Qy := hF.below hb
 have hlW : B < W.heap.size := Nat.lt_of_lt_of_le hl hb.size
 show Calls Tryz.prog 54 #[.agg #[.string x.f0, .string x.f1, .int .i64 x.f2], .pointer (some ⟨B, 0, none⟩)] W _
 have hb1 : Below w.heap.size w (W.alloc (.cells #[.string x.f0, .string x.f1, .int .i64 x.f2] 76)) := hb.alloc hb.size _
 unfold Yu
 by_cases q0 : x.f2 = 0
 ·have d0 : (x.f2 == 0) = true := beq_iff_eq.2 q0
  rw [decide_eq_true q0]
  clear q0 hF Qy
  go_enter Tryz.func54, Tryz.ntmps54
  go_wp2
  go_ret
  exact ⟨rfl, hb1⟩
 ·have d0 : (x.f2 == 0) = false := beq_eq_false_iff_ne.2 q0
  rw [decide_eq_false q0, Bool.false_or]
  clear q0
  by_cases q1 : x.f2 < -500
  ·have d1 : decide (x.f2 < -500) = true := decide_eq_true q1
   rw [d1]
   clear q1 hF Qy
   go_enter Tryz.func54, Tryz.ntmps54
   go_wp2
   go_ret
   exact ⟨rfl, hb1⟩
  ·have d1 : decide (x.f2 < -500) = false := decide_eq_false q1
   rw [d1, Bool.false_or]
   clear q1
   by_cases q2 : 500 < x.f2
   ·have d2 : decide (500 < x.f2) = true := decide_eq_true q2
    rw [d2]
    clear q2 hF Qy
    go_enter Tryz.func54, Tryz.ntmps54
    go_wp2
    go_ret
    exact ⟨rfl, hb1⟩
   ·have d2 : decide (500 < x.f2) = false := decide_eq_false q2
    rw [d2, Bool.false_or]
    clear q2
    have hbW : Below W.heap.size W ((W.alloc (.cells #[.string x.f0, .string x.f1, .int .i64 x.f2] 76)).alloc (.cells #[.string x.f0, .string x.f1] 9)) := ((Below.refl _ W).alloc (Nat.le_refl _) _).alloc (by simp) _
    have hF2 := Qy.below hbW
    have hblk : ((W.alloc (.cells #[.string x.f0, .string x.f1, .int .i64 x.f2] 76)).alloc (.cells #[.string x.f0, .string x.f1] 9)).heap[W.heap.size + 1]? = some (.cells (([x.f0, x.f1].map Value.string).toArray) 9 (0, 0)) := by
     have := World.alloc_heap_new (W.alloc (.cells #[.string x.f0, .string x.f1, .int .i64 x.f2] 76)) (.cells #[.string x.f0, .string x.f1] 9)
     rwa [World.size_alloc] at this
    have ha := zz5 a b c A3 c3 l3 A4 c4 l4 A5 c5 l5 _ 2 [x.f0, x.f1] _ hF2.h3 g3 hF2.h4 g4 hF2.h5 g5 (zz8 hblk (by simp)) (by simp) hF2.gw hl3 (by simp)
    have k0 := xV Qy.blk 0 _ rfl
    have k1 := xV Qy.blk 1 _ rfl
    have k2 := xV Qy.blk 2 _ rfl
    have k3 := xV Qy.blk 3 _ rfl
    have k4 := xV Qy.blk 4 _ rfl
    have k5 := xV Qy.blk 5 _ rfl
    have hend := hb.trans (hbW.mono hb.size)
    generalize XR l3 [x.f0, x.f1] = r at ha ⊢
    clear hF Qy hF2 hblk hb g3 g4 g5
    go_enter Tryz.func54, Tryz.ntmps54
    go_wp2_with (go_at_call 50; refine ha.mono ?_; rintro e w1 ⟨rfl, hb1⟩)
    go_ret
    exact ⟨rfl, hend.trans (hb1.mono hend.size)⟩
def uw (a : ByteArray) (c : Int) (l3 : List qw) (l4 : List qh) (l5 : List xq) : Bool :=
 if (!kT a.data.toList || (ZP c || (decide (400 < l3.length) || (decide (50 < l4.length) || decide (500 < l5.length))))) = true then false
 else if (l3.any XP || !wZ (fun i j => Xe (qV l3 (i : Int)) (qV l3 (j : Int))) l3.length) = true then false
 else if (l4.any (Q0 l3) || !wZ (fun i j => cmpL (qO l4 (i : Int)) (qO l4 (j : Int))) l4.length) = true then false
 else !l5.any (Yu l3) && wZ (fun i j => QT (xk l5 (i : Int)) (xk l5 (j : Int))) l5.length
set_option maxRecDepth 100000 in
set_option maxHeartbeats 4000000 in
theorem zvf (a : ByteArray) (b : Bool) (c : Int) (A3 : Option Addr) (c3 : Nat) (l3 : List qw) (A4 : Option Addr) (c4 : Nat) (l4 : List qh) (A5 : Option Addr) (c5 : Nat) (l5 : List xq) (g3 : l3.length ≤ c3) (g4 : l4.length ≤ c4) (g5 : l5.length ≤ c5) (hl3 : l3.length ≤ 1000000000) (hl4 : l4.length ≤ 1000000000) (hl5 : l5.length ≤ 1000000000) (w : World) (h3 : Kd.C uy w A3 l3.length l3) (h4 : Kd.C uU w A4 l4.length l4) (h5 : Kd.C jy w A5 l5.length l5) (hG : GW w) :
  Calls Tryz.prog 17 #[.agg #[.string a, .bool b, .int .i64 c, .slice A3 l3.length c3, .slice A4 l4.length c4, .slice A5 l5.length c5]] w fun e w' => e = .returned (.bool (uw a c l3 l4 l5)) ∧ Below w.heap.size w w' := by
 have hw1 : Below w.heap.size w ((w.alloc (.cells #[.string a, .bool b, .int .i64 c, .slice A3 l3.length c3, .slice A4 l4.length c4, .slice A5 l5.length c5] 26)).alloc (.cells #[.func (.func 40) #[] #[]] 87)) := ((Below.refl _ w).alloc (Nat.le_refl _) _).alloc (by simp) _
 have hblk : ((w.alloc (.cells #[.string a, .bool b, .int .i64 c, .slice A3 l3.length c3, .slice A4 l4.length c4, .slice A5 l5.length c5] 26)).alloc (.cells #[.func (.func 40) #[] #[]] 87)).heap[w.heap.size]? = some (.cells #[.string a, .bool b, .int .i64 c, .slice A3 l3.length c3, .slice A4 l4.length c4, .slice A5 l5.length c5] 26 (0, 0)) :=
  (Below.heap_alloc _ _ _ (by simp)).trans (World.alloc_heap_new w _)
 have hfb : ((w.alloc (.cells #[.string a, .bool b, .int .i64 c, .slice A3 l3.length c3, .slice A4 l4.length c4, .slice A5 l5.length c5] 26)).alloc (.cells #[.func (.func 40) #[] #[]] 87)).heap[w.heap.size + 1]? = some (.cells #[.func (.func 40) #[] #[]] 87 (0, 0)) := by
  have := World.alloc_heap_new (w.alloc (.cells #[.string a, .bool b, .int .i64 c, .slice A3 l3.length c3, .slice A4 l4.length c4, .slice A5 l5.length c5] 26)) (.cells #[.func (.func 40) #[] #[]] 87)
  rwa [World.size_alloc] at this
 have hF : Ym ((w.alloc (.cells #[.string a, .bool b, .int .i64 c, .slice A3 l3.length c3, .slice A4 l4.length c4, .slice A5 l5.length c5] 26)).alloc (.cells #[.func (.func 40) #[] #[]] 87)) w.heap.size a b c A3 c3 l3 A4 c4 l4 A5 c5 l5 := ⟨hblk, Kd.zh h3 hw1, Kd.zh h4 hw1, Kd.zh h5 hw1, hG.under hw1⟩
 have hfn := iE a ((w.alloc (.cells #[.string a, .bool b, .int .i64 c, .slice A3 l3.length c3, .slice A4 l4.length c4, .slice A5 l5.length c5] 26)).alloc (.cells #[.func (.func 40) #[] #[]] 87))
 have hwd := fun W => ow c W
 have hhG := fun W (hF : Ym W w.heap.size a b c A3 c3 l3 A4 c4 l4 A5 c5 l5) (hB : W.cell? ⟨w.heap.size + 1, 0, none⟩ = some (.func (.func 40) #[] #[])) => zkl A3 c3 l3 W hF.h3 hl3 XP 43 #[.pointer (some ⟨w.heap.size + 1, 0, none⟩)] (enters_of Tryz.func43 (by kernel_rfl) rfl) (zko _ W hB)
 have haG := fun W (hF : Ym W w.heap.size a b c A3 c3 l3 A4 c4 l4 A5 c5 l5) => zkc A3 c3 l3 W hF.h3 hl3
 have hhL := fun W (hF : Ym W w.heap.size a b c A3 c3 l3 A4 c4 l4 A5 c5 l5) => zkm A4 c4 l4 W hF.h4 hl4 (Q0 l3) 49 #[.pointer (some ⟨w.heap.size, 0, none⟩)] (enters_of Tryz.func49 (by kernel_rfl) rfl) (zkE _ a b c A3 c3 l3 A4 c4 l4 A5 c5 l5 g3 g4 g5 hl3 W hF)
 have haL := fun W (hF : Ym W w.heap.size a b c A3 c3 l3 A4 c4 l4 A5 c5 l5) => zkg A4 c4 l4 W hF.h4 hl4
 have hhK := fun W (hF : Ym W w.heap.size a b c A3 c3 l3 A4 c4 l4 A5 c5 l5) => zkn A5 c5 l5 W hF.h5 hl5 (Yu l3) 54 #[.pointer (some ⟨w.heap.size, 0, none⟩)] (enters_of Tryz.func54 (by kernel_rfl) rfl) (zkF _ a b c A3 c3 l3 A4 c4 l4 A5 c5 l5 g3 g4 g5 hl3 W hF)
 have haK := fun W (hF : Ym W w.heap.size a b c A3 c3 l3 A4 c4 l4 A5 c5 l5) => zkh A5 c5 l5 W hF.h5 hl5
 generalize hR : uw a c l3 l4 l5 = R
 have HR := Lib.hid hR
 unfold uw at hR
 generalize kT a.data.toList = b1 at hfn hR
 generalize ZP c = b2 at hwd hR
 generalize l3.any XP = b6 at hhG hR
 generalize wZ (fun i j => Xe (qV l3 (i : Int)) (qV l3 (j : Int))) l3.length = b7 at haG hR
 generalize l4.any (Q0 l3) = b8 at hhL hR
 generalize wZ (fun i j => cmpL (qO l4 (i : Int)) (qO l4 (j : Int))) l4.length = b9 at haL hR
 generalize l5.any (Yu l3) = b10 at hhK hR
 generalize wZ (fun i j => QT (xk l5 (i : Int)) (xk l5 (j : Int))) l5.length = b11 at haK hR
 clear g3 g4 g5 h3 h4 h5 hG HR
 go_enter Tryz.func17, Tryz.ntmps17
 have HF0 := Lib.hid hF
 have K0 := Lib.hid (xV hfb 0 _ rfl)
 have HW0 := Lib.hid hw1
 have c0 := xV hblk 0 _ rfl
 have c2 := xV hblk 2 _ rfl
 have UG := xV hblk 3 _ rfl
 have UH := xV hblk 4 _ rfl
 have UL := xV hblk 5 _ rfl
 clear hF hblk hfb hw1
 go_wp2_with fail
 generalize ((w.alloc (.cells #[.string a, .bool b, .int .i64 c, .slice A3 l3.length c3, .slice A4 l4.length c4, .slice A5 l5.length c5] 26)).alloc (.cells #[.func (.func 40) #[] #[]] 87)) = W0 at hfn HF0 K0 HW0 c0 c2 UG UH UL ⊢
 refine hfn.mono ?_; rintro e W1 ⟨rfl, hb1⟩
 clear hfn c0 c2 UG UH UL
 have HF1 := Lib.hid (HF0.out.below hb1)
 have K1 := Lib.hid ((hb1.cell (World.block_lt_of_cell? _ _ K0.out)).trans K0.out)
 have HW1 := Lib.hid (HW0.out.trans (hb1.mono HW0.out.size))
 clear hb1
 have c2 := xV HF1.out.blk 2 _ rfl
 have UG := xV HF1.out.blk 3 _ rfl
 have UH := xV HF1.out.blk 4 _ rfl
 have UL := xV HF1.out.blk 5 _ rfl
 have cb := K1.out
 cases b1 with
 | false =>
  obtain rfl : false = R := by simpa using hR
  clear hR
  go_wp2_with fail
  go_ret
  exact ⟨rfl, HW1.out⟩
 | true =>
  go_wp2_with fail
  refine (hwd _).mono ?_; rintro e W1x ⟨rfl, hx⟩; subst hx
  cases b2 with
  | false =>
   by_cases q3 : 400 < l3.length
   ·have dq3 : decide ((400 : Int) < (l3.length : Int)) = true := decide_eq_true (by omega)
    rw [decide_eq_true q3] at hR
    clear q3
    obtain rfl : false = R := by simpa using hR
    clear hR
    go_wp2_with fail
    go_ret
    exact ⟨rfl, HW1.out⟩
   ·have dq3 : decide ((400 : Int) < (l3.length : Int)) = false := decide_eq_false (by omega)
    rw [decide_eq_false q3] at hR
    clear q3
    by_cases q4 : 50 < l4.length
    ·have dq4 : decide ((50 : Int) < (l4.length : Int)) = true := decide_eq_true (by omega)
     rw [decide_eq_true q4] at hR
     clear q4
     obtain rfl : false = R := by simpa using hR
     clear hR
     go_wp2_with fail
     go_ret
     exact ⟨rfl, HW1.out⟩
    ·have dq4 : decide ((50 : Int) < (l4.length : Int)) = false := decide_eq_false (by omega)
     rw [decide_eq_false q4] at hR
     clear q4
     by_cases q5 : 500 < l5.length
     ·have dq5 : decide ((500 : Int) < (l5.length : Int)) = true := decide_eq_true (by omega)
      rw [decide_eq_true q5] at hR
      clear q5
      obtain rfl : false = R := by simpa using hR
      clear hR
      go_wp2_with fail
      go_ret
      exact ⟨rfl, HW1.out⟩
     ·have dq5 : decide ((500 : Int) < (l5.length : Int)) = false := decide_eq_false (by omega)
      rw [decide_eq_false q5] at hR
      clear q5
      simp only [Bool.not_true, Bool.or_self, Bool.false_eq_true, if_false, Bool.or_false] at hR
      go_wp2_with fail
      refine (hhG _ HF1.out K1.out).mono ?_; rintro e W2 ⟨rfl, hb2⟩
      clear c2 UG UH UL cb
      have mG := Lib.hid (HF1.out.below hb2)
      have K2 := Lib.hid ((hb2.cell (World.block_lt_of_cell? _ _ K1.out)).trans K1.out)
      have HW2 := Lib.hid (HW1.out.trans (hb2.mono HW1.out.size))
      clear hb2
      have c2 := xV mG.out.blk 2 _ rfl
      have UG := xV mG.out.blk 3 _ rfl
      have UH := xV mG.out.blk 4 _ rfl
      have UL := xV mG.out.blk 5 _ rfl
      have cb := K2.out
      cases b6 with
      | false =>
       go_wp2_with fail
       refine (haG _ mG.out).mono ?_; rintro e W3 ⟨rfl, hb3⟩
       clear c2 UG UH UL cb
       have HF3 := Lib.hid (mG.out.below hb3)
       have K3 := Lib.hid ((hb3.cell (World.block_lt_of_cell? _ _ K2.out)).trans K2.out)
       have HW3 := Lib.hid (HW2.out.trans (hb3.mono HW2.out.size))
       clear hb3
       have c2 := xV HF3.out.blk 2 _ rfl
       have UG := xV HF3.out.blk 3 _ rfl
       have UH := xV HF3.out.blk 4 _ rfl
       have UL := xV HF3.out.blk 5 _ rfl
       have cb := K3.out
       cases b7 with
       | false =>
        obtain rfl : false = R := by simpa using hR
        clear hR
        go_wp2_with fail
        go_ret
        exact ⟨rfl, HW3.out⟩
       | true =>
        go_wp2_with fail
        refine (hhL _ HF3.out).mono ?_; rintro e W4 ⟨rfl, hb4⟩
        clear c2 UG UH UL cb
        have HF4 := Lib.hid (HF3.out.below hb4)
        have K4 := Lib.hid ((hb4.cell (World.block_lt_of_cell? _ _ K3.out)).trans K3.out)
        have HW4 := Lib.hid (HW3.out.trans (hb4.mono HW3.out.size))
        clear hb4
        have c2 := xV HF4.out.blk 2 _ rfl
        have UG := xV HF4.out.blk 3 _ rfl
        have UH := xV HF4.out.blk 4 _ rfl
        have UL := xV HF4.out.blk 5 _ rfl
        have cb := K4.out
        cases b8 with
        | false =>
         go_wp2_with fail
         refine (haL _ HF4.out).mono ?_; rintro e W5 ⟨rfl, hb5⟩
         clear c2 UG UH UL cb
         have HF5 := Lib.hid (HF4.out.below hb5)
         have K5 := Lib.hid ((hb5.cell (World.block_lt_of_cell? _ _ K4.out)).trans K4.out)
         have HW5 := Lib.hid (HW4.out.trans (hb5.mono HW4.out.size))
         clear hb5
         have c2 := xV HF5.out.blk 2 _ rfl
         have UG := xV HF5.out.blk 3 _ rfl
         have UH := xV HF5.out.blk 4 _ rfl
         have UL := xV HF5.out.blk 5 _ rfl
         have cb := K5.out
         cases b9 with
         | false =>
          obtain rfl : false = R := by simpa using hR
          clear hR
          go_wp2_with fail
          go_ret
          exact ⟨rfl, HW5.out⟩
         | true =>
          go_wp2_with fail
          refine (hhK _ HF5.out).mono ?_; rintro e W6 ⟨rfl, hb6⟩
          clear c2 UG UH UL cb
          have HF6 := Lib.hid (HF5.out.below hb6)
          have K6 := Lib.hid ((hb6.cell (World.block_lt_of_cell? _ _ K5.out)).trans K5.out)
          have HW6 := Lib.hid (HW5.out.trans (hb6.mono HW5.out.size))
          clear hb6
          have c2 := xV HF6.out.blk 2 _ rfl
          have UG := xV HF6.out.blk 3 _ rfl
          have UH := xV HF6.out.blk 4 _ rfl
          have UL := xV HF6.out.blk 5 _ rfl
          have cb := K6.out
          cases b10 with
          | false =>
           go_wp2_with fail
           refine (haK _ HF6.out).mono ?_; rintro e W7 ⟨rfl, eX⟩
           clear c2 UG UH UL cb
           have HF7 := Lib.hid (HF6.out.below eX)
           have K7 := Lib.hid ((eX.cell (World.block_lt_of_cell? _ _ K6.out)).trans K6.out)
           have HW7 := Lib.hid (HW6.out.trans (eX.mono HW6.out.size))
           clear eX
           obtain rfl : b11 = R := by simpa using hR
           clear hR
           go_wp2_with fail
           go_ret
           exact ⟨rfl, HW7.out⟩
          | true =>
           obtain rfl : false = R := by simpa using hR
           clear hR
           go_wp2_with fail
           go_ret
           exact ⟨rfl, HW6.out⟩
        | true =>
         obtain rfl : false = R := by simpa using hR
         clear hR
         go_wp2_with fail
         go_ret
         exact ⟨rfl, HW4.out⟩
      | true =>
       obtain rfl : false = R := by simpa using hR
       clear hR
       go_wp2_with fail
       go_ret
       exact ⟨rfl, HW2.out⟩
  | true =>
   obtain rfl : false = R := by simpa using hR
   clear hR
   go_wp2_with fail
   go_ret
   exact ⟨rfl, HW1.out⟩
def kX.f (yU : ByteArray) (_ : Bool) (y7 : Int) (yw : List qw) (yA : List qh) (yu : List xq) : Option Bool := if yw.length ≤ 1000000000 ∧ yA.length ≤ 1000000000 ∧ yu.length ≤ 1000000000 then some (uw yU y7 yw yA yu) else none
theorem kX.calls (yU : ByteArray) (yS : Bool) (y7 : Int) (qU : Option Addr) (q9 : Nat) (yw : List qw) (xZ : Option Addr) (xQ : Nat) (yA : List qh) (xX : Option Addr) (xJ : Nat) (yu : List xq) (r : Bool) (w : World) (wU : Kd.C uy w qU yw.length yw) (ZI : yw.length ≤ q9) (ZL : Kd.C uU w xZ yA.length yA) (ZM : yA.length ≤ xQ) (ZN : Kd.C jy w xX yu.length yu) (ZO : yu.length ≤ xJ) (hG : GW w) (h : kX.f yU yS y7 yw yA yu = some r) :
  Calls Tryz.prog 17 #[.agg #[.string yU, .bool yS, .int .i64 y7, .slice qU yw.length q9, .slice xZ yA.length xQ, .slice xX yu.length xJ]] w fun e w' => e = .returned (.bool r) ∧ Below w.heap.size w w' := by
 unfold kX.f at h
 split at h
 ·rename_i hl
  obtain rfl := Option.some.inj h
  exact zvf yU yS y7 qU q9 yw xZ xQ yA xX xJ yu ZI ZM ZO hl.1 hl.2.1 hl.2.2 w wU ZL ZN hG
 ·cases h
end Go.Proofs.YtaifemkokfoadaaGreatDoor
namespace Go.Proofs.YtaifemkokfoadaaGreatDoor
open Go.RowKit Go.Proofs.zx.zK Go.Proofs.zx.zN Go.Proofs.YtaifemkokfoadaaGreatDoor.PX
set_option linter.unusedSimpArgs false
set_option linter.unusedVariables false
theorem Vu (a b : ByteArray) : Op.bytesLess a.toList b.toList = true ↔ a.toList < b.toList := by rw [Go.Proofs.bytesLess_eq]; exact decide_eq_true_iff
theorem ZE {a b : ByteArray} : vL a b < 0 ↔ a.toList < b.toList := by
 rw [← Vu]
 unfold vL
 by_cases h1 : Op.bytesLess a.toList b.toList = true
 ·simp [h1]
 ·by_cases h2 : Op.bytesLess b.toList a.toList = true <;> simp [h1, h2]
theorem Jy {a b : ByteArray} : a.toList = b.toList ↔ a = b := by
 constructor
 ·intro h
  rw [Lib.toList_data, Lib.toList_data] at h
  exact ByteArray.ext (Array.toList_inj.1 h)
 ·rintro rfl
  rfl
theorem Wp (a : ByteArray) : vL a a = 0 := by
 unfold vL
 have h : ¬ Op.bytesLess a.toList a.toList = true := by rw [Vu]; exact List.lt_irrefl _
 rw [if_neg h, if_neg h]
theorem eY {a b : ByteArray} : vL a b = 0 ↔ a = b := by
 constructor
 ·intro h
  unfold vL at h
  by_cases h1 : Op.bytesLess a.toList b.toList = true
  ·rw [if_pos h1] at h; cases h
  ·rw [if_neg h1] at h
   by_cases h2 : Op.bytesLess b.toList a.toList = true
   ·rw [if_pos h2] at h; cases h
   ·rw [Vu] at h1 h2
    exact Jy.1 (List.le_antisymm (List.not_lt.1 h2) (List.not_lt.1 h1))
 ·rintro rfl
  exact Wp a
theorem Jw (l : List qw) (i : Nat) (h : i < l.length) : qV l (i : Int) = l[i] := by simp [qV, List.getD_eq_getElem?_getD, h]
def Asc (l : List qw) : Prop := ∀ (i j : Nat) (hi : i < l.length) (hj : j < l.length), i < j → l[i].f0.toList < l[j].f0.toList
theorem zvg {l : List qw} (h : wZ (fun i j => Xe (qV l (i : Int)) (qV l (j : Int))) l.length = true) : Asc l := by
 have h1 : ∀ (i : Nat) (hi : i + 1 < l.length), l[i].f0.toList < l[i + 1].f0.toList := by
  intro i hi
  have h2 := List.all_eq_true.1 h i (List.mem_range.2 (by omega))
  rw [decide_eq_true_iff] at h2
  have h2 : Xe (qV l (i : Int)) (qV l ((i + 1 : Nat) : Int)) < 0 := h2
  rw [Jw l i (by omega), Jw l (i + 1) hi] at h2
  exact ZE.1 h2
 have h3 : ∀ (d i : Nat) (hi : i + d + 1 < l.length), l[i].f0.toList < l[i + d + 1].f0.toList := by
  intro d
  induction d with
  | zero => intro i hi; exact h1 i hi
  | succ d ih => intro i hi; exact List.lt_trans (ih i (by omega)) (h1 (i + d + 1) hi)
 intro i j hi hj hij
 have h4 := h3 (j - i - 1) i (by omega)
 have e : i + (j - i - 1) + 1 = j := by omega
 simpa only [e] using h4
theorem zkG (l : List qw) (n : ByteArray) (ha : Asc l) (i j : Nat) (hij : i ≤ j) (hj : j ≤ l.length) (h1 : ∀ (m : Nat) (hm : m < l.length), m < i → l[m].f0.toList < n.toList) (h2 : ∀ (m : Nat) (hm : m < l.length), j ≤ m → ¬ l[m].f0.toList < n.toList) :
  (∀ (m : Nat) (hm : m < l.length), m < Vs l n i j → l[m].f0.toList < n.toList) ∧ (∀ (m : Nat) (hm : m < l.length), Vs l n i j ≤ m → ¬ l[m].f0.toList < n.toList) := by
 fun_induction Vs l n i j with
 | case1 i j hlt hc ih =>
  have hm : (i + j) / 2 < l.length := by omega
  rw [Jw l _ hm, ZE] at hc
  refine ih (by omega) hj (fun m hml hmi => ?_) h2
  by_cases he : m = (i + j) / 2
  ·subst he; exact hc
  ·exact List.lt_trans (ha m _ hml hm (by omega)) hc
 | case2 i j hlt hc ih =>
  have hm : (i + j) / 2 < l.length := by omega
  rw [Jw l _ hm, ZE] at hc
  refine ih (by omega) (by omega) h1 (fun m hml hmi hlt' => ?_)
  by_cases he : m = (i + j) / 2
  ·subst he; exact hc hlt'
  ·exact hc (List.lt_trans (ha _ m hm hml (by omega)) hlt')
 | case3 i j hlt =>
  obtain rfl : i = j := by omega
  exact ⟨h1, h2⟩
theorem zZo (l : List qw) (ha : Asc l) (m : Nat) (hm : m < l.length) : Zw l l[m].f0 = ((m : Int), true) := by
 obtain ⟨h1, h2⟩ := zkG l l[m].f0 ha 0 l.length (Nat.zero_le _) (Nat.le_refl _) (fun m _ h => absurd h (Nat.not_lt_zero _)) (fun m hm h => absurd hm (by omega))
 have e : Vs l l[m].f0 0 l.length = m := by
  rcases Nat.lt_trichotomy (Vs l l[m].f0 0 l.length) m with h | h | h
  ·exact absurd (ha _ m (by omega) hm h) (h2 _ (by omega) (Nat.le_refl _))
  ·exact h
  ·exact absurd (h1 m hm h) (List.lt_irrefl _)
 unfold Zw
 simp only [e, decide_eq_true hm, Bool.true_and, Jw l m hm]
 rw [Wp]
 rfl
theorem zZp (l : List qw) (n : ByteArray) (h : ∀ x ∈ l, x.f0 ≠ n) : (Zw l n).2 = false := by
 unfold Zw
 simp only
 by_cases hi : Vs l n 0 l.length < l.length
 ·rw [Jw l _ hi]
  have : ¬ vL l[Vs l n 0 l.length].f0 n = 0 := fun e => h _ (List.getElem_mem hi) (eY.1 e)
  rw [decide_eq_false this, Bool.and_false]
 ·rw [decide_eq_false hi, Bool.false_and]
theorem KX (l : List qw) (ha : Asc l) (n : ByteArray) : (Zw l n).2 = l.any fun x => decide (x.f0 = n) := by
 by_cases h : ∃ x ∈ l, x.f0 = n
 ·obtain ⟨x, hx, rfl⟩ := h
  obtain ⟨m, hm, rfl⟩ := List.getElem_of_mem hx
  rw [zZo l ha m hm]
  exact (List.any_eq_true.2 ⟨_, hx, by simp⟩).symm
 ·rw [zZp l n (fun x hx e => h ⟨x, hx, e⟩)]
  refine (List.any_eq_false.2 fun x hx => ?_).symm
  simpa using fun e => h ⟨x, hx, e⟩
end Go.Proofs.YtaifemkokfoadaaGreatDoor
namespace Go.Proofs.YtaifemkokfoadaaGreatDoor
open Go.RowKit Go.Proofs.zx.zK Go.Proofs.zx.zN Go.Proofs.YtaifemkokfoadaaGreatDoor.PX
set_option maxRecDepth 100000
set_option linter.unusedVariables false
end Go.Proofs.YtaifemkokfoadaaGreatDoor
namespace Go.Proofs.YtaifemkokfoadaaGreatDoor.PX
open Go.RowKit Go.Proofs.zx.zK Go.Proofs.zx.zU Go.Proofs.zx.zN
attribute [local go_sem] qF qG xC xD qY qW qH qI   -- for this text's walks alone
set_option linter.unusedVariables false
set_option linter.unusedSimpArgs false
def Yv.f (yU : ByteArray) (yS : Bool) (y7 : Int) (yw : List (qw)) (yA : List (qh)) (yu : List (xq)) (a1 : Int) : Option (Bool) := if a1 ≥ 1 then (if a1 ≤ 1000 then ((kX.f yU yS y7 yw yA yu).bind fun tH => (some tH)) else (some false)) else (some false)
set_option maxHeartbeats 8000000 in
set_option maxRecDepth 100000 in
theorem Yv.calls (yU : ByteArray) (yS : Bool) (y7 : Int) (qU : Option Addr) (q9 : Nat) (yw : List (qw)) (xZ : Option Addr) (xQ : Nat) (yA : List (qh)) (xX : Option Addr) (xJ : Nat) (yu : List (xq)) (a1 : Int) (r : Bool) (w : World) (wU : Kd.C uy w qU yw.length yw) (ZI : yw.length ≤ q9) (ZL : Kd.C uU w xZ yA.length yA) (ZM : yA.length ≤ xQ) (ZN : Kd.C jy w xX yu.length yu) (ZO : yu.length ≤ xJ) (hG : GW w) (h : Yv.f yU yS y7 yw yA yu a1 = some r) :
  Calls Tryz.prog 26 #[.agg #[.string yU, .bool yS, .int .i64 y7, .slice qU yw.length q9, .slice xZ yA.length xQ, .slice xX yu.length xJ], .int .i64 a1] w fun e w' => e = .returned (.bool r) ∧ Below w.heap.size w w' := by
 have bS := Tryz.underlying26
 have HG := zy.mk hG
 clear hG
 have ZQ := zy.mk wU
 have Yb := zy.mk ZI
 clear wU ZI
 have YB := zy.mk ZL
 have YC := zy.mk ZM
 clear ZL ZM
 have Xx := zy.mk ZN
 have Xj := zy.mk ZO
 clear ZN ZO
 have HB := zy.mk (Below.refl w.heap.size w)
 have H : (if a1 ≥ 1 then (if a1 ≤ 1000 then ((kX.f yU yS y7 yw yA yu).bind fun tH => (some tH)) else (some false)) else (some false)) = some r := h
 clear h
 by_cases c3 : a1 ≥ 1
 ·rw [if_pos c3] at H
  have kC : decide (1 ≤ a1) = true := decide_eq_true c3
  clear c3
  by_cases c4 : a1 ≤ 1000
  ·rw [if_pos c4] at H
   have ZC : decide (a1 ≤ 1000) = true := decide_eq_true c4
   clear c4
   replace H := Option.bind_eq_some_iff.mp H
   obtain ⟨tH, A50, H⟩ := H
   replace H : (some tH) = some r := H
   have A5 := zy.mk A50
   clear A50
   obtain rfl := Option.some.inj H
   go_enter Tryz.func26, Tryz.ntmps26
   go_wp2_with (first | ((with_reducible refine xI (N := 2) rfl ?_); refine xR ?hg (N := 2) ?hd (cs := #[.string yU, .bool yS, .int .i64 y7, .slice qU yw.length q9, .slice xZ yA.length xQ, .slice xX yu.length xJ]) (t := 26) ?hr ?_; (case hd => rfl); (case hg => rfl); (case hr => first | (go_simp; done) | (go_simp; rfl)); intro Yc hg w6 xS hb; have zn := zy.mk (yY (yX HB.out) hb); have zA := zy.mk (xS); have zH := zy.mk ((by rw [hg]; exact (zO (yX HB.out)) : w.heap.size ≤ Yc)); have zP := zy.mk ((by rw [hg]; exact (zO (yX HB.out)) : w.heap.size ≤ Yc)); clear HB; have HB := zn; have Zl := zA; have zy2 := zH; have mH := zP; clear zn zA zH zP; clear hb xS hg; have zJJ : w6.cell? ⟨Yc, 0, none⟩ = some (.string yU) := (zk Zl.out 0).trans rfl; have zJV : w6.cell? ⟨Yc, 1, none⟩ = some (.bool yS) := (zk Zl.out 1).trans rfl; have zJK : w6.cell? ⟨Yc, 2, none⟩ = some (.int .i64 y7) := (zk Zl.out 2).trans rfl; have zJY : w6.cell? ⟨Yc, 3, none⟩ = some (.slice qU yw.length q9) := (zk Zl.out 3).trans rfl; have zJW : w6.cell? ⟨Yc, 4, none⟩ = some (.slice xZ yA.length xQ) := (zk Zl.out 4).trans rfl; have zJa : w6.cell? ⟨Yc, 5, none⟩ = some (.slice xX yu.length xJ) := (zk Zl.out 5).trans rfl; have zJb := zw Zl.out 0; have zJc := zw Zl.out 1; have zJd := zw Zl.out 2; have zJe := zw Zl.out 3; have zJf := zw Zl.out 4; have zJg := zw Zl.out 5) | (go_at_call 17; (with_reducible refine (kX.calls yU yS y7 _ _ yw _ _ yA _ _ yu tH _ ?qd ?qC ?uJ ?uV ?jE ?jF ?pz A5.out).mono ?_); (case qd => repeat (first | exact (Kd.zh ZQ.out HB.out) | (with_reducible refine Kd.yE ?_ _) | (with_reducible refine Kd.yF ?_ _) | (with_reducible refine Kd.y8 ?_))); (case qC => exact Yb.out); (case uJ => repeat (first | exact (Kd.zh YB.out HB.out) | (with_reducible refine Kd.yE ?_ _) | (with_reducible refine Kd.yF ?_ _) | (with_reducible refine Kd.y8 ?_))); (case uV => exact YC.out); (case jE => repeat (first | exact (Kd.zh Xx.out HB.out) | (with_reducible refine Kd.yE ?_ _) | (with_reducible refine Kd.yF ?_ _) | (with_reducible refine Kd.y8 ?_))); (case jF => exact Xj.out); (case pz => exact GW.under HG.out (yX HB.out)); rintro e w8 ⟨rfl, hb⟩; have zn := zy.mk (zf (g := Yc) (o := .cells #[.string yU, .bool yS, .int .i64 y7, .slice qU yw.length q9, .slice xZ yA.length xQ, .slice xX yu.length xJ] 26 (0, 0)) (qX Zl.out) hb); have zA := zy.mk (yY (yX HB.out) hb); clear Zl; clear HB; have Zl := zn; have HB := zA; clear zn zA; (try clear hb); (try clear hb2); (try clear hk); (try clear hi)))
   go_ret
   exact ⟨by first | rfl | (simp [yZ, yQ] <;> rfl) | (simp [*, yZ, yQ] <;> rfl), by repeat (first | (with_reducible first | exact HB.out | apply yt | apply zM | apply yP | refine qo ?_ mH.out) | exact HB.out)⟩
  ·rw [if_neg c4] at H
   have ZC : decide (a1 ≤ 1000) = false := decide_eq_false c4
   clear c4
   obtain rfl := Option.some.inj H
   go_enter Tryz.func26, Tryz.ntmps26
   go_wp2_with (first | ((with_reducible refine xI (N := 2) rfl ?_); refine xR ?hg (N := 2) ?hd (cs := #[.string yU, .bool yS, .int .i64 y7, .slice qU yw.length q9, .slice xZ yA.length xQ, .slice xX yu.length xJ]) (t := 26) ?hr ?_; (case hd => rfl); (case hg => rfl); (case hr => first | (go_simp; done) | (go_simp; rfl)); intro Yc hg w9 xS hb; have zn := zy.mk (yY (yX HB.out) hb); have zA := zy.mk (xS); have zH := zy.mk ((by rw [hg]; exact (zO (yX HB.out)) : w.heap.size ≤ Yc)); have zP := zy.mk ((by rw [hg]; exact (zO (yX HB.out)) : w.heap.size ≤ Yc)); clear HB; have HB := zn; have Zl := zA; have zy2 := zH; have mH := zP; clear zn zA zH zP; clear hb xS hg))
   go_ret
   exact ⟨by first | rfl | (simp [yZ, yQ] <;> rfl) | (simp [*, yZ, yQ] <;> rfl), by repeat (first | (with_reducible first | exact HB.out | apply yt | apply zM | apply yP | refine qo ?_ mH.out) | exact HB.out)⟩
 ·rw [if_neg c3] at H
  have kC : decide (1 ≤ a1) = false := decide_eq_false c3
  clear c3
  obtain rfl := Option.some.inj H
  go_enter Tryz.func26, Tryz.ntmps26
  go_wp2_with (first | ((with_reducible refine xI (N := 2) rfl ?_); refine xR ?hg (N := 2) ?hd (cs := #[.string yU, .bool yS, .int .i64 y7, .slice qU yw.length q9, .slice xZ yA.length xQ, .slice xX yu.length xJ]) (t := 26) ?hr ?_; (case hd => rfl); (case hg => rfl); (case hr => first | (go_simp; done) | (go_simp; rfl)); intro Yc hg KO xS hb; have zn := zy.mk (yY (yX HB.out) hb); have zA := zy.mk (xS); have zH := zy.mk ((by rw [hg]; exact (zO (yX HB.out)) : w.heap.size ≤ Yc)); have zP := zy.mk ((by rw [hg]; exact (zO (yX HB.out)) : w.heap.size ≤ Yc)); clear HB; have HB := zn; have Zl := zA; have zy2 := zH; have mH := zP; clear zn zA zH zP; clear hb xS hg))
  go_ret
  exact ⟨by first | rfl | (simp [yZ, yQ] <;> rfl) | (simp [*, yZ, yQ] <;> rfl), by repeat (first | (with_reducible first | exact HB.out | apply yt | apply zM | apply yP | refine qo ?_ mH.out) | exact HB.out)⟩
def Qh.f (a0 : Int) (a1 : Int) : Option (Int) := if a0 < 0 then (if a1 = 0 then (none) else (some (wrap64 (-(wrap64 (Int.tdiv (wrap64 ((wrap64 ((wrap64 (-a0)) + a1)) - 1)) a1)))))) else (if a1 = 0 then (none) else (some (wrap64 (Int.tdiv a0 a1))))
set_option maxHeartbeats 8000000 in
set_option maxRecDepth 100000 in
theorem Qh.calls (a0 : Int) (a1 : Int) (r : Int) (w : World) (h : Qh.f a0 a1 = some r) :
  Calls Tryz.prog 88 #[.int .i64 a0, .int .i64 a1] w fun e w' => e = .returned (.int .i64 r) ∧ z8 w w' := by
 have H : (if a0 < 0 then (if a1 = 0 then (none) else (some (wrap64 (-(wrap64 (Int.tdiv (wrap64 ((wrap64 ((wrap64 (-a0)) + a1)) - 1)) a1)))))) else (if a1 = 0 then (none) else (some (wrap64 (Int.tdiv a0 a1))))) = some r := h
 clear h
 by_cases c3 : a0 < 0
 ·rw [if_pos c3] at H
  have kC : decide (a0 < 0) = true := decide_eq_true c3
  clear c3
  by_cases c4 : a1 = 0
  ·rw [if_pos c4] at H
   exact absurd H (by simp)
  ·rw [if_neg c4] at H
   have ZC : (a1 == 0) = false := beq_eq_false_iff_ne.mpr c4
   have tL : (a1 != 0) = true := bne_iff_ne.mpr c4
   obtain rfl := Option.some.inj H
   go_enter Tryz.func88, Tryz.ntmps88
   go_wp2
   go_ret
   exact ⟨by first | rfl | (simp; done) | (simp [*]; done), by repeat (first | exact z8.refl _ | apply z8.step)⟩
 ·rw [if_neg c3] at H
  have kC : decide (a0 < 0) = false := decide_eq_false c3
  clear c3
  by_cases c5 : a1 = 0
  ·rw [if_pos c5] at H
   exact absurd H (by simp)
  ·rw [if_neg c5] at H
   have Ya : (a1 == 0) = false := beq_eq_false_iff_ne.mpr c5
   have tu : (a1 != 0) = true := bne_iff_ne.mpr c5
   obtain rfl := Option.some.inj H
   go_enter Tryz.func88, Tryz.ntmps88
   go_wp2
   go_ret
   exact ⟨by first | rfl | (simp; done) | (simp [*]; done), by repeat (first | exact z8.refl _ | apply z8.step)⟩
def wK.f (a0 : Int) (a1 : Int) : Option (Int) := (Qh.f (wrap64 ((wrap64 (10 * a1)) * a0)) 1000).bind fun tN => (some tN)
set_option maxHeartbeats 8000000 in
set_option maxRecDepth 100000 in
theorem wK.calls (a0 : Int) (a1 : Int) (r : Int) (w : World) (h : wK.f a0 a1 = some r) :
  Calls Tryz.prog 28 #[.int .i64 a0, .int .i64 a1] w fun e w' => e = .returned (.int .i64 r) ∧ z8 w w' := by
 have H : ((Qh.f (wrap64 ((wrap64 (10 * a1)) * a0)) 1000).bind fun tN => (some tN)) = some r := h
 clear h
 replace H := Option.bind_eq_some_iff.mp H
 obtain ⟨tN, fI, H⟩ := H
 replace H : (some tN) = some r := H
 have A3 := zy.mk fI
 clear fI
 obtain rfl := Option.some.inj H
 go_enter Tryz.func28, Tryz.ntmps28
 go_wp2_with (first | ((with_reducible refine yI (f := 88) rfl ?_); refine je (some 9) Tryz.func88 #[.int .i64 (wrap64 ((wrap64 (10 * a1)) * a0)), .int .i64 1000] ?_; (with_reducible refine (Qh.calls (wrap64 ((wrap64 (10 * a1)) * a0)) 1000 tN _ A3.out).mono ?_); rintro e w' ⟨rfl, ⟨nd, rfl⟩⟩; refine ⟨_, rfl, ?_⟩))
 go_ret
 exact ⟨by first | rfl | (simp; done) | (simp [*]; done), by repeat (first | exact z8.refl _ | apply z8.step)⟩
end Go.Proofs.YtaifemkokfoadaaGreatDoor.PX
namespace Go.Proofs.YtaifemkokfoadaaGreatDoor.PX
open Go.RowKit Go.Proofs.zx.zK Go.Proofs.zx.zU Go.Proofs.zx.zN
attribute [local go_sem] qF qG xC xD qY qW qH qI   -- for this text's walks alone
set_option linter.unusedVariables false
set_option linter.unusedSimpArgs false
def wY.f (yU : ByteArray) (yS : Bool) (y7 : Int) (yw : List (qw)) (yA : List (qh)) (yu : List (xq)) (a1 : ByteArray) (a2 : Int) : Option (Int × Int) := (Yv.f yU yS y7 yw yA yu a2).bind fun tO => (if tO = true then ((jR.f yU yS y7 yw yA yu a1).bind fun pQ => (if pQ.2 = true then (if 0 ≤ pQ.1 then (if pQ.1 < (yw.length : Int) then ((wK.f ((qV yw pQ.1).f1) a2).bind fun Qi => (some (Qi, 0))) else (none)) else (none)) else (some (0, 3)))) else (some (0, 1)))
set_option maxHeartbeats 8000000 in
set_option maxRecDepth 100000 in
theorem wY.calls (yU : ByteArray) (yS : Bool) (y7 : Int) (qU : Option Addr) (q9 : Nat) (yw : List (qw)) (xZ : Option Addr) (xQ : Nat) (yA : List (qh)) (xX : Option Addr) (xJ : Nat) (yu : List (xq)) (a1 : ByteArray) (a2 : Int) (r1 : Int) (r2 : Int) (w : World) (wU : Kd.C uy w qU yw.length yw) (ZI : yw.length ≤ q9) (ZL : Kd.C uU w xZ yA.length yA) (ZM : yA.length ≤ xQ) (ZN : Kd.C jy w xX yu.length yu) (ZO : yu.length ≤ xJ) (hG : GW w) (h : wY.f yU yS y7 yw yA yu a1 a2 = some (r1, r2)) :
  Calls Tryz.prog 11 #[.agg #[.string yU, .bool yS, .int .i64 y7, .slice qU yw.length q9, .slice xZ yA.length xQ, .slice xX yu.length xJ], .string a1, .int .i64 a2] w fun e w' => e = .returned (.tuple #[.int .i64 r1, .int .i64 r2]) ∧ Below w.heap.size w w' := by
 have bS := Tryz.underlying26
 have HG := zy.mk hG
 clear hG
 have ZQ := zy.mk wU
 have Yb := zy.mk ZI
 clear wU ZI
 have YB := zy.mk ZL
 have YC := zy.mk ZM
 clear ZL ZM
 have Xx := zy.mk ZN
 have Xj := zy.mk ZO
 clear ZN ZO
 have HB := zy.mk (Below.refl w.heap.size w)
 have H : ((Yv.f yU yS y7 yw yA yu a2).bind fun tO => (if tO = true then ((jR.f yU yS y7 yw yA yu a1).bind fun pQ => (if pQ.2 = true then (if 0 ≤ pQ.1 then (if pQ.1 < (yw.length : Int) then ((wK.f ((qV yw pQ.1).f1) a2).bind fun Qi => (some (Qi, 0))) else (none)) else (none)) else (some (0, 3)))) else (some (0, 1)))) = some (r1, r2) := h
 clear h
 replace H := Option.bind_eq_some_iff.mp H
 obtain ⟨tO, Wd, H⟩ := H
 replace H : (if tO = true then ((jR.f yU yS y7 yw yA yu a1).bind fun pQ => (if pQ.2 = true then (if 0 ≤ pQ.1 then (if pQ.1 < (yw.length : Int) then ((wK.f ((qV yw pQ.1).f1) a2).bind fun Qi => (some (Qi, 0))) else (none)) else (none)) else (some (0, 3)))) else (some (0, 1))) = some (r1, r2) := H
 have A4 := zy.mk Wd
 clear Wd
 by_cases c5 : tO = true
 ·subst c5
  have H1 : ((jR.f yU yS y7 yw yA yu a1).bind fun pQ => (if pQ.2 = true then (if 0 ≤ pQ.1 then (if pQ.1 < (yw.length : Int) then ((wK.f ((qV yw pQ.1).f1) a2).bind fun Qi => (some (Qi, 0))) else (none)) else (none)) else (some (0, 3)))) = some (r1, r2) := by rw [if_pos rfl] at H; exact H
  clear H
  have H := H1
  clear H1
  replace H := Option.bind_eq_some_iff.mp H
  obtain ⟨⟨Y1, zJh⟩, fE, H⟩ := H
  replace H : (if zJh = true then (if 0 ≤ Y1 then (if Y1 < (yw.length : Int) then ((wK.f ((qV yw Y1).f1) a2).bind fun Qi => (some (Qi, 0))) else (none)) else (none)) else (some (0, 3))) = some (r1, r2) := H
  have A6 := zy.mk fE
  clear fE
  by_cases c7 : zJh = true
  ·subst c7
   have H1 : (if 0 ≤ Y1 then (if Y1 < (yw.length : Int) then ((wK.f ((qV yw Y1).f1) a2).bind fun Qi => (some (Qi, 0))) else (none)) else (none)) = some (r1, r2) := by rw [if_pos rfl] at H; exact H
   clear H
   have H := H1
   clear H1
   by_cases c8 : 0 ≤ Y1
   ·rw [if_pos c8] at H
    have Y0 : decide (0 ≤ Y1) = true := decide_eq_true c8
    clear c8
    by_cases c9 : Y1 < (yw.length : Int)
    ·rw [if_pos c9] at H
     have WV : decide (Y1 < (yw.length : Int)) = true := decide_eq_true c9
     clear c9
     replace H := Option.bind_eq_some_iff.mp H
     obtain ⟨Qi, zzx, H⟩ := H
     replace H : (some (Qi, 0)) = some (r1, r2) := H
     have A10 := zy.mk zzx
     clear zzx
     simp only [Option.some.injEq, Prod.mk.injEq] at H
     obtain ⟨rfl, rfl⟩ := H
     go_enter Tryz.func11, Tryz.ntmps11
     go_wp2_with (first | ((with_reducible refine xI (N := 3) rfl ?_); refine xR ?hg (N := 3) ?hd (cs := #[.string yU, .bool yS, .int .i64 y7, .slice qU yw.length q9, .slice xZ yA.length xQ, .slice xX yu.length xJ]) (t := 26) ?hr ?_; (case hd => rfl); (case hg => rfl); (case hr => first | (go_simp; done) | (go_simp; rfl)); intro vW hg Xr xS hb; have zn := zy.mk (yY (yX HB.out) hb); have zA := zy.mk (xS); have zH := zy.mk ((by rw [hg]; exact (zO (yX HB.out)) : w.heap.size ≤ vW)); have zP := zy.mk ((by rw [hg]; exact (zO (yX HB.out)) : w.heap.size ≤ vW)); clear HB; have HB := zn; have qZ := zA; have zy3 := zH; have mI := zP; clear zn zA zH zP; clear hb xS hg; have zee : Xr.cell? ⟨vW, 0, none⟩ = some (.string yU) := (zk qZ.out 0).trans rfl; have zef : Xr.cell? ⟨vW, 1, none⟩ = some (.bool yS) := (zk qZ.out 1).trans rfl; have zeg : Xr.cell? ⟨vW, 2, none⟩ = some (.int .i64 y7) := (zk qZ.out 2).trans rfl; have zeh : Xr.cell? ⟨vW, 3, none⟩ = some (.slice qU yw.length q9) := (zk qZ.out 3).trans rfl; have zei : Xr.cell? ⟨vW, 4, none⟩ = some (.slice xZ yA.length xQ) := (zk qZ.out 4).trans rfl; have zel : Xr.cell? ⟨vW, 5, none⟩ = some (.slice xX yu.length xJ) := (zk qZ.out 5).trans rfl; have zem := zw qZ.out 0; have zen := zw qZ.out 1; have zeo := zw qZ.out 2; have zep := zw qZ.out 3; have zer := zw qZ.out 4; have zes := zw qZ.out 5) | ((with_reducible refine yI (f := 26) rfl ?_); refine je (some 12) Tryz.func26 #[.agg #[.string yU, .bool yS, .int .i64 y7, .slice qU yw.length q9, .slice xZ yA.length xQ, .slice xX yu.length xJ], .int .i64 a2] ?_; (with_reducible refine (Yv.calls yU yS y7 _ _ yw _ _ yA _ _ yu a2 true _ ?qd ?qC ?uJ ?uV ?jE ?jF ?pz A4.out).mono ?_); (case qd => repeat (first | exact (Kd.zh ZQ.out HB.out) | (with_reducible refine Kd.yE ?_ _) | (with_reducible refine Kd.yF ?_ _) | (with_reducible refine Kd.y8 ?_))); (case qC => exact Yb.out); (case uJ => repeat (first | exact (Kd.zh YB.out HB.out) | (with_reducible refine Kd.yE ?_ _) | (with_reducible refine Kd.yF ?_ _) | (with_reducible refine Kd.y8 ?_))); (case uV => exact YC.out); (case jE => repeat (first | exact (Kd.zh Xx.out HB.out) | (with_reducible refine Kd.yE ?_ _) | (with_reducible refine Kd.yF ?_ _) | (with_reducible refine Kd.y8 ?_))); (case jF => exact Xj.out); (case pz => exact GW.under HG.out (yX HB.out)); rintro e mF ⟨rfl, hb⟩; refine ⟨_, rfl, ?_⟩; have zn := zy.mk (zf (g := vW) (o := .cells #[.string yU, .bool yS, .int .i64 y7, .slice qU yw.length q9, .slice xZ yA.length xQ, .slice xX yu.length xJ] 26 (0, 0)) (qX qZ.out) hb); have zA := zy.mk (yY (yX HB.out) hb); clear qZ; clear HB; have qZ := zn; have HB := zA; clear zn zA; (try clear hb); (try clear hb2); (try clear hk); (try clear hi); have zZr : mF.cell? ⟨vW, 0, none⟩ = some (.string yU) := (zk qZ.out 0).trans rfl; have zZs : mF.cell? ⟨vW, 1, none⟩ = some (.bool yS) := (zk qZ.out 1).trans rfl; have zZt : mF.cell? ⟨vW, 2, none⟩ = some (.int .i64 y7) := (zk qZ.out 2).trans rfl; have zZu : mF.cell? ⟨vW, 3, none⟩ = some (.slice qU yw.length q9) := (zk qZ.out 3).trans rfl; have zZA : mF.cell? ⟨vW, 4, none⟩ = some (.slice xZ yA.length xQ) := (zk qZ.out 4).trans rfl; have zZB : mF.cell? ⟨vW, 5, none⟩ = some (.slice xX yu.length xJ) := (zk qZ.out 5).trans rfl; have zZC := zw qZ.out 0; have zZD := zw qZ.out 1; have zZE := zw qZ.out 2; have zZF := zw qZ.out 3; have zZG := zw qZ.out 4; have zZH := zw qZ.out 5) | ((with_reducible refine yI (f := 27) rfl ?_); refine je (some 17) Tryz.func27 #[.agg #[.string yU, .bool yS, .int .i64 y7, .slice qU yw.length q9, .slice xZ yA.length xQ, .slice xX yu.length xJ], .string a1] ?_; (with_reducible refine (jR.calls yU yS y7 _ _ yw _ _ yA _ _ yu a1 Y1 true _ ?qd ?qC ?uJ ?uV ?jE ?jF ?pz A6.out).mono ?_); (case qd => repeat (first | exact (Kd.zh ZQ.out HB.out) | (with_reducible refine Kd.yE ?_ _) | (with_reducible refine Kd.yF ?_ _) | (with_reducible refine Kd.y8 ?_))); (case qC => exact Yb.out); (case uJ => repeat (first | exact (Kd.zh YB.out HB.out) | (with_reducible refine Kd.yE ?_ _) | (with_reducible refine Kd.yF ?_ _) | (with_reducible refine Kd.y8 ?_))); (case uV => exact YC.out); (case jE => repeat (first | exact (Kd.zh Xx.out HB.out) | (with_reducible refine Kd.yE ?_ _) | (with_reducible refine Kd.yF ?_ _) | (with_reducible refine Kd.y8 ?_))); (case jF => exact Xj.out); (case pz => exact GW.under HG.out (yX HB.out)); rintro e QF ⟨rfl, hb⟩; refine ⟨_, rfl, ?_⟩; have zn := zy.mk (zf (g := vW) (o := .cells #[.string yU, .bool yS, .int .i64 y7, .slice qU yw.length q9, .slice xZ yA.length xQ, .slice xX yu.length xJ] 26 (0, 0)) (qX qZ.out) hb); have zA := zy.mk (yY (yX HB.out) hb); clear qZ; clear HB; have qZ := zn; have HB := zA; clear zn zA; (try clear hb); (try clear hb2); (try clear hk); (try clear hi); have zet : QF.cell? ⟨vW, 0, none⟩ = some (.string yU) := (zk qZ.out 0).trans rfl; have zeu : QF.cell? ⟨vW, 1, none⟩ = some (.bool yS) := (zk qZ.out 1).trans rfl; have zeA : QF.cell? ⟨vW, 2, none⟩ = some (.int .i64 y7) := (zk qZ.out 2).trans rfl; have zeB : QF.cell? ⟨vW, 3, none⟩ = some (.slice qU yw.length q9) := (zk qZ.out 3).trans rfl; have zeC : QF.cell? ⟨vW, 4, none⟩ = some (.slice xZ yA.length xQ) := (zk qZ.out 4).trans rfl; have zeD : QF.cell? ⟨vW, 5, none⟩ = some (.slice xX yu.length xJ) := (zk qZ.out 5).trans rfl; have zeE := zw qZ.out 0; have zeF := zw qZ.out 1; have zeG := zw qZ.out 2; have zeH := zw qZ.out 3; have zeI := zw qZ.out 4; have zeL := zw qZ.out 5; have zkH : 0 ≤ (Y1 : Int) := of_decide_eq_true (by first | (with_reducible assumption) | assumption); have zkI : Y1 < (yw.length : Int) := of_decide_eq_true (by first | (with_reducible assumption) | assumption); obtain ⟨zht, e246, tT, aj⟩ := YM ZQ.out Y1 zkH zkI; cases e246; replace tT := (HB.out.cell (World.block_lt_of_cell? w _ tT)).trans tT; replace aj := (HB.out.cell (World.block_lt_of_cell? w _ aj)).trans aj; replace zkH := eq_true zkH; replace zkI := eq_true zkI) | ((with_reducible refine yI (f := 28) rfl ?_); refine je (some 29) Tryz.func28 #[.int .i64 ((qV yw Y1).f1), .int .i64 a2] ?_; (with_reducible refine (wK.calls ((qV yw Y1).f1) a2 Qi _ A10.out).mono ?_); rintro e w' ⟨rfl, ⟨nd, rfl⟩⟩; refine ⟨_, rfl, ?_⟩))
     go_ret2
     exact ⟨by first | rfl | (simp [yZ, yQ] <;> rfl) | (simp [*, yZ, yQ] <;> rfl), by repeat (first | (with_reducible first | exact HB.out | apply yt | apply zM | apply yP | refine qo ?_ mI.out) | exact HB.out)⟩
    ·rw [if_neg c9] at H
     exact absurd H (by simp)
   ·rw [if_neg c8] at H
    exact absurd H (by simp)
  ·replace c7 := Bool.eq_false_iff.mpr c7
   subst c7
   have H1 : (some (0, 3)) = some (r1, r2) := by rw [if_neg (show ¬ (false = true) by decide)] at H; exact H
   clear H
   have H := H1
   clear H1
   simp only [Option.some.injEq, Prod.mk.injEq] at H
   obtain ⟨rfl, rfl⟩ := H
   go_enter Tryz.func11, Tryz.ntmps11
   go_wp2_with (first | ((with_reducible refine xI (N := 3) rfl ?_); refine xR ?hg (N := 3) ?hd (cs := #[.string yU, .bool yS, .int .i64 y7, .slice qU yw.length q9, .slice xZ yA.length xQ, .slice xX yu.length xJ]) (t := 26) ?hr ?_; (case hd => rfl); (case hg => rfl); (case hr => first | (go_simp; done) | (go_simp; rfl)); intro vW hg kW xS hb; have zn := zy.mk (yY (yX HB.out) hb); have zA := zy.mk (xS); have zH := zy.mk ((by rw [hg]; exact (zO (yX HB.out)) : w.heap.size ≤ vW)); have zP := zy.mk ((by rw [hg]; exact (zO (yX HB.out)) : w.heap.size ≤ vW)); clear HB; have HB := zn; have qZ := zA; have zy3 := zH; have mI := zP; clear zn zA zH zP; clear hb xS hg; have zeM : kW.cell? ⟨vW, 0, none⟩ = some (.string yU) := (zk qZ.out 0).trans rfl; have zeN : kW.cell? ⟨vW, 1, none⟩ = some (.bool yS) := (zk qZ.out 1).trans rfl; have zeO : kW.cell? ⟨vW, 2, none⟩ = some (.int .i64 y7) := (zk qZ.out 2).trans rfl; have zeP : kW.cell? ⟨vW, 3, none⟩ = some (.slice qU yw.length q9) := (zk qZ.out 3).trans rfl; have zeR : kW.cell? ⟨vW, 4, none⟩ = some (.slice xZ yA.length xQ) := (zk qZ.out 4).trans rfl; have zeS : kW.cell? ⟨vW, 5, none⟩ = some (.slice xX yu.length xJ) := (zk qZ.out 5).trans rfl; have zeT := zw qZ.out 0; have zeU := zw qZ.out 1; have ze0 := zw qZ.out 2; have ze1 := zw qZ.out 3; have ze2 := zw qZ.out 4; have ze3 := zw qZ.out 5) | ((with_reducible refine yI (f := 26) rfl ?_); refine je (some 12) Tryz.func26 #[.agg #[.string yU, .bool yS, .int .i64 y7, .slice qU yw.length q9, .slice xZ yA.length xQ, .slice xX yu.length xJ], .int .i64 a2] ?_; (with_reducible refine (Yv.calls yU yS y7 _ _ yw _ _ yA _ _ yu a2 true _ ?qd ?qC ?uJ ?uV ?jE ?jF ?pz A4.out).mono ?_); (case qd => repeat (first | exact (Kd.zh ZQ.out HB.out) | (with_reducible refine Kd.yE ?_ _) | (with_reducible refine Kd.yF ?_ _) | (with_reducible refine Kd.y8 ?_))); (case qC => exact Yb.out); (case uJ => repeat (first | exact (Kd.zh YB.out HB.out) | (with_reducible refine Kd.yE ?_ _) | (with_reducible refine Kd.yF ?_ _) | (with_reducible refine Kd.y8 ?_))); (case uV => exact YC.out); (case jE => repeat (first | exact (Kd.zh Xx.out HB.out) | (with_reducible refine Kd.yE ?_ _) | (with_reducible refine Kd.yF ?_ _) | (with_reducible refine Kd.y8 ?_))); (case jF => exact Xj.out); (case pz => exact GW.under HG.out (yX HB.out)); rintro e bg ⟨rfl, hb⟩; refine ⟨_, rfl, ?_⟩; have zn := zy.mk (zf (g := vW) (o := .cells #[.string yU, .bool yS, .int .i64 y7, .slice qU yw.length q9, .slice xZ yA.length xQ, .slice xX yu.length xJ] 26 (0, 0)) (qX qZ.out) hb); have zA := zy.mk (yY (yX HB.out) hb); clear qZ; clear HB; have qZ := zn; have HB := zA; clear zn zA; (try clear hb); (try clear hb2); (try clear hk); (try clear hi); have zZI : bg.cell? ⟨vW, 0, none⟩ = some (.string yU) := (zk qZ.out 0).trans rfl; have zZL : bg.cell? ⟨vW, 1, none⟩ = some (.bool yS) := (zk qZ.out 1).trans rfl; have zZM : bg.cell? ⟨vW, 2, none⟩ = some (.int .i64 y7) := (zk qZ.out 2).trans rfl; have zZN : bg.cell? ⟨vW, 3, none⟩ = some (.slice qU yw.length q9) := (zk qZ.out 3).trans rfl; have zZO : bg.cell? ⟨vW, 4, none⟩ = some (.slice xZ yA.length xQ) := (zk qZ.out 4).trans rfl; have zZP : bg.cell? ⟨vW, 5, none⟩ = some (.slice xX yu.length xJ) := (zk qZ.out 5).trans rfl; have zZR := zw qZ.out 0; have zZS := zw qZ.out 1; have zZT := zw qZ.out 2; have zZU := zw qZ.out 3; have zZ0 := zw qZ.out 4; have zZ1 := zw qZ.out 5) | ((with_reducible refine yI (f := 27) rfl ?_); refine je (some 17) Tryz.func27 #[.agg #[.string yU, .bool yS, .int .i64 y7, .slice qU yw.length q9, .slice xZ yA.length xQ, .slice xX yu.length xJ], .string a1] ?_; (with_reducible refine (jR.calls yU yS y7 _ _ yw _ _ yA _ _ yu a1 Y1 false _ ?qd ?qC ?uJ ?uV ?jE ?jF ?pz A6.out).mono ?_); (case qd => repeat (first | exact (Kd.zh ZQ.out HB.out) | (with_reducible refine Kd.yE ?_ _) | (with_reducible refine Kd.yF ?_ _) | (with_reducible refine Kd.y8 ?_))); (case qC => exact Yb.out); (case uJ => repeat (first | exact (Kd.zh YB.out HB.out) | (with_reducible refine Kd.yE ?_ _) | (with_reducible refine Kd.yF ?_ _) | (with_reducible refine Kd.y8 ?_))); (case uV => exact YC.out); (case jE => repeat (first | exact (Kd.zh Xx.out HB.out) | (with_reducible refine Kd.yE ?_ _) | (with_reducible refine Kd.yF ?_ _) | (with_reducible refine Kd.y8 ?_))); (case jF => exact Xj.out); (case pz => exact GW.under HG.out (yX HB.out)); rintro e w21 ⟨rfl, hb⟩; refine ⟨_, rfl, ?_⟩; have zn := zy.mk (zf (g := vW) (o := .cells #[.string yU, .bool yS, .int .i64 y7, .slice qU yw.length q9, .slice xZ yA.length xQ, .slice xX yu.length xJ] 26 (0, 0)) (qX qZ.out) hb); have zA := zy.mk (yY (yX HB.out) hb); clear qZ; clear HB; have qZ := zn; have HB := zA; clear zn zA; (try clear hb); (try clear hb2); (try clear hk); (try clear hi)))
   go_ret2
   exact ⟨by first | rfl | (simp [yZ, yQ] <;> rfl) | (simp [*, yZ, yQ] <;> rfl), by repeat (first | (with_reducible first | exact HB.out | apply yt | apply zM | apply yP | refine qo ?_ mI.out) | exact HB.out)⟩
 ·replace c5 := Bool.eq_false_iff.mpr c5
  subst c5
  have H1 : (some (0, 1)) = some (r1, r2) := by rw [if_neg (show ¬ (false = true) by decide)] at H; exact H
  clear H
  have H := H1
  clear H1
  simp only [Option.some.injEq, Prod.mk.injEq] at H
  obtain ⟨rfl, rfl⟩ := H
  go_enter Tryz.func11, Tryz.ntmps11
  go_wp2_with (first | ((with_reducible refine xI (N := 3) rfl ?_); refine xR ?hg (N := 3) ?hd (cs := #[.string yU, .bool yS, .int .i64 y7, .slice qU yw.length q9, .slice xZ yA.length xQ, .slice xX yu.length xJ]) (t := 26) ?hr ?_; (case hd => rfl); (case hg => rfl); (case hr => first | (go_simp; done) | (go_simp; rfl)); intro vW hg Ql xS hb; have zn := zy.mk (yY (yX HB.out) hb); have zA := zy.mk (xS); have zH := zy.mk ((by rw [hg]; exact (zO (yX HB.out)) : w.heap.size ≤ vW)); have zP := zy.mk ((by rw [hg]; exact (zO (yX HB.out)) : w.heap.size ≤ vW)); clear HB; have HB := zn; have qZ := zA; have zy3 := zH; have mI := zP; clear zn zA zH zP; clear hb xS hg; have ze4 : Ql.cell? ⟨vW, 0, none⟩ = some (.string yU) := (zk qZ.out 0).trans rfl; have ze5 : Ql.cell? ⟨vW, 1, none⟩ = some (.bool yS) := (zk qZ.out 1).trans rfl; have ze6 : Ql.cell? ⟨vW, 2, none⟩ = some (.int .i64 y7) := (zk qZ.out 2).trans rfl; have ze7 : Ql.cell? ⟨vW, 3, none⟩ = some (.slice qU yw.length q9) := (zk qZ.out 3).trans rfl; have ze8 : Ql.cell? ⟨vW, 4, none⟩ = some (.slice xZ yA.length xQ) := (zk qZ.out 4).trans rfl; have ze9 : Ql.cell? ⟨vW, 5, none⟩ = some (.slice xX yu.length xJ) := (zk qZ.out 5).trans rfl; have zfz := zw qZ.out 0; have zfq := zw qZ.out 1; have zfx := zw qZ.out 2; have zfj := zw qZ.out 3; have zfv := zw qZ.out 4; have zfk := zw qZ.out 5) | ((with_reducible refine yI (f := 26) rfl ?_); refine je (some 12) Tryz.func26 #[.agg #[.string yU, .bool yS, .int .i64 y7, .slice qU yw.length q9, .slice xZ yA.length xQ, .slice xX yu.length xJ], .int .i64 a2] ?_; (with_reducible refine (Yv.calls yU yS y7 _ _ yw _ _ yA _ _ yu a2 false _ ?qd ?qC ?uJ ?uV ?jE ?jF ?pz A4.out).mono ?_); (case qd => repeat (first | exact (Kd.zh ZQ.out HB.out) | (with_reducible refine Kd.yE ?_ _) | (with_reducible refine Kd.yF ?_ _) | (with_reducible refine Kd.y8 ?_))); (case qC => exact Yb.out); (case uJ => repeat (first | exact (Kd.zh YB.out HB.out) | (with_reducible refine Kd.yE ?_ _) | (with_reducible refine Kd.yF ?_ _) | (with_reducible refine Kd.y8 ?_))); (case uV => exact YC.out); (case jE => repeat (first | exact (Kd.zh Xx.out HB.out) | (with_reducible refine Kd.yE ?_ _) | (with_reducible refine Kd.yF ?_ _) | (with_reducible refine Kd.y8 ?_))); (case jF => exact Xj.out); (case pz => exact GW.under HG.out (yX HB.out)); rintro e w24 ⟨rfl, hb⟩; refine ⟨_, rfl, ?_⟩; have zn := zy.mk (zf (g := vW) (o := .cells #[.string yU, .bool yS, .int .i64 y7, .slice qU yw.length q9, .slice xZ yA.length xQ, .slice xX yu.length xJ] 26 (0, 0)) (qX qZ.out) hb); have zA := zy.mk (yY (yX HB.out) hb); clear qZ; clear HB; have qZ := zn; have HB := zA; clear zn zA; (try clear hb); (try clear hb2); (try clear hk); (try clear hi)))
  go_ret2
  exact ⟨by first | rfl | (simp [yZ, yQ] <;> rfl) | (simp [*, yZ, yQ] <;> rfl), by repeat (first | (with_reducible first | exact HB.out | apply yt | apply zM | apply yP | refine qo ?_ mI.out) | exact HB.out)⟩
def ZR.f  : Option (Bool) := (kQ.f).bind fun xU => (if (xU.length : Int) = 5 then (if 0 < (xU.length : Int) then ((wY.f ((qB xU 0).f0) ((qB xU 0).f1) ((qB xU 0).f2) ((qB xU 0).f3) ((qB xU 0).f4) ((qB xU 0).f5) (⟨#[109]⟩ : ByteArray) 10).bind fun UM => (if UM.1 = 75 then (some (UM.2 == 0)) else (some false))) else (none)) else (some false))
set_option maxHeartbeats 8000000 in
set_option maxRecDepth 100000 in
theorem ZR.calls  (r : Bool) (w : World) (hG : GW w) (h : ZR.f  = some r) :
  Calls Tryz.prog 12 #[] w fun e w' => e = .returned (.bool r) ∧ Below w.heap.size w w' := by
 have bS := Tryz.underlying26
 have HG := zy.mk hG
 clear hG
 have HB := zy.mk (Below.refl w.heap.size w)
 have H : ((kQ.f).bind fun xU => (if (xU.length : Int) = 5 then (if 0 < (xU.length : Int) then ((wY.f ((qB xU 0).f0) ((qB xU 0).f1) ((qB xU 0).f2) ((qB xU 0).f3) ((qB xU 0).f4) ((qB xU 0).f5) (⟨#[109]⟩ : ByteArray) 10).bind fun UM => (if UM.1 = 75 then (some (UM.2 == 0)) else (some false))) else (none)) else (some false))) = some r := h
 clear h
 replace H := Option.bind_eq_some_iff.mp H
 obtain ⟨xU, A10, H⟩ := H
 replace H : (if (xU.length : Int) = 5 then (if 0 < (xU.length : Int) then ((wY.f ((qB xU 0).f0) ((qB xU 0).f1) ((qB xU 0).f2) ((qB xU 0).f3) ((qB xU 0).f4) ((qB xU 0).f5) (⟨#[109]⟩ : ByteArray) 10).bind fun UM => (if UM.1 = 75 then (some (UM.2 == 0)) else (some false))) else (none)) else (some false)) = some r := H
 have A1 := zy.mk A10
 clear A10
 by_cases c2 : (xU.length : Int) = 5
 ·rw [if_pos c2] at H
  have Wh : ((xU.length : Int) == 5) = true := beq_iff_eq.mpr c2
  have zan : ((xU.length : Int) != 5) = false := bne_eq_false_iff_eq.mpr c2
  clear c2
  by_cases c3 : 0 < (xU.length : Int)
  ·rw [if_pos c3] at H
   have kC : decide (0 < (xU.length : Int)) = true := decide_eq_true c3
   have Xg : decide (0 < xU.length) = true := decide_eq_true (by omega)
   clear c3
   replace H := Option.bind_eq_some_iff.mp H
   obtain ⟨⟨Ws, zkL⟩, Wd, H⟩ := H
   replace H : (if Ws = 75 then (some (zkL == 0)) else (some false)) = some r := H
   have A4 := zy.mk Wd
   clear Wd
   by_cases c5 : Ws = 75
   ·rw [if_pos c5] at H
    have Ya : (Ws == 75) = true := beq_iff_eq.mpr c5
    have tu : (Ws != 75) = false := bne_eq_false_iff_eq.mpr c5
    clear c5
    obtain rfl := Option.some.inj H
    go_enter Tryz.func12, Tryz.ntmps12
    go_wp2_with (first | ((with_reducible refine yI (f := 13) rfl ?_); refine je (some 4) Tryz.func13 #[] ?_; (with_reducible refine (kQ.calls  xU _ ?qd A1.out).mono ?_); (case qd => exact GW.under HG.out (yX HB.out)); rintro e w6 ⟨zJi, rfl, ho0, hb⟩; refine ⟨_, rfl, ?_⟩; have zn := zy.mk (Kd.rH ho0 (zO (yX HB.out))); have zA := zy.mk (yY (yX HB.out) hb); clear HB; have Zm := zn; have HB := zA; clear zn zA; (try clear hb); (try clear hb2); (try clear hk); (try clear hi); (try clear ho0); obtain ⟨Ao7, co7, eo7⟩ := Kd.rM Zm.out; subst eo7; have KJ : 0 ≤ (0 : Int) := (by omega); have KV : 0 < (xU.length : Int) := of_decide_eq_true (by first | (with_reducible assumption) | assumption); obtain ⟨zKT, zzj, zzv, zzk, zzy, zzw, zzZ, e251, Q5, Q6, Q7, Xv, Xk, Xy, Jr, Js, Jt, Ju, JA, JB⟩ := zvv (Kd.J4 Zm.out).2.2 0 KJ KV; cases e251; obtain ⟨zKU, zzQ, zzX, Qm⟩ := Kd.zyp Zm.out z26 0 KJ (by first | exact KV | exact of_decide_eq_true (by first | (with_reducible assumption) | assumption) | (have e_ := (Kd.J4 Zm.out).1; omega)); obtain ⟨zZ2, zZ3, zZ4, rfl, Q8, Q9, Vz⟩ := fB zzX; have Z6 := Qm 3 _ rfl; rw [uf _ _ 3 (by omega)] at Z6; replace Z6 := Option.some.inj (Z6.symm.trans Xv); rw [Z6] at Q8; have Vq := zy.mk (show Kd.R uy 31 _ _ _ _ ((qB xU 0).f3) from Q8); clear Z6 Q8; have Z7 := Qm 4 _ rfl; rw [uf _ _ 4 (by omega)] at Z7; replace Z7 := Option.some.inj (Z7.symm.trans Xk); rw [Z7] at Q9; have Vx := zy.mk (show Kd.R uU 86 _ _ _ _ ((qB xU 0).f4) from Q9); clear Z7 Q9; have Z8 := Qm 5 _ rfl; rw [uf _ _ 5 (by omega)] at Z8; replace Z8 := Option.some.inj (Z8.symm.trans Xy); rw [Z8] at Vz; have Vj := zy.mk (show Kd.R jy 76 _ _ _ _ ((qB xU 0).f5) from Vz); clear Z8 Vz; clear Qm zzQ; have zK0 : (0 < xU.length) = True := eq_true (by omega); (try rw [show ((0 : Int)).toNat = 0 from rfl] at Q5); (try rw [show 0 * 6 = 0 from rfl] at Q5); (try rw [Addr.add_zero'] at Q5); (try rw [show ((0 : Int)).toNat = 0 from rfl] at Q6); (try rw [show 0 * 6 = 0 from rfl] at Q6); (try rw [Addr.add_zero'] at Q6); (try rw [show ((0 : Int)).toNat = 0 from rfl] at Q7); (try rw [show 0 * 6 = 0 from rfl] at Q7); (try rw [Addr.add_zero'] at Q7); (try rw [show ((0 : Int)).toNat = 0 from rfl] at Xv); (try rw [show 0 * 6 = 0 from rfl] at Xv); (try rw [Addr.add_zero'] at Xv); (try rw [show ((0 : Int)).toNat = 0 from rfl] at Xk); (try rw [show 0 * 6 = 0 from rfl] at Xk); (try rw [Addr.add_zero'] at Xk); (try rw [show ((0 : Int)).toNat = 0 from rfl] at Xy); (try rw [show 0 * 6 = 0 from rfl] at Xy); (try rw [Addr.add_zero'] at Xy); have pW := zy.mk Js; have av := zy.mk Jr; clear Js Jr; have pE := zy.mk Ju; have ak := zy.mk Jt; clear Ju Jt; have pF := zy.mk JB; have ay := zy.mk JA; clear JB JA; replace KJ := eq_true KJ; replace KV := eq_true KV) | ((with_reducible refine yI (f := 11) rfl ?_); refine je (some 12) Tryz.func11 #[.agg #[.string ((qB xU 0).f0), .bool ((qB xU 0).f1), .int .i64 ((qB xU 0).f2), .slice zzj ((qB xU 0).f3).length zzv, .slice zzk ((qB xU 0).f4).length zzy, .slice zzw ((qB xU 0).f5).length zzZ], .string (⟨#[109]⟩ : ByteArray), .int .i64 10] ?_; (with_reducible refine (wY.calls ((qB xU 0).f0) ((qB xU 0).f1) ((qB xU 0).f2) _ _ ((qB xU 0).f3) _ _ ((qB xU 0).f4) _ _ ((qB xU 0).f5) (⟨#[109]⟩ : ByteArray) 10 Ws zkL _ ?qd ?qC ?uJ ?uV ?jE ?jF ?pz A4.out).mono ?_); (case qd => repeat (first | exact (by repeat (first | (with_reducible exact pW.out) | (with_reducible refine Kd.yE ?_ _) | (with_reducible refine Kd.yF ?_ _) | (with_reducible refine Kd.y8 ?_) | exact pW.out)) | (with_reducible refine Kd.yE ?_ _) | (with_reducible refine Kd.yF ?_ _) | (with_reducible refine Kd.y8 ?_))); (case qC => exact av.out); (case uJ => repeat (first | exact (by repeat (first | (with_reducible exact pE.out) | (with_reducible refine Kd.yE ?_ _) | (with_reducible refine Kd.yF ?_ _) | (with_reducible refine Kd.y8 ?_) | exact pE.out)) | (with_reducible refine Kd.yE ?_ _) | (with_reducible refine Kd.yF ?_ _) | (with_reducible refine Kd.y8 ?_))); (case uV => exact ak.out); (case jE => repeat (first | exact (by repeat (first | (with_reducible exact pF.out) | (with_reducible refine Kd.yE ?_ _) | (with_reducible refine Kd.yF ?_ _) | (with_reducible refine Kd.y8 ?_) | exact pF.out)) | (with_reducible refine Kd.yE ?_ _) | (with_reducible refine Kd.yF ?_ _) | (with_reducible refine Kd.y8 ?_))); (case jF => exact ay.out); (case pz => exact GW.under HG.out (yX HB.out)); rintro e w8 ⟨rfl, hb⟩; refine ⟨_, rfl, ?_⟩; have zn := zy.mk (Kd.Jf (by (with_reducible repeat (first | apply Kd.zzR | apply Kd.zzS | apply Kd.zj8)); exact Zm.out) hb); have zA := zy.mk (Kd.zR (yK Vq.out) hb); have zH := zy.mk (Kd.zR (yK Vx.out) hb); have zP := zy.mk (Kd.zR (yK Vj.out) hb); have qj := zy.mk (Kd.zh (by repeat (first | (with_reducible exact pW.out) | (with_reducible refine Kd.yE ?_ _) | (with_reducible refine Kd.yF ?_ _) | (with_reducible refine Kd.y8 ?_) | exact pW.out)) hb); have xw := zy.mk (Kd.zh (by repeat (first | (with_reducible exact pE.out) | (with_reducible refine Kd.yE ?_ _) | (with_reducible refine Kd.yF ?_ _) | (with_reducible refine Kd.y8 ?_) | exact pE.out)) hb); have xO := zy.mk (Kd.zh (by repeat (first | (with_reducible exact pF.out) | (with_reducible refine Kd.yE ?_ _) | (with_reducible refine Kd.yF ?_ _) | (with_reducible refine Kd.y8 ?_) | exact pF.out)) hb); have ug := zy.mk (yY (yX HB.out) hb); clear Zm; clear Vq; clear Vx; clear Vj; clear pW; clear pE; clear pF; clear HB; have Zm := zn; have Vq := zA; have Vx := zH; have Vj := zP; have pW := qj; have pE := xw; have pF := xO; have HB := ug; clear zn zA zH zP qj xw xO ug; (try clear hb); (try clear hb2); (try clear hk); (try clear hi)))
    go_ret
    exact ⟨by first | rfl | (simp [yZ, yQ] <;> rfl) | (simp [*, yZ, yQ] <;> rfl), by repeat (first | (with_reducible first | exact HB.out | apply yt | apply zM | apply yP) | exact HB.out)⟩
   ·rw [if_neg c5] at H
    have Ya : (Ws == 75) = false := beq_eq_false_iff_ne.mpr c5
    have tu : (Ws != 75) = true := bne_iff_ne.mpr c5
    obtain rfl := Option.some.inj H
    go_enter Tryz.func12, Tryz.ntmps12
    go_wp2_with (first | ((with_reducible refine yI (f := 13) rfl ?_); refine je (some 4) Tryz.func13 #[] ?_; (with_reducible refine (kQ.calls  xU _ ?qd A1.out).mono ?_); (case qd => exact GW.under HG.out (yX HB.out)); rintro e w9 ⟨zJi, rfl, ho0, hb⟩; refine ⟨_, rfl, ?_⟩; have zn := zy.mk (Kd.rH ho0 (zO (yX HB.out))); have zA := zy.mk (yY (yX HB.out) hb); clear HB; have Zm := zn; have HB := zA; clear zn zA; (try clear hb); (try clear hb2); (try clear hk); (try clear hi); (try clear ho0); obtain ⟨ziN, ziO, zao⟩ := Kd.rM Zm.out; subst zao; have KJ : 0 ≤ (0 : Int) := (by omega); have KV : 0 < (xU.length : Int) := of_decide_eq_true (by first | (with_reducible assumption) | assumption); obtain ⟨zKT, zzj, zzv, zzk, zzy, zzw, zzZ, e251, Q5, Q6, Q7, Xv, Xk, Xy, Jr, Js, Jt, Ju, JA, JB⟩ := zvv (Kd.J4 Zm.out).2.2 0 KJ KV; cases e251; obtain ⟨zKU, zzQ, zzX, Qm⟩ := Kd.zyp Zm.out z26 0 KJ (by first | exact KV | exact of_decide_eq_true (by first | (with_reducible assumption) | assumption) | (have e_ := (Kd.J4 Zm.out).1; omega)); obtain ⟨zZ2, zZ3, zZ4, rfl, Q8, Q9, Vz⟩ := fB zzX; have Z6 := Qm 3 _ rfl; rw [uf _ _ 3 (by omega)] at Z6; replace Z6 := Option.some.inj (Z6.symm.trans Xv); rw [Z6] at Q8; have Vq := zy.mk (show Kd.R uy 31 _ _ _ _ ((qB xU 0).f3) from Q8); clear Z6 Q8; have Z7 := Qm 4 _ rfl; rw [uf _ _ 4 (by omega)] at Z7; replace Z7 := Option.some.inj (Z7.symm.trans Xk); rw [Z7] at Q9; have Vx := zy.mk (show Kd.R uU 86 _ _ _ _ ((qB xU 0).f4) from Q9); clear Z7 Q9; have Z8 := Qm 5 _ rfl; rw [uf _ _ 5 (by omega)] at Z8; replace Z8 := Option.some.inj (Z8.symm.trans Xy); rw [Z8] at Vz; have Vj := zy.mk (show Kd.R jy 76 _ _ _ _ ((qB xU 0).f5) from Vz); clear Z8 Vz; clear Qm zzQ; have zK0 : (0 < xU.length) = True := eq_true (by omega); (try rw [show ((0 : Int)).toNat = 0 from rfl] at Q5); (try rw [show 0 * 6 = 0 from rfl] at Q5); (try rw [Addr.add_zero'] at Q5); (try rw [show ((0 : Int)).toNat = 0 from rfl] at Q6); (try rw [show 0 * 6 = 0 from rfl] at Q6); (try rw [Addr.add_zero'] at Q6); (try rw [show ((0 : Int)).toNat = 0 from rfl] at Q7); (try rw [show 0 * 6 = 0 from rfl] at Q7); (try rw [Addr.add_zero'] at Q7); (try rw [show ((0 : Int)).toNat = 0 from rfl] at Xv); (try rw [show 0 * 6 = 0 from rfl] at Xv); (try rw [Addr.add_zero'] at Xv); (try rw [show ((0 : Int)).toNat = 0 from rfl] at Xk); (try rw [show 0 * 6 = 0 from rfl] at Xk); (try rw [Addr.add_zero'] at Xk); (try rw [show ((0 : Int)).toNat = 0 from rfl] at Xy); (try rw [show 0 * 6 = 0 from rfl] at Xy); (try rw [Addr.add_zero'] at Xy); have pW := zy.mk Js; have av := zy.mk Jr; clear Js Jr; have pE := zy.mk Ju; have ak := zy.mk Jt; clear Ju Jt; have pF := zy.mk JB; have ay := zy.mk JA; clear JB JA; replace KJ := eq_true KJ; replace KV := eq_true KV) | ((with_reducible refine yI (f := 11) rfl ?_); refine je (some 12) Tryz.func11 #[.agg #[.string ((qB xU 0).f0), .bool ((qB xU 0).f1), .int .i64 ((qB xU 0).f2), .slice zzj ((qB xU 0).f3).length zzv, .slice zzk ((qB xU 0).f4).length zzy, .slice zzw ((qB xU 0).f5).length zzZ], .string (⟨#[109]⟩ : ByteArray), .int .i64 10] ?_; (with_reducible refine (wY.calls ((qB xU 0).f0) ((qB xU 0).f1) ((qB xU 0).f2) _ _ ((qB xU 0).f3) _ _ ((qB xU 0).f4) _ _ ((qB xU 0).f5) (⟨#[109]⟩ : ByteArray) 10 Ws zkL _ ?qd ?qC ?uJ ?uV ?jE ?jF ?pz A4.out).mono ?_); (case qd => repeat (first | exact (by repeat (first | (with_reducible exact pW.out) | (with_reducible refine Kd.yE ?_ _) | (with_reducible refine Kd.yF ?_ _) | (with_reducible refine Kd.y8 ?_) | exact pW.out)) | (with_reducible refine Kd.yE ?_ _) | (with_reducible refine Kd.yF ?_ _) | (with_reducible refine Kd.y8 ?_))); (case qC => exact av.out); (case uJ => repeat (first | exact (by repeat (first | (with_reducible exact pE.out) | (with_reducible refine Kd.yE ?_ _) | (with_reducible refine Kd.yF ?_ _) | (with_reducible refine Kd.y8 ?_) | exact pE.out)) | (with_reducible refine Kd.yE ?_ _) | (with_reducible refine Kd.yF ?_ _) | (with_reducible refine Kd.y8 ?_))); (case uV => exact ak.out); (case jE => repeat (first | exact (by repeat (first | (with_reducible exact pF.out) | (with_reducible refine Kd.yE ?_ _) | (with_reducible refine Kd.yF ?_ _) | (with_reducible refine Kd.y8 ?_) | exact pF.out)) | (with_reducible refine Kd.yE ?_ _) | (with_reducible refine Kd.yF ?_ _) | (with_reducible refine Kd.y8 ?_))); (case jF => exact ay.out); (case pz => exact GW.under HG.out (yX HB.out)); rintro e Xr ⟨rfl, hb⟩; refine ⟨_, rfl, ?_⟩; have zn := zy.mk (Kd.Jf (by (with_reducible repeat (first | apply Kd.zzR | apply Kd.zzS | apply Kd.zj8)); exact Zm.out) hb); have zA := zy.mk (Kd.zR (yK Vq.out) hb); have zH := zy.mk (Kd.zR (yK Vx.out) hb); have zP := zy.mk (Kd.zR (yK Vj.out) hb); have qj := zy.mk (Kd.zh (by repeat (first | (with_reducible exact pW.out) | (with_reducible refine Kd.yE ?_ _) | (with_reducible refine Kd.yF ?_ _) | (with_reducible refine Kd.y8 ?_) | exact pW.out)) hb); have xw := zy.mk (Kd.zh (by repeat (first | (with_reducible exact pE.out) | (with_reducible refine Kd.yE ?_ _) | (with_reducible refine Kd.yF ?_ _) | (with_reducible refine Kd.y8 ?_) | exact pE.out)) hb); have xO := zy.mk (Kd.zh (by repeat (first | (with_reducible exact pF.out) | (with_reducible refine Kd.yE ?_ _) | (with_reducible refine Kd.yF ?_ _) | (with_reducible refine Kd.y8 ?_) | exact pF.out)) hb); have ug := zy.mk (yY (yX HB.out) hb); clear Zm; clear Vq; clear Vx; clear Vj; clear pW; clear pE; clear pF; clear HB; have Zm := zn; have Vq := zA; have Vx := zH; have Vj := zP; have pW := qj; have pE := xw; have pF := xO; have HB := ug; clear zn zA zH zP qj xw xO ug; (try clear hb); (try clear hb2); (try clear hk); (try clear hi)))
    go_ret
    exact ⟨by first | rfl | (simp [yZ, yQ] <;> rfl) | (simp [*, yZ, yQ] <;> rfl), by repeat (first | (with_reducible first | exact HB.out | apply yt | apply zM | apply yP) | exact HB.out)⟩
  ·rw [if_neg c3] at H
   exact absurd H (by simp)
 ·rw [if_neg c2] at H
  have Wh : ((xU.length : Int) == 5) = false := beq_eq_false_iff_ne.mpr c2
  have zan : ((xU.length : Int) != 5) = true := bne_iff_ne.mpr c2
  obtain rfl := Option.some.inj H
  go_enter Tryz.func12, Tryz.ntmps12
  go_wp2_with (first | ((with_reducible refine yI (f := 13) rfl ?_); refine je (some 4) Tryz.func13 #[] ?_; (with_reducible refine (kQ.calls  xU _ ?qd A1.out).mono ?_); (case qd => exact GW.under HG.out (yX HB.out)); rintro e jm ⟨zJi, rfl, ho0, hb⟩; refine ⟨_, rfl, ?_⟩; have zn := zy.mk (Kd.rH ho0 (zO (yX HB.out))); have zA := zy.mk (yY (yX HB.out) hb); clear HB; have Zm := zn; have HB := zA; clear zn zA; (try clear hb); (try clear hb2); (try clear hk); (try clear hi); (try clear ho0); obtain ⟨Qb, Qc, zky⟩ := Kd.rM Zm.out; subst zky))
  go_ret
  exact ⟨by first | rfl | (simp [yZ, yQ] <;> rfl) | (simp [*, yZ, yQ] <;> rfl), by repeat (first | (with_reducible first | exact HB.out | apply yt | apply zM | apply yP) | exact HB.out)⟩
end Go.Proofs.YtaifemkokfoadaaGreatDoor.PX
namespace Go.Proofs.YtaifemkokfoadaaGreatDoor.PX
open Go.RowKit Go.Proofs.zx.zK Go.Proofs.zx.zU Go.Proofs.zx.zN
attribute [local go_sem] qF qG xC xD qY qW qH qI   -- for this text's walks alone
set_option linter.unusedVariables false
set_option linter.unusedSimpArgs false
theorem zK1 (d : Nat) (w : World) (x0 y0 : ByteArray) (x1 y1 : Int) :
  (Op.equalIn (d + 2) 81 (.agg #[.string x0, .int .i64 x1]) (.agg #[.string y0, .int .i64 y1])).run Tryz.prog w = .ok (x0.toList == y0.toList && (x1 == y1)) w := by
 refine Jg Tryz.underlying81 (by kernel_rfl) ?_
 refine ZB (by rfl) (by go_simp; rfl) (by go_simp; rfl) (by go_simp) ?_
 exact QL (by rfl) (by go_simp; rfl) (by go_simp; rfl) (by go_simp)
end Go.Proofs.YtaifemkokfoadaaGreatDoor.PX
namespace Go.Proofs.YtaifemkokfoadaaGreatDoor.PX
open Go.RowKit Go.Proofs.zx.zK Go.Proofs.zx.zU Go.Proofs.zx.zN
attribute [local go_sem] qF qG xC xD qY qW qH qI   -- for this text's walks alone
set_option linter.unusedVariables false
set_option linter.unusedSimpArgs false
theorem zK2 (d : Nat) (w : World) (x0 y0 : ByteArray) (x1 y1 : ByteArray) (x2 y2 : ByteArray) :
  (Op.equalIn (d + 2) 83 (.agg #[.string x0, .string x1, .string x2]) (.agg #[.string y0, .string y1, .string y2])).run Tryz.prog w = .ok (x0.toList == y0.toList && (x1.toList == y1.toList && (x2.toList == y2.toList))) w := by
 refine Jg Tryz.underlying83 (by kernel_rfl) ?_
 refine ZB (by rfl) (by go_simp; rfl) (by go_simp; rfl) (by go_simp) ?_
 refine ZB (by rfl) (by go_simp; rfl) (by go_simp; rfl) (by go_simp) ?_
 exact QL (by rfl) (by go_simp; rfl) (by go_simp; rfl) (by go_simp)
end Go.Proofs.YtaifemkokfoadaaGreatDoor.PX
namespace Go.Proofs.YtaifemkokfoadaaGreatDoor.PX
open Go.RowKit Go.Proofs.zx.zK Go.Proofs.zx.zU Go.Proofs.zx.zN
attribute [local go_sem] qF qG xC xD qY qW qH qI   -- for this text's walks alone
set_option linter.unusedVariables false
set_option linter.unusedSimpArgs false
theorem zK3 (d : Nat) (w : World) (x0 y0 : ByteArray) (x1 y1 : ByteArray) (x2 y2 : Int) :
  (Op.equalIn (d + 2) 84 (.agg #[.string x0, .string x1, .int .i64 x2]) (.agg #[.string y0, .string y1, .int .i64 y2])).run Tryz.prog w = .ok (x0.toList == y0.toList && (x1.toList == y1.toList && (x2 == y2))) w := by
 refine Jg Tryz.underlying84 (by kernel_rfl) ?_
 refine ZB (by rfl) (by go_simp; rfl) (by go_simp; rfl) (by go_simp) ?_
 refine ZB (by rfl) (by go_simp; rfl) (by go_simp; rfl) (by go_simp) ?_
 exact QL (by rfl) (by go_simp; rfl) (by go_simp; rfl) (by go_simp)
end Go.Proofs.YtaifemkokfoadaaGreatDoor.PX
namespace Go.Proofs.YtaifemkokfoadaaGreatDoor.PX
open Go.RowKit Go.Proofs.zx.zK Go.Proofs.zx.zU Go.Proofs.zx.zN
attribute [local go_sem] qF qG xC xD qY qW qH qI   -- for this text's walks alone
set_option linter.unusedVariables false
set_option linter.unusedSimpArgs false
attribute [local go_sem high] zK1 zK2 zK3
end Go.Proofs.YtaifemkokfoadaaGreatDoor.PX
namespace Go.Proofs.YtaifemkokfoadaaGreatDoor.PX
open Go.RowKit Go.Proofs.zx.zK Go.Proofs.zx.zU Go.Proofs.zx.zN
attribute [local go_sem] qF qG xC xD qY qW qH qI   -- for this text's walks alone
set_option linter.unusedVariables false
set_option linter.unusedSimpArgs false
end Go.Proofs.YtaifemkokfoadaaGreatDoor.PX
namespace Go.Proofs.YtaifemkokfoadaaGreatDoor.PX
open Go.RowKit Go.Proofs.zx.zK Go.Proofs.zx.zU Go.Proofs.zx.zN
attribute [local go_sem] qF qG xC xD qY qW qH qI   -- for this text's walks alone
set_option linter.unusedVariables false
set_option linter.unusedSimpArgs false
theorem zK4 (d : Nat) (w : World) (x0 y0 : ByteArray) (x1 y1 : Int) :
  (Op.equalIn (d + 2) 31 (.agg #[.string x0, .int .i64 x1]) (.agg #[.string y0, .int .i64 y1])).run Tryz.prog w = .ok (x0.toList == y0.toList && (x1 == y1)) w := by
 refine Jg Tryz.underlying31 (by kernel_rfl) ?_
 refine ZB (by rfl) (by go_simp; rfl) (by go_simp; rfl) (by go_simp) ?_
 exact QL (by rfl) (by go_simp; rfl) (by go_simp; rfl) (by go_simp)
end Go.Proofs.YtaifemkokfoadaaGreatDoor.PX
namespace Go.Proofs.YtaifemkokfoadaaGreatDoor.PX
open Go.RowKit Go.Proofs.zx.zK Go.Proofs.zx.zU Go.Proofs.zx.zN
attribute [local go_sem] qF qG xC xD qY qW qH qI   -- for this text's walks alone
set_option linter.unusedVariables false
set_option linter.unusedSimpArgs false
attribute [local go_sem high] zK4
def vF.l0 : Nat → List (qw) → List (qw) → Int → Int → Option (Bool)
 | 0, _, _, _, _ => none
 | k + 1, x0, x1, eD, wo => if wo < eD then (if 0 ≤ wo then (if wo < (x0.length : Int) then (if wo < (x1.length : Int) then (if (!((((qV x0 wo).f0).toList) == (((qV x1 wo).f0).toList)) || (!(((qV x0 wo).f1) == ((qV x1 wo).f1)))) = true then (some false) else (vF.l0 k x0 x1 eD (wrap64 (wo + 1)))) else (none)) else (none)) else (none)) else (some true)
def vF.f (k : Nat) (l0 : List (qw)) (l1 : List (qw)) : Option (Bool) := if (l0.length : Int) = (l1.length : Int) then (vF.l0 k l0 l1 (l0.length : Int) 0) else (some false)
set_option maxHeartbeats 8000000 in
set_option maxRecDepth 100000 in
theorem vF.calls (k : Nat) (A0 : Option Addr) (c0 : Nat) (l0 : List (qw)) (A1 : Option Addr) (c1 : Nat) (l1 : List (qw)) (r : Bool) (w : World) (hr0 : Kd.C uy w A0 l0.length l0) (hc0 : l0.length ≤ c0) (hr1 : Kd.C uy w A1 l1.length l1) (hc1 : l1.length ≤ c1) (h : vF.f k l0 l1 = some r) :
  Calls Tryz.prog 58 #[.slice A0 l0.length c0, .slice A1 l1.length c1] w fun e w' => e = .returned (.bool r) ∧ z8 w w' := by
 have ziP := Tryz.underlying31
 have kF := zy.mk hr0
 have YO := zy.mk hc0
 clear hr0 hc0
 have HR1 := zy.mk hr1
 have HC1 := zy.mk hc1
 clear hr1 hc1
 have H : (if (l0.length : Int) = (l1.length : Int) then (vF.l0 k l0 l1 (l0.length : Int) 0) else (some false)) = some r := h
 clear h
 by_cases c3 : (l0.length : Int) = (l1.length : Int)
 ·rw [if_pos c3] at H
  have kC : ((l0.length : Int) == (l1.length : Int)) = true := beq_iff_eq.mpr c3
  have Xg : ((l0.length : Int) != (l1.length : Int)) = false := bne_eq_false_iff_eq.mpr c3
  have Wt : (l0.length == l1.length) = true := by first | simpa using c3 | (simp at c3 ⊢; omega)
  clear c3
  have H' := zy.mk H
  clear H
  go_enter Tryz.func58, Tryz.ntmps58
  go_wp2
  repeat (go_quiet (fail); try go_wp2)
  go_loopg [13] k (fun kq v13 w' => ∃ (yJ : Int), v13 = .int .i64 yJ ∧ zy (vF.l0 kq l0 l1 (l0.length : Int) yJ = some r) ∧ zy (kq ≤ k) ∧ z8 w w')
  case atStart => exact ⟨(0), (by first | rfl | (simp; done) | (simp [*]; done)), H', ⟨Nat.le_refl _⟩, by repeat (first | exact z8.refl _ | apply z8.step)⟩
  case round =>
   clear H'
   try clear c1
   try clear p2
   try clear c3
   try clear kC
   try clear Xg
   try clear Wt
   obtain ⟨yJ, rfl, HA, vT, ⟨m1, rfl⟩⟩ := hrel
   cases gk with
   | zero => exact absurd HA.out (by simp [vF.l0])
   | succ k1 =>
    have H := HA.out
    clear HA
    simp only [vF.l0] at H
    by_cases c4 : yJ < (l0.length : Int)
    ·rw [if_pos c4] at H
     have ZC : decide (yJ < (l0.length : Int)) = true := decide_eq_true c4
     clear c4
     by_cases c5 : 0 ≤ yJ
     ·rw [if_pos c5] at H
      have Ya : decide (0 ≤ yJ) = true := decide_eq_true c5
      clear c5
      by_cases c6 : yJ < (l0.length : Int)
      ·rw [if_pos c6] at H
       have Xf : decide (yJ < (l0.length : Int)) = true := decide_eq_true c6
       clear c6
       by_cases c7 : yJ < (l1.length : Int)
       ·rw [if_pos c7] at H
        have QN : decide (yJ < (l1.length : Int)) = true := decide_eq_true c7
        clear c7
        by_cases c8 : (!((((qV l0 yJ).f0).toList) == (((qV l1 yJ).f0).toList)) || (!(((qV l0 yJ).f1) == ((qV l1 yJ).f1)))) = true
        ·rw [if_pos c8] at H
         have Y0 : (!((((qV l0 yJ).f0).toList) == (((qV l1 yJ).f0).toList)) || (!(((qV l0 yJ).f1) == ((qV l1 yJ).f1)))) = true := c8
         clear c8
         obtain rfl := Option.some.inj H
         have dJ : 0 ≤ (yJ : Int) := of_decide_eq_true (by first | (with_reducible assumption) | assumption)
         have dV : yJ < (l0.length : Int) := of_decide_eq_true (by first | (with_reducible assumption) | assumption)
         obtain ⟨zK5, e295, zZ5, zZ6⟩ := YM kF.out yJ dJ dV
         cases e295
         replace dJ := eq_true dJ
         replace dV := eq_true dV
         have dK : 0 ≤ (yJ : Int) := of_decide_eq_true (by first | (with_reducible assumption) | assumption)
         have dY : yJ < (l1.length : Int) := of_decide_eq_true (by first | (with_reducible assumption) | assumption)
         obtain ⟨zK6, e296, zZ7, zZ8⟩ := YM HR1.out yJ dK dY
         cases e296
         replace dK := eq_true dK
         replace dY := eq_true dY
         go_wp2
         repeat (go_quiet (fail); try go_wp2)
         go_ret
         exact ⟨by first | rfl | (simp; done) | (simp [*]; done), by repeat (first | exact z8.refl _ | apply z8.step)⟩
        ·rw [if_neg c8] at H
         have Y0 : (!((((qV l0 yJ).f0).toList) == (((qV l1 yJ).f0).toList)) || (!(((qV l0 yJ).f1) == ((qV l1 yJ).f1)))) = false := by simpa using c8
         clear c8
         have H' := zy.mk H
         clear H
         have dJ : 0 ≤ (yJ : Int) := of_decide_eq_true (by first | (with_reducible assumption) | assumption)
         have dV : yJ < (l0.length : Int) := of_decide_eq_true (by first | (with_reducible assumption) | assumption)
         obtain ⟨zK5, e295, zZ5, zZ6⟩ := YM kF.out yJ dJ dV
         cases e295
         replace dJ := eq_true dJ
         replace dV := eq_true dV
         have dK : 0 ≤ (yJ : Int) := of_decide_eq_true (by first | (with_reducible assumption) | assumption)
         have dY : yJ < (l1.length : Int) := of_decide_eq_true (by first | (with_reducible assumption) | assumption)
         obtain ⟨zK6, e296, zZ7, zZ8⟩ := YM HR1.out yJ dK dY
         cases e296
         replace dK := eq_true dK
         replace dY := eq_true dY
         go_wp2
         repeat (go_quiet (fail); try go_wp2)
         go_roundg k1
         case measure => have := vT.out; omega
         case rel => exact ⟨(wrap64 (yJ + 1)), (by first | rfl | (simp; done) | (simp [*]; done)), H', ⟨by have := vT.out; omega⟩, by repeat (first | exact z8.refl _ | apply z8.step)⟩
       ·rw [if_neg c7] at H
        exact absurd H (by simp)
      ·rw [if_neg c6] at H
       exact absurd H (by simp)
     ·rw [if_neg c5] at H
      exact absurd H (by simp)
    ·rw [if_neg c4] at H
     have ZC : decide (yJ < (l0.length : Int)) = false := decide_eq_false c4
     clear c4
     obtain rfl := Option.some.inj H
     go_wp2
     repeat (go_quiet (fail); try go_wp2)
     go_ret
     exact ⟨by first | rfl | (simp; done) | (simp [*]; done), by repeat (first | exact z8.refl _ | apply z8.step)⟩
 ·rw [if_neg c3] at H
  have kC : ((l0.length : Int) == (l1.length : Int)) = false := beq_eq_false_iff_ne.mpr c3
  have Xg : ((l0.length : Int) != (l1.length : Int)) = true := bne_iff_ne.mpr c3
  have Wt : (l0.length == l1.length) = false := by first | simpa using c3 | (simp at c3 ⊢; omega)
  obtain rfl := Option.some.inj H
  go_enter Tryz.func58, Tryz.ntmps58
  go_wp2
  repeat (go_quiet (fail); try go_wp2)
  go_ret
  exact ⟨by first | rfl | (simp; done) | (simp [*]; done), by repeat (first | exact z8.refl _ | apply z8.step)⟩
end Go.Proofs.YtaifemkokfoadaaGreatDoor.PX
namespace Go.Proofs.YtaifemkokfoadaaGreatDoor.PX
open Go.RowKit Go.Proofs.zx.zK Go.Proofs.zx.zU Go.Proofs.zx.zN
attribute [local go_sem] qF qG xC xD qY qW qH qI   -- for this text's walks alone
set_option linter.unusedVariables false
set_option linter.unusedSimpArgs false
theorem zK7 (d : Nat) (w : World) (x0 y0 : ByteArray) (x1 y1 : ByteArray) (x2 y2 : ByteArray) :
  (Op.equalIn (d + 2) 86 (.agg #[.string x0, .string x1, .string x2]) (.agg #[.string y0, .string y1, .string y2])).run Tryz.prog w = .ok (x0.toList == y0.toList && (x1.toList == y1.toList && (x2.toList == y2.toList))) w := by
 refine Jg Tryz.underlying86 (by kernel_rfl) ?_
 refine ZB (by rfl) (by go_simp; rfl) (by go_simp; rfl) (by go_simp) ?_
 refine ZB (by rfl) (by go_simp; rfl) (by go_simp; rfl) (by go_simp) ?_
 exact QL (by rfl) (by go_simp; rfl) (by go_simp; rfl) (by go_simp)
end Go.Proofs.YtaifemkokfoadaaGreatDoor.PX
namespace Go.Proofs.YtaifemkokfoadaaGreatDoor.PX
open Go.RowKit Go.Proofs.zx.zK Go.Proofs.zx.zU Go.Proofs.zx.zN
attribute [local go_sem] qF qG xC xD qY qW qH qI   -- for this text's walks alone
set_option linter.unusedVariables false
set_option linter.unusedSimpArgs false
attribute [local go_sem high] zK7
def uK.l0 : Nat → List (qh) → List (qh) → Int → Int → Option (Bool)
 | 0, _, _, _, _ => none
 | k + 1, x0, x1, eD, wo => if wo < eD then (if 0 ≤ wo then (if wo < (x0.length : Int) then (if wo < (x1.length : Int) then (if (!((((qO x0 wo).f0).toList) == (((qO x1 wo).f0).toList)) || (!((((qO x0 wo).f1).toList) == (((qO x1 wo).f1).toList)) || (!((((qO x0 wo).f2).toList) == (((qO x1 wo).f2).toList))))) = true then (some false) else (uK.l0 k x0 x1 eD (wrap64 (wo + 1)))) else (none)) else (none)) else (none)) else (some true)
def uK.f (k : Nat) (l0 : List (qh)) (l1 : List (qh)) : Option (Bool) := if (l0.length : Int) = (l1.length : Int) then (uK.l0 k l0 l1 (l0.length : Int) 0) else (some false)
set_option maxHeartbeats 8000000 in
set_option maxRecDepth 100000 in
theorem uK.calls (k : Nat) (A0 : Option Addr) (c0 : Nat) (l0 : List (qh)) (A1 : Option Addr) (c1 : Nat) (l1 : List (qh)) (r : Bool) (w : World) (hr0 : Kd.C uU w A0 l0.length l0) (hc0 : l0.length ≤ c0) (hr1 : Kd.C uU w A1 l1.length l1) (hc1 : l1.length ≤ c1) (h : uK.f k l0 l1 = some r) :
  Calls Tryz.prog 59 #[.slice A0 l0.length c0, .slice A1 l1.length c1] w fun e w' => e = .returned (.bool r) ∧ z8 w w' := by
 have zWL := Tryz.underlying86
 have kF := zy.mk hr0
 have YO := zy.mk hc0
 clear hr0 hc0
 have HR1 := zy.mk hr1
 have HC1 := zy.mk hc1
 clear hr1 hc1
 have H : (if (l0.length : Int) = (l1.length : Int) then (uK.l0 k l0 l1 (l0.length : Int) 0) else (some false)) = some r := h
 clear h
 by_cases c3 : (l0.length : Int) = (l1.length : Int)
 ·rw [if_pos c3] at H
  have kC : ((l0.length : Int) == (l1.length : Int)) = true := beq_iff_eq.mpr c3
  have Xg : ((l0.length : Int) != (l1.length : Int)) = false := bne_eq_false_iff_eq.mpr c3
  have Wt : (l0.length == l1.length) = true := by first | simpa using c3 | (simp at c3 ⊢; omega)
  clear c3
  have H' := zy.mk H
  clear H
  go_enter Tryz.func59, Tryz.ntmps59
  go_wp2
  repeat (go_quiet (fail); try go_wp2)
  go_loopg [13] k (fun kq v13 w' => ∃ (yJ : Int), v13 = .int .i64 yJ ∧ zy (uK.l0 kq l0 l1 (l0.length : Int) yJ = some r) ∧ zy (kq ≤ k) ∧ z8 w w')
  case atStart => exact ⟨(0), (by first | rfl | (simp; done) | (simp [*]; done)), H', ⟨Nat.le_refl _⟩, by repeat (first | exact z8.refl _ | apply z8.step)⟩
  case round =>
   clear H'
   try clear c1
   try clear p2
   try clear c3
   try clear kC
   try clear Xg
   try clear Wt
   obtain ⟨yJ, rfl, HA, vT, ⟨m1, rfl⟩⟩ := hrel
   cases gk with
   | zero => exact absurd HA.out (by simp [uK.l0])
   | succ k1 =>
    have H := HA.out
    clear HA
    simp only [uK.l0] at H
    by_cases c4 : yJ < (l0.length : Int)
    ·rw [if_pos c4] at H
     have ZC : decide (yJ < (l0.length : Int)) = true := decide_eq_true c4
     clear c4
     by_cases c5 : 0 ≤ yJ
     ·rw [if_pos c5] at H
      have Ya : decide (0 ≤ yJ) = true := decide_eq_true c5
      clear c5
      by_cases c6 : yJ < (l0.length : Int)
      ·rw [if_pos c6] at H
       have Xf : decide (yJ < (l0.length : Int)) = true := decide_eq_true c6
       clear c6
       by_cases c7 : yJ < (l1.length : Int)
       ·rw [if_pos c7] at H
        have QN : decide (yJ < (l1.length : Int)) = true := decide_eq_true c7
        clear c7
        by_cases c8 : (!((((qO l0 yJ).f0).toList) == (((qO l1 yJ).f0).toList)) || (!((((qO l0 yJ).f1).toList) == (((qO l1 yJ).f1).toList)) || (!((((qO l0 yJ).f2).toList) == (((qO l1 yJ).f2).toList))))) = true
        ·rw [if_pos c8] at H
         have Y0 : (!((((qO l0 yJ).f0).toList) == (((qO l1 yJ).f0).toList)) || (!((((qO l0 yJ).f1).toList) == (((qO l1 yJ).f1).toList)) || (!((((qO l0 yJ).f2).toList) == (((qO l1 yJ).f2).toList))))) = true := c8
         clear c8
         obtain rfl := Option.some.inj H
         have dW : 0 ≤ (yJ : Int) := of_decide_eq_true (by first | (with_reducible assumption) | assumption)
         have dh : yJ < (l0.length : Int) := of_decide_eq_true (by first | (with_reducible assumption) | assumption)
         obtain ⟨zK8, e297, zZ9, zQz, zQq⟩ := Vh kF.out yJ dW dh
         cases e297
         replace dW := eq_true dW
         replace dh := eq_true dh
         have dn : 0 ≤ (yJ : Int) := of_decide_eq_true (by first | (with_reducible assumption) | assumption)
         have dD : yJ < (l1.length : Int) := of_decide_eq_true (by first | (with_reducible assumption) | assumption)
         obtain ⟨zK9, e298, zQx, zQj, zQv⟩ := Vh HR1.out yJ dn dD
         cases e298
         replace dn := eq_true dn
         replace dD := eq_true dD
         go_wp2
         repeat (go_quiet (fail); try go_wp2)
         go_ret
         exact ⟨by first | rfl | (simp; done) | (simp [*]; done), by repeat (first | exact z8.refl _ | apply z8.step)⟩
        ·rw [if_neg c8] at H
         have Y0 : (!((((qO l0 yJ).f0).toList) == (((qO l1 yJ).f0).toList)) || (!((((qO l0 yJ).f1).toList) == (((qO l1 yJ).f1).toList)) || (!((((qO l0 yJ).f2).toList) == (((qO l1 yJ).f2).toList))))) = false := by simpa using c8
         clear c8
         have H' := zy.mk H
         clear H
         have dW : 0 ≤ (yJ : Int) := of_decide_eq_true (by first | (with_reducible assumption) | assumption)
         have dh : yJ < (l0.length : Int) := of_decide_eq_true (by first | (with_reducible assumption) | assumption)
         obtain ⟨zK8, e297, zZ9, zQz, zQq⟩ := Vh kF.out yJ dW dh
         cases e297
         replace dW := eq_true dW
         replace dh := eq_true dh
         have dn : 0 ≤ (yJ : Int) := of_decide_eq_true (by first | (with_reducible assumption) | assumption)
         have dD : yJ < (l1.length : Int) := of_decide_eq_true (by first | (with_reducible assumption) | assumption)
         obtain ⟨zK9, e298, zQx, zQj, zQv⟩ := Vh HR1.out yJ dn dD
         cases e298
         replace dn := eq_true dn
         replace dD := eq_true dD
         go_wp2
         repeat (go_quiet (fail); try go_wp2)
         go_roundg k1
         case measure => have := vT.out; omega
         case rel => exact ⟨(wrap64 (yJ + 1)), (by first | rfl | (simp; done) | (simp [*]; done)), H', ⟨by have := vT.out; omega⟩, by repeat (first | exact z8.refl _ | apply z8.step)⟩
       ·rw [if_neg c7] at H
        exact absurd H (by simp)
      ·rw [if_neg c6] at H
       exact absurd H (by simp)
     ·rw [if_neg c5] at H
      exact absurd H (by simp)
    ·rw [if_neg c4] at H
     have ZC : decide (yJ < (l0.length : Int)) = false := decide_eq_false c4
     clear c4
     obtain rfl := Option.some.inj H
     go_wp2
     repeat (go_quiet (fail); try go_wp2)
     go_ret
     exact ⟨by first | rfl | (simp; done) | (simp [*]; done), by repeat (first | exact z8.refl _ | apply z8.step)⟩
 ·rw [if_neg c3] at H
  have kC : ((l0.length : Int) == (l1.length : Int)) = false := beq_eq_false_iff_ne.mpr c3
  have Xg : ((l0.length : Int) != (l1.length : Int)) = true := bne_iff_ne.mpr c3
  have Wt : (l0.length == l1.length) = false := by first | simpa using c3 | (simp at c3 ⊢; omega)
  obtain rfl := Option.some.inj H
  go_enter Tryz.func59, Tryz.ntmps59
  go_wp2
  repeat (go_quiet (fail); try go_wp2)
  go_ret
  exact ⟨by first | rfl | (simp; done) | (simp [*]; done), by repeat (first | exact z8.refl _ | apply z8.step)⟩
end Go.Proofs.YtaifemkokfoadaaGreatDoor.PX
namespace Go.Proofs.YtaifemkokfoadaaGreatDoor.PX
open Go.RowKit Go.Proofs.zx.zK Go.Proofs.zx.zU Go.Proofs.zx.zN
attribute [local go_sem] qF qG xC xD qY qW qH qI   -- for this text's walks alone
set_option linter.unusedVariables false
set_option linter.unusedSimpArgs false
theorem zYz (d : Nat) (w : World) (x0 y0 : ByteArray) (x1 y1 : ByteArray) (x2 y2 : Int) :
  (Op.equalIn (d + 2) 76 (.agg #[.string x0, .string x1, .int .i64 x2]) (.agg #[.string y0, .string y1, .int .i64 y2])).run Tryz.prog w = .ok (x0.toList == y0.toList && (x1.toList == y1.toList && (x2 == y2))) w := by
 refine Jg Tryz.underlying76 (by kernel_rfl) ?_
 refine ZB (by rfl) (by go_simp; rfl) (by go_simp; rfl) (by go_simp) ?_
 refine ZB (by rfl) (by go_simp; rfl) (by go_simp; rfl) (by go_simp) ?_
 exact QL (by rfl) (by go_simp; rfl) (by go_simp; rfl) (by go_simp)
end Go.Proofs.YtaifemkokfoadaaGreatDoor.PX
namespace Go.Proofs.YtaifemkokfoadaaGreatDoor.PX
open Go.RowKit Go.Proofs.zx.zK Go.Proofs.zx.zU Go.Proofs.zx.zN
attribute [local go_sem] qF qG xC xD qY qW qH qI   -- for this text's walks alone
set_option linter.unusedVariables false
set_option linter.unusedSimpArgs false
attribute [local go_sem high] zYz
def vI.l0 : Nat → List (xq) → List (xq) → Int → Int → Option (Bool)
 | 0, _, _, _, _ => none
 | k + 1, x0, x1, eD, wo => if wo < eD then (if 0 ≤ wo then (if wo < (x0.length : Int) then (if wo < (x1.length : Int) then (if (!((((xk x0 wo).f0).toList) == (((xk x1 wo).f0).toList)) || (!((((xk x0 wo).f1).toList) == (((xk x1 wo).f1).toList)) || (!(((xk x0 wo).f2) == ((xk x1 wo).f2))))) = true then (some false) else (vI.l0 k x0 x1 eD (wrap64 (wo + 1)))) else (none)) else (none)) else (none)) else (some true)
def vI.f (k : Nat) (l0 : List (xq)) (l1 : List (xq)) : Option (Bool) := if (l0.length : Int) = (l1.length : Int) then (vI.l0 k l0 l1 (l0.length : Int) 0) else (some false)
set_option maxHeartbeats 8000000 in
set_option maxRecDepth 100000 in
theorem vI.calls (k : Nat) (A0 : Option Addr) (c0 : Nat) (l0 : List (xq)) (A1 : Option Addr) (c1 : Nat) (l1 : List (xq)) (r : Bool) (w : World) (hr0 : Kd.C jy w A0 l0.length l0) (hc0 : l0.length ≤ c0) (hr1 : Kd.C jy w A1 l1.length l1) (hc1 : l1.length ≤ c1) (h : vI.f k l0 l1 = some r) :
  Calls Tryz.prog 60 #[.slice A0 l0.length c0, .slice A1 l1.length c1] w fun e w' => e = .returned (.bool r) ∧ z8 w w' := by
 have ziR := Tryz.underlying76
 have kF := zy.mk hr0
 have YO := zy.mk hc0
 clear hr0 hc0
 have HR1 := zy.mk hr1
 have HC1 := zy.mk hc1
 clear hr1 hc1
 have H : (if (l0.length : Int) = (l1.length : Int) then (vI.l0 k l0 l1 (l0.length : Int) 0) else (some false)) = some r := h
 clear h
 by_cases c3 : (l0.length : Int) = (l1.length : Int)
 ·rw [if_pos c3] at H
  have kC : ((l0.length : Int) == (l1.length : Int)) = true := beq_iff_eq.mpr c3
  have Xg : ((l0.length : Int) != (l1.length : Int)) = false := bne_eq_false_iff_eq.mpr c3
  have Wt : (l0.length == l1.length) = true := by first | simpa using c3 | (simp at c3 ⊢; omega)
  clear c3
  have H' := zy.mk H
  clear H
  go_enter Tryz.func60, Tryz.ntmps60
  go_wp2
  repeat (go_quiet (fail); try go_wp2)
  go_loopg [13] k (fun kq v13 w' => ∃ (yJ : Int), v13 = .int .i64 yJ ∧ zy (vI.l0 kq l0 l1 (l0.length : Int) yJ = some r) ∧ zy (kq ≤ k) ∧ z8 w w')
  case atStart => exact ⟨(0), (by first | rfl | (simp; done) | (simp [*]; done)), H', ⟨Nat.le_refl _⟩, by repeat (first | exact z8.refl _ | apply z8.step)⟩
  case round =>
   clear H'
   try clear c1
   try clear p2
   try clear c3
   try clear kC
   try clear Xg
   try clear Wt
   obtain ⟨yJ, rfl, HA, vT, ⟨m1, rfl⟩⟩ := hrel
   cases gk with
   | zero => exact absurd HA.out (by simp [vI.l0])
   | succ k1 =>
    have H := HA.out
    clear HA
    simp only [vI.l0] at H
    by_cases c4 : yJ < (l0.length : Int)
    ·rw [if_pos c4] at H
     have ZC : decide (yJ < (l0.length : Int)) = true := decide_eq_true c4
     clear c4
     by_cases c5 : 0 ≤ yJ
     ·rw [if_pos c5] at H
      have Ya : decide (0 ≤ yJ) = true := decide_eq_true c5
      clear c5
      by_cases c6 : yJ < (l0.length : Int)
      ·rw [if_pos c6] at H
       have Xf : decide (yJ < (l0.length : Int)) = true := decide_eq_true c6
       clear c6
       by_cases c7 : yJ < (l1.length : Int)
       ·rw [if_pos c7] at H
        have QN : decide (yJ < (l1.length : Int)) = true := decide_eq_true c7
        clear c7
        by_cases c8 : (!((((xk l0 yJ).f0).toList) == (((xk l1 yJ).f0).toList)) || (!((((xk l0 yJ).f1).toList) == (((xk l1 yJ).f1).toList)) || (!(((xk l0 yJ).f2) == ((xk l1 yJ).f2))))) = true
        ·rw [if_pos c8] at H
         have Y0 : (!((((xk l0 yJ).f0).toList) == (((xk l1 yJ).f0).toList)) || (!((((xk l0 yJ).f1).toList) == (((xk l1 yJ).f1).toList)) || (!(((xk l0 yJ).f2) == ((xk l1 yJ).f2))))) = true := c8
         clear c8
         obtain rfl := Option.some.inj H
         have dF : 0 ≤ (yJ : Int) := of_decide_eq_true (by first | (with_reducible assumption) | assumption)
         have dG : yJ < (l0.length : Int) := of_decide_eq_true (by first | (with_reducible assumption) | assumption)
         obtain ⟨zYq, e299, zQk, zQy, zQw⟩ := Vi kF.out yJ dF dG
         cases e299
         replace dF := eq_true dF
         replace dG := eq_true dG
         have dH : 0 ≤ (yJ : Int) := of_decide_eq_true (by first | (with_reducible assumption) | assumption)
         have dI : yJ < (l1.length : Int) := of_decide_eq_true (by first | (with_reducible assumption) | assumption)
         obtain ⟨zYx, e300, zQZ, zQQ, zQX⟩ := Vi HR1.out yJ dH dI
         cases e300
         replace dH := eq_true dH
         replace dI := eq_true dI
         go_wp2
         repeat (go_quiet (fail); try go_wp2)
         go_ret
         exact ⟨by first | rfl | (simp; done) | (simp [*]; done), by repeat (first | exact z8.refl _ | apply z8.step)⟩
        ·rw [if_neg c8] at H
         have Y0 : (!((((xk l0 yJ).f0).toList) == (((xk l1 yJ).f0).toList)) || (!((((xk l0 yJ).f1).toList) == (((xk l1 yJ).f1).toList)) || (!(((xk l0 yJ).f2) == ((xk l1 yJ).f2))))) = false := by simpa using c8
         clear c8
         have H' := zy.mk H
         clear H
         have dF : 0 ≤ (yJ : Int) := of_decide_eq_true (by first | (with_reducible assumption) | assumption)
         have dG : yJ < (l0.length : Int) := of_decide_eq_true (by first | (with_reducible assumption) | assumption)
         obtain ⟨zYq, e299, zQk, zQy, zQw⟩ := Vi kF.out yJ dF dG
         cases e299
         replace dF := eq_true dF
         replace dG := eq_true dG
         have dH : 0 ≤ (yJ : Int) := of_decide_eq_true (by first | (with_reducible assumption) | assumption)
         have dI : yJ < (l1.length : Int) := of_decide_eq_true (by first | (with_reducible assumption) | assumption)
         obtain ⟨zYx, e300, zQZ, zQQ, zQX⟩ := Vi HR1.out yJ dH dI
         cases e300
         replace dH := eq_true dH
         replace dI := eq_true dI
         go_wp2
         repeat (go_quiet (fail); try go_wp2)
         go_roundg k1
         case measure => have := vT.out; omega
         case rel => exact ⟨(wrap64 (yJ + 1)), (by first | rfl | (simp; done) | (simp [*]; done)), H', ⟨by have := vT.out; omega⟩, by repeat (first | exact z8.refl _ | apply z8.step)⟩
       ·rw [if_neg c7] at H
        exact absurd H (by simp)
      ·rw [if_neg c6] at H
       exact absurd H (by simp)
     ·rw [if_neg c5] at H
      exact absurd H (by simp)
    ·rw [if_neg c4] at H
     have ZC : decide (yJ < (l0.length : Int)) = false := decide_eq_false c4
     clear c4
     obtain rfl := Option.some.inj H
     go_wp2
     repeat (go_quiet (fail); try go_wp2)
     go_ret
     exact ⟨by first | rfl | (simp; done) | (simp [*]; done), by repeat (first | exact z8.refl _ | apply z8.step)⟩
 ·rw [if_neg c3] at H
  have kC : ((l0.length : Int) == (l1.length : Int)) = false := beq_eq_false_iff_ne.mpr c3
  have Xg : ((l0.length : Int) != (l1.length : Int)) = true := bne_iff_ne.mpr c3
  have Wt : (l0.length == l1.length) = false := by first | simpa using c3 | (simp at c3 ⊢; omega)
  obtain rfl := Option.some.inj H
  go_enter Tryz.func60, Tryz.ntmps60
  go_wp2
  repeat (go_quiet (fail); try go_wp2)
  go_ret
  exact ⟨by first | rfl | (simp; done) | (simp [*]; done), by repeat (first | exact z8.refl _ | apply z8.step)⟩
end Go.Proofs.YtaifemkokfoadaaGreatDoor.PX
namespace Go.Proofs.YtaifemkokfoadaaGreatDoor.PX
open Go.RowKit Go.Proofs.zx.zK Go.Proofs.zx.zU Go.Proofs.zx.zN
attribute [local go_sem] qF qG xC xD qY qW qH qI   -- for this text's walks alone
set_option linter.unusedVariables false
set_option linter.unusedSimpArgs false
def Zn.f (k : Nat) (yU : ByteArray) (yS : Bool) (y7 : Int) (yw : List (qw)) (yA : List (qh)) (yu : List (xq)) (ZK : ByteArray) (wL : Bool) (ZY : Int) (Zz : List (qw)) (pX : List (qh)) (wM : List (xq)) : Option (Bool) := if yU.toList = ZK.toList then (if (yS == wL) = true then (if y7 = ZY then ((vF.f k yw Zz).bind fun Wu => (if Wu = true then ((uK.f k yA pX).bind fun VH => (if VH = true then ((vI.f k yu wM).bind fun Xh => (some Xh)) else (some false))) else (some false))) else (some false)) else (some false)) else (some false)
set_option maxHeartbeats 8000000 in
set_option maxRecDepth 100000 in
theorem Zn.calls (k : Nat) (yU : ByteArray) (yS : Bool) (y7 : Int) (qU : Option Addr) (q9 : Nat) (yw : List (qw)) (xZ : Option Addr) (xQ : Nat) (yA : List (qh)) (xX : Option Addr) (xJ : Nat) (yu : List (xq)) (ZK : ByteArray) (wL : Bool) (ZY : Int) (Qn : Option Addr) (Qo : Nat) (Zz : List (qw)) (Qp : Option Addr) (Qr : Nat) (pX : List (qh)) (Qs : Option Addr) (Qt : Nat) (wM : List (xq)) (r : Bool) (w : World) (wU : Kd.C uy w qU yw.length yw) (ZI : yw.length ≤ q9) (ZL : Kd.C uU w xZ yA.length yA) (ZM : yA.length ≤ xQ) (ZN : Kd.C jy w xX yu.length yu) (ZO : yu.length ≤ xJ) (zy4 : Kd.C uy w Qn Zz.length Zz) (zy5 : Zz.length ≤ Qo) (zy6 : Kd.C uU w Qp pX.length pX) (zy7 : pX.length ≤ Qr) (zy8 : Kd.C jy w Qs wM.length wM) (zy9 : wM.length ≤ Qt) (h : Zn.f k yU yS y7 yw yA yu ZK wL ZY Zz pX wM = some r) :
  Calls Tryz.prog 18 #[.agg #[.string yU, .bool yS, .int .i64 y7, .slice qU yw.length q9, .slice xZ yA.length xQ, .slice xX yu.length xJ], .agg #[.string ZK, .bool wL, .int .i64 ZY, .slice Qn Zz.length Qo, .slice Qp pX.length Qr, .slice Qs wM.length Qt]] w fun e w' => e = .returned (.bool r) ∧ Below w.heap.size w w' := by
 have bS := Tryz.underlying26
 have ZQ := zy.mk wU
 have Yb := zy.mk ZI
 clear wU ZI
 have YB := zy.mk ZL
 have YC := zy.mk ZM
 clear ZL ZM
 have Xx := zy.mk ZN
 have Xj := zy.mk ZO
 clear ZN ZO
 have zxT := zy.mk zy4
 have zxU := zy.mk zy5
 clear zy4 zy5
 have zwz := zy.mk zy6
 have zwq := zy.mk zy7
 clear zy6 zy7
 have zYj := zy.mk zy8
 have zYv := zy.mk zy9
 clear zy8 zy9
 have HB := zy.mk (Below.refl w.heap.size w)
 have H : (if yU.toList = ZK.toList then (if (yS == wL) = true then (if y7 = ZY then ((vF.f k yw Zz).bind fun Wu => (if Wu = true then ((uK.f k yA pX).bind fun VH => (if VH = true then ((vI.f k yu wM).bind fun Xh => (some Xh)) else (some false))) else (some false))) else (some false)) else (some false)) else (some false)) = some r := h
 clear h
 by_cases c3 : yU.toList = ZK.toList
 ·rw [if_pos c3] at H
  have kC : (yU.toList == ZK.toList) = true := beq_iff_eq.mpr c3
  have Xg : (yU.toList != ZK.toList) = false := bne_eq_false_iff_eq.mpr c3
  clear c3
  by_cases c4 : (yS == wL) = true
  ·rw [if_pos c4] at H
   have ZC : (yS == wL) = true := c4
   (try (have tL : decide (yS = wL) = true := by simpa using c4))
   (try (have zar : (yS == wL) = true := by simpa using c4))
   clear c4
   by_cases c5 : y7 = ZY
   ·rw [if_pos c5] at H
    have Ya : (y7 == ZY) = true := beq_iff_eq.mpr c5
    have tu : (y7 != ZY) = false := bne_eq_false_iff_eq.mpr c5
    clear c5
    replace H := Option.bind_eq_some_iff.mp H
    obtain ⟨Wu, fE, H⟩ := H
    replace H : (if Wu = true then ((uK.f k yA pX).bind fun VH => (if VH = true then ((vI.f k yu wM).bind fun Xh => (some Xh)) else (some false))) else (some false)) = some r := H
    have A6 := zy.mk fE
    clear fE
    by_cases c7 : Wu = true
    ·subst c7
     have H1 : ((uK.f k yA pX).bind fun VH => (if VH = true then ((vI.f k yu wM).bind fun Xh => (some Xh)) else (some false))) = some r := by rw [if_pos rfl] at H; exact H
     clear H
     have H := H1
     clear H1
     replace H := Option.bind_eq_some_iff.mp H
     obtain ⟨VH, A80, H⟩ := H
     replace H : (if VH = true then ((vI.f k yu wM).bind fun Xh => (some Xh)) else (some false)) = some r := H
     have A8 := zy.mk A80
     clear A80
     by_cases c9 : VH = true
     ·subst c9
      have H1 : ((vI.f k yu wM).bind fun Xh => (some Xh)) = some r := by rw [if_pos rfl] at H; exact H
      clear H
      have H := H1
      clear H1
      replace H := Option.bind_eq_some_iff.mp H
      obtain ⟨Xh, zzx, H⟩ := H
      replace H : (some Xh) = some r := H
      have A10 := zy.mk zzx
      clear zzx
      obtain rfl := Option.some.inj H
      go_enter Tryz.func18, Tryz.ntmps18
      go_wp2_with (first | ((with_reducible refine xI (N := 2) rfl ?_); refine xR ?hg (N := 2) ?hd (cs := #[.string yU, .bool yS, .int .i64 y7, .slice qU yw.length q9, .slice xZ yA.length xQ, .slice xX yu.length xJ]) (t := 26) ?hr ?_; (case hd => rfl); (case hg => rfl); (case hr => first | (go_simp; done) | (go_simp; rfl)); intro qb hg Xr xS hb; have zn := zy.mk (yY (yX HB.out) hb); have zA := zy.mk (xS); have zH := zy.mk ((by rw [hg]; exact (zO (yX HB.out)) : w.heap.size ≤ qb)); have zP := zy.mk ((by rw [hg]; exact (zO (yX HB.out)) : w.heap.size ≤ qb)); clear HB; have HB := zn; have yO := zA; have mM := zH; have Qu := zP; clear zn zA zH zP; clear hb xS hg) | ((with_reducible refine xI (N := 3) rfl ?_); refine xR ?hg (N := 3) ?hd (cs := #[.string ZK, .bool wL, .int .i64 ZY, .slice Qn Zz.length Qo, .slice Qp pX.length Qr, .slice Qs wM.length Qt]) (t := 26) ?hr ?_; (case hd => rfl); (case hg => rfl); (case hr => first | (go_simp; done) | (go_simp; rfl)); intro xB hg jm xS hb; have zn := zy.mk (zf (g := qb) (o := .cells #[.string yU, .bool yS, .int .i64 y7, .slice qU yw.length q9, .slice xZ yA.length xQ, .slice xX yu.length xJ] 26 (0, 0)) (qX yO.out) hb); have zA := zy.mk (yY (yX HB.out) hb); have zH := zy.mk (xS); have zP := zy.mk ((by rw [hg]; exact (zO (yX HB.out)) : w.heap.size ≤ xB)); have qj := zy.mk ((by rw [hg]; exact (zO (yX HB.out)) : w.heap.size ≤ xB)); have xw := zy.mk ((by rw [hg]; exact Nat.ne_of_lt (uS (g := qb) (o := .cells #[.string yU, .bool yS, .int .i64 y7, .slice qU yw.length q9, .slice xZ yA.length xQ, .slice xX yu.length xJ] 26 (0, 0)) (qX yO.out)) : qb ≠ xB)); have xO := zy.mk ((by rw [hg]; exact Nat.ne_of_gt (uS (g := qb) (o := .cells #[.string yU, .bool yS, .int .i64 y7, .slice qU yw.length q9, .slice xZ yA.length xQ, .slice xX yu.length xJ] 26 (0, 0)) (qX yO.out)) : xB ≠ qb)); clear yO; clear HB; have yO := zn; have HB := zA; have qA := zH; have mO := zP; have QA := qj; have wu := xw; have wB := xO; clear zn zA zH zP qj xw xO; clear hb xS hg; have zhu := wu.out; have zhA := wB.out; have zZr : jm.cell? ⟨qb, 0, none⟩ = some (.string yU) := (zk yO.out 0).trans rfl; have zZs : jm.cell? ⟨qb, 1, none⟩ = some (.bool yS) := (zk yO.out 1).trans rfl; have zZt : jm.cell? ⟨qb, 2, none⟩ = some (.int .i64 y7) := (zk yO.out 2).trans rfl; have zZu : jm.cell? ⟨qb, 3, none⟩ = some (.slice qU yw.length q9) := (zk yO.out 3).trans rfl; have zZA : jm.cell? ⟨qb, 4, none⟩ = some (.slice xZ yA.length xQ) := (zk yO.out 4).trans rfl; have zZB : jm.cell? ⟨qb, 5, none⟩ = some (.slice xX yu.length xJ) := (zk yO.out 5).trans rfl; have zZC := zw yO.out 0; have zZD := zw yO.out 1; have zZE := zw yO.out 2; have zZF := zw yO.out 3; have zZG := zw yO.out 4; have zZH := zw yO.out 5; have zfy : jm.cell? ⟨xB, 0, none⟩ = some (.string ZK) := (zk qA.out 0).trans rfl; have zfw : jm.cell? ⟨xB, 1, none⟩ = some (.bool wL) := (zk qA.out 1).trans rfl; have zfZ : jm.cell? ⟨xB, 2, none⟩ = some (.int .i64 ZY) := (zk qA.out 2).trans rfl; have zfQ : jm.cell? ⟨xB, 3, none⟩ = some (.slice Qn Zz.length Qo) := (zk qA.out 3).trans rfl; have zfX : jm.cell? ⟨xB, 4, none⟩ = some (.slice Qp pX.length Qr) := (zk qA.out 4).trans rfl; have zfJ : jm.cell? ⟨xB, 5, none⟩ = some (.slice Qs wM.length Qt) := (zk qA.out 5).trans rfl; have zfV := zw qA.out 0; have zfK := zw qA.out 1; have zfY := zw qA.out 2; have zfW := zw qA.out 3; have zfa := zw qA.out 4; have zfb := zw qA.out 5) | (go_at_call 58; (with_reducible refine (vF.calls k _ _ yw _ _ Zz true _ ?qd ?qC ?uJ ?uV A6.out).mono ?_); (case qd => repeat (first | exact (Kd.zh ZQ.out HB.out) | (with_reducible refine Kd.yE ?_ _) | (with_reducible refine Kd.yF ?_ _) | (with_reducible refine Kd.y8 ?_))); (case qC => exact Yb.out); (case uJ => repeat (first | exact (Kd.zh zxT.out HB.out) | (with_reducible refine Kd.yE ?_ _) | (with_reducible refine Kd.yF ?_ _) | (with_reducible refine Kd.y8 ?_))); (case uV => exact zxU.out); rintro e w' ⟨rfl, ⟨nd, rfl⟩⟩) | (go_at_call 59; (with_reducible refine (uK.calls k _ _ yA _ _ pX true _ ?qd ?qC ?uJ ?uV A8.out).mono ?_); (case qd => repeat (first | exact (Kd.zh YB.out (yX HB.out)) | (with_reducible refine Kd.yE ?_ _) | (with_reducible refine Kd.yF ?_ _) | (with_reducible refine Kd.y8 ?_))); (case qC => exact YC.out); (case uJ => repeat (first | exact (Kd.zh zwz.out (yX HB.out)) | (with_reducible refine Kd.yE ?_ _) | (with_reducible refine Kd.yF ?_ _) | (with_reducible refine Kd.y8 ?_))); (case uV => exact zwq.out); rintro e w' ⟨rfl, ⟨nd, rfl⟩⟩) | (go_at_call 60; (with_reducible refine (vI.calls k _ _ yu _ _ wM Xh _ ?qd ?qC ?uJ ?uV A10.out).mono ?_); (case qd => repeat (first | exact (Kd.zh Xx.out (yX HB.out)) | (with_reducible refine Kd.yE ?_ _) | (with_reducible refine Kd.yF ?_ _) | (with_reducible refine Kd.y8 ?_))); (case qC => exact Xj.out); (case uJ => repeat (first | exact (Kd.zh zYj.out (yX HB.out)) | (with_reducible refine Kd.yE ?_ _) | (with_reducible refine Kd.yF ?_ _) | (with_reducible refine Kd.y8 ?_))); (case uV => exact zYv.out); rintro e w' ⟨rfl, ⟨nd, rfl⟩⟩))
      go_ret
      exact ⟨by first | rfl | (simp [yZ, yQ] <;> rfl) | (simp [*, yZ, yQ] <;> rfl), by repeat (first | (with_reducible first | exact HB.out | apply yt | apply zM | apply yP | refine qo ?_ Qu.out | refine qo ?_ QA.out) | exact HB.out)⟩
     ·replace c9 := Bool.eq_false_iff.mpr c9
      subst c9
      have H1 : (some false) = some r := by rw [if_neg (show ¬ (false = true) by decide)] at H; exact H
      clear H
      have H := H1
      clear H1
      obtain rfl := Option.some.inj H
      go_enter Tryz.func18, Tryz.ntmps18
      go_wp2_with (first | ((with_reducible refine xI (N := 2) rfl ?_); refine xR ?hg (N := 2) ?hd (cs := #[.string yU, .bool yS, .int .i64 y7, .slice qU yw.length q9, .slice xZ yA.length xQ, .slice xX yu.length xJ]) (t := 26) ?hr ?_; (case hd => rfl); (case hg => rfl); (case hr => first | (go_simp; done) | (go_simp; rfl)); intro qb hg w16 xS hb; have zn := zy.mk (yY (yX HB.out) hb); have zA := zy.mk (xS); have zH := zy.mk ((by rw [hg]; exact (zO (yX HB.out)) : w.heap.size ≤ qb)); have zP := zy.mk ((by rw [hg]; exact (zO (yX HB.out)) : w.heap.size ≤ qb)); clear HB; have HB := zn; have yO := zA; have mM := zH; have Qu := zP; clear zn zA zH zP; clear hb xS hg) | ((with_reducible refine xI (N := 3) rfl ?_); refine xR ?hg (N := 3) ?hd (cs := #[.string ZK, .bool wL, .int .i64 ZY, .slice Qn Zz.length Qo, .slice Qp pX.length Qr, .slice Qs wM.length Qt]) (t := 26) ?hr ?_; (case hd => rfl); (case hg => rfl); (case hr => first | (go_simp; done) | (go_simp; rfl)); intro xB hg kW xS hb; have zn := zy.mk (zf (g := qb) (o := .cells #[.string yU, .bool yS, .int .i64 y7, .slice qU yw.length q9, .slice xZ yA.length xQ, .slice xX yu.length xJ] 26 (0, 0)) (qX yO.out) hb); have zA := zy.mk (yY (yX HB.out) hb); have zH := zy.mk (xS); have zP := zy.mk ((by rw [hg]; exact (zO (yX HB.out)) : w.heap.size ≤ xB)); have qj := zy.mk ((by rw [hg]; exact (zO (yX HB.out)) : w.heap.size ≤ xB)); have xw := zy.mk ((by rw [hg]; exact Nat.ne_of_lt (uS (g := qb) (o := .cells #[.string yU, .bool yS, .int .i64 y7, .slice qU yw.length q9, .slice xZ yA.length xQ, .slice xX yu.length xJ] 26 (0, 0)) (qX yO.out)) : qb ≠ xB)); have xO := zy.mk ((by rw [hg]; exact Nat.ne_of_gt (uS (g := qb) (o := .cells #[.string yU, .bool yS, .int .i64 y7, .slice qU yw.length q9, .slice xZ yA.length xQ, .slice xX yu.length xJ] 26 (0, 0)) (qX yO.out)) : xB ≠ qb)); clear yO; clear HB; have yO := zn; have HB := zA; have qA := zH; have mO := zP; have QA := qj; have wu := xw; have wB := xO; clear zn zA zH zP qj xw xO; clear hb xS hg; have zhB := wu.out; have zhC := wB.out; have zfc : kW.cell? ⟨qb, 0, none⟩ = some (.string yU) := (zk yO.out 0).trans rfl; have zfd : kW.cell? ⟨qb, 1, none⟩ = some (.bool yS) := (zk yO.out 1).trans rfl; have zfe : kW.cell? ⟨qb, 2, none⟩ = some (.int .i64 y7) := (zk yO.out 2).trans rfl; have zff : kW.cell? ⟨qb, 3, none⟩ = some (.slice qU yw.length q9) := (zk yO.out 3).trans rfl; have zfg : kW.cell? ⟨qb, 4, none⟩ = some (.slice xZ yA.length xQ) := (zk yO.out 4).trans rfl; have zfh : kW.cell? ⟨qb, 5, none⟩ = some (.slice xX yu.length xJ) := (zk yO.out 5).trans rfl; have zfi := zw yO.out 0; have zfl := zw yO.out 1; have zfm := zw yO.out 2; have zfn := zw yO.out 3; have zfo := zw yO.out 4; have zfp := zw yO.out 5; have zZI : kW.cell? ⟨xB, 0, none⟩ = some (.string ZK) := (zk qA.out 0).trans rfl; have zZL : kW.cell? ⟨xB, 1, none⟩ = some (.bool wL) := (zk qA.out 1).trans rfl; have zZM : kW.cell? ⟨xB, 2, none⟩ = some (.int .i64 ZY) := (zk qA.out 2).trans rfl; have zZN : kW.cell? ⟨xB, 3, none⟩ = some (.slice Qn Zz.length Qo) := (zk qA.out 3).trans rfl; have zZO : kW.cell? ⟨xB, 4, none⟩ = some (.slice Qp pX.length Qr) := (zk qA.out 4).trans rfl; have zZP : kW.cell? ⟨xB, 5, none⟩ = some (.slice Qs wM.length Qt) := (zk qA.out 5).trans rfl; have zZR := zw qA.out 0; have zZS := zw qA.out 1; have zZT := zw qA.out 2; have zZU := zw qA.out 3; have zZ0 := zw qA.out 4; have zZ1 := zw qA.out 5) | (go_at_call 58; (with_reducible refine (vF.calls k _ _ yw _ _ Zz true _ ?qd ?qC ?uJ ?uV A6.out).mono ?_); (case qd => repeat (first | exact (Kd.zh ZQ.out HB.out) | (with_reducible refine Kd.yE ?_ _) | (with_reducible refine Kd.yF ?_ _) | (with_reducible refine Kd.y8 ?_))); (case qC => exact Yb.out); (case uJ => repeat (first | exact (Kd.zh zxT.out HB.out) | (with_reducible refine Kd.yE ?_ _) | (with_reducible refine Kd.yF ?_ _) | (with_reducible refine Kd.y8 ?_))); (case uV => exact zxU.out); rintro e w' ⟨rfl, ⟨nd, rfl⟩⟩) | (go_at_call 59; (with_reducible refine (uK.calls k _ _ yA _ _ pX false _ ?qd ?qC ?uJ ?uV A8.out).mono ?_); (case qd => repeat (first | exact (Kd.zh YB.out (yX HB.out)) | (with_reducible refine Kd.yE ?_ _) | (with_reducible refine Kd.yF ?_ _) | (with_reducible refine Kd.y8 ?_))); (case qC => exact YC.out); (case uJ => repeat (first | exact (Kd.zh zwz.out (yX HB.out)) | (with_reducible refine Kd.yE ?_ _) | (with_reducible refine Kd.yF ?_ _) | (with_reducible refine Kd.y8 ?_))); (case uV => exact zwq.out); rintro e w' ⟨rfl, ⟨nd, rfl⟩⟩))
      go_ret
      exact ⟨by first | rfl | (simp [yZ, yQ] <;> rfl) | (simp [*, yZ, yQ] <;> rfl), by repeat (first | (with_reducible first | exact HB.out | apply yt | apply zM | apply yP | refine qo ?_ Qu.out | refine qo ?_ QA.out) | exact HB.out)⟩
    ·replace c7 := Bool.eq_false_iff.mpr c7
     subst c7
     have H1 : (some false) = some r := by rw [if_neg (show ¬ (false = true) by decide)] at H; exact H
     clear H
     have H := H1
     clear H1
     obtain rfl := Option.some.inj H
     go_enter Tryz.func18, Tryz.ntmps18
     go_wp2_with (first | ((with_reducible refine xI (N := 2) rfl ?_); refine xR ?hg (N := 2) ?hd (cs := #[.string yU, .bool yS, .int .i64 y7, .slice qU yw.length q9, .slice xZ yA.length xQ, .slice xX yu.length xJ]) (t := 26) ?hr ?_; (case hd => rfl); (case hg => rfl); (case hr => first | (go_simp; done) | (go_simp; rfl)); intro qb hg w21 xS hb; have zn := zy.mk (yY (yX HB.out) hb); have zA := zy.mk (xS); have zH := zy.mk ((by rw [hg]; exact (zO (yX HB.out)) : w.heap.size ≤ qb)); have zP := zy.mk ((by rw [hg]; exact (zO (yX HB.out)) : w.heap.size ≤ qb)); clear HB; have HB := zn; have yO := zA; have mM := zH; have Qu := zP; clear zn zA zH zP; clear hb xS hg) | ((with_reducible refine xI (N := 3) rfl ?_); refine xR ?hg (N := 3) ?hd (cs := #[.string ZK, .bool wL, .int .i64 ZY, .slice Qn Zz.length Qo, .slice Qp pX.length Qr, .slice Qs wM.length Qt]) (t := 26) ?hr ?_; (case hd => rfl); (case hg => rfl); (case hr => first | (go_simp; done) | (go_simp; rfl)); intro xB hg Ql xS hb; have zn := zy.mk (zf (g := qb) (o := .cells #[.string yU, .bool yS, .int .i64 y7, .slice qU yw.length q9, .slice xZ yA.length xQ, .slice xX yu.length xJ] 26 (0, 0)) (qX yO.out) hb); have zA := zy.mk (yY (yX HB.out) hb); have zH := zy.mk (xS); have zP := zy.mk ((by rw [hg]; exact (zO (yX HB.out)) : w.heap.size ≤ xB)); have qj := zy.mk ((by rw [hg]; exact (zO (yX HB.out)) : w.heap.size ≤ xB)); have xw := zy.mk ((by rw [hg]; exact Nat.ne_of_lt (uS (g := qb) (o := .cells #[.string yU, .bool yS, .int .i64 y7, .slice qU yw.length q9, .slice xZ yA.length xQ, .slice xX yu.length xJ] 26 (0, 0)) (qX yO.out)) : qb ≠ xB)); have xO := zy.mk ((by rw [hg]; exact Nat.ne_of_gt (uS (g := qb) (o := .cells #[.string yU, .bool yS, .int .i64 y7, .slice qU yw.length q9, .slice xZ yA.length xQ, .slice xX yu.length xJ] 26 (0, 0)) (qX yO.out)) : xB ≠ qb)); clear yO; clear HB; have yO := zn; have HB := zA; have qA := zH; have mO := zP; have QA := qj; have wu := xw; have wB := xO; clear zn zA zH zP qj xw xO; clear hb xS hg; have zhD := wu.out; have zhE := wB.out; have zfr : Ql.cell? ⟨qb, 0, none⟩ = some (.string yU) := (zk yO.out 0).trans rfl; have zfs : Ql.cell? ⟨qb, 1, none⟩ = some (.bool yS) := (zk yO.out 1).trans rfl; have zft : Ql.cell? ⟨qb, 2, none⟩ = some (.int .i64 y7) := (zk yO.out 2).trans rfl; have zfu : Ql.cell? ⟨qb, 3, none⟩ = some (.slice qU yw.length q9) := (zk yO.out 3).trans rfl; have zfA : Ql.cell? ⟨qb, 4, none⟩ = some (.slice xZ yA.length xQ) := (zk yO.out 4).trans rfl; have zfB : Ql.cell? ⟨qb, 5, none⟩ = some (.slice xX yu.length xJ) := (zk yO.out 5).trans rfl; have zfC := zw yO.out 0; have zfD := zw yO.out 1; have zfE := zw yO.out 2; have zfF := zw yO.out 3; have zfG := zw yO.out 4; have zfH := zw yO.out 5; have zfI : Ql.cell? ⟨xB, 0, none⟩ = some (.string ZK) := (zk qA.out 0).trans rfl; have zfL : Ql.cell? ⟨xB, 1, none⟩ = some (.bool wL) := (zk qA.out 1).trans rfl; have zfM : Ql.cell? ⟨xB, 2, none⟩ = some (.int .i64 ZY) := (zk qA.out 2).trans rfl; have zfN : Ql.cell? ⟨xB, 3, none⟩ = some (.slice Qn Zz.length Qo) := (zk qA.out 3).trans rfl; have zfO : Ql.cell? ⟨xB, 4, none⟩ = some (.slice Qp pX.length Qr) := (zk qA.out 4).trans rfl; have zfP : Ql.cell? ⟨xB, 5, none⟩ = some (.slice Qs wM.length Qt) := (zk qA.out 5).trans rfl; have zfR := zw qA.out 0; have zfS := zw qA.out 1; have zfT := zw qA.out 2; have zfU := zw qA.out 3; have zf6 := zw qA.out 4; have zf7 := zw qA.out 5) | (go_at_call 58; (with_reducible refine (vF.calls k _ _ yw _ _ Zz false _ ?qd ?qC ?uJ ?uV A6.out).mono ?_); (case qd => repeat (first | exact (Kd.zh ZQ.out HB.out) | (with_reducible refine Kd.yE ?_ _) | (with_reducible refine Kd.yF ?_ _) | (with_reducible refine Kd.y8 ?_))); (case qC => exact Yb.out); (case uJ => repeat (first | exact (Kd.zh zxT.out HB.out) | (with_reducible refine Kd.yE ?_ _) | (with_reducible refine Kd.yF ?_ _) | (with_reducible refine Kd.y8 ?_))); (case uV => exact zxU.out); rintro e w' ⟨rfl, ⟨nd, rfl⟩⟩))
     go_ret
     exact ⟨by first | rfl | (simp [yZ, yQ] <;> rfl) | (simp [*, yZ, yQ] <;> rfl), by repeat (first | (with_reducible first | exact HB.out | apply yt | apply zM | apply yP | refine qo ?_ Qu.out | refine qo ?_ QA.out) | exact HB.out)⟩
   ·rw [if_neg c5] at H
    have Ya : (y7 == ZY) = false := beq_eq_false_iff_ne.mpr c5
    have tu : (y7 != ZY) = true := bne_iff_ne.mpr c5
    obtain rfl := Option.some.inj H
    go_enter Tryz.func18, Tryz.ntmps18
    go_wp2_with (first | ((with_reducible refine xI (N := 2) rfl ?_); refine xR ?hg (N := 2) ?hd (cs := #[.string yU, .bool yS, .int .i64 y7, .slice qU yw.length q9, .slice xZ yA.length xQ, .slice xX yu.length xJ]) (t := 26) ?hr ?_; (case hd => rfl); (case hg => rfl); (case hr => first | (go_simp; done) | (go_simp; rfl)); intro qb hg w26 xS hb; have zn := zy.mk (yY (yX HB.out) hb); have zA := zy.mk (xS); have zH := zy.mk ((by rw [hg]; exact (zO (yX HB.out)) : w.heap.size ≤ qb)); have zP := zy.mk ((by rw [hg]; exact (zO (yX HB.out)) : w.heap.size ≤ qb)); clear HB; have HB := zn; have yO := zA; have mM := zH; have Qu := zP; clear zn zA zH zP; clear hb xS hg) | ((with_reducible refine xI (N := 3) rfl ?_); refine xR ?hg (N := 3) ?hd (cs := #[.string ZK, .bool wL, .int .i64 ZY, .slice Qn Zz.length Qo, .slice Qp pX.length Qr, .slice Qs wM.length Qt]) (t := 26) ?hr ?_; (case hd => rfl); (case hg => rfl); (case hr => first | (go_simp; done) | (go_simp; rfl)); intro xB hg KP xS hb; have zn := zy.mk (zf (g := qb) (o := .cells #[.string yU, .bool yS, .int .i64 y7, .slice qU yw.length q9, .slice xZ yA.length xQ, .slice xX yu.length xJ] 26 (0, 0)) (qX yO.out) hb); have zA := zy.mk (yY (yX HB.out) hb); have zH := zy.mk (xS); have zP := zy.mk ((by rw [hg]; exact (zO (yX HB.out)) : w.heap.size ≤ xB)); have qj := zy.mk ((by rw [hg]; exact (zO (yX HB.out)) : w.heap.size ≤ xB)); have xw := zy.mk ((by rw [hg]; exact Nat.ne_of_lt (uS (g := qb) (o := .cells #[.string yU, .bool yS, .int .i64 y7, .slice qU yw.length q9, .slice xZ yA.length xQ, .slice xX yu.length xJ] 26 (0, 0)) (qX yO.out)) : qb ≠ xB)); have xO := zy.mk ((by rw [hg]; exact Nat.ne_of_gt (uS (g := qb) (o := .cells #[.string yU, .bool yS, .int .i64 y7, .slice qU yw.length q9, .slice xZ yA.length xQ, .slice xX yu.length xJ] 26 (0, 0)) (qX yO.out)) : xB ≠ qb)); clear yO; clear HB; have yO := zn; have HB := zA; have qA := zH; have mO := zP; have QA := qj; have wu := xw; have wB := xO; clear zn zA zH zP qj xw xO; clear hb xS hg; have zYk := wu.out; have zYy := wB.out; have aZ : KP.cell? ⟨qb, 0, none⟩ = some (.string yU) := (zk yO.out 0).trans rfl; have aQ : KP.cell? ⟨qb, 1, none⟩ = some (.bool yS) := (zk yO.out 1).trans rfl; have aX : KP.cell? ⟨qb, 2, none⟩ = some (.int .i64 y7) := (zk yO.out 2).trans rfl; have PD : KP.cell? ⟨qb, 3, none⟩ = some (.slice qU yw.length q9) := (zk yO.out 3).trans rfl; have PE : KP.cell? ⟨qb, 4, none⟩ = some (.slice xZ yA.length xQ) := (zk yO.out 4).trans rfl; have PG : KP.cell? ⟨qb, 5, none⟩ = some (.slice xX yu.length xJ) := (zk yO.out 5).trans rfl; have PI := zw yO.out 0; have PN := zw yO.out 1; have PO := zw yO.out 2; have PS := zw yO.out 3; have PU := zw yO.out 4; have P5 := zw yO.out 5; have zf8 : KP.cell? ⟨xB, 0, none⟩ = some (.string ZK) := (zk qA.out 0).trans rfl; have zf9 : KP.cell? ⟨xB, 1, none⟩ = some (.bool wL) := (zk qA.out 1).trans rfl; have zgz : KP.cell? ⟨xB, 2, none⟩ = some (.int .i64 ZY) := (zk qA.out 2).trans rfl; have zgq : KP.cell? ⟨xB, 3, none⟩ = some (.slice Qn Zz.length Qo) := (zk qA.out 3).trans rfl; have zgx : KP.cell? ⟨xB, 4, none⟩ = some (.slice Qp pX.length Qr) := (zk qA.out 4).trans rfl; have zgj : KP.cell? ⟨xB, 5, none⟩ = some (.slice Qs wM.length Qt) := (zk qA.out 5).trans rfl; have zgv := zw qA.out 0; have zgk := zw qA.out 1; have zgy := zw qA.out 2; have zgw := zw qA.out 3; have zgZ := zw qA.out 4; have zgQ := zw qA.out 5))
    go_ret
    exact ⟨by first | rfl | (simp [yZ, yQ] <;> rfl) | (simp [*, yZ, yQ] <;> rfl), by repeat (first | (with_reducible first | exact HB.out | apply yt | apply zM | apply yP | refine qo ?_ Qu.out | refine qo ?_ QA.out) | exact HB.out)⟩
  ·rw [if_neg c4] at H
   have ZC : (yS == wL) = false := by simpa using c4
   (try (have tL : decide (yS = wL) = false := by simpa using c4))
   (try (have zar : (yS == wL) = false := by simpa using c4))
   (try (have ziS : ¬ (yS = wL) := by simpa using c4))
   clear c4
   obtain rfl := Option.some.inj H
   go_enter Tryz.func18, Tryz.ntmps18
   go_wp2_with (first | ((with_reducible refine xI (N := 2) rfl ?_); refine xR ?hg (N := 2) ?hd (cs := #[.string yU, .bool yS, .int .i64 y7, .slice qU yw.length q9, .slice xZ yA.length xQ, .slice xX yu.length xJ]) (t := 26) ?hr ?_; (case hd => rfl); (case hg => rfl); (case hr => first | (go_simp; done) | (go_simp; rfl)); intro qb hg w31 xS hb; have zn := zy.mk (yY (yX HB.out) hb); have zA := zy.mk (xS); have zH := zy.mk ((by rw [hg]; exact (zO (yX HB.out)) : w.heap.size ≤ qb)); have zP := zy.mk ((by rw [hg]; exact (zO (yX HB.out)) : w.heap.size ≤ qb)); clear HB; have HB := zn; have yO := zA; have mM := zH; have Qu := zP; clear zn zA zH zP; clear hb xS hg) | ((with_reducible refine xI (N := 3) rfl ?_); refine xR ?hg (N := 3) ?hd (cs := #[.string ZK, .bool wL, .int .i64 ZY, .slice Qn Zz.length Qo, .slice Qp pX.length Qr, .slice Qs wM.length Qt]) (t := 26) ?hr ?_; (case hd => rfl); (case hg => rfl); (case hr => first | (go_simp; done) | (go_simp; rfl)); intro xB hg w32 xS hb; have zn := zy.mk (zf (g := qb) (o := .cells #[.string yU, .bool yS, .int .i64 y7, .slice qU yw.length q9, .slice xZ yA.length xQ, .slice xX yu.length xJ] 26 (0, 0)) (qX yO.out) hb); have zA := zy.mk (yY (yX HB.out) hb); have zH := zy.mk (xS); have zP := zy.mk ((by rw [hg]; exact (zO (yX HB.out)) : w.heap.size ≤ xB)); have qj := zy.mk ((by rw [hg]; exact (zO (yX HB.out)) : w.heap.size ≤ xB)); have xw := zy.mk ((by rw [hg]; exact Nat.ne_of_lt (uS (g := qb) (o := .cells #[.string yU, .bool yS, .int .i64 y7, .slice qU yw.length q9, .slice xZ yA.length xQ, .slice xX yu.length xJ] 26 (0, 0)) (qX yO.out)) : qb ≠ xB)); have xO := zy.mk ((by rw [hg]; exact Nat.ne_of_gt (uS (g := qb) (o := .cells #[.string yU, .bool yS, .int .i64 y7, .slice qU yw.length q9, .slice xZ yA.length xQ, .slice xX yu.length xJ] 26 (0, 0)) (qX yO.out)) : xB ≠ qb)); clear yO; clear HB; have yO := zn; have HB := zA; have qA := zH; have mO := zP; have QA := qj; have wu := xw; have wB := xO; clear zn zA zH zP qj xw xO; clear hb xS hg; have zVf := wu.out; have zVg := wB.out; have sw : w32.cell? ⟨qb, 0, none⟩ = some (.string yU) := (zk yO.out 0).trans rfl; have sZ : w32.cell? ⟨qb, 1, none⟩ = some (.bool yS) := (zk yO.out 1).trans rfl; have sQ : w32.cell? ⟨qb, 2, none⟩ = some (.int .i64 y7) := (zk yO.out 2).trans rfl; have sJ : w32.cell? ⟨qb, 3, none⟩ = some (.slice qU yw.length q9) := (zk yO.out 3).trans rfl; have sV : w32.cell? ⟨qb, 4, none⟩ = some (.slice xZ yA.length xQ) := (zk yO.out 4).trans rfl; have sK : w32.cell? ⟨qb, 5, none⟩ = some (.slice xX yu.length xJ) := (zk yO.out 5).trans rfl; have sW := zw yO.out 0; have su := zw yO.out 1; have sD := zw yO.out 2; have sF := zw yO.out 3; have sG := zw yO.out 4; have sH := zw yO.out 5; have zgX : w32.cell? ⟨xB, 0, none⟩ = some (.string ZK) := (zk qA.out 0).trans rfl; have zgJ : w32.cell? ⟨xB, 1, none⟩ = some (.bool wL) := (zk qA.out 1).trans rfl; have zgV : w32.cell? ⟨xB, 2, none⟩ = some (.int .i64 ZY) := (zk qA.out 2).trans rfl; have zgK : w32.cell? ⟨xB, 3, none⟩ = some (.slice Qn Zz.length Qo) := (zk qA.out 3).trans rfl; have zgY : w32.cell? ⟨xB, 4, none⟩ = some (.slice Qp pX.length Qr) := (zk qA.out 4).trans rfl; have zgW : w32.cell? ⟨xB, 5, none⟩ = some (.slice Qs wM.length Qt) := (zk qA.out 5).trans rfl; have zga := zw qA.out 0; have zgb := zw qA.out 1; have zgc := zw qA.out 2; have zgd := zw qA.out 3; have zge := zw qA.out 4; have zgf := zw qA.out 5))
   go_ret
   exact ⟨by first | rfl | (simp [yZ, yQ] <;> rfl) | (simp [*, yZ, yQ] <;> rfl), by repeat (first | (with_reducible first | exact HB.out | apply yt | apply zM | apply yP | refine qo ?_ Qu.out | refine qo ?_ QA.out) | exact HB.out)⟩
 ·rw [if_neg c3] at H
  have kC : (yU.toList == ZK.toList) = false := beq_eq_false_iff_ne.mpr c3
  have Xg : (yU.toList != ZK.toList) = true := bne_iff_ne.mpr c3
  obtain rfl := Option.some.inj H
  go_enter Tryz.func18, Tryz.ntmps18
  go_wp2_with (first | ((with_reducible refine xI (N := 2) rfl ?_); refine xR ?hg (N := 2) ?hd (cs := #[.string yU, .bool yS, .int .i64 y7, .slice qU yw.length q9, .slice xZ yA.length xQ, .slice xX yu.length xJ]) (t := 26) ?hr ?_; (case hd => rfl); (case hg => rfl); (case hr => first | (go_simp; done) | (go_simp; rfl)); intro qb hg w36 xS hb; have zn := zy.mk (yY (yX HB.out) hb); have zA := zy.mk (xS); have zH := zy.mk ((by rw [hg]; exact (zO (yX HB.out)) : w.heap.size ≤ qb)); have zP := zy.mk ((by rw [hg]; exact (zO (yX HB.out)) : w.heap.size ≤ qb)); clear HB; have HB := zn; have yO := zA; have mM := zH; have Qu := zP; clear zn zA zH zP; clear hb xS hg) | ((with_reducible refine xI (N := 3) rfl ?_); refine xR ?hg (N := 3) ?hd (cs := #[.string ZK, .bool wL, .int .i64 ZY, .slice Qn Zz.length Qo, .slice Qp pX.length Qr, .slice Qs wM.length Qt]) (t := 26) ?hr ?_; (case hd => rfl); (case hg => rfl); (case hr => first | (go_simp; done) | (go_simp; rfl)); intro xB hg KR xS hb; have zn := zy.mk (zf (g := qb) (o := .cells #[.string yU, .bool yS, .int .i64 y7, .slice qU yw.length q9, .slice xZ yA.length xQ, .slice xX yu.length xJ] 26 (0, 0)) (qX yO.out) hb); have zA := zy.mk (yY (yX HB.out) hb); have zH := zy.mk (xS); have zP := zy.mk ((by rw [hg]; exact (zO (yX HB.out)) : w.heap.size ≤ xB)); have qj := zy.mk ((by rw [hg]; exact (zO (yX HB.out)) : w.heap.size ≤ xB)); have xw := zy.mk ((by rw [hg]; exact Nat.ne_of_lt (uS (g := qb) (o := .cells #[.string yU, .bool yS, .int .i64 y7, .slice qU yw.length q9, .slice xZ yA.length xQ, .slice xX yu.length xJ] 26 (0, 0)) (qX yO.out)) : qb ≠ xB)); have xO := zy.mk ((by rw [hg]; exact Nat.ne_of_gt (uS (g := qb) (o := .cells #[.string yU, .bool yS, .int .i64 y7, .slice qU yw.length q9, .slice xZ yA.length xQ, .slice xX yu.length xJ] 26 (0, 0)) (qX yO.out)) : xB ≠ qb)); clear yO; clear HB; have yO := zn; have HB := zA; have qA := zH; have mO := zP; have QA := qj; have wu := xw; have wB := xO; clear zn zA zH zP qj xw xO; clear hb xS hg; have zhF := wu.out; have zhG := wB.out; have zgg : KR.cell? ⟨qb, 0, none⟩ = some (.string yU) := (zk yO.out 0).trans rfl; have zgh : KR.cell? ⟨qb, 1, none⟩ = some (.bool yS) := (zk yO.out 1).trans rfl; have zgi : KR.cell? ⟨qb, 2, none⟩ = some (.int .i64 y7) := (zk yO.out 2).trans rfl; have zgl : KR.cell? ⟨qb, 3, none⟩ = some (.slice qU yw.length q9) := (zk yO.out 3).trans rfl; have zgm : KR.cell? ⟨qb, 4, none⟩ = some (.slice xZ yA.length xQ) := (zk yO.out 4).trans rfl; have zgn : KR.cell? ⟨qb, 5, none⟩ = some (.slice xX yu.length xJ) := (zk yO.out 5).trans rfl; have zgo := zw yO.out 0; have zgp := zw yO.out 1; have zgr := zw yO.out 2; have zgs := zw yO.out 3; have zgt := zw yO.out 4; have zgu := zw yO.out 5; have zgA : KR.cell? ⟨xB, 0, none⟩ = some (.string ZK) := (zk qA.out 0).trans rfl; have zgB : KR.cell? ⟨xB, 1, none⟩ = some (.bool wL) := (zk qA.out 1).trans rfl; have zgC : KR.cell? ⟨xB, 2, none⟩ = some (.int .i64 ZY) := (zk qA.out 2).trans rfl; have zgD : KR.cell? ⟨xB, 3, none⟩ = some (.slice Qn Zz.length Qo) := (zk qA.out 3).trans rfl; have zgE : KR.cell? ⟨xB, 4, none⟩ = some (.slice Qp pX.length Qr) := (zk qA.out 4).trans rfl; have zgF : KR.cell? ⟨xB, 5, none⟩ = some (.slice Qs wM.length Qt) := (zk qA.out 5).trans rfl; have zgG := zw qA.out 0; have zgH := zw qA.out 1; have zgI := zw qA.out 2; have zgL := zw qA.out 3; have zgM := zw qA.out 4; have zgN := zw qA.out 5))
  go_ret
  exact ⟨by first | rfl | (simp [yZ, yQ] <;> rfl) | (simp [*, yZ, yQ] <;> rfl), by repeat (first | (with_reducible first | exact HB.out | apply yt | apply zM | apply yP | refine qo ?_ Qu.out | refine qo ?_ QA.out) | exact HB.out)⟩
end Go.Proofs.YtaifemkokfoadaaGreatDoor.PX
namespace Go.Proofs.YtaifemkokfoadaaGreatDoor.PX
open Go.RowKit Go.Proofs.zx.zK Go.Proofs.zx.zU Go.Proofs.zx.zN
attribute [local go_sem] qF qG xC xD qY qW qH qI   -- for this text's walks alone
set_option linter.unusedVariables false
set_option linter.unusedSimpArgs false
end Go.Proofs.YtaifemkokfoadaaGreatDoor.PX
namespace Go.Proofs.YtaifemkokfoadaaGreatDoor
open Go.RowKit Go.Proofs.zx.zK Go.Proofs.zx.zN Go.Proofs.YtaifemkokfoadaaGreatDoor.PX
set_option linter.unusedSimpArgs false
set_option linter.unusedVariables false
theorem toList_inj {a b : ByteArray} : a.toList = b.toList ↔ a = b := by
 constructor
 ·intro h
  rw [Lib.toList_data, Lib.toList_data] at h
  exact ByteArray.ext (Array.toList_inj.1 h)
 ·rintro rfl
  rfl
theorem Vv {α : Type} (l m : List α) (i : Nat) (hi : i < l.length) (hm : i < m.length) : (l.drop i = m.drop i ↔ l[i] = m[i] ∧ l.drop (i + 1) = m.drop (i + 1)) := by
 rw [List.drop_eq_getElem_cons hi, List.drop_eq_getElem_cons hm, List.cons.injEq]
theorem zas (x y : qw) : x = y ↔ x.f0 = y.f0 ∧ x.f1 = y.f1 := by
 cases x; cases y; simp
theorem zwx (x y : qw) : (((!(((x.f0).toList) == ((y.f0).toList))) || (!((x.f1) == (y.f1)))) = true) ↔ ¬ x = y := by
 rw [zas]
 by_cases h0 : x.f0.toList = y.f0.toList <;> by_cases h1 : x.f1 = y.f1 <;> simp_all [toList_inj]
theorem rdG (l : List qw) (i : Nat) (h : i < l.length) : qV l (i : Int) = l[i] := by simp [qV, List.getD_eq_getElem?_getD, h]
theorem zYw (l m : List qw) (hn : l.length = m.length) (hl : l.length ≤ 1000000) : ∀ d i, l.length - i = d → i ≤ l.length → ∃ b, Ev (fun k => vF.l0 k l m (l.length : Int) (i : Int)) b ∧ (b = true ↔ l.drop i = m.drop i) := by
 intro d
 induction d with
 | zero =>
  intro i hd hi
  refine ⟨true, Ev.step (fun k => by rw [vF.l0]) (qN (by omega) (Ev.now _)), ?_⟩
  rw [List.drop_eq_nil_of_le (by omega), List.drop_eq_nil_of_le (by omega)]
  simp
 | succ d ih =>
  intro i hd hi
  have h1 : i < l.length := by omega
  have h2 : i < m.length := by omega
  have q0 : (0 : Int) ≤ (i : Int) := by omega
  have q1 : (i : Int) < (l.length : Int) := by omega
  have q2 : (i : Int) < (m.length : Int) := by omega
  obtain ⟨b, h3, h4⟩ := ih (i + 1) (by omega) (by omega)
  have hw : wrap64 ((i : Int) + 1) = ((i + 1 : Nat) : Int) := (YA (by omega) (by omega)).trans (by omega)
  by_cases hx : l[i] = m[i]
  ·refine ⟨b, Ev.step (fun k => by rw [vF.l0]) (zL q1 (zL q0 (zL q1 (zL q2 (qN ?_ ?_))))), ?_⟩
   ·rw [rdG l i h1, rdG m i h2, zwx]
    exact fun h => h hx
   ·rw [hw]
    exact h3
   ·rw [h4, Vv l m i h1 h2]
    exact ⟨fun h => ⟨hx, h⟩, fun h => h.2⟩
  ·refine ⟨false, Ev.step (fun k => by rw [vF.l0]) (zL q1 (zL q0 (zL q1 (zL q2 (zL ?_ (Ev.now _)))))), ?_⟩
   ·rw [rdG l i h1, rdG m i h2, zwx]
    exact hx
   ·rw [Vv l m i h1 h2]
    exact ⟨fun h => (by cases h), fun h => absurd h.1 hx⟩
theorem zYZ (l m : List qw) (hl : l.length ≤ 1000000) : ∃ b, Ev (fun k => vF.f k l m) b ∧ (b = true ↔ l = m) := by
 by_cases hn : l.length = m.length
 ·obtain ⟨b, h1, h2⟩ := zYw l m hn hl _ 0 rfl (Nat.zero_le _)
  have h1' : Ev (fun k => vF.l0 k l m (l.length : Int) 0) b := h1
  refine ⟨b, Ev.congr (fun k => by rw [vF.f]) (zL (by omega) h1'), ?_⟩
  rw [h2, List.drop_zero, List.drop_zero]
 ·refine ⟨false, Ev.congr (fun k => by rw [vF.f]) (qN (by omega) (Ev.now _)), ?_⟩
  exact ⟨fun h => (by cases h), fun h => absurd (by rw [h]) hn⟩
theorem zat (x y : qh) : x = y ↔ x.f0 = y.f0 ∧ x.f1 = y.f1 ∧ x.f2 = y.f2 := by
 cases x; cases y; simp
theorem zwj (x y : qh) : (((!(((x.f0).toList) == ((y.f0).toList))) || ((!(((x.f1).toList) == ((y.f1).toList))) || (!(((x.f2).toList) == ((y.f2).toList))))) = true) ↔ ¬ x = y := by
 rw [zat]
 by_cases h0 : x.f0.toList = y.f0.toList <;> by_cases h1 : x.f1.toList = y.f1.toList <;> by_cases h2 : x.f2.toList = y.f2.toList <;> simp_all [toList_inj]
theorem rdL (l : List qh) (i : Nat) (h : i < l.length) : qO l (i : Int) = l[i] := by simp [qO, List.getD_eq_getElem?_getD, h]
theorem zYQ (l m : List qh) (hn : l.length = m.length) (hl : l.length ≤ 1000000) : ∀ d i, l.length - i = d → i ≤ l.length → ∃ b, Ev (fun k => uK.l0 k l m (l.length : Int) (i : Int)) b ∧ (b = true ↔ l.drop i = m.drop i) := by
 intro d
 induction d with
 | zero =>
  intro i hd hi
  refine ⟨true, Ev.step (fun k => by rw [uK.l0]) (qN (by omega) (Ev.now _)), ?_⟩
  rw [List.drop_eq_nil_of_le (by omega), List.drop_eq_nil_of_le (by omega)]
  simp
 | succ d ih =>
  intro i hd hi
  have h1 : i < l.length := by omega
  have h2 : i < m.length := by omega
  have q0 : (0 : Int) ≤ (i : Int) := by omega
  have q1 : (i : Int) < (l.length : Int) := by omega
  have q2 : (i : Int) < (m.length : Int) := by omega
  obtain ⟨b, h3, h4⟩ := ih (i + 1) (by omega) (by omega)
  have hw : wrap64 ((i : Int) + 1) = ((i + 1 : Nat) : Int) := (YA (by omega) (by omega)).trans (by omega)
  by_cases hx : l[i] = m[i]
  ·refine ⟨b, Ev.step (fun k => by rw [uK.l0]) (zL q1 (zL q0 (zL q1 (zL q2 (qN ?_ ?_))))), ?_⟩
   ·rw [rdL l i h1, rdL m i h2, zwj]
    exact fun h => h hx
   ·rw [hw]
    exact h3
   ·rw [h4, Vv l m i h1 h2]
    exact ⟨fun h => ⟨hx, h⟩, fun h => h.2⟩
  ·refine ⟨false, Ev.step (fun k => by rw [uK.l0]) (zL q1 (zL q0 (zL q1 (zL q2 (zL ?_ (Ev.now _)))))), ?_⟩
   ·rw [rdL l i h1, rdL m i h2, zwj]
    exact hx
   ·rw [Vv l m i h1 h2]
    exact ⟨fun h => (by cases h), fun h => absurd h.1 hx⟩
theorem zYX (l m : List qh) (hl : l.length ≤ 1000000) : ∃ b, Ev (fun k => uK.f k l m) b ∧ (b = true ↔ l = m) := by
 by_cases hn : l.length = m.length
 ·obtain ⟨b, h1, h2⟩ := zYQ l m hn hl _ 0 rfl (Nat.zero_le _)
  have h1' : Ev (fun k => uK.l0 k l m (l.length : Int) 0) b := h1
  refine ⟨b, Ev.congr (fun k => by rw [uK.f]) (zL (by omega) h1'), ?_⟩
  rw [h2, List.drop_zero, List.drop_zero]
 ·refine ⟨false, Ev.congr (fun k => by rw [uK.f]) (qN (by omega) (Ev.now _)), ?_⟩
  exact ⟨fun h => (by cases h), fun h => absurd (by rw [h]) hn⟩
theorem zau (x y : xq) : x = y ↔ x.f0 = y.f0 ∧ x.f1 = y.f1 ∧ x.f2 = y.f2 := by
 cases x; cases y; simp
theorem zwv (x y : xq) : (((!(((x.f0).toList) == ((y.f0).toList))) || ((!(((x.f1).toList) == ((y.f1).toList))) || (!((x.f2) == (y.f2))))) = true) ↔ ¬ x = y := by
 rw [zau]
 by_cases h0 : x.f0.toList = y.f0.toList <;> by_cases h1 : x.f1.toList = y.f1.toList <;> by_cases h2 : x.f2 = y.f2 <;> simp_all [toList_inj]
theorem rdK (l : List xq) (i : Nat) (h : i < l.length) : xk l (i : Int) = l[i] := by simp [xk, List.getD_eq_getElem?_getD, h]
theorem zYJ (l m : List xq) (hn : l.length = m.length) (hl : l.length ≤ 1000000) : ∀ d i, l.length - i = d → i ≤ l.length → ∃ b, Ev (fun k => vI.l0 k l m (l.length : Int) (i : Int)) b ∧ (b = true ↔ l.drop i = m.drop i) := by
 intro d
 induction d with
 | zero =>
  intro i hd hi
  refine ⟨true, Ev.step (fun k => by rw [vI.l0]) (qN (by omega) (Ev.now _)), ?_⟩
  rw [List.drop_eq_nil_of_le (by omega), List.drop_eq_nil_of_le (by omega)]
  simp
 | succ d ih =>
  intro i hd hi
  have h1 : i < l.length := by omega
  have h2 : i < m.length := by omega
  have q0 : (0 : Int) ≤ (i : Int) := by omega
  have q1 : (i : Int) < (l.length : Int) := by omega
  have q2 : (i : Int) < (m.length : Int) := by omega
  obtain ⟨b, h3, h4⟩ := ih (i + 1) (by omega) (by omega)
  have hw : wrap64 ((i : Int) + 1) = ((i + 1 : Nat) : Int) := (YA (by omega) (by omega)).trans (by omega)
  by_cases hx : l[i] = m[i]
  ·refine ⟨b, Ev.step (fun k => by rw [vI.l0]) (zL q1 (zL q0 (zL q1 (zL q2 (qN ?_ ?_))))), ?_⟩
   ·rw [rdK l i h1, rdK m i h2, zwv]
    exact fun h => h hx
   ·rw [hw]
    exact h3
   ·rw [h4, Vv l m i h1 h2]
    exact ⟨fun h => ⟨hx, h⟩, fun h => h.2⟩
  ·refine ⟨false, Ev.step (fun k => by rw [vI.l0]) (zL q1 (zL q0 (zL q1 (zL q2 (zL ?_ (Ev.now _)))))), ?_⟩
   ·rw [rdK l i h1, rdK m i h2, zwv]
    exact hx
   ·rw [Vv l m i h1 h2]
    exact ⟨fun h => (by cases h), fun h => absurd h.1 hx⟩
theorem zYV (l m : List xq) (hl : l.length ≤ 1000000) : ∃ b, Ev (fun k => vI.f k l m) b ∧ (b = true ↔ l = m) := by
 by_cases hn : l.length = m.length
 ·obtain ⟨b, h1, h2⟩ := zYJ l m hn hl _ 0 rfl (Nat.zero_le _)
  have h1' : Ev (fun k => vI.l0 k l m (l.length : Int) 0) b := h1
  refine ⟨b, Ev.congr (fun k => by rw [vI.f]) (zL (by omega) h1'), ?_⟩
  rw [h2, List.drop_zero, List.drop_zero]
 ·refine ⟨false, Ev.congr (fun k => by rw [vI.f]) (qN (by omega) (Ev.now _)), ?_⟩
  exact ⟨fun h => (by cases h), fun h => absurd (by rw [h]) hn⟩
theorem zzE (a0 : ByteArray) (a1 : Bool) (a2 : Int) (l3 : List qw) (l4 : List qh) (l5 : List xq) (b0 : ByteArray) (b1 : Bool) (b2 : Int) (m3 : List qw) (m4 : List qh) (m5 : List xq) (h3 : l3.length ≤ 1000000) (h4 : l4.length ≤ 1000000) (h5 : l5.length ≤ 1000000) :
  ∃ b, Ev (fun k => Zn.f k a0 a1 a2 l3 l4 l5 b0 b1 b2 m3 m4 m5) b ∧ (b = true ↔ (a0 = b0 ∧ a1 = b1 ∧ a2 = b2 ∧ l3 = m3 ∧ l4 = m4 ∧ l5 = m5)) := by
 have no : ∀ {P : Prop}, ¬ P → (false = true ↔ P) := fun h => ⟨fun e => (by cases e), fun e => absurd e h⟩
 by_cases e0 : a0 = b0
 rotate_left
 ·exact ⟨false, Ev.congr (fun k => by rw [Zn.f]) (qN (fun h => e0 (toList_inj.1 h)) (Ev.now _)), no (fun h => e0 h.1)⟩
 by_cases e1 : a1 = b1
 rotate_left
 ·exact ⟨false, Ev.congr (fun k => by rw [Zn.f]) (zL (toList_inj.2 e0) (qN (fun h => e1 (by simpa using h)) (Ev.now _))), no (fun h => e1 h.2.1)⟩
 by_cases e2 : a2 = b2
 rotate_left
 ·exact ⟨false, Ev.congr (fun k => by rw [Zn.f]) (zL (toList_inj.2 e0) (zL (by simpa using e1) (qN e2 (Ev.now _)))), no (fun h => e2 h.2.2.1)⟩
 obtain ⟨g, g1, g2⟩ := zYZ l3 m3 h3
 obtain ⟨l, l1, l2⟩ := zYX l4 m4 h4
 obtain ⟨n, n1, n2⟩ := zYV l5 m5 h5
 have start : ∀ {r : Bool}, Ev (fun k => (vF.f k l3 m3).bind fun Wu => (if Wu = true then ((uK.f k l4 m4).bind fun VH => (if VH = true then ((vI.f k l5 m5).bind fun Xh => (some Xh)) else (some false))) else (some false))) r → Ev (fun k => Zn.f k a0 a1 a2 l3 l4 l5 b0 b1 b2 m3 m4 m5) r := by
  intro r h
  refine Ev.congr (fun k => by rw [Zn.f]) ?_
  refine zL (toList_inj.2 e0) ?_
  refine zL (by simpa using e1) ?_
  exact zL e2 h
 cases g with
 | false =>
  refine ⟨false, start ?_, no (fun h => by have := g2.2 h.2.2.2.1; cases this)⟩
  refine Ev.bind g1 ?_
  exact qN Bool.false_ne_true (Ev.now _)
 | true =>
  cases l with
  | false =>
   refine ⟨false, start ?_, no (fun h => by have := l2.2 h.2.2.2.2.1; cases this)⟩
   refine Ev.bind g1 ?_
   refine zL rfl ?_
   refine Ev.bind l1 ?_
   exact qN Bool.false_ne_true (Ev.now _)
  | true =>
   refine ⟨n, start ?_, ?_⟩
   ·refine Ev.bind g1 ?_
    refine zL rfl ?_
    refine Ev.bind l1 ?_
    refine zL rfl ?_
    refine Ev.bind n1 ?_
    exact Ev.now _
   rw [n2]
   exact ⟨fun h => ⟨e0, e1, e2, g2.1 rfl, l2.1 rfl, h⟩, fun h => h.2.2.2.2.2⟩
theorem zJl : uw u7.f0 u7.f2 u7.f3 u7.f4 u7.f5 = true := by decide +kernel
theorem zQJ : ZR.f = some true := by
 have h1 : kX.f u7.f0 u7.f1 u7.f2 u7.f3 u7.f4 u7.f5 = some true := by
  unfold kX.f
  rw [zJl]
  decide +kernel
 have h2 : jR.f u7.f0 u7.f1 u7.f2 u7.f3 u7.f4 u7.f5 (⟨#[109]⟩ : ByteArray) = some (79, true) := by decide +kernel
 have h3 : (qV u7.f3 79).f1 = 750 := by decide +kernel
 have h4 : wK.f 750 10 = some 75 := by decide +kernel
 have h5 : wY.f u7.f0 u7.f1 u7.f2 u7.f3 u7.f4 u7.f5 (⟨#[109]⟩ : ByteArray) 10 = some (75, 0) := by
  have hlen : u7.f3.length = 97 := by decide +kernel
  unfold wY.f Yv.f
  rw [if_pos (by decide), if_pos (by decide), h1, h2]
  simp only [Option.bind_some, if_true]
  rw [if_pos (by decide), if_pos (by rw [hlen]; decide), h3, h4]
  rfl
 show (kQ.f).bind _ = _
 unfold kQ.f
 simp only [Option.bind_some]
 rw [if_pos (by decide), if_pos (by decide)]
 show (wY.f u7.f0 u7.f1 u7.f2 u7.f3 u7.f4 u7.f5 (⟨#[109]⟩ : ByteArray) 10).bind _ = _
 rw [h5]
 rfl
end Go.Proofs.YtaifemkokfoadaaGreatDoor
namespace Go.Proofs.YtaifemkokfoadaaGreatDoor
open Go.RowKit Go.Shelf Go.Proofs.zx.zK Go.Proofs.zx.zU Go.Proofs.zx.zN Go.Proofs.YtaifemkokfoadaaGreatDoor.PX
set_option linter.unusedSimpArgs false
set_option linter.unusedVariables false
theorem eF {a : ByteArray} {c : Int} {l3 : List qw} {l4 : List qh} {l5 : List xq} (h : uw a c l3 l4 l5 = true) : l3.length ≤ 400 ∧ l4.length ≤ 50 ∧ l5.length ≤ 500 := by
 unfold uw at h
 split at h
 ·cases h
 ·rename_i q1
  simp only [Bool.or_eq_true, not_or, decide_eq_true_eq] at q1
  omega
theorem eH {a : ByteArray} {c : Int} {l3 : List qw} {l4 : List qh} {l5 : List xq} (h : uw a c l3 l4 l5 = true) : Asc l3 := by
 unfold uw at h
 split at h
 ·cases h
 ·split at h
  ·cases h
  ·rename_i q2
   simp only [Bool.or_eq_true, not_or, Bool.not_eq_true, Bool.not_eq_false'] at q2
   exact zvg q2.2
theorem mP {a : ByteArray} {c : Int} {l3 : List qw} {l4 : List qh} {l5 : List xq} (h : uw a c l3 l4 l5 = true) : ∀ x ∈ l3, 0 ≤ x.f1 ∧ x.f1 ≤ 3000 := by
 unfold uw at h
 split at h
 ·cases h
 ·split at h
  ·cases h
  ·rename_i q2
   intro x hx
   simp only [Bool.or_eq_true, not_or, Bool.not_eq_true, Bool.not_eq_false'] at q2
   have h1 := List.any_eq_false.1 q2.1 x hx
   unfold XP ZP at h1
   simp only [Bool.or_eq_true, not_or, decide_eq_true_eq] at h1
   omega
theorem zQV (a n : Int) (h0 : 0 < n) (h1 : n ≤ 1000000) : ∃ i : Nat, (i : Int) < n ∧ wrap64 ((IntKind.u64.wrap a).tmod n) = (i : Int) := by
 have hu : 0 ≤ IntKind.u64.wrap a := by
  show 0 ≤ a % 18446744073709551616
  exact Int.emod_nonneg _ (by decide)
 generalize IntKind.u64.wrap a = u at hu
 rw [Int.tmod_eq_emod_of_nonneg hu]
 have e0 := Int.emod_nonneg u (by omega : n ≠ 0)
 have e1 := Int.emod_lt_of_pos u h0
 generalize u % n = r at e0 e1
 exact ⟨r.toNat, by omega, by rw [YA (by omega) (by omega)]; omega⟩
end Go.Proofs.YtaifemkokfoadaaGreatDoor
namespace Go.Proofs.YtaifemkokfoadaaGreatDoor
open Go.RowKit Go.Proofs.zx.zK Go.Proofs.zx.zU Go.Proofs.zx.zN Go.Proofs.YtaifemkokfoadaaGreatDoor.PX
set_option linter.unusedSimpArgs false
set_option linter.unusedVariables false
theorem Vk (l : List Int) (i : Nat) : ∃ v : Nat, yj.f l (i : Int) = some (v : Int) ∧ v < 100000 := by
 unfold yj.f
 by_cases h : (i : Int) < (l.length : Int)
 ·obtain ⟨v, hv, e⟩ := zQV (rd l (i : Int)) 100000 (by decide) (by decide)
  exact ⟨v, by rw [if_pos h, if_pos (by omega), e], by omega⟩
 ·exact ⟨0, by rw [if_neg h]; rfl, by omega⟩
theorem aw (i : Nat) (m : Int) (n : Nat) (h : i ≤ 1000) (hm : m = (n : Int)) (hn : n ≤ 1000) : zy (wrap64 ((i : Int) + m) = ((i + n : Nat) : Int)) := ⟨by rw [hm, YA (by omega) (by omega)]; omega⟩
theorem zQK (k : Nat) (n : ByteArray) (b : Bool) (c : Int) (l3 : List qJ) (l4 : List xK) (l5 : List xY) (h3 : l3.length ≤ 8) (h4 : l4.length ≤ 8) (h5 : l5.length ≤ 8) : jM.f k n b c l3 l4 l5 = some (n, b, c, l3.map wH, l4.map YQ, l5.map YX) := by
 unfold jM.f
 rw [if_pos (by omega)]
theorem P6 (v n : Nat) (h : 0 < n) : (0 : Int) ≤ Int.tmod (v : Int) (n : Int) ∧ Int.tmod (v : Int) (n : Int) < (n : Int) := by
 rw [Int.tmod_eq_emod_of_nonneg (by omega)]
 exact ⟨Int.emod_nonneg _ (by omega), Int.emod_lt_of_pos _ (by omega)⟩
end Go.Proofs.YtaifemkokfoadaaGreatDoor
namespace Go.Proofs.YtaifemkokfoadaaGreatDoor.PX
open Go.RowKit Go.Proofs.zx.zK Go.Proofs.zx.zU Go.Proofs.zx.zN
attribute [local go_sem] qF qG xC xD qY qW qH qI   -- for this text's walks alone
set_option linter.unusedVariables false
set_option linter.unusedSimpArgs false
def xP.l0 : Nat → ByteArray → Int → Option (Bool)
 | 0, _, _ => none
 | k + 1, x0, x3 => if x3 < (x0.size : Int) then (if 0 ≤ x3 then (if (bt x0 x3) < 33 then (some false) else (if (bt x0 x3) > 126 then (some false) else (xP.l0 k x0 (wrap64 (x3 + 1))))) else (none)) else (if (x0.size : Int) ≥ 1 then (some (decide ((x0.size : Int) ≤ 10))) else (some false))
def xP.f (k : Nat) (a0 : ByteArray) : Option (Bool) := xP.l0 k a0 0
set_option maxHeartbeats 8000000 in
set_option maxRecDepth 100000 in
theorem xP.calls (k : Nat) (a0 : ByteArray) (r : Bool) (w : World) (h : xP.f k a0 = some r) :
  Calls Tryz.prog 105 #[.string a0] w fun e w' => e = .returned (.bool r) ∧ z8 w w' := by
 have H : (xP.l0 k a0 0) = some r := h
 clear h
 have H' := zy.mk H
 clear H
 go_enter Tryz.func105, Tryz.ntmps105
 go_wp2
 go_loopg [3] k (fun kq v3 w' => ∃ (uz : Int), v3 = .int .i64 uz ∧ zy (xP.l0 kq a0 uz = some r) ∧ zy (kq ≤ k) ∧ z8 w w')
 case atStart => exact ⟨(0), (by first | rfl | (simp; done) | (simp [*]; done)), H', ⟨Nat.le_refl _⟩, by repeat (first | exact z8.refl _ | apply z8.step)⟩
 case round =>
  clear H'
  try clear c1
  obtain ⟨uz, rfl, HA, vT, ⟨m1, rfl⟩⟩ := hrel
  cases gk with
  | zero => exact absurd HA.out (by simp [xP.l0])
  | succ k1 =>
   have H := HA.out
   clear HA
   simp only [xP.l0] at H
   by_cases c2 : uz < (a0.size : Int)
   ·rw [if_pos c2] at H
    have Wh : decide (uz < (a0.size : Int)) = true := decide_eq_true c2
    clear c2
    by_cases c3 : 0 ≤ uz
    ·rw [if_pos c3] at H
     have kC : decide (0 ≤ uz) = true := decide_eq_true c3
     clear c3
     by_cases c5 : (bt a0 uz) < 33
     ·rw [if_pos c5] at H
      have Ya : decide ((bt a0 uz) < 33) = true := decide_eq_true c5
      clear c5
      obtain rfl := Option.some.inj H
      have p4 : 0 ≤ (uz : Int) := of_decide_eq_true (by first | (with_reducible assumption) | assumption)
      have q4 : uz < (a0.size : Int) := of_decide_eq_true (by first | (with_reducible assumption) | assumption)
      have hx4 := Zd a0 uz
      replace p4 := eq_true p4
      replace q4 := eq_true q4
      go_wp2
      go_ret
      exact ⟨by first | rfl | (simp; done) | (simp [*]; done), by repeat (first | exact z8.refl _ | apply z8.step)⟩
     ·rw [if_neg c5] at H
      have Ya : decide ((bt a0 uz) < 33) = false := decide_eq_false c5
      clear c5
      by_cases c7 : (bt a0 uz) > 126
      ·rw [if_pos c7] at H
       have QN : decide (126 < (bt a0 uz)) = true := decide_eq_true c7
       clear c7
       obtain rfl := Option.some.inj H
       have p4 : 0 ≤ (uz : Int) := of_decide_eq_true (by first | (with_reducible assumption) | assumption)
       have q4 : uz < (a0.size : Int) := of_decide_eq_true (by first | (with_reducible assumption) | assumption)
       have hx4 := Zd a0 uz
       replace p4 := eq_true p4
       replace q4 := eq_true q4
       have p6 : 0 ≤ (uz : Int) := of_decide_eq_true (by first | (with_reducible assumption) | assumption)
       have q6 : uz < (a0.size : Int) := of_decide_eq_true (by first | (with_reducible assumption) | assumption)
       have hx6 := Zd a0 uz
       replace p6 := eq_true p6
       replace q6 := eq_true q6
       go_wp2
       go_ret
       exact ⟨by first | rfl | (simp; done) | (simp [*]; done), by repeat (first | exact z8.refl _ | apply z8.step)⟩
      ·rw [if_neg c7] at H
       have QN : decide (126 < (bt a0 uz)) = false := decide_eq_false c7
       clear c7
       have H' := zy.mk H
       clear H
       have p4 : 0 ≤ (uz : Int) := of_decide_eq_true (by first | (with_reducible assumption) | assumption)
       have q4 : uz < (a0.size : Int) := of_decide_eq_true (by first | (with_reducible assumption) | assumption)
       have hx4 := Zd a0 uz
       replace p4 := eq_true p4
       replace q4 := eq_true q4
       have p6 : 0 ≤ (uz : Int) := of_decide_eq_true (by first | (with_reducible assumption) | assumption)
       have q6 : uz < (a0.size : Int) := of_decide_eq_true (by first | (with_reducible assumption) | assumption)
       have hx6 := Zd a0 uz
       replace p6 := eq_true p6
       replace q6 := eq_true q6
       go_wp2
       go_roundg k1
       case measure => have := vT.out; omega
       case rel => exact ⟨(wrap64 (uz + 1)), (by first | rfl | (simp; done) | (simp [*]; done)), H', ⟨by have := vT.out; omega⟩, by repeat (first | exact z8.refl _ | apply z8.step)⟩
    ·rw [if_neg c3] at H
     exact absurd H (by simp)
   ·rw [if_neg c2] at H
    have Wh : decide (uz < (a0.size : Int)) = false := decide_eq_false c2
    clear c2
    by_cases c8 : (a0.size : Int) ≥ 1
    ·rw [if_pos c8] at H
     have Y0 : decide (1 ≤ (a0.size : Int)) = true := decide_eq_true c8
     have zJm : decide (1 ≤ a0.size) = true := decide_eq_true (by omega)
     clear c8
     obtain rfl := Option.some.inj H
     go_wp2
     go_ret
     exact ⟨by first | rfl | (simp; done) | (simp [*]; done), by repeat (first | exact z8.refl _ | apply z8.step)⟩
    ·rw [if_neg c8] at H
     have Y0 : decide (1 ≤ (a0.size : Int)) = false := decide_eq_false c8
     have zJm : decide (1 ≤ a0.size) = false := decide_eq_false (by omega)
     clear c8
     obtain rfl := Option.some.inj H
     go_wp2
     go_ret
     exact ⟨by first | rfl | (simp; done) | (simp [*]; done), by repeat (first | exact z8.refl _ | apply z8.step)⟩
end Go.Proofs.YtaifemkokfoadaaGreatDoor.PX
namespace Go.Proofs.YtaifemkokfoadaaGreatDoor
open Go.RowKit Go.Proofs.zx.zK Go.Proofs.zx.zN Go.Proofs.YtaifemkokfoadaaGreatDoor.PX
set_option linter.unusedSimpArgs false
set_option linter.unusedVariables false
def VA : List UInt8 → Nat → Bool
 | [], _ => true
 | b :: r, i => (kG b || (decide (i ≠ 0) && YW b)) && VA r (i + 1)
theorem mR : ∀ (l : List UInt8) (i : Nat), i ≠ 0 → VA l i = l.all fun b => kG b || YW b
 | [], _, _ => rfl
 | b :: r, i, h => by rw [VA, mR r (i + 1) (by omega), List.all_cons, decide_eq_true h, Bool.true_and]
theorem zzJ (l : List UInt8) : (VA l 0 && (decide (1 ≤ l.length) && decide (l.length ≤ 10))) = kT l := by
 unfold kT
 cases l with
 | nil => rfl
 | cons b r =>
  rw [VA, mR r 1 (by omega), List.all_cons]
  simp only [List.head?_cons, Option.map_some, Option.getD_some, ne_eq, not_true_eq_false, decide_false, Bool.false_and, Bool.or_false]
  cases kG b <;> cases (r.all fun b => kG b || YW b) <;> cases decide (1 ≤ (b :: r).length) <;> cases decide ((b :: r).length ≤ 10) <;> cases YW b <;> rfl
set_option maxRecDepth 100000 in
set_option maxHeartbeats 4000000 in
theorem zQY (s : ByteArray) (hs : s.size ≤ 140737488355328) (w : World) : Calls Tryz.prog 104 #[.string s] w fun e w' => e = .returned (.bool (kT s.data.toList)) ∧ z8 w w' := by
 have hlen : s.data.toList.length = s.size := Array.length_toList
 have h0 := zzJ s.data.toList
 generalize kT s.data.toList = V at h0 ⊢
 have hbt : ∀ (i : Nat) (h : i < s.data.toList.length), bt s (i : Int) = ((s.data.toList[i]).toNat : Int) := fun i h => by
  have := Y9 s.data.toList i h
  rwa [YN] at this
 have HBT := zy.mk hbt
 clear hbt
 generalize s.data.toList = l at h0 hlen HBT
 have HX := zy.mk (Zd s)
 go_enter Tryz.func104, Tryz.ntmps104
 go_wp2
 go_loopw [3] (fun y W => ∃ i : Nat, y = .int .i64 (i : Int) ∧ i ≤ s.size ∧ W = w ∧ zy ((VA (l.drop i) i && (decide (1 ≤ l.length) && decide (l.length ≤ 10))) = V)) (fun y _ => s.size - (intOf y).toNat)
 case atStart => exact ⟨0, rfl, Nat.zero_le _, rfl, ⟨by rw [List.drop_zero]; exact h0⟩⟩
 case round =>
  clear h0
  obtain ⟨i, rfl, hi, rfl, HV⟩ := hrel
  by_cases hlt : i < s.size
  ·have h1 : i < l.length := by omega
   have hn := HBT.out i h1
   have hv := HV.out
   rw [List.drop_eq_getElem_cons h1, VA] at hv
   generalize l[i] = b at hn hv
   have hx := HX.out (i : Int)
   have hx0 : (0 : Int) ≤ bt s (i : Int) := by omega
   rw [Int.toNat_natCast] at hx
   generalize bt s (i : Int) = n at hn hx hx0
   have p1 : ((i : Int) < (s.size : Int)) = True := eq_true (by omega)
   have p0 : ((0 : Int) ≤ (i : Int)) = True := eq_true (by omega)
   have p3 : i < s.size := hlt
   have uT := zy.mk hv
   have HN := zy.mk hn
   clear hv HV HBT HX hn
   have hc : (97 ≤ n ∧ n ≤ 122) ∨ 122 < n ∨ (91 ≤ n ∧ n ≤ 96) ∨ (65 ≤ n ∧ n ≤ 90) ∨ (58 ≤ n ∧ n ≤ 64) ∨ (48 ≤ n ∧ n ≤ 57) ∨ n < 48 := by omega
   rcases hc with hc | hc | hc | hc | hc | hc | hc
   ·have d0 : decide (97 ≤ n) = true := decide_eq_true (by omega)
    have d1 : decide (n ≤ 122) = true := decide_eq_true (by omega)
    have d2 : decide (65 ≤ n) = true := decide_eq_true (by omega)
    have d3 : decide (n ≤ 90) = false := decide_eq_false (by omega)
    have d4 : decide (n < 48) = false := decide_eq_false (by omega)
    have d5 : decide (57 < n) = true := decide_eq_true (by omega)
    have e1 : kG b = true := by have := HN.out; unfold kG; first | (rw [decide_eq_true (by omega : 97 ≤ b.toNat), decide_eq_true (by omega : b.toNat ≤ 122)]; rfl) | (rw [decide_eq_true (by omega : 65 ≤ b.toNat), decide_eq_true (by omega : b.toNat ≤ 90), Bool.and_true, Bool.or_true])
    have hv2 := uT.out
    rw [e1, Bool.true_or, Bool.true_and] at hv2
    clear hc
    go_wp2
    go_roundw
    case rel => exact ⟨i + 1, by first | rfl | (simp; done) | go_num, by omega, by first | rfl | trivial, ⟨hv2⟩⟩
    case measure => simp [intOf]; omega
   ·have d0 : decide (97 ≤ n) = true := decide_eq_true (by omega)
    have d1 : decide (n ≤ 122) = false := decide_eq_false (by omega)
    have d2 : decide (65 ≤ n) = true := decide_eq_true (by omega)
    have d3 : decide (n ≤ 90) = false := decide_eq_false (by omega)
    have d4 : decide (n < 48) = false := decide_eq_false (by omega)
    have d5 : decide (57 < n) = true := decide_eq_true (by omega)
    have e1 : kG b = false := by have := HN.out; unfold kG; simp only [Bool.or_eq_false_iff, Bool.and_eq_false_iff, decide_eq_false_iff_not]; omega
    have e2 : YW b = false := by have := HN.out; unfold YW; simp only [Bool.and_eq_false_iff, decide_eq_false_iff_not]; omega
    by_cases hi0 : i = 0
    ·have d9 : decide ((i : Int) = 0) = true := decide_eq_true (by omega)
     have d8 : ((i : Int) == 0) = true := beq_iff_eq.2 (by omega)
     have hv2 : false = V := by rw [← uT.out, e1, decide_eq_false (by omega : ¬ i ≠ 0)]; rfl
     subst hv2
     clear hc
     try clear hi0
     try clear d9
     go_wp2
     go_ret
     exact ⟨rfl, z8.refl _⟩
    ·have d9 : decide ((i : Int) = 0) = false := decide_eq_false (by omega)
     have d8 : ((i : Int) == 0) = false := beq_eq_false_iff_ne.2 (by omega)
     have hv2 : false = V := by rw [← uT.out, e1, e2, Bool.and_false]; rfl
     subst hv2
     clear hc
     try clear hi0
     try clear d9
     go_wp2
     go_ret
     exact ⟨rfl, z8.refl _⟩
   ·have d0 : decide (97 ≤ n) = false := decide_eq_false (by omega)
    have d1 : decide (n ≤ 122) = true := decide_eq_true (by omega)
    have d2 : decide (65 ≤ n) = true := decide_eq_true (by omega)
    have d3 : decide (n ≤ 90) = false := decide_eq_false (by omega)
    have d4 : decide (n < 48) = false := decide_eq_false (by omega)
    have d5 : decide (57 < n) = true := decide_eq_true (by omega)
    have e1 : kG b = false := by have := HN.out; unfold kG; simp only [Bool.or_eq_false_iff, Bool.and_eq_false_iff, decide_eq_false_iff_not]; omega
    have e2 : YW b = false := by have := HN.out; unfold YW; simp only [Bool.and_eq_false_iff, decide_eq_false_iff_not]; omega
    by_cases hi0 : i = 0
    ·have d9 : decide ((i : Int) = 0) = true := decide_eq_true (by omega)
     have d8 : ((i : Int) == 0) = true := beq_iff_eq.2 (by omega)
     have hv2 : false = V := by rw [← uT.out, e1, decide_eq_false (by omega : ¬ i ≠ 0)]; rfl
     subst hv2
     clear hc
     try clear hi0
     try clear d9
     go_wp2
     go_ret
     exact ⟨rfl, z8.refl _⟩
    ·have d9 : decide ((i : Int) = 0) = false := decide_eq_false (by omega)
     have d8 : ((i : Int) == 0) = false := beq_eq_false_iff_ne.2 (by omega)
     have hv2 : false = V := by rw [← uT.out, e1, e2, Bool.and_false]; rfl
     subst hv2
     clear hc
     try clear hi0
     try clear d9
     go_wp2
     go_ret
     exact ⟨rfl, z8.refl _⟩
   ·have d0 : decide (97 ≤ n) = false := decide_eq_false (by omega)
    have d1 : decide (n ≤ 122) = true := decide_eq_true (by omega)
    have d2 : decide (65 ≤ n) = true := decide_eq_true (by omega)
    have d3 : decide (n ≤ 90) = true := decide_eq_true (by omega)
    have d4 : decide (n < 48) = false := decide_eq_false (by omega)
    have d5 : decide (57 < n) = true := decide_eq_true (by omega)
    have e1 : kG b = true := by have := HN.out; unfold kG; first | (rw [decide_eq_true (by omega : 97 ≤ b.toNat), decide_eq_true (by omega : b.toNat ≤ 122)]; rfl) | (rw [decide_eq_true (by omega : 65 ≤ b.toNat), decide_eq_true (by omega : b.toNat ≤ 90), Bool.and_true, Bool.or_true])
    have hv2 := uT.out
    rw [e1, Bool.true_or, Bool.true_and] at hv2
    clear hc
    go_wp2
    go_roundw
    case rel => exact ⟨i + 1, by first | rfl | (simp; done) | go_num, by omega, by first | rfl | trivial, ⟨hv2⟩⟩
    case measure => simp [intOf]; omega
   ·have d0 : decide (97 ≤ n) = false := decide_eq_false (by omega)
    have d1 : decide (n ≤ 122) = true := decide_eq_true (by omega)
    have d2 : decide (65 ≤ n) = false := decide_eq_false (by omega)
    have d3 : decide (n ≤ 90) = true := decide_eq_true (by omega)
    have d4 : decide (n < 48) = false := decide_eq_false (by omega)
    have d5 : decide (57 < n) = true := decide_eq_true (by omega)
    have e1 : kG b = false := by have := HN.out; unfold kG; simp only [Bool.or_eq_false_iff, Bool.and_eq_false_iff, decide_eq_false_iff_not]; omega
    have e2 : YW b = false := by have := HN.out; unfold YW; simp only [Bool.and_eq_false_iff, decide_eq_false_iff_not]; omega
    by_cases hi0 : i = 0
    ·have d9 : decide ((i : Int) = 0) = true := decide_eq_true (by omega)
     have d8 : ((i : Int) == 0) = true := beq_iff_eq.2 (by omega)
     have hv2 : false = V := by rw [← uT.out, e1, decide_eq_false (by omega : ¬ i ≠ 0)]; rfl
     subst hv2
     clear hc
     try clear hi0
     try clear d9
     go_wp2
     go_ret
     exact ⟨rfl, z8.refl _⟩
    ·have d9 : decide ((i : Int) = 0) = false := decide_eq_false (by omega)
     have d8 : ((i : Int) == 0) = false := beq_eq_false_iff_ne.2 (by omega)
     have hv2 : false = V := by rw [← uT.out, e1, e2, Bool.and_false]; rfl
     subst hv2
     clear hc
     try clear hi0
     try clear d9
     go_wp2
     go_ret
     exact ⟨rfl, z8.refl _⟩
   ·have d0 : decide (97 ≤ n) = false := decide_eq_false (by omega)
    have d1 : decide (n ≤ 122) = true := decide_eq_true (by omega)
    have d2 : decide (65 ≤ n) = false := decide_eq_false (by omega)
    have d3 : decide (n ≤ 90) = true := decide_eq_true (by omega)
    have d4 : decide (n < 48) = false := decide_eq_false (by omega)
    have d5 : decide (57 < n) = false := decide_eq_false (by omega)
    have e1 : kG b = false := by have := HN.out; unfold kG; simp only [Bool.or_eq_false_iff, Bool.and_eq_false_iff, decide_eq_false_iff_not]; omega
    have e2 : YW b = true := by have := HN.out; unfold YW; rw [decide_eq_true (by omega : 48 ≤ b.toNat), decide_eq_true (by omega : b.toNat ≤ 57)]; rfl
    by_cases hi0 : i = 0
    ·have d9 : decide ((i : Int) = 0) = true := decide_eq_true (by omega)
     have d8 : ((i : Int) == 0) = true := beq_iff_eq.2 (by omega)
     have hv2 : false = V := by rw [← uT.out, e1, decide_eq_false (by omega : ¬ i ≠ 0)]; rfl
     subst hv2
     clear hc
     try clear hi0
     try clear d9
     go_wp2
     go_ret
     exact ⟨rfl, z8.refl _⟩
    ·have d9 : decide ((i : Int) = 0) = false := decide_eq_false (by omega)
     have d8 : ((i : Int) == 0) = false := beq_eq_false_iff_ne.2 (by omega)
     have hv2 := uT.out
     rw [e1, e2, decide_eq_true (by omega : i ≠ 0), Bool.true_and, Bool.or_true, Bool.true_and] at hv2
     clear hc
     go_wp2
     go_roundw
     case rel => exact ⟨i + 1, by first | rfl | (simp; done) | go_num, by omega, by first | rfl | trivial, ⟨hv2⟩⟩
     case measure => simp [intOf]; omega
   ·have d0 : decide (97 ≤ n) = false := decide_eq_false (by omega)
    have d1 : decide (n ≤ 122) = true := decide_eq_true (by omega)
    have d2 : decide (65 ≤ n) = false := decide_eq_false (by omega)
    have d3 : decide (n ≤ 90) = true := decide_eq_true (by omega)
    have d4 : decide (n < 48) = true := decide_eq_true (by omega)
    have d5 : decide (57 < n) = false := decide_eq_false (by omega)
    have e1 : kG b = false := by have := HN.out; unfold kG; simp only [Bool.or_eq_false_iff, Bool.and_eq_false_iff, decide_eq_false_iff_not]; omega
    have e2 : YW b = false := by have := HN.out; unfold YW; simp only [Bool.and_eq_false_iff, decide_eq_false_iff_not]; omega
    by_cases hi0 : i = 0
    ·have d9 : decide ((i : Int) = 0) = true := decide_eq_true (by omega)
     have d8 : ((i : Int) == 0) = true := beq_iff_eq.2 (by omega)
     have hv2 : false = V := by rw [← uT.out, e1, decide_eq_false (by omega : ¬ i ≠ 0)]; rfl
     subst hv2
     clear hc
     try clear hi0
     try clear d9
     go_wp2
     go_ret
     exact ⟨rfl, z8.refl _⟩
    ·have d9 : decide ((i : Int) = 0) = false := decide_eq_false (by omega)
     have d8 : ((i : Int) == 0) = false := beq_eq_false_iff_ne.2 (by omega)
     have hv2 : false = V := by rw [← uT.out, e1, e2, Bool.and_false]; rfl
     subst hv2
     clear hc
     try clear hi0
     try clear d9
     go_wp2
     go_ret
     exact ⟨rfl, z8.refl _⟩
  ·obtain rfl : i = s.size := by omega
   have hv := HV.out
   rw [List.drop_eq_nil_of_le (by omega), VA, Bool.true_and, hlen] at hv
   have q2 : decide ((s.size : Int) < (s.size : Int)) = false := decide_eq_false (by omega)
   by_cases g1 : 1 ≤ s.size
   ·have d1 : decide ((1 : Int) ≤ (s.size : Int)) = true := decide_eq_true (by omega)
    have hv2 : decide ((s.size : Int) ≤ 10) = V := by rw [← hv, decide_eq_true g1, Bool.true_and]; exact decide_eq_decide.2 (by omega)
    clear hv HV HBT HX
    go_wp2
    go_ret
    exact ⟨by first | (rw [← hv2]; done) | (rw [hv2]; done) | (simp [hv2]; done), z8.refl _⟩
   ·have d1 : decide ((1 : Int) ≤ (s.size : Int)) = false := decide_eq_false (by omega)
    have hv2 : false = V := by rw [← hv, decide_eq_false g1]; rfl
    subst hv2
    clear hv HV HBT HX
    go_wp2
    go_ret
    exact ⟨rfl, z8.refl _⟩
end Go.Proofs.YtaifemkokfoadaaGreatDoor
namespace Go.Proofs.YtaifemkokfoadaaGreatDoor
open Go.RowKit Go.Proofs.zx.zK Go.Proofs.zx.zN Go.Proofs.YtaifemkokfoadaaGreatDoor.PX
set_option linter.unusedSimpArgs false
set_option linter.unusedVariables false
theorem zYK (l : List UInt8) (hl : l.length ≤ 140737488355328) : ∀ d i, l.length - i = d → i ≤ l.length → Ev (fun k => xP.l0 k (bar l) (i : Int)) ((l.drop i).all okB && (decide (1 ≤ l.length) && decide (l.length ≤ 10))) := by
 intro d
 induction d with
 | zero =>
  intro i hd hi
  have e : l.drop i = [] := List.drop_eq_nil_of_le (by omega)
  rw [e]
  refine Ev.step (fun k => by rw [xP.l0, vC]) (qN (by omega) ?_)
  by_cases h : 1 ≤ l.length
  ·refine zL (by omega) (UZ ?_ (Ev.now _))
   rw [List.all_nil, decide_eq_true h, Bool.true_and, Bool.true_and]
   exact decide_eq_decide.2 (by omega)
  ·refine qN (by omega) (UZ ?_ (Ev.now _))
   rw [List.all_nil, decide_eq_false h]; rfl
 | succ d ih =>
  intro i hd hi
  have h1 : i < l.length := by omega
  have q0 : (0 : Int) ≤ (i : Int) := by omega
  have q1 : (i : Int) < (l.length : Int) := by omega
  have hw : wrap64 ((i : Int) + 1) = ((i + 1 : Nat) : Int) := (YA (by omega) (by omega)).trans (by omega)
  have hr := ih (i + 1) (by omega) (by omega)
  have hb := Y9 l i h1
  rw [List.drop_eq_getElem_cons h1, List.all_cons]
  refine Ev.step (fun k => by rw [xP.l0, vC, hb, hw]) (zL q1 (zL q0 ?_))
  clear hb hw
  generalize l[i] = b at *
  by_cases a1 : b.toNat < 33
  ·refine zL (by omega) (UZ ?_ (Ev.now _))
   have : okB b = false := by unfold okB; rw [decide_eq_false (by omega : ¬ 33 ≤ b.toNat)]; rfl
   rw [this]; rfl
  ·refine qN (by omega) ?_
   by_cases a2 : 126 < b.toNat
   ·refine zL (by omega) (UZ ?_ (Ev.now _))
    have : okB b = false := by unfold okB; rw [decide_eq_false (by omega : ¬ b.toNat ≤ 126), Bool.and_false]
    rw [this]; rfl
   ·refine qN (by omega) (UZ ?_ hr)
    have : okB b = true := by unfold okB; rw [decide_eq_true (by omega : 33 ≤ b.toNat), decide_eq_true (by omega : b.toNat ≤ 126)]; rfl
    rw [this, Bool.true_and]
theorem zQW (l : List UInt8) (hl : l.length ≤ 140737488355328) : Ev (fun k => xP.f k (bar l)) (kS l) := by
 have h1 : Ev (fun k => xP.l0 k (bar l) 0) _ := zYK l hl _ 0 rfl (Nat.zero_le _)
 refine Ev.congr (fun k => by rw [xP.f]) (UZ ?_ h1)
 rw [List.drop_zero]
 unfold kS
 rw [Bool.and_comm, Bool.and_assoc]
theorem zvh (s : ByteArray) (hs : s.size ≤ 140737488355328) (W : World) : Calls Tryz.prog 105 #[.string s] W fun e w' => e = .returned (.bool (kS s.data.toList)) ∧ z8 W w' := by
 obtain ⟨k, hk⟩ := (zQW s.data.toList (by rw [Array.length_toList]; exact hs)).rounds
 rw [YN] at hk
 exact xP.calls k s _ W hk
end Go.Proofs.YtaifemkokfoadaaGreatDoor
