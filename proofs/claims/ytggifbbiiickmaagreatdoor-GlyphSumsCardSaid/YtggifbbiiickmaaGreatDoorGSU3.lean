/-
  Texts that lean on one another, laid in one file. No condition.
-/
import Derived.Test.YtggifbbiiickmaaGreatDoorGSU2
import Derived.Laws.Runes
import Derived.Test.YtggifbbiiickmaaGreatDoorGSU1
import Derived.ChangeAlike
namespace Go.Proofs.YtggifbbiiickmaaGreatDoor
open Go.RowKit Go.Shelf Go.Proofs.zk.ze Go.Proofs.zk.yc Go.Proofs.zk.yt Go.Proofs.YtggifbbiiickmaaGreatDoor.PX
set_option linter.unusedSimpArgs false
theorem aX {w W w1 : World} {r r' : Option Nat} (h : w.grownBy W r) (g : W.grownBy w1 r') (hr : r' = r ∨ ∃ b, r' = some b ∧ w.heap.size ≤ b) : w.grownBy w1 r := by
 refine ⟨g.os.trans h.os, g.tape.trans h.tape, g.output.trans h.output, Nat.le_trans h.size g.size, fun k hk hne => ?_⟩
 refine (g.block k (Nat.lt_of_lt_of_le hk h.size) ?_).trans (h.block k hk hne)
 rcases hr with rfl | ⟨b, rfl, hb⟩
 ·exact hne
 ·intro e
  injection e with e
  omega
theorem V4 {w W w1 : World} {r : Option Nat} (h : w.grownBy W r) (g : Below W.heap.size W w1) : w.grownBy w1 r :=
 ⟨g.os.trans h.os, g.tape.trans h.tape, g.output.trans h.output, Nat.le_trans h.size g.size, fun k hk hne => (g.block k (Nat.lt_of_lt_of_le hk h.size)).trans (h.block k hk hne)⟩
theorem ZQ {w W : World} {r : Option Nat} {g i : Nat} (h : w.grownBy W r) (hg : w.heap.size ≤ g) (v : Value) : w.grownBy (W.setCell ⟨g, i, none⟩ v) r :=
 ⟨h.os, h.tape, h.output, by simpa using h.size, fun k hk hne => (Below.heap_setCell W ⟨g, i, none⟩ v k (by show k ≠ g; omega)).trans (h.block k hk hne)⟩
theorem zx0 {w W : World} {r : Option Nat} (h : w.grownBy W r) : w.grownBy W.drew r := V4 h ⟨rfl, rfl, rfl, Nat.le_refl _, fun _ _ => rfl⟩
theorem KC {α : Type} {d : Kd α} {e b0 : Nat} {w wr w2 : World} {ok : Nat → Prop} {u : Value} {xs : List α} (hB : Below b0 w wr) (hs : b0 ≤ wr.heap.size) (hR : d.R e wr b0 ok u xs) (hg : wr.grownBy w2 u.ownBlock) : Below b0 w w2 := by
 refine hB.trans ⟨hg.os, hg.tape, hg.output, hg.size, fun k hk => hg.block k (Nat.lt_of_lt_of_le hk hs) ?_⟩
 intro e
 obtain ⟨inner, ho⟩ := Kd.UO hR
 have := Xe ho k e.symm
 omega
def chr (c : Nat) : ByteArray := Utf8.encode (c : Int)
def wF (wd : Nat → Int) (c : Nat) : List yh := (List.range (c - 33)).map fun i => ⟨chr (33 + i), wd (33 + i)⟩
theorem zvw (c : Nat) : Utf8.encode (c : Int) = chr c := rfl
attribute [irreducible] chr
theorem o9 (wd : Nat → Int) (c : Nat) (h : 33 ≤ c) : wF wd (c + 1) = wF wd c ++ [⟨chr c, wd c⟩] := by
 obtain ⟨m, rfl⟩ : ∃ m, c = 33 + m := ⟨c - 33, by omega⟩
 unfold wF
 rw [show 33 + m + 1 - 33 = m + 1 by omega, show 33 + m - 33 = m by omega, List.range_succ, List.map_append]
 rfl
theorem J4 (wd : Nat → Int) (c : Nat) : (wF wd c).length = c - 33 := by simp [wF]
def made.T5 : Bool × List (List Nat × List Nat) := (true, [([], []), ([0], [0]), ([], []), ([2], [2]), ([3], [3]), ([], []), ([], []), ([5, 6], [5, 6]), ([4, 7], [4, 7]), ([8], [8]), ([1, 9, 7], [1, 9]), ([0, 1, 2, 3, 4, 5, 6, 7, 8, 9, 10], []), ([11, 10, 10, 0, 1, 2, 3, 4, 5, 6, 7, 8, 9, 10], [10, 11])])
theorem made.zqz : xE .any (opsOf Tryz.f54 5) = made.T5 := by kernel_rfl
def zkc (name : ByteArray) (space : Int) (more : List yh) (wd : Nat → Int) (u0 : Value) (b0 : Nat) (w : World) (gr gf : Nat) (x : Value) (wr : World) : Prop :=
 ∃ (c : Nat) (u : Value), x = .int .u8 (c : Int) ∧ 33 ≤ c ∧ c ≤ 127 ∧ Kd.R qH 105 wr b0 (fun _ => True) u (more ++ wF wd c) ∧
  wr.heap[gr]? = some (.cells #[.string (⟨#[]⟩ : ByteArray), .bool false, .int .i64 0, .slice none 0 0, .slice none 0 0, .slice none 0 0] 60 (0, 0)) ∧
  wr.heap[gf]? = some (.cells #[.string name, .bool false, .int .i64 space, u, .slice none 0 0, .slice none 0 0] 60 (0, 0)) ∧
  Below b0 w wr ∧ w.grownBy wr u0.ownBlock ∧ (u.ownBlock = u0.ownBlock ∨ ∃ b, u.ownBlock = some b ∧ w.heap.size ≤ b)
set_option maxHeartbeats 8000000 in
set_option maxRecDepth 100000 in
theorem V5 (F : FuncId) (fn : Func) (hfn : Tryz.prog.funcs[F]? = some fn) (hname : (fn.name == "runtime.NumGoroutine") = false) (hbody : fn.body.isSome = true) (wd : Nat → Int)
  (hwd : ∀ (c : Nat) (W : World), 33 ≤ c → c ≤ 126 → Calls Tryz.prog F #[.int .u8 (c : Int)] W fun e w' => e = .returned (.int .i64 (wd c)) ∧ Below W.heap.size W w')
  (name : ByteArray) (space : Int) (b0 : Nat) (u0 : Value) (more ys : List yh) (w : World) (hb0 : b0 ≤ w.heap.size) (hR : Kd.R qH 105 w b0 (fun _ => True) u0 more) (hm : more.length ≤ 10)
  (hp : ys.Perm (more ++ wF wd 127)) (hs : ys.Pairwise fun a b => xQ a.f0 b.f0 < 0) :
  Calls Tryz.prog 54 #[.string name, .int .i64 space, .func (.func F) #[] #[], u0] w fun e w' => ∃ v, e = .returned (.agg #[.string name, .bool false, .int .i64 space, v, .slice none 0 0, .slice none 0 0]) ∧
   Kd.R qH 105 w' b0 (fun _ => True) v ys ∧ Below b0 w w' ∧ w.grownBy w' u0.ownBlock ∧ (v.ownBlock = u0.ownBlock ∨ ∃ b, v.ownBlock = some b ∧ w.heap.size ≤ b) := by
 have zqi := Tryz.underlying60
 have HB := zx.mk (Below.refl b0 w)
 have HG := zx.mk (World.grownBy.refl w u0.ownBlock)
 have Qv := zx.mk hR
 have HWD := zx.mk hwd
 have HP := zx.mk hp
 have HS := zx.mk hs
 have zwd := zx.mk (Zl hfn hname hbody)
 clear hR hwd hp hs hfn hname hbody
 obtain ⟨A0, c0, e0⟩ := Kd.xw Qv.out
 subst e0
 go_enter Tryz.func54, Tryz.ntmps54
 go_wp2_with (first
  | ((with_reducible refine qb (N := 8) rfl ?_); refine qM ?hg (N := 8) ?hd (cs := #[.string (⟨#[]⟩ : ByteArray), .bool false, .int .i64 0, .slice none 0 0, .slice none 0 0, .slice none 0 0]) (t := 60) ?hr ?_; (case hd => rfl); (case hg => rfl); (case hr => first | (go_simp; done) | (go_simp; rfl)); intro gr hgr w2 BR hb2; have Kr := zx.mk (Nat.le_of_eq hgr.symm); have zf := zx.mk (HB.out.trans (hb2.mono hb0)); have zl := zx.mk (V4 HG.out hb2); clear HB HG; have HB := zf; have HG := zl; have HR1 := zx.mk (Kd.yY Qv.out hb2); have aJ := zx.mk BR; clear zf zl BR hb2 hgr)
  | ((with_reducible refine qb (N := 9) rfl ?_); refine qM ?hg (N := 9) ?hd (cs := #[.string (⟨#[]⟩ : ByteArray), .bool false, .int .i64 0, .slice none 0 0, .slice none 0 0, .slice none 0 0]) (t := 60) ?hr ?_; (case hd => rfl); (case hg => rfl); (case hr => first | (go_simp; done) | (go_simp; rfl)); intro gf hgf w3 BF hb3; have Kf := zx.mk (Nat.le_trans HG.out.size (Nat.le_of_eq hgf.symm)); have zf := zx.mk (HB.out.trans (hb3.mono (Nat.le_trans hb0 HG.out.size))); have zl := zx.mk (V4 HG.out hb3); have zu := zx.mk (zN aJ.out hb3); have zH := zx.mk (Kd.yY HR1.out hb3); have gL := zx.mk (show gr ≠ gf by rw [hgf]; exact Nat.ne_of_lt (Qa aJ.out)); clear HB HG aJ HR1 Qv; have HB := zf; have HG := zl; have aJ := zu; have HR1 := zH; clear zf zl zu zH hgf hb3; have zvZ : w3.cell? ⟨gf, 0, none⟩ = some (.string (⟨#[]⟩ : ByteArray)) := (zZ BF 0).trans rfl; have zvQ : w3.cell? ⟨gf, 1, none⟩ = some (.bool false) := (zZ BF 1).trans rfl; have zvX : w3.cell? ⟨gf, 2, none⟩ = some (.int .i64 0) := (zZ BF 2).trans rfl; have zvJ : w3.cell? ⟨gf, 3, none⟩ = some (.slice none 0 0) := (zZ BF 3).trans rfl; have zvV : w3.cell? ⟨gf, 4, none⟩ = some (.slice none 0 0) := (zZ BF 4).trans rfl; have zvK : w3.cell? ⟨gf, 5, none⟩ = some (.slice none 0 0) := (zZ BF 5).trans rfl; have zJ1 := zV BF 0; have zJ2 := zV BF 1; have zJ3 := zV BF 2; have zJ4 := zV BF 3; have zJ5 := zV BF 4; have zJ6 := zV BF 5; have BFA := zx.mk BF; clear BF))
 have gM := zx.mk (Nat.le_trans hb0 Kf.out)
 go_loopw [10] (fun x wr => zkc name space more wd (.slice A0 more.length c0) b0 w gr gf x wr) (fun x _ => 127 - (intOf x).toNat)
 case atStart =>
  refine ⟨33, .slice A0 more.length c0, rfl, by omega, by omega, ?_, ?_, ?_, ?_, ?_, Or.inl rfl⟩
  ·rw [show wF wd 33 = [] from rfl, List.append_nil]
   have h := Kd.Ww HR1.out BFA.out (by decide)
   exact Kd.kC (Kd.ZP (p := ⟨gf, 5, none⟩) (Kd.ZP (p := ⟨gf, 4, none⟩) (Kd.ZP (p := ⟨gf, 3, none⟩) (Kd.ZP (p := ⟨gf, 2, none⟩) (Kd.ZP (p := ⟨gf, 1, none⟩) (Kd.ZP (p := ⟨gf, 0, none⟩) h (fun _ hk => hk.2) _) (fun _ hk => hk.2) _) (fun _ hk => hk.2) _) (fun _ hk => hk.2) _) (fun _ hk => hk.2) _) (fun _ hk => hk.2) _) (fun _ _ => trivial)
  ·refine Yr ?_ gL.out _
   refine Yr ?_ gL.out _
   refine Yr ?_ gL.out _
   refine Yr ?_ gL.out _
   refine Yr ?_ gL.out _
   refine Yr ?_ gL.out _
   exact aJ.out
  ·refine qO (cs := #[.string name, .bool false, .int .i64 space, .slice A0 more.length c0, .slice none 0 0, .slice none 0 0]) ?_ 5 _ rfl
   refine qO (cs := #[.string name, .bool false, .int .i64 space, .slice A0 more.length c0, .slice none 0 0, .slice none 0 0]) ?_ 4 _ rfl
   refine qO (cs := #[.string name, .bool false, .int .i64 space, .slice none 0 0, .slice none 0 0, .slice none 0 0]) ?_ 3 _ rfl
   refine qO (cs := #[.string name, .bool false, .int .i64 0, .slice none 0 0, .slice none 0 0, .slice none 0 0]) ?_ 2 _ rfl
   refine qO (cs := #[.string name, .bool false, .int .i64 0, .slice none 0 0, .slice none 0 0, .slice none 0 0]) ?_ 1 _ rfl
   refine qO (cs := #[.string (⟨#[]⟩ : ByteArray), .bool false, .int .i64 0, .slice none 0 0, .slice none 0 0, .slice none 0 0]) ?_ 0 _ rfl
   exact BFA.out
  ·exact (((((HB.out.setCell gM.out _).setCell gM.out _).setCell gM.out _).setCell gM.out _).setCell gM.out _).setCell gM.out _
  ·exact ZQ (ZQ (ZQ (ZQ (ZQ (ZQ HG.out Kf.out _) Kf.out _) Kf.out _) Kf.out _) Kf.out _) Kf.out _
 case round =>
  obtain ⟨c, u, rfl, h33, h127, zvY, BR0, BF0, zvW, zva, zvb⟩ := hrel
  have jl := zx.mk zvY
  have BR := zx.mk BR0
  have BF := zx.mk BF0
  have wG := zx.mk zvW
  have Xd := zx.mk zva
  have gN := zx.mk zvb
  clear zvY BR0 BF0 zvW zva zvb aJ BFA HR1 HB HG
  by_cases hlt : c < 127
  ·have hw32 : IntKind.i32.wrap (c : Int) = c := by unfold IntKind.wrap; simp [IntKind.bits, IntKind.signed]; omega
   have q1 : decide ((c : Int) < 127) = true := decide_eq_true (by omega)
   go_wp2
   have zf := zx.mk (Kd.qm jl.out)
   have zl := zx.mk (xZ BR.out)
   have zu := zx.mk (xZ BF.out)
   have zH := zx.mk (wG.out.drew)
   have qV := zx.mk (zx0 Xd.out)
   clear jl BR BF wG Xd
   have jl := zf
   have BR := zl
   have BF := zu
   have wG := zH
   have Xd := qV
   clear zf zl zu zH qV
   refine jw (n := 13) (S := fun w' => w'.cell? ⟨gf, 3, none⟩ = some u) (ds := [12]) #[false, false, false, false, false, false, false, false, false, false, false, false, false] (by kernel_rfl) rfl rfl ((zZ BF.out 3).trans rfl) (fun hHeld => ?_)
   refine VL made.zqz (fun zY => ?_)
   generalize wr.drew = w16 at jl BR BF wG Xd hHeld ⊢
   refine yL (i := 0) (N := some 19) (v := ?_) (a' := ?_) #[true, false, false, false, false, false, false, false, false, false, false, false, false] rfl rfl (yJ zY.out (by kernel_rfl)) (fun _ _ _ h => h) (Or.inl ⟨by rfl, ?_⟩) ?_ ?_
   rotate_left
   ·intro w'
    go_simp
    with_reducible rfl
   rotate_left
   ·simp only [Act.put, List.setIfInBounds_toArray, List.set_cons_zero, List.set_cons_succ]
    rfl
   refine yL (i := 2) (N := some 21) (v := ?_) (a' := ?_) #[true, false, true, false, false, false, false, false, false, false, false, false, false] rfl rfl (yJ zY.out (by kernel_rfl)) (fun _ _ _ h => h) (Or.inl ⟨by rfl, ?_⟩) ?_ ?_
   rotate_left
   ·intro w'
    go_simp
    with_reducible rfl
   rotate_left
   ·simp only [Act.put, List.setIfInBounds_toArray, List.set_cons_zero, List.set_cons_succ]
    rfl
   refine yL (i := 3) (N := some 22) (v := ?_) (a' := ?_) #[true, false, true, true, false, false, false, false, false, false, false, false, false] rfl rfl (yJ zY.out (by kernel_rfl)) (fun _ _ _ h => h) (Or.inl ⟨by rfl, ?_⟩) ?_ ?_
   rotate_left
   ·intro w'
    go_simp
    with_reducible rfl
   rotate_left
   ·simp only [Act.put, List.setIfInBounds_toArray, List.set_cons_zero, List.set_cons_succ, hw32]
    rfl
   refine yL (i := 4) (N := some 23) (v := ?_) (a' := ?_) #[true, false, true, true, true, false, false, false, false, false, false, false, false] rfl rfl (yJ zY.out (by kernel_rfl)) (fun _ _ _ h => h) (Or.inl ⟨by rfl, ?_⟩) ?_ ?_
   rotate_left
   ·intro w'
    go_simp
    with_reducible rfl
   rotate_left
   ·simp only [Act.put, List.setIfInBounds_toArray, List.set_cons_zero, List.set_cons_succ, zvw]
    rfl
   refine yL (i := 5) (N := some 24) (v := ?_) (a' := ?_) #[true, false, true, true, true, true, false, false, false, false, false, false, false] rfl rfl (yJ zY.out (by kernel_rfl)) (fun _ _ _ h => h) (Or.inl ⟨by rfl, ?_⟩) ?_ ?_
   rotate_left
   ·intro w'
    go_simp
    with_reducible rfl
   rotate_left
   ·simp only [Act.put, List.setIfInBounds_toArray, List.set_cons_zero, List.set_cons_succ]
    rfl
   refine yL (i := 6) (N := some 25) (v := ?_) (a' := ?_) #[true, false, true, true, true, true, true, false, false, false, false, false, false] rfl rfl (yJ zY.out (by kernel_rfl)) (fun _ _ _ h => h) (Or.inl ⟨by rfl, ?_⟩) ?_ ?_
   rotate_left
   ·intro w'
    go_simp
    with_reducible rfl
   rotate_left
   ·simp only [Act.put, List.setIfInBounds_toArray, List.set_cons_zero, List.set_cons_succ]
    rfl
   refine VH (i := 1) (N := some 20) (v := ?_) (a' := ?_) #[true, true, true, true, true, true, true, false, false, false, false, false, false] rfl rfl (U0 zY.out (by kernel_rfl)) (fun _ _ _ h => h) (Or.inl ⟨by rfl, ?_⟩) hHeld ?_ ?_
   rotate_left
   ·rintro w' s0
    go_simp
    with_reducible rfl
   rotate_left
   ·simp only [Act.put, List.setIfInBounds_toArray, List.set_cons_zero, List.set_cons_succ]
    rfl
   refine Q7 (i := 7) (N := some 26) #[true, true, true, true, true, true, true, true, false, false, false, false, false] rfl rfl (Zv zY.out (by kernel_rfl)) (by decide) (fun K hK => ?_)
   refine call_ F #[.int .u8 (c : Int)] (by rfl) rfl (by have he := zwd.out #[.int .u8 (c : Int)] w16; go_simp) ?_
   refine (HWD.out c _ h33 (by omega)).mono ?_
   rintro e Js ⟨rfl, hb⟩
   refine ⟨_, rfl, ?_⟩
   have zf := zx.mk (Kd.yY jl.out hb)
   have zl := zx.mk (zN BR.out hb)
   have zu := zx.mk (zN BF.out hb)
   have zH := zx.mk (wG.out.trans (hb.mono (Nat.le_trans hb0 Xd.out.size)))
   have qV := zx.mk (V4 Xd.out hb)
   clear jl BR BF wG Xd hHeld hb
   have jl := zf
   have BR := zl
   have BF := zu
   have wG := zH
   have Xd := qV
   clear zf zl zu zH qV
   refine hK.out _ _ ((zZ BF.out 3).trans rfl) (fun hHeld => ?_)
   clear hK K
   refine Qy (a' := ?_) ?_ ?_
   rotate_left
   ·show Act.put _ (some 26) _ = _
    simp only [Act.put, List.setIfInBounds_toArray, List.set_cons_zero, List.set_cons_succ]
    rfl
   refine yL (i := 8) (N := some 27) (v := ?_) (a' := ?_) #[true, true, true, true, true, true, true, true, true, false, false, false, false] rfl rfl (yJ zY.out (by kernel_rfl)) (fun _ _ _ h => h) (Or.inl ⟨by rfl, ?_⟩) ?_ ?_
   rotate_left
   ·intro w'
    go_simp
    with_reducible rfl
   rotate_left
   ·simp only [Act.put, List.setIfInBounds_toArray, List.set_cons_zero, List.set_cons_succ]
    rfl
   refine Q7 (i := 9) (N := some 28) #[true, true, true, true, true, true, true, true, true, true, false, false, false] rfl rfl (Zv zY.out (by kernel_rfl)) (by decide) (fun K hK => ?_)
   refine dD (w1 := ?_) (v := ?_) (by rfl) rfl ?_ ?_
   rotate_left 2
   ·go_simp
    constructor
    ·rfl
    ·rfl
   refine hK.out _ _ ((zZ (vD BF.out _) 3).trans rfl) (fun hHeld => ?_)
   clear hK K
   refine Qy (a' := ?_) ?_ ?_
   rotate_left
   ·show Act.put _ (some 28) _ = _
    simp only [Act.put, List.setIfInBounds_toArray, List.set_cons_zero, List.set_cons_succ]
    rfl
   refine Q7 (i := 10) (N := some 29) #[true, true, true, true, true, true, true, true, true, true, true, false, false] rfl rfl (Zv zY.out (by kernel_rfl)) (by decide) (fun K hK => ?_)
   refine Kd.Qz qH (w0 := w) b0 (by rfl) (.tmp 20) (.tmp 28) 56 105 (.agg #[(.string ⟨#[]⟩), (.int .i64 0)]) 24 rfl Tryz.underlying56 aQ rfl (by decide) (by omega) u (more ++ wF wd c) (⟨chr c, wd c⟩ : yh) [.string (chr c), .int .i64 (wd c)] (fun _ => True) (fun _ => False) rfl rfl ?aP (fun _ hk => hk.elim) ?aF ?aO ?aB ?aS ?aL ?_
   (case aP => exact Xg _ _ _ (⟨chr c, wd c⟩ : yh))
   (case aF => exact (fun _ _ => trivial))
   (case aO => exact jl.out)
   (case aB => exact wG.out)
   (case aS => exact Nat.le_trans hb0 Xd.out.size)
   (case aL => have := J4 wd c; rw [List.length_append]; omega)
   intro v1 Qk ho hb hg hat
   rw [List.append_assoc, ← o9 wd c h33] at ho
   obtain ⟨Ao, co, eo⟩ := Kd.xw ho
   subst eo
   generalize (more ++ wF wd (c + 1)).length = nn at ho hat ⊢
   have zf := zx.mk (wZ BR.out hg (Kd.UK jl.out BR.out (by decide)))
   have zl := zx.mk (wZ BF.out hg (Kd.UK jl.out BF.out (by decide)))
   have zu := zx.mk hb
   have zH := zx.mk (aX Xd.out hg gN.out)
   have qV := zx.mk ho
   have xD : zx ((Value.slice Ao nn co).ownBlock = (Value.slice A0 more.length c0).ownBlock ∨ ∃ b, (Value.slice Ao nn co).ownBlock = some b ∧ w.heap.size ≤ b) := zx.mk (by
    rcases hat with hat | ⟨b, h1, h2⟩
    ·rw [hat]; exact gN.out
    ·exact Or.inr ⟨b, h1, Nat.le_trans Xd.out.size h2⟩)
   clear BR BF wG Xd jl gN ho hb hg hat hHeld
   have BR := zf
   have BF := zl
   have wG := zu
   have Xd := zH
   have jl := qV
   have gN := xD
   clear zf zl zu zH qV xD
   refine hK.out _ _ ((zZ BF.out 3).trans rfl) (fun hHeld => ?_)
   clear hK K
   refine Qy (a' := ?_) ?_ ?_
   rotate_left
   ·show Act.put _ (some 29) _ = _
    simp only [Act.put, List.setIfInBounds_toArray, List.set_cons_zero, List.set_cons_succ]
    rfl
   refine yL (i := 11) (N := some 30) (v := ?_) (a' := ?_) #[true, true, true, true, true, true, true, true, true, true, true, true, false] rfl rfl (yJ zY.out (by kernel_rfl)) (fun _ _ _ h => h) (Or.inl ⟨by rfl, ?_⟩) ?_ ?_
   rotate_left
   ·intro w'
    go_simp
    with_reducible rfl
   rotate_left
   ·simp only [Act.put, List.setIfInBounds_toArray, List.set_cons_zero, List.set_cons_succ]
    rfl
   refine fM (i := 12) (N := none) #[true, true, true, true, true, true, true, true, true, true, true, true, true] rfl rfl (Zv zY.out (by kernel_rfl)) (by decide) (fun K hK => ?_)
   have zql : Qk.cell? ⟨gf, 3, none⟩ = some u := (zZ BF.out 3).trans rfl
   have iV := zV BF.out 3
   refine fO (w1 := ?_) (by rfl) rfl ?_ ?_
   rotate_left
   ·go_simp
    rfl
   refine hK.out _ _ ?_
   clear hK K
   refine jk (xM zY.out (by kernel_rfl)) ?_
   have zf := zx.mk (Yr BR.out (p := ⟨gf, 3, none⟩) gL.out (.slice Ao nn co : Value))
   have zl := zx.mk (qO (cs' := #[.string name, .bool false, .int .i64 space, (.slice Ao nn co : Value), .slice none 0 0, .slice none 0 0]) BF.out 3 (.slice Ao nn co : Value) rfl)
   have zu := zx.mk (wG.out.setCell (p := ⟨gf, 3, none⟩) gM.out (.slice Ao nn co : Value))
   have zH := zx.mk (ZQ (i := 3) Xd.out Kf.out (.slice Ao nn co : Value))
   have qV := zx.mk (Kd.ZR jl.out BF.out (by decide) 3 (.slice Ao nn co : Value))
   clear BR BF wG Xd jl hHeld zql iV
   generalize Qk.setCell ⟨gf, 3, none⟩ (.slice Ao nn co : Value) = bE at zf zl zu zH qV ⊢
   go_wp2
   go_roundw
   case rel => exact ⟨c + 1, (.slice Ao nn co : Value), by first | rfl | (simp; done) | go_num, by omega, by omega, qV.out, zf.out, zl.out, zu.out, zH.out, gN.out⟩
   case measure => simp [intOf]; omega
  ·have hc : c = 127 := by omega
   have q1 : decide ((c : Int) < 127) = false := decide_eq_false (by omega)
   obtain ⟨Au, cu, eu⟩ := Kd.xw jl.out
   generalize (more ++ wF wd c).length = nu at eu
   subst eu
   have hRs := jl.out
   rw [hc] at hRs
   have hsort := zxU wr b0 (.slice Au nu cu) _ ys hRs (by rw [List.length_append, J4]; omega) (by rw [List.length_append, J4]; omega) HP.out HS.out
   have zq7 := zx.mk hsort
   have hcu : wr.cell? ⟨gf, 3, none⟩ = some (.slice Au nu cu) := (zZ BF.out 3).trans rfl
   clear hsort hRs hlt h33 h127
   go_wp2_with (go_at_call 110; refine zq7.out.mono ?_; rintro e w2 ⟨rfl, hR2, hg2⟩; clear zq7 hcu; have hne1 := Kd.UK jl.out BF.out (by decide); have zl := zx.mk (wZ BR.out hg2 (Kd.UK jl.out BR.out (by decide))); have zu := zx.mk (wZ BF.out hg2 hne1); have zH := zx.mk hR2; have qV := zx.mk (aX Xd.out hg2 gN.out); have xD := zx.mk (KC wG.out (Nat.le_trans hb0 Xd.out.size) jl.out hg2); clear jl BR BF wG Xd hne1 hR2 hg2; have BR := zl; have BF := zu; have HR2 := zH; have HG2 := qV; have HB2 := xD; clear zl zu zH qV xD; have zvZ : w2.cell? ⟨gf, 0, none⟩ = some (.string name) := (zZ BF.out 0).trans rfl; have zvQ : w2.cell? ⟨gf, 1, none⟩ = some (.bool false) := (zZ BF.out 1).trans rfl; have zvX : w2.cell? ⟨gf, 2, none⟩ = some (.int .i64 space) := (zZ BF.out 2).trans rfl; have zvJ : w2.cell? ⟨gf, 3, none⟩ = some (.slice Au nu cu) := (zZ BF.out 3).trans rfl; have zvV : w2.cell? ⟨gf, 4, none⟩ = some (.slice none 0 0) := (zZ BF.out 4).trans rfl; have zvK : w2.cell? ⟨gf, 5, none⟩ = some (.slice none 0 0) := (zZ BF.out 5).trans rfl; have zwe : w2.cell? ⟨gr, 0, none⟩ = some (.string (⟨#[]⟩ : ByteArray)) := (zZ BR.out 0).trans rfl; have zwf : w2.cell? ⟨gr, 1, none⟩ = some (.bool false) := (zZ BR.out 1).trans rfl; have zwg : w2.cell? ⟨gr, 2, none⟩ = some (.int .i64 0) := (zZ BR.out 2).trans rfl; have zwh : w2.cell? ⟨gr, 3, none⟩ = some (.slice none 0 0) := (zZ BR.out 3).trans rfl; have zwi : w2.cell? ⟨gr, 4, none⟩ = some (.slice none 0 0) := (zZ BR.out 4).trans rfl; have zwl : w2.cell? ⟨gr, 5, none⟩ = some (.slice none 0 0) := (zZ BR.out 5).trans rfl; have zwm := zV BR.out 0; have zwn := zV BR.out 1; have zwo := zV BR.out 2; have zwp := zV BR.out 3; have zwr := zV BR.out 4; have zws := zV BR.out 5)
   have zf := (qO (cs' := #[.string name, .bool false, .int .i64 space, .slice Au nu cu, .slice none 0 0, .slice none 0 0]) (qO (cs' := #[.string name, .bool false, .int .i64 space, .slice Au nu cu, .slice none 0 0, .slice none 0 0]) (qO (cs' := #[.string name, .bool false, .int .i64 space, .slice Au nu cu, .slice none 0 0, .slice none 0 0]) (qO (cs' := #[.string name, .bool false, .int .i64 space, .slice none 0 0, .slice none 0 0, .slice none 0 0]) (qO (cs' := #[.string name, .bool false, .int .i64 0, .slice none 0 0, .slice none 0 0, .slice none 0 0]) (qO (cs' := #[.string name, .bool false, .int .i64 0, .slice none 0 0, .slice none 0 0, .slice none 0 0]) BR.out 0 (.string name) rfl) 1 (.bool false) rfl) 2 (.int .i64 space) rfl) 3 (.slice Au nu cu) rfl) 4 (.slice none 0 0) rfl) 5 (.slice none 0 0) rfl)
   have zl := Kd.kC (Kd.ZP (p := ⟨gr, 5, none⟩) (Kd.ZP (p := ⟨gr, 4, none⟩) (Kd.ZP (p := ⟨gr, 3, none⟩) (Kd.ZP (p := ⟨gr, 2, none⟩) (Kd.ZP (p := ⟨gr, 1, none⟩) (Kd.ZP (p := ⟨gr, 0, none⟩) (Kd.Ww HR2.out BR.out (by decide)) (fun _ hk => hk.2) (.string name)) (fun _ hk => hk.2) (.bool false)) (fun _ hk => hk.2) (.int .i64 space)) (fun _ hk => hk.2) (.slice Au nu cu)) (fun _ hk => hk.2) (.slice none 0 0)) (fun _ hk => hk.2) (.slice none 0 0)) (fun _ _ => trivial)
   have zu := (ZQ (i := 5) (ZQ (i := 4) (ZQ (i := 3) (ZQ (i := 2) (ZQ (i := 1) (ZQ (i := 0) HG2.out Kr.out (.string name)) Kr.out (.bool false)) Kr.out (.int .i64 space)) Kr.out (.slice Au nu cu)) Kr.out (.slice none 0 0)) Kr.out (.slice none 0 0))
   have zH := (Below.setCell (p := ⟨gr, 5, none⟩) (Below.setCell (p := ⟨gr, 4, none⟩) (Below.setCell (p := ⟨gr, 3, none⟩) (Below.setCell (p := ⟨gr, 2, none⟩) (Below.setCell (p := ⟨gr, 1, none⟩) (Below.setCell (p := ⟨gr, 0, none⟩) HB2.out (Nat.le_trans hb0 Kr.out) (.string name)) (Nat.le_trans hb0 Kr.out) (.bool false)) (Nat.le_trans hb0 Kr.out) (.int .i64 space)) (Nat.le_trans hb0 Kr.out) (.slice Au nu cu)) (Nat.le_trans hb0 Kr.out) (.slice none 0 0)) (Nat.le_trans hb0 Kr.out) (.slice none 0 0))
   clear zvZ zvQ zvX zvJ zvV zvK zwe zwf zwg zwh zwi zwl zwm zwn zwo zwp zwr zws
   generalize ((((((w2.setCell ⟨gr, 0, none⟩ (.string name)).setCell ⟨gr, 1, none⟩ (.bool false)).setCell ⟨gr, 2, none⟩ (.int .i64 space)).setCell ⟨gr, 3, none⟩ (.slice Au nu cu)).setCell ⟨gr, 4, none⟩ (.slice none 0 0)).setCell ⟨gr, 5, none⟩ (.slice none 0 0)) = w5 at zf zl zu zH ⊢
   refine bodyPost_ret (results_cell_row rfl _ _ gr 60 #[.string name, .bool false, .int .i64 space, .slice Au nu cu, .slice none 0 0, .slice none 0 0] (0, 0) _ rfl zf Tryz.underlying60 rfl (by kernel_rfl)) rfl ?_
   exact ⟨_, rfl, zl, zH, zu, gN.out⟩
end Go.Proofs.YtggifbbiiickmaaGreatDoor
namespace Go.Proofs.YtggifbbiiickmaaGreatDoor
open Go.RowKit Go.Shelf
def Qh (l : List UInt8) (c : UInt8) : Bool := decide (0 ≤ Lib.indexByte l c)
def Yy (c : UInt8) : Int :=
 if (Qh [105, 106, 108, 116, 102, 46, 44, 58, 59, 39, 124, 33] c || (c.toNat : Int) == 96) = true then 250
 else if Qh [40, 41, 91, 93, 123, 125, 45, 114, 115, 47, 92, 34] c = true then 350
 else if Qh [109, 119] c = true then 750
 else if Qh [77, 87, 64, 37] c = true then 900
 else if (decide (65 ≤ (c.toNat : Int)) && decide ((c.toNat : Int) ≤ 90)) = true then 650 else 500
set_option maxRecDepth 100000 in
theorem X0 (s : ByteArray) (c : UInt8) (B : Nat) (w : World) (hc : w.cell? ⟨B, 0, none⟩ = some (.int .u8 c.toNat)) :
  Calls Tryz.prog 112 #[.string s, .pointer (some ⟨B, 0, none⟩)] w fun e w' => e = .returned (.bool (Qh s.data.toList c)) ∧ w' = w := by
 have hi := Tryz.strings_IndexByte s (c.toNat : Int) w
 have hc8 : ((c.toNat : Int).toNat.toUInt8) = c := by rw [Int.toNat_natCast]; exact UInt8.ofNat_toNat
 rw [hc8] at hi
 have hx : Qh s.data.toList c = decide (0 ≤ Lib.indexByte s.data.toList c) := rfl
 generalize Lib.indexByte s.data.toList c = ix at hi hx
 generalize Qh s.data.toList c = b at hx ⊢
 subst hx
 clear hc8
 go_enter Tryz.func112, Tryz.ntmps112
 go_wp2_with (go_at_call 113; refine hi.mono ?_; rintro e w2 ⟨rfl, rfl⟩)
 go_ret
 exact ⟨rfl, rfl⟩
set_option maxRecDepth 100000 in
set_option maxHeartbeats 1000000 in
theorem zzq (c : UInt8) (w : World) :
  Calls Tryz.prog 55 #[.int .u8 c.toNat] w fun e w' => e = .returned (.int .i64 (Yy c)) ∧ Below w.heap.size w w' := by
 have hb0 : Below w.heap.size w (w.alloc (.cells #[.int .u8 c.toNat] 5)) := (Below.refl _ w).alloc (Nat.le_refl _) _
 have hcell : (w.alloc (.cells #[.int .u8 c.toNat] 5)).cell? ⟨w.heap.size, 0, none⟩ = some (.int .u8 c.toNat) := by simp
 have h1 := X0 ⟨#[105, 106, 108, 116, 102, 46, 44, 58, 59, 39, 124, 33]⟩ c w.heap.size _ hcell
 have h2 := X0 ⟨#[40, 41, 91, 93, 123, 125, 45, 114, 115, 47, 92, 34]⟩ c w.heap.size _ hcell
 have h3 := X0 ⟨#[109, 119]⟩ c w.heap.size _ hcell
 have h4 := X0 ⟨#[77, 87, 64, 37]⟩ c w.heap.size _ hcell
 have hv : Yy c = if (Qh (⟨#[105, 106, 108, 116, 102, 46, 44, 58, 59, 39, 124, 33]⟩ : ByteArray).data.toList c || (c.toNat : Int) == 96) = true then 250
  else if Qh (⟨#[40, 41, 91, 93, 123, 125, 45, 114, 115, 47, 92, 34]⟩ : ByteArray).data.toList c = true then 350
  else if Qh (⟨#[109, 119]⟩ : ByteArray).data.toList c = true then 750
  else if Qh (⟨#[77, 87, 64, 37]⟩ : ByteArray).data.toList c = true then 900
  else if (decide (65 ≤ (c.toNat : Int)) && decide ((c.toNat : Int) ≤ 90)) = true then 650 else 500 := rfl
 rw [hv]
 clear hv
 generalize Qh (⟨#[105, 106, 108, 116, 102, 46, 44, 58, 59, 39, 124, 33]⟩ : ByteArray).data.toList c = b1 at h1 ⊢
 generalize Qh (⟨#[40, 41, 91, 93, 123, 125, 45, 114, 115, 47, 92, 34]⟩ : ByteArray).data.toList c = b2 at h2 ⊢
 generalize Qh (⟨#[109, 119]⟩ : ByteArray).data.toList c = b3 at h3 ⊢
 generalize Qh (⟨#[77, 87, 64, 37]⟩ : ByteArray).data.toList c = b4 at h4 ⊢
 have hx0 := c.toNat_lt
 generalize (c.toNat : Int) = x at hb0 hcell h1 h2 h3 h4 ⊢
 generalize h96 : (x == 96) = b96
 generalize h65 : decide (65 ≤ x) = b65
 generalize h90 : decide (x ≤ 90) = b90
 cases b1 with
 | true =>
  go_enter Tryz.func55, Tryz.ntmps55
  go_wp2_with (first
   | (go_at_call 112; ((with_reducible refine h1.mono ?_); rintro e w2 ⟨rfl, rfl⟩))
   | (go_at_call 112; ((with_reducible refine h2.mono ?_); rintro e w2 ⟨rfl, rfl⟩))
   | (go_at_call 112; ((with_reducible refine h3.mono ?_); rintro e w2 ⟨rfl, rfl⟩))
   | (go_at_call 112; ((with_reducible refine h4.mono ?_); rintro e w2 ⟨rfl, rfl⟩)))
  go_ret
  exact ⟨rfl, hb0⟩
 | false =>
  cases b96 with
  | true =>
   go_enter Tryz.func55, Tryz.ntmps55
   go_wp2_with (first
    | (go_at_call 112; ((with_reducible refine h1.mono ?_); rintro e w2 ⟨rfl, rfl⟩))
    | (go_at_call 112; ((with_reducible refine h2.mono ?_); rintro e w2 ⟨rfl, rfl⟩))
    | (go_at_call 112; ((with_reducible refine h3.mono ?_); rintro e w2 ⟨rfl, rfl⟩))
    | (go_at_call 112; ((with_reducible refine h4.mono ?_); rintro e w2 ⟨rfl, rfl⟩)))
   go_ret
   exact ⟨rfl, hb0⟩
  | false =>
   cases b2 with
   | true =>
    go_enter Tryz.func55, Tryz.ntmps55
    go_wp2_with (first
     | (go_at_call 112; ((with_reducible refine h1.mono ?_); rintro e w2 ⟨rfl, rfl⟩))
     | (go_at_call 112; ((with_reducible refine h2.mono ?_); rintro e w2 ⟨rfl, rfl⟩))
     | (go_at_call 112; ((with_reducible refine h3.mono ?_); rintro e w2 ⟨rfl, rfl⟩))
     | (go_at_call 112; ((with_reducible refine h4.mono ?_); rintro e w2 ⟨rfl, rfl⟩)))
    go_ret
    exact ⟨rfl, hb0⟩
   | false =>
    cases b3 with
    | true =>
     go_enter Tryz.func55, Tryz.ntmps55
     go_wp2_with (first
      | (go_at_call 112; ((with_reducible refine h1.mono ?_); rintro e w2 ⟨rfl, rfl⟩))
      | (go_at_call 112; ((with_reducible refine h2.mono ?_); rintro e w2 ⟨rfl, rfl⟩))
      | (go_at_call 112; ((with_reducible refine h3.mono ?_); rintro e w2 ⟨rfl, rfl⟩))
      | (go_at_call 112; ((with_reducible refine h4.mono ?_); rintro e w2 ⟨rfl, rfl⟩)))
     go_ret
     exact ⟨rfl, hb0⟩
    | false =>
     cases b4 with
     | true =>
      go_enter Tryz.func55, Tryz.ntmps55
      go_wp2_with (first
       | (go_at_call 112; ((with_reducible refine h1.mono ?_); rintro e w2 ⟨rfl, rfl⟩))
       | (go_at_call 112; ((with_reducible refine h2.mono ?_); rintro e w2 ⟨rfl, rfl⟩))
       | (go_at_call 112; ((with_reducible refine h3.mono ?_); rintro e w2 ⟨rfl, rfl⟩))
       | (go_at_call 112; ((with_reducible refine h4.mono ?_); rintro e w2 ⟨rfl, rfl⟩)))
      go_ret
      exact ⟨rfl, hb0⟩
     | false =>
      cases b65 with
      | false =>
       go_enter Tryz.func55, Tryz.ntmps55
       go_wp2_with (first
        | (go_at_call 112; ((with_reducible refine h1.mono ?_); rintro e w2 ⟨rfl, rfl⟩))
        | (go_at_call 112; ((with_reducible refine h2.mono ?_); rintro e w2 ⟨rfl, rfl⟩))
        | (go_at_call 112; ((with_reducible refine h3.mono ?_); rintro e w2 ⟨rfl, rfl⟩))
        | (go_at_call 112; ((with_reducible refine h4.mono ?_); rintro e w2 ⟨rfl, rfl⟩)))
       go_ret
       exact ⟨rfl, hb0⟩
      | true =>
       cases b90 with
       | false =>
        go_enter Tryz.func55, Tryz.ntmps55
        go_wp2_with (first
         | (go_at_call 112; ((with_reducible refine h1.mono ?_); rintro e w2 ⟨rfl, rfl⟩))
         | (go_at_call 112; ((with_reducible refine h2.mono ?_); rintro e w2 ⟨rfl, rfl⟩))
         | (go_at_call 112; ((with_reducible refine h3.mono ?_); rintro e w2 ⟨rfl, rfl⟩))
         | (go_at_call 112; ((with_reducible refine h4.mono ?_); rintro e w2 ⟨rfl, rfl⟩)))
        go_ret
        exact ⟨rfl, hb0⟩
       | true =>
        go_enter Tryz.func55, Tryz.ntmps55
        go_wp2_with (first
         | (go_at_call 112; ((with_reducible refine h1.mono ?_); rintro e w2 ⟨rfl, rfl⟩))
         | (go_at_call 112; ((with_reducible refine h2.mono ?_); rintro e w2 ⟨rfl, rfl⟩))
         | (go_at_call 112; ((with_reducible refine h3.mono ?_); rintro e w2 ⟨rfl, rfl⟩))
         | (go_at_call 112; ((with_reducible refine h4.mono ?_); rintro e w2 ⟨rfl, rfl⟩)))
        go_ret
        exact ⟨rfl, hb0⟩
end Go.Proofs.YtggifbbiiickmaaGreatDoor
namespace Go.Proofs.YtggifbbiiickmaaGreatDoor
open Go.RowKit Go.Shelf Go.Proofs.zk.ze Go.Proofs.zk.yc Go.Proofs.zk.yt Go.Proofs.YtggifbbiiickmaaGreatDoor.PX
set_option linter.unusedSimpArgs false
def Ul (s : ByteArray) : Int × Bool := if 6 < s.size then (0, false) else (dQ s.data.toList, KX s.data.toList)
def number.T4 : Bool × List (List Nat × List Nat) := (true, [([], []), ([], []), ([1], [1]), ([0, 0], [0]), ([2, 3, 0, 1, 2, 3], [2])])
theorem number.zvc : xE .any (opsOf Tryz.f61 4) = number.T4 := by kernel_rfl
set_option maxRecDepth 100000 in
theorem iK (s : ByteArray) (w : World) (hs : s.size ≤ 140737488355328) (hG : GW w) :
  Calls Tryz.prog 61 #[.string s] w fun e w' => e = .returned (.tuple #[.int .i64 (Ul s).1, .bool (Ul s).2]) ∧ Below w.heap.size w w' := by
 unfold Ul
 by_cases h6 : 6 < s.size
 ·rw [if_pos h6]
  have q1 : decide ((6 : Int) < (s.size : Int)) = true := decide_eq_true (by omega)
  go_enter Tryz.func61, Tryz.ntmps61
  go_wp2
  go_ret2
  exact ⟨rfl, Below.refl _ _⟩
 ·rw [if_neg h6]
  have q1 : decide ((6 : Int) < (s.size : Int)) = false := decide_eq_false (by omega)
  have ha := zzE s w hs hG
  generalize dQ s.data.toList = N at ha ⊢
  generalize KX s.data.toList = B at ha ⊢
  cases B with
  | true =>
   go_enter Tryz.func61, Tryz.ntmps61
   go_wp2_with fail
   refine ha.mono ?_; rintro e w2 ⟨ev, rfl, h1, _, hb⟩
   obtain rfl := h1 (by simp)
   clear ha h1
   go_wp2
   refine jw (n := 5) (S := fun _ => True) (ds := []) #[false, false, false, false, false] (by kernel_rfl) rfl rfl trivial (fun hHeld => ?_)
   refine VL number.zvc (fun zY => ?_)
   refine yL (i := 0) (N := some 14) (v := ?_) (a' := ?_) #[true, false, false, false, false] rfl rfl (yJ zY.out (by kernel_rfl)) (fun _ _ _ h => h) (Or.inl ⟨by rfl, ?_⟩) ?_ ?_
   rotate_left
   ·intro w'
    go_simp
    with_reducible rfl
   rotate_left
   ·simp only [Act.put, List.setIfInBounds_toArray, List.set_cons_zero, List.set_cons_succ]
    rfl
   refine yL (i := 1) (N := some 15) (v := ?_) (a' := ?_) #[true, true, false, false, false] rfl rfl (yJ zY.out (by kernel_rfl)) (fun _ _ _ h => h) (Or.inl ⟨by rfl, ?_⟩) ?_ ?_
   rotate_left
   ·intro w'
    go_simp
    with_reducible rfl
   rotate_left
   ·simp only [Act.put, List.setIfInBounds_toArray, List.set_cons_zero, List.set_cons_succ]
    rfl
   refine yL (i := 2) (N := some 16) (v := ?_) (a' := ?_) #[true, true, true, false, false] rfl rfl (yJ zY.out (by kernel_rfl)) (fun _ _ _ h => h) (Or.inl ⟨by rfl, ?_⟩) ?_ ?_
   rotate_left
   ·intro w'
    go_simp
    with_reducible rfl
   rotate_left
   ·simp only [Act.put, List.setIfInBounds_toArray, List.set_cons_zero, List.set_cons_succ]
    rfl
   refine yL (i := 3) (N := some 2) (v := ?_) (a' := ?_) #[true, true, true, true, false] rfl rfl (yJ zY.out (by kernel_rfl)) (fun _ _ _ h => h) (Or.inl ⟨by rfl, ?_⟩) ?_ ?_
   rotate_left
   ·intro w'
    go_simp
    with_reducible rfl
   rotate_left
   ·simp only [Act.put, List.setIfInBounds_toArray, List.set_cons_zero, List.set_cons_succ]
    rfl
   refine yL (i := 4) (N := some 3) (v := ?_) (a' := ?_) #[true, true, true, true, true] rfl rfl (yJ zY.out (by kernel_rfl)) (fun _ _ _ h => h) (Or.inl ⟨by rfl, ?_⟩) ?_ ?_
   rotate_left
   ·intro w'
    go_simp
    with_reducible rfl
   rotate_left
   ·simp only [Act.put, List.setIfInBounds_toArray, List.set_cons_zero, List.set_cons_succ]
    rfl
   clear hHeld
   refine jk (xM zY.out (by kernel_rfl)) ?_
   go_wp2
   go_ret2
   exact ⟨rfl, hb.drew⟩
  | false =>
   go_enter Tryz.func61, Tryz.ntmps61
   go_wp2_with fail
   refine ha.mono ?_; rintro e w2 ⟨ev, rfl, _, h1, hb⟩
   obtain ⟨te, pe, rfl⟩ := h1 (by simp)
   clear ha h1
   go_wp2
   refine jw (n := 5) (S := fun _ => True) (ds := []) #[false, false, false, false, false] (by kernel_rfl) rfl rfl trivial (fun hHeld => ?_)
   refine VL number.zvc (fun zY => ?_)
   refine yL (i := 0) (N := some 14) (v := ?_) (a' := ?_) #[true, false, false, false, false] rfl rfl (yJ zY.out (by kernel_rfl)) (fun _ _ _ h => h) (Or.inl ⟨by rfl, ?_⟩) ?_ ?_
   rotate_left
   ·intro w'
    go_simp
    with_reducible rfl
   rotate_left
   ·simp only [Act.put, List.setIfInBounds_toArray, List.set_cons_zero, List.set_cons_succ]
    rfl
   refine yL (i := 1) (N := some 15) (v := ?_) (a' := ?_) #[true, true, false, false, false] rfl rfl (yJ zY.out (by kernel_rfl)) (fun _ _ _ h => h) (Or.inl ⟨by rfl, ?_⟩) ?_ ?_
   rotate_left
   ·intro w'
    go_simp
    with_reducible rfl
   rotate_left
   ·simp only [Act.put, List.setIfInBounds_toArray, List.set_cons_zero, List.set_cons_succ]
    rfl
   refine yL (i := 2) (N := some 16) (v := ?_) (a' := ?_) #[true, true, true, false, false] rfl rfl (yJ zY.out (by kernel_rfl)) (fun _ _ _ h => h) (Or.inl ⟨by rfl, ?_⟩) ?_ ?_
   rotate_left
   ·intro w'
    go_simp
    with_reducible rfl
   rotate_left
   ·simp only [Act.put, List.setIfInBounds_toArray, List.set_cons_zero, List.set_cons_succ]
    rfl
   refine yL (i := 3) (N := some 2) (v := ?_) (a' := ?_) #[true, true, true, true, false] rfl rfl (yJ zY.out (by kernel_rfl)) (fun _ _ _ h => h) (Or.inl ⟨by rfl, ?_⟩) ?_ ?_
   rotate_left
   ·intro w'
    go_simp
    with_reducible rfl
   rotate_left
   ·simp only [Act.put, List.setIfInBounds_toArray, List.set_cons_zero, List.set_cons_succ]
    rfl
   refine yL (i := 4) (N := some 3) (v := ?_) (a' := ?_) #[true, true, true, true, true] rfl rfl (yJ zY.out (by kernel_rfl)) (fun _ _ _ h => h) (Or.inl ⟨by rfl, ?_⟩) ?_ ?_
   rotate_left
   ·intro w'
    go_simp
    with_reducible rfl
   rotate_left
   ·simp only [Act.put, List.setIfInBounds_toArray, List.set_cons_zero, List.set_cons_succ]
    rfl
   clear hHeld
   refine jk (xM zY.out (by kernel_rfl)) ?_
   go_wp2
   go_ret2
   exact ⟨rfl, hb.drew⟩
theorem u8n (c : Nat) (h : c ≤ 126) : ((UInt8.ofNat c).toNat : Int) = c := by
 have : (UInt8.ofNat c).toNat = c := by simp; omega
 rw [this]
def KD (c : Nat) : Int := Yy (UInt8.ofNat c)
def gP (c : Nat) : Int := max 0 (Yy (UInt8.ofNat c) - 20)
def bL (c : Nat) : Int := Yy (UInt8.ofNat c) + 50
def gT (_ : Nat) : Int := 600
theorem Um (c : UInt8) : 0 ≤ Yy c ∧ Yy c ≤ 900 := by unfold Yy; repeat' split <;> try omega
theorem WU (c : Nat) (W : World) (_ : 33 ≤ c) (h : c ≤ 126) : Calls Tryz.prog 55 #[.int .u8 (c : Int)] W fun e w' => e = .returned (.int .i64 (KD c)) ∧ Below W.heap.size W w' := by
 have h := zzq (UInt8.ofNat c) W
 rw [u8n c (by assumption)] at h
 exact h
set_option maxRecDepth 100000 in
theorem zx1 (c : Nat) (W : World) (h0 : 33 ≤ c) (h : c ≤ 126) : Calls Tryz.prog 57 #[.int .u8 (c : Int)] W fun e w' => e = .returned (.int .i64 (gP c)) ∧ Below W.heap.size W w' := by
 have hr := WU c W h0 h
 have hv := Um (UInt8.ofNat c)
 unfold gP
 unfold KD at hr
 generalize Yy (UInt8.ofNat c) = v at hr hv ⊢
 go_enter Tryz.func57, Tryz.ntmps57
 have e1 : IntKind.i64.wrap (v - 20) = v - 20 := IntWalk.i64_in _ (by omega)
 go_wp2_with (go_at_call 55; refine hr.mono ?_; rintro e w2 ⟨rfl, hb2⟩)
 go_ret
 exact ⟨by first | rfl | (simp; done) | (simp [Int.max_def]; done), hb2⟩
set_option maxRecDepth 100000 in
theorem zx2 (c : Nat) (W : World) (h0 : 33 ≤ c) (h : c ≤ 126) : Calls Tryz.prog 58 #[.int .u8 (c : Int)] W fun e w' => e = .returned (.int .i64 (bL c)) ∧ Below W.heap.size W w' := by
 have hr := WU c W h0 h
 have hv := Um (UInt8.ofNat c)
 unfold bL
 unfold KD at hr
 generalize Yy (UInt8.ofNat c) = v at hr hv ⊢
 have e1 : IntKind.i64.wrap (v + 50) = v + 50 := IntWalk.i64_in _ (by omega)
 go_enter Tryz.func58, Tryz.ntmps58
 go_wp2_with (go_at_call 55; refine hr.mono ?_; rintro e w2 ⟨rfl, hb2⟩)
 go_ret
 exact ⟨by first | rfl | (rw [e1]; done), hb2⟩
theorem zx3 (c : Nat) (W : World) (_ : 33 ≤ c) (_ : c ≤ 126) : Calls Tryz.prog 59 #[.int .u8 (c : Int)] W fun e w' => e = .returned (.int .i64 (gT c)) ∧ Below W.heap.size W w' := by
 unfold gT
 go_enter Tryz.func59, Tryz.ntmps59
 go_wp2
 go_ret
 exact ⟨rfl, Below.refl _ _⟩
end Go.Proofs.YtggifbbiiickmaaGreatDoor
namespace Go.Proofs.YtggifbbiiickmaaGreatDoor
open Go.RowKit Go.Shelf Go.Proofs.zk.ze Go.Proofs.zk.yt Go.Proofs.YtggifbbiiickmaaGreatDoor.PX
def YT (wd : Nat → Int) (a n : Nat) : List yh := (List.range n).map fun i => ⟨chr (a + i), wd (a + i)⟩
def aV : ByteArray := ⟨#[102, 105]⟩
def aK : ByteArray := ⟨#[102, 108]⟩
def aY : ByteArray := ⟨#[102, 102]⟩
def wH (x : Int) : List yh := [⟨aV, x⟩, ⟨aK, x⟩, ⟨aY, x⟩]
def Qi (wd : Nat → Int) (x : Int) : List yh := YT wd 33 70 ++ ([⟨aY, x⟩, ⟨aV, x⟩, ⟨aK, x⟩] ++ YT wd 103 24)
theorem zqm (wd : Nat → Int) : wF wd 127 = YT wd 33 70 ++ YT wd 103 24 := by
 have e0 : List.range (127 - 33) = List.range 70 ++ (List.range 24).map (70 + ·) := List.range_add (n := 70) (m := 24)
 have e1 : ((List.range 24).map (70 + ·)).map (fun i => (⟨chr (33 + i), wd (33 + i)⟩ : yh)) = YT wd 103 24 := by
  rw [List.map_map]
  apply List.map_congr_left
  intro i _
  show (⟨chr (33 + (70 + i)), wd (33 + (70 + i))⟩ : yh) = ⟨chr (103 + i), wd (103 + i)⟩
  rw [show 33 + (70 + i) = 103 + i by omega]
 unfold wF
 rw [e0, List.map_append, e1]
 unfold YT
 exact rfl
theorem aW (wd : Nat → Int) (x : Int) : (Qi wd x).Perm (wH x ++ wF wd 127) := by
 rw [zqm]
 unfold Qi wH
 have h1 : ([⟨aY, x⟩, ⟨aV, x⟩, ⟨aK, x⟩] : List yh).Perm [⟨aV, x⟩, ⟨aK, x⟩, ⟨aY, x⟩] := by
  refine (List.Perm.swap _ _ _).trans ?_
  exact List.Perm.cons _ (List.Perm.swap _ _ _)
 generalize YT wd 33 70 = A
 generalize YT wd 103 24 = B
 refine (List.Perm.append_left A (List.Perm.append_right B h1)).trans ?_
 rw [← List.append_assoc, ← List.append_assoc]
 exact List.Perm.append_right B List.perm_append_comm
def QY (n : Nat) : List ByteArray := if n = 0 then (List.range 94).map (fun i => chr (33 + i)) else (List.range 70).map (fun i => chr (33 + i)) ++ ([aY, aV, aK] ++ (List.range 24).map (fun i => chr (103 + i)))
theorem iY : (QY 0).Pairwise fun a b => xQ a b < 0 := by decide +kernel
theorem ig : (QY 1).Pairwise fun a b => xQ a b < 0 := by decide +kernel
theorem zzx (wd : Nat → Int) (x : Int) : (Qi wd x).Pairwise fun a b => xQ a.f0 b.f0 < 0 := by
 have h : ((Qi wd x).map (·.f0)) = QY 1 := by
  simp [Qi, QY, YT, List.map_map, Function.comp_def]
 have h2 := ig
 rw [← h, List.pairwise_map] at h2
 exact h2
theorem zzj (wd : Nat → Int) : (wF wd 127).Pairwise fun a b => xQ a.f0 b.f0 < 0 := by
 have h : ((wF wd 127).map (·.f0)) = QY 0 := by
  simp [wF, QY, List.map_map, Function.comp_def]
 have h2 := iY
 rw [← h, List.pairwise_map] at h2
 exact h2
end Go.Proofs.YtggifbbiiickmaaGreatDoor
namespace Go.Proofs.YtggifbbiiickmaaGreatDoor
open Go.RowKit Go.Shelf Go.Proofs.zk.ze Go.Proofs.zk.yc Go.Proofs.zk.yt Go.Proofs.YtggifbbiiickmaaGreatDoor.PX
set_option linter.unusedSimpArgs false
set_option linter.unusedVariables false
abbrev U3 : ByteArray := ⟨(([33, 61, 32, 54, 48, 48, 32, 42, 97, 32, 53, 53, 48, 32, 42, 98, 32, 53, 53, 48, 32, 42, 100, 32, 53, 48, 48, 32, 42, 103, 32, 53, 48, 48, 32, 42, 108, 32, 53, 53, 48, 32, 42, 112, 32, 54, 48, 48, 32, 42, 115, 32, 54, 48, 48, 32, 42, 119, 32, 55, 48].append [48, 32, 45, 62, 32, 49, 48, 48, 48, 32, 60, 45, 32, 49, 48, 48, 48, 32, 60, 61, 32, 54, 48, 48, 32, 62, 61, 32, 54, 48, 48, 32, 98, 114, 32, 49, 48, 32, 98, 117, 32, 52, 54, 48, 32, 99, 111, 32, 56, 48, 48, 32, 100, 103, 32, 53, 48, 48, 32, 100, 105, 32]).append ([54, 48, 48, 32, 101, 109, 32, 49, 48, 48, 48, 32, 101, 110, 32, 53, 48, 48, 32, 101, 113, 32, 54, 48, 48, 32, 104, 121, 32, 51, 53, 48, 32, 105, 102, 32, 55, 48, 48, 32, 105, 115, 32, 52, 48, 48, 32, 109, 105, 32, 54, 48, 48, 32, 109, 117, 32, 54, 48, 48, 32, 112].append [100, 32, 55, 48, 48, 32, 112, 108, 32, 54, 48, 48, 32, 114, 104, 32, 49, 48, 48, 48, 32, 114, 117, 32, 53, 48, 48, 32, 115, 99, 32, 53, 48, 48, 32, 115, 113, 32, 54, 48, 48, 32, 115, 114, 32, 53, 48, 48, 32, 115, 117, 32, 55, 48, 48, 32, 117, 108, 32, 53, 48, 48])).toArray⟩
def J5 : List (List UInt8) := Lib.fields U3.data.toList
theorem gU : J5.length = 70 := by decide +kernel
theorem iA : ∀ x ∈ J5, x.length ≤ 6 := by decide +kernel
theorem sI : ∀ (j : Nat) (b : UInt8), U3.data.toList[j]? = some b → b.toNat < 128 := by
 have h : ∀ b ∈ U3.data.toList, b.toNat < 128 := by decide +kernel
 intro j b hj
 exact h b (List.mem_of_getElem? hj)
theorem mq (x : Int) (W : World) (b : Nat) (ok : Nat → Prop) : yR (qH.M W b ok) qH.sz (wH x) [.string (⟨#[102, 105]⟩ : ByteArray), .int .i64 x, .string (⟨#[102, 108]⟩ : ByteArray), .int .i64 x, .string (⟨#[102, 102]⟩ : ByteArray), .int .i64 x] := by
 have h : ∀ (j : Nat) (p : yh), (wH x)[j]? = some p → qH.M W b ok p (([.string (⟨#[102, 105]⟩ : ByteArray), .int .i64 x, .string (⟨#[102, 108]⟩ : ByteArray), .int .i64 x, .string (⟨#[102, 102]⟩ : ByteArray), .int .i64 x].drop (j * 2)).take 2) := by
  intro j p hj
  rcases j with _ | _ | _ | j
  ·obtain rfl := Option.some.inj hj
   exact Xg W b ok ⟨aV, x⟩
  ·obtain rfl := Option.some.inj hj
   exact Xg W b ok ⟨aK, x⟩
  ·obtain rfl := Option.some.inj hj
   exact Xg W b ok ⟨aY, x⟩
  ·simp [wH] at hj
 exact ⟨rfl, h⟩
def U4 : List qy := [⟨⟨#[102]⟩, ⟨#[102]⟩, ⟨#[102, 102]⟩⟩, ⟨⟨#[102]⟩, ⟨#[105]⟩, ⟨#[102, 105]⟩⟩, ⟨⟨#[102]⟩, ⟨#[108]⟩, ⟨#[102, 108]⟩⟩]
def Ql : List qc := [(⟨(⟨#[65]⟩ : ByteArray), (⟨#[86]⟩ : ByteArray), (-80)⟩ : qc), (⟨(⟨#[65]⟩ : ByteArray), (⟨#[87]⟩ : ByteArray), (-60)⟩ : qc), (⟨(⟨#[84]⟩ : ByteArray), (⟨#[111]⟩ : ByteArray), (-70)⟩ : qc), (⟨(⟨#[86]⟩ : ByteArray), (⟨#[65]⟩ : ByteArray), (-80)⟩ : qc), (⟨(⟨#[89]⟩ : ByteArray), (⟨#[111]⟩ : ByteArray), (-90)⟩ : qc)]
def FB (W : World) (lo hi g : Nat) (x : kD) : Prop :=
 ∃ v3 v4 v5, W.heap[g]? = some (.cells #[.string x.f0, .bool x.f1, .int .i64 x.f2, v3, v4, v5] 60 (0, 0)) ∧ lo ≤ g ∧ g < hi ∧ Kd.R qH 105 W lo (fun k => lo ≤ k ∧ k < hi) v3 x.f3 ∧
  Kd.R vw 108 W lo (fun k => lo ≤ k ∧ k < hi) v4 x.f4 ∧ Kd.R vC 111 W lo (fun k => lo ≤ k ∧ k < hi) v5 x.f5
theorem Ky {α : Type} {d : Kd α} {e lo hi : Nat} {W W' : World} {v : Value} {xs : List α} (h : d.R e W lo (fun k => lo ≤ k ∧ k < hi) v xs) (hb : Below hi W W') : d.R e W' lo (fun k => lo ≤ k ∧ k < hi) v xs :=
 Kd.UJ h (fun k hk _ => hb.block k hk.2)
theorem zqn {α : Type} {d : Kd α} {e lo : Nat} {W : World} {v : Value} {xs : List α} (h : d.R e W lo (fun _ => True) v xs) : d.R e W lo (fun k => lo ≤ k ∧ k < W.heap.size) v xs :=
 Kd.kC (Kd.ZO h) (fun k hk => ⟨hk.2.1, hk.2.2.1⟩)
theorem FB.keep {W W' : World} {lo hi g : Nat} {x : kD} (h : FB W lo hi g x) (hb : Below hi W W') : FB W' lo hi g x := by
 obtain ⟨v3, v4, v5, h1, h2, h3, h4, h5, h6⟩ := h
 exact ⟨v3, v4, v5, (hb.block g h3).trans h1, h2, h3, Ky h4 hb, Ky h5 hb, Ky h6 hb⟩
theorem FB.mk {W : World} {lo g : Nat} (x : kD) {v3 v4 v5 : Value} (h1 : W.heap[g]? = some (.cells #[.string x.f0, .bool x.f1, .int .i64 x.f2, v3, v4, v5] 60 (0, 0))) (h2 : lo ≤ g) (h3 : Kd.R qH 105 W lo (fun _ => True) v3 x.f3)
  (h4 : Kd.R vw 108 W lo (fun _ => True) v4 x.f4) (h5 : Kd.R vC 111 W lo (fun _ => True) v5 x.f5) : FB W lo W.heap.size g x :=
 ⟨v3, v4, v5, h1, h2, Qa h1, zqn h3, zqn h4, zqn h5⟩
def zq8 : kD := ⟨⟨#[82]⟩, false, 250, Qi KD 550, U4, Ql⟩
def zq9 : kD := ⟨⟨#[73]⟩, false, 250, wF gP 127, [], []⟩
def zxz : kD := ⟨⟨#[66]⟩, false, 250, Qi bL 600, U4, []⟩
def zxq : kD := ⟨⟨#[77]⟩, false, 600, wF gT 127, [], []⟩
theorem zzv (W : World) (b : Nat) (ok : Nat → Prop) : yR (vC.M W b ok) vC.sz Ql [.string (⟨#[65]⟩ : ByteArray), .string (⟨#[86]⟩ : ByteArray), .int .i64 (-80), .string (⟨#[65]⟩ : ByteArray), .string (⟨#[87]⟩ : ByteArray), .int .i64 (-60), .string (⟨#[84]⟩ : ByteArray), .string (⟨#[111]⟩ : ByteArray), .int .i64 (-70), .string (⟨#[86]⟩ : ByteArray), .string (⟨#[65]⟩ : ByteArray), .int .i64 (-80), .string (⟨#[89]⟩ : ByteArray), .string (⟨#[111]⟩ : ByteArray), .int .i64 (-90)] := by
 have h : ∀ (j : Nat) (p : qc), Ql[j]? = some p → vC.M W b ok p ((([.string (⟨#[65]⟩ : ByteArray), .string (⟨#[86]⟩ : ByteArray), .int .i64 (-80), .string (⟨#[65]⟩ : ByteArray), .string (⟨#[87]⟩ : ByteArray), .int .i64 (-60), .string (⟨#[84]⟩ : ByteArray), .string (⟨#[111]⟩ : ByteArray), .int .i64 (-70), .string (⟨#[86]⟩ : ByteArray), .string (⟨#[65]⟩ : ByteArray), .int .i64 (-80), .string (⟨#[89]⟩ : ByteArray), .string (⟨#[111]⟩ : ByteArray), .int .i64 (-90)] : List Value).drop (j * 3)).take 3) := by
  intro j p hj
  rcases j with _ | _ | _ | _ | _ | j
  ·obtain rfl := Option.some.inj hj
   exact Qe W b ok (⟨(⟨#[65]⟩ : ByteArray), (⟨#[86]⟩ : ByteArray), (-80)⟩ : qc)
  ·obtain rfl := Option.some.inj hj
   exact Qe W b ok (⟨(⟨#[65]⟩ : ByteArray), (⟨#[87]⟩ : ByteArray), (-60)⟩ : qc)
  ·obtain rfl := Option.some.inj hj
   exact Qe W b ok (⟨(⟨#[84]⟩ : ByteArray), (⟨#[111]⟩ : ByteArray), (-70)⟩ : qc)
  ·obtain rfl := Option.some.inj hj
   exact Qe W b ok (⟨(⟨#[86]⟩ : ByteArray), (⟨#[65]⟩ : ByteArray), (-80)⟩ : qc)
  ·obtain rfl := Option.some.inj hj
   exact Qe W b ok (⟨(⟨#[89]⟩ : ByteArray), (⟨#[111]⟩ : ByteArray), (-90)⟩ : qc)
  ·simp [Ql] at hj
 exact ⟨rfl, h⟩
theorem FB.cells {W : World} {lo hi g : Nat} {x : kD} (h : FB W lo hi g x) : ∃ A3 n3 c3 A4 n4 c4 A5 n5 c5, W.heap[g]? = some (.cells #[.string x.f0, .bool x.f1, .int .i64 x.f2, .slice A3 n3 c3, .slice A4 n4 c4, .slice A5 n5 c5] 60 (0, 0)) ∧
  ∀ (W' : World) (base : Nat) (ok : Nat → Prop), Below W.heap.size W W' → base ≤ lo → (∀ k, lo ≤ k → k < hi → ok k) → Zq.M W' base ok x [.string x.f0, .bool x.f1, .int .i64 x.f2, .slice A3 n3 c3, .slice A4 n4 c4, .slice A5 n5 c5] := by
 obtain ⟨v3, v4, v5, h1, h2, h3, h4, h5, h6⟩ := h
 obtain ⟨A3, c3, rfl⟩ := Kd.xw h4
 obtain ⟨A4, c4, rfl⟩ := Kd.xw h5
 obtain ⟨A5, c5, rfl⟩ := Kd.xw h6
 refine ⟨A3, _, c3, A4, _, c4, A5, _, c5, h1, fun W' base ok hb hl hok => ?_⟩
 exact zxn W' base ok x (Kd.kC (Kd.vE (Kd.yY h4 hb) hl) (fun k hk => hok k hk.1 hk.2)) (Kd.kC (Kd.vE (Kd.yY h5 hb) hl) (fun k hk => hok k hk.1 hk.2)) (Kd.kC (Kd.vE (Kd.yY h6 hb) hl) (fun k hk => hok k hk.1 hk.2))
theorem YU {W : World} {g : Nat} (h : W.heap[g]? = some (.cells #[.string (⟨#[]⟩ : ByteArray), .bool false, .int .i64 0, .slice none 0 0, .slice none 0 0, .slice none 0 0] 60 (0, 0))) (a : ByteArray) (b : Bool) (c : Int) (v3 v4 v5 : Value) :
  ((((((W.setCell ⟨g, 0, none⟩ (.string a)).setCell ⟨g, 1, none⟩ (.bool b)).setCell ⟨g, 2, none⟩ (.int .i64 c)).setCell ⟨g, 3, none⟩ v3).setCell ⟨g, 4, none⟩ v4).setCell ⟨g, 5, none⟩ v5).heap[g]? = some (.cells #[.string a, .bool b, .int .i64 c, v3, v4, v5] 60 (0, 0)) :=
 qO (qO (qO (qO (qO (qO (cs' := #[.string a, .bool false, .int .i64 0, .slice none 0 0, .slice none 0 0, .slice none 0 0]) h 0 _ rfl) (cs' := #[.string a, .bool b, .int .i64 0, .slice none 0 0, .slice none 0 0, .slice none 0 0]) 1 _ rfl)
  (cs' := #[.string a, .bool b, .int .i64 c, .slice none 0 0, .slice none 0 0, .slice none 0 0]) 2 _ rfl) (cs' := #[.string a, .bool b, .int .i64 c, v3, .slice none 0 0, .slice none 0 0]) 3 _ rfl) (cs' := #[.string a, .bool b, .int .i64 c, v3, v4, .slice none 0 0]) 4 _ rfl) 5 _ rfl
theorem X7 {W0 W : World} {B g : Nat} (h : Below B W0 W) (hg : B ≤ g) (u0 u1 u2 u3 u4 u5 : Value) :
  Below B W0 ((((((W.setCell ⟨g, 0, none⟩ u0).setCell ⟨g, 1, none⟩ u1).setCell ⟨g, 2, none⟩ u2).setCell ⟨g, 3, none⟩ u3).setCell ⟨g, 4, none⟩ u4).setCell ⟨g, 5, none⟩ u5) :=
 (((((h.setCell hg _).setCell hg _).setCell hg _).setCell hg _).setCell hg _).setCell hg _
def kE (j : Nat) : ByteArray := ⟨(J5.getD j []).toArray⟩
theorem sM (j : Nat) : (kE j).size ≤ 6 := by
 show ((J5.getD j []).toArray).size ≤ 6
 rw [List.size_toArray, List.getD_eq_getElem?_getD]
 cases h : J5[j]? with
 | none => simp
 | some x => exact iA x (List.mem_of_getElem? h)
def V6 (m : Nat) : List yh := (List.range m).map fun i => ⟨kE (2 * i), (Ul (kE (2 * i + 1))).1⟩
theorem zzk (m : Nat) : V6 (m + 1) = V6 m ++ [⟨kE (2 * m), (Ul (kE (2 * m + 1))).1⟩] := by unfold V6; rw [List.range_succ, List.map_append]; rfl
theorem zqo (m : Nat) : (V6 m).length = m := by simp [V6]
def zxx : kD := ⟨⟨#[83]⟩, true, 250, V6 35, [], []⟩
def YE : Array Value := (J5.map fun l => Value.string ⟨l.toArray⟩).toArray
theorem V7 (j : Nat) (h : j < 70) : YE[j]? = some (.string (kE j)) := by
 have hl : j < J5.length := by rw [gU]; exact h
 unfold YE kE
 simp [List.getD_eq_getElem?_getD, hl]
def Zo : List kD := [zq8, zq9, zxz, zxq, zxx]
def std.T14 : Bool × List (List Nat × List Nat) := (true, [([], []), ([0], [0]), ([], []), ([], []), ([2, 3], [2, 3]), ([4], [4]), ([], []), ([5, 6], [5, 6]), ([7], [7]), ([1, 8], [1, 8]), ([0, 1, 2, 3, 4, 5, 6, 7, 8, 9], []), ([10, 9, 9, 0, 1, 2, 3, 4, 5, 6, 7, 8, 9], [9, 10])])
theorem std.zkd : xE .any (opsOf Tryz.f19 14) = std.T14 := by kernel_rfl
def zwt (W4 : World) (g5 bw : Nat) (x : Value) (wr : World) : Prop :=
 ∃ (m k : Nat) (u : Value), x = .int .i64 (k : Int) ∧ k = 2 * m ∧ m ≤ 35 ∧ Kd.R qH 105 wr W4.heap.size (fun _ => True) u (V6 m) ∧ wr.heap[g5]? = some (.cells #[.string (⟨#[83]⟩ : ByteArray), .bool true, .int .i64 250, u, .slice none 0 0, .slice none 0 0] 60 (0, 0)) ∧
  wr.heap[bw]? = some (.cells YE 9 (0, 0)) ∧ Below W4.heap.size W4 wr
set_option maxHeartbeats 8000000 in
set_option maxRecDepth 100000 in
theorem zx4 (w : World) (hG : GW w) : Calls Tryz.prog 19 #[] w fun e w' => ∃ v : Value, e = .returned v ∧ Kd.S Zq 60 w' w.heap.size (fun _ => True) v Zo ∧ Below w.heap.size w w' := by
 have zqi := Tryz.underlying60
 have HGW := zx.mk hG
 clear hG
 have iB := zx.mk (Below.refl w.heap.size w)
 generalize hW0 : w = Un at iB HGW
 go_enter Tryz.func19, Tryz.ntmps19
 go_wp2_with (first | ((with_reducible refine qb (N := 13) rfl ?_); refine Kd.QE qH Un.heap.size 105 ?hg (N := 13) ?hd (w0 := Un) (xs := (wH 550)) (inner := [.string (⟨#[102, 105]⟩ : ByteArray), .int .i64 550, .string (⟨#[102, 108]⟩ : ByteArray), .int .i64 550, .string (⟨#[102, 102]⟩ : ByteArray), .int .i64 550]) (ok := fun _ => True) (Zb := fun _ => True) ?hr ?hp (fun _ hk => hk) trivial iB.out iB.out.size (by simp [wH]) ?_; (case hd => rfl); (case hg => rfl); (case hr => first | (go_simp; done) | (go_simp; rfl)); (case hp => exact mq 550 _ _ _); intro u0 wl hol hbl hgl J6; have HL_ := zx.mk hol; have J7 := zx.mk hbl; have zqp := zx.mk J6; clear hol hbl hgl J6 iB))
 refine (V5 55 _ Tryz.func55 (by kernel_rfl) rfl KD WU (⟨#[82]⟩ : ByteArray) 250 Un.heap.size u0 (wH 550) (Qi KD 550) wl J7.out.size HL_.out (by simp [wH]) (aW KD 550) (zzx KD 550)).mono ?_
 rintro e w1 ⟨v1, rfl, hr, hb, -, -⟩
 have HR1 := zx.mk hr
 have HB1 := zx.mk (J7.out.trans hb)
 clear hr hb HL_ J7 zqp
 obtain ⟨A1, c1, e1⟩ := Kd.xw HR1.out
 generalize (Qi KD 550).length = n1 at e1
 subst e1
 go_wp2_with (first | ((with_reducible refine qb (N := 1) rfl ?_); refine qM ?hg (N := 1) ?hd (cs := #[.string (⟨#[]⟩ : ByteArray), .bool false, .int .i64 0, .slice none 0 0, .slice none 0 0, .slice none 0 0]) (t := 60) ?hr ?_; (case hd => rfl); (case hg => rfl); (case hr => first | (go_simp; done) | (go_simp; rfl)); intro g1 Q0 w2 hbx hbq; have ZA := zx.mk hbx; have zxj := zx.mk hbq; have iD := zx.mk Q0; clear hbx hbq Q0; have zke : w2.cell? ⟨g1, 0, none⟩ = some (.string (⟨#[]⟩ : ByteArray)) := (zZ ZA.out 0).trans rfl; have zkf : w2.cell? ⟨g1, 1, none⟩ = some (.bool false) := (zZ ZA.out 1).trans rfl; have zkg : w2.cell? ⟨g1, 2, none⟩ = some (.int .i64 0) := (zZ ZA.out 2).trans rfl; have zkh : w2.cell? ⟨g1, 3, none⟩ = some (.slice none 0 0) := (zZ ZA.out 3).trans rfl; have zki : w2.cell? ⟨g1, 4, none⟩ = some (.slice none 0 0) := (zZ ZA.out 4).trans rfl; have zkl : w2.cell? ⟨g1, 5, none⟩ = some (.slice none 0 0) := (zZ ZA.out 5).trans rfl; have zkm := zV ZA.out 0; have zkn := zV ZA.out 1; have zko := zV ZA.out 2; have zkp := zV ZA.out 3; have zkr := zV ZA.out 4; have zks := zV ZA.out 5))
 have zf := zx.mk (YU ZA.out (⟨#[82]⟩ : ByteArray) false 250 (.slice A1 n1 c1) (.slice none 0 0) (.slice none 0 0))
 have zu := zx.mk (X7 (zxj.out) (Nat.le_of_eq iD.out.symm) (.string (⟨#[82]⟩ : ByteArray)) (.bool false) (.int .i64 250) (.slice A1 n1 c1) (.slice none 0 0) (.slice none 0 0))
 have LG1 := zx.mk (Nat.le_trans HB1.out.size (Nat.le_of_eq iD.out.symm))
 clear zke zkf zkg zkh zki zkl zkm zkn zko zkp zkr zks
 generalize ((((((w2.setCell ⟨g1, 0, none⟩ (.string (⟨#[82]⟩ : ByteArray))).setCell ⟨g1, 1, none⟩ (.bool false)).setCell ⟨g1, 2, none⟩ (.int .i64 250)).setCell ⟨g1, 3, none⟩ (.slice A1 n1 c1)).setCell ⟨g1, 4, none⟩ (.slice none 0 0)).setCell ⟨g1, 5, none⟩ (.slice none 0 0)) = w3 at zf zu ⊢
 have zl := zx.mk (Kd.yY HR1.out zu.out)
 have zH := zx.mk (HB1.out.trans (zu.out.mono HB1.out.size))
 clear HR1 HB1 ZA zxj iD zu
 have Yw := zf
 have HR1 := zl
 have HB1 := zH
 clear zf zl zH
 refine (ZT.calls U4 w3 rfl).mono ?_
 rintro e w4 ⟨v4, rfl, hr, hb⟩
 have zf := zx.mk (zN Yw.out hb)
 have zl := zx.mk (Kd.yY HR1.out hb)
 have zu := zx.mk (Kd.vE hr HB1.out.size)
 have zH := zx.mk (HB1.out.trans (hb.mono HB1.out.size))
 clear Yw HR1 HB1 hr hb
 have Yw := zf
 have HR1 := zl
 have JB := zu
 have HB1 := zH
 clear zf zl zu zH
 obtain ⟨A4, c4, e4⟩ := Kd.xw JB.out
 generalize U4.length = n4 at e4
 subst e4
 have hq4 : w4.cell? ⟨g1, 4, none⟩ = some (.slice none 0 0) := (zZ Yw.out 4).trans rfl
 have zqr := zV Yw.out 4
 go_wp2_with (first | ((with_reducible refine qb (N := 22) rfl ?_); have zf := zx.mk (qO (cs' := #[.string (⟨#[82]⟩ : ByteArray), .bool false, .int .i64 250, .slice A1 n1 c1, .slice A4 n4 c4, .slice none 0 0]) Yw.out 4 (.slice A4 n4 c4) rfl); have zl := zx.mk (Kd.ZR HR1.out Yw.out (by decide) 4 (.slice A4 n4 c4)); have zu := zx.mk (Kd.ZR JB.out Yw.out (by decide) 4 (.slice A4 n4 c4)); have zH := zx.mk (HB1.out.setCell (p := ⟨g1, 4, none⟩) LG1.out (.slice A4 n4 c4)); clear Yw HR1 JB HB1 hq4 zqr; have Yw := zf; have HR1 := zl; have JB := zu; have HB1 := zH; clear zf zl zu zH; generalize w4.setCell ⟨g1, 4, none⟩ (.slice A4 n4 c4) = w5 at Yw HR1 JB HB1 ⊢; refine Kd.QE vC Un.heap.size 111 ?hg (N := 22) ?hd (w0 := Un) (xs := Ql) (inner := [.string (⟨#[65]⟩ : ByteArray), .string (⟨#[86]⟩ : ByteArray), .int .i64 (-80), .string (⟨#[65]⟩ : ByteArray), .string (⟨#[87]⟩ : ByteArray), .int .i64 (-60), .string (⟨#[84]⟩ : ByteArray), .string (⟨#[111]⟩ : ByteArray), .int .i64 (-70), .string (⟨#[86]⟩ : ByteArray), .string (⟨#[65]⟩ : ByteArray), .int .i64 (-80), .string (⟨#[89]⟩ : ByteArray), .string (⟨#[111]⟩ : ByteArray), .int .i64 (-90)]) (ok := fun _ => True) (Zb := fun _ => True) ?hr ?hp (fun _ hk => hk) trivial HB1.out HB1.out.size (by simp [Ql]) ?_; (case hd => rfl); (case hg => rfl); (case hr => first | (go_simp; done) | (go_simp; rfl)); (case hp => exact zzv _ _ _); intro v5 wk hol hbl hgl J6; obtain ⟨A5, c5, e5⟩ := Kd.xw hol; generalize Ql.length = n5 at e5; subst e5; have zf := zx.mk (wZ Yw.out hgl (by simp)); have zl := zx.mk (Kd.UN HR1.out hgl (fun _ _ => by simp)); have zu := zx.mk (Kd.UN JB.out hgl (fun _ _ => by simp)); have zH := zx.mk hol; have qV := zx.mk hbl; clear Yw HR1 JB HB1 hol hbl hgl J6; have Yw := zf; have HR1 := zl; have JB := zu; have jg := zH; have HB1 := qV; clear zf zl zu zH qV; have hq5 : wk.cell? ⟨g1, 5, none⟩ = some (.slice none 0 0) := (zZ Yw.out 5).trans rfl; have zwu := zV Yw.out 5))
 have zf := zx.mk (qO (cs' := #[.string (⟨#[82]⟩ : ByteArray), .bool false, .int .i64 250, .slice A1 n1 c1, .slice A4 n4 c4, .slice A5 n5 c5]) Yw.out 5 (.slice A5 n5 c5) rfl)
 have zl := zx.mk (Kd.ZR HR1.out Yw.out (by decide) 5 (.slice A5 n5 c5))
 have zu := zx.mk (Kd.ZR JB.out Yw.out (by decide) 5 (.slice A5 n5 c5))
 have zH := zx.mk (Kd.ZR jg.out Yw.out (by decide) 5 (.slice A5 n5 c5))
 have qV := zx.mk (HB1.out.setCell (p := ⟨g1, 5, none⟩) LG1.out (.slice A5 n5 c5))
 clear Yw HR1 JB jg HB1 hq5 zwu
 generalize wk.setCell ⟨g1, 5, none⟩ (.slice A5 n5 c5) = bM at zf zl zu zH qV ⊢
 have FB1 := zx.mk (FB.mk zq8 zf.out LG1.out zl.out zu.out zH.out)
 have bN := zx.mk qV.out
 clear zf zl zu zH qV LG1
 refine (V5 57 _ Tryz.func57 (by kernel_rfl) rfl gP zx1 (⟨#[73]⟩ : ByteArray) 250 bM.heap.size (.slice none 0 0) [] (wF gP 127) bM (Nat.le_refl _) (Kd.kG _ _ _ _ _) (by simp [wH]) (by rw [List.nil_append]) (zzj gP)).mono ?_
 rintro e w6 ⟨v6, rfl, hr, hb, -, -⟩
 have HR2 := zx.mk hr
 have HB2 := zx.mk hb
 clear hr hb
 obtain ⟨A6, c6, e6⟩ := Kd.xw HR2.out
 generalize (wF gP 127).length = n6 at e6
 subst e6
 go_wp2_with (first | ((with_reducible refine qb (N := 2) rfl ?_); refine qM ?hg (N := 2) ?hd (cs := #[.string (⟨#[]⟩ : ByteArray), .bool false, .int .i64 0, .slice none 0 0, .slice none 0 0, .slice none 0 0]) (t := 60) ?hr ?_; (case hd => rfl); (case hg => rfl); (case hr => first | (go_simp; done) | (go_simp; rfl)); intro g2 Q0 w7 hbx hbq; have ZB := zx.mk hbx; have zxv := zx.mk hbq; have iE := zx.mk Q0; clear hbx hbq Q0; have zkt : w7.cell? ⟨g2, 0, none⟩ = some (.string (⟨#[]⟩ : ByteArray)) := (zZ ZB.out 0).trans rfl; have zku : w7.cell? ⟨g2, 1, none⟩ = some (.bool false) := (zZ ZB.out 1).trans rfl; have zkA : w7.cell? ⟨g2, 2, none⟩ = some (.int .i64 0) := (zZ ZB.out 2).trans rfl; have zkB : w7.cell? ⟨g2, 3, none⟩ = some (.slice none 0 0) := (zZ ZB.out 3).trans rfl; have zkC : w7.cell? ⟨g2, 4, none⟩ = some (.slice none 0 0) := (zZ ZB.out 4).trans rfl; have zkD : w7.cell? ⟨g2, 5, none⟩ = some (.slice none 0 0) := (zZ ZB.out 5).trans rfl; have zkE := zV ZB.out 0; have zkF := zV ZB.out 1; have zkG := zV ZB.out 2; have zkH := zV ZB.out 3; have zkI := zV ZB.out 4; have zkL := zV ZB.out 5) | ((with_reducible refine qb (N := 28) rfl ?_); have zf := zx.mk (YU ZB.out (⟨#[73]⟩ : ByteArray) false 250 (.slice A6 n6 c6) (.slice none 0 0) (.slice none 0 0)); have zu := zx.mk (X7 (zxv.out) (Nat.le_of_eq iE.out.symm) (.string (⟨#[73]⟩ : ByteArray)) (.bool false) (.int .i64 250) (.slice A6 n6 c6) (.slice none 0 0) (.slice none 0 0)); have LG2 := zx.mk (Nat.le_trans HB2.out.size (Nat.le_of_eq iE.out.symm)); clear zkt zku zkA zkB zkC zkD zkE zkF zkG zkH zkI zkL; generalize ((((((w7.setCell ⟨g2, 0, none⟩ (.string (⟨#[73]⟩ : ByteArray))).setCell ⟨g2, 1, none⟩ (.bool false)).setCell ⟨g2, 2, none⟩ (.int .i64 250)).setCell ⟨g2, 3, none⟩ (.slice A6 n6 c6)).setCell ⟨g2, 4, none⟩ (.slice none 0 0)).setCell ⟨g2, 5, none⟩ (.slice none 0 0)) = KE at zf zu ⊢; have FB2 := zx.mk (FB.mk zq9 zf.out LG2.out (Kd.yY HR2.out zu.out) (Kd.kG _ _ _ _ _) (Kd.kG _ _ _ _ _)); have mZ := zx.mk (HB2.out.trans (zu.out.mono HB2.out.size)); clear HR2 HB2 ZB zxv iE LG2 zf zu; refine Kd.QE qH KE.heap.size 105 ?hg (N := 28) ?hd (w0 := KE) (xs := (wH 600)) (inner := [.string (⟨#[102, 105]⟩ : ByteArray), .int .i64 600, .string (⟨#[102, 108]⟩ : ByteArray), .int .i64 600, .string (⟨#[102, 102]⟩ : ByteArray), .int .i64 600]) (ok := fun _ => True) (Zb := fun _ => True) ?hr ?hp (fun _ hk => hk) trivial (Below.refl _ _) (Nat.le_refl _) (by simp [wH]) ?_; (case hd => rfl); (case hg => rfl); (case hr => first | (go_simp; done) | (go_simp; rfl)); (case hp => exact mq 600 _ _ _); intro u0 wl hol hbl hgl J6; have HL_ := zx.mk hol; have J7 := zx.mk hbl; have zqp := zx.mk J6; clear hol hbl hgl J6))
 refine (V5 58 _ Tryz.func58 (by kernel_rfl) rfl bL zx2 (⟨#[66]⟩ : ByteArray) 250 KE.heap.size u0 (wH 600) (Qi bL 600) wl J7.out.size HL_.out (by simp [wH]) (aW bL 600) (zzx bL 600)).mono ?_
 rintro e w9 ⟨v9, rfl, hr, hb, -, -⟩
 have HR3 := zx.mk hr
 have HB3 := zx.mk (J7.out.trans hb)
 clear hr hb HL_ J7 zqp
 obtain ⟨A9, c9, e9⟩ := Kd.xw HR3.out
 generalize (Qi bL 600).length = n9 at e9
 subst e9
 go_wp2_with (first | ((with_reducible refine qb (N := 3) rfl ?_); refine qM ?hg (N := 3) ?hd (cs := #[.string (⟨#[]⟩ : ByteArray), .bool false, .int .i64 0, .slice none 0 0, .slice none 0 0, .slice none 0 0]) (t := 60) ?hr ?_; (case hd => rfl); (case hg => rfl); (case hr => first | (go_simp; done) | (go_simp; rfl)); intro g3 Q0 KW hbx hbq; have ZC := zx.mk hbx; have zxk := zx.mk hbq; have iF := zx.mk Q0; clear hbx hbq Q0; have zkM : KW.cell? ⟨g3, 0, none⟩ = some (.string (⟨#[]⟩ : ByteArray)) := (zZ ZC.out 0).trans rfl; have zkN : KW.cell? ⟨g3, 1, none⟩ = some (.bool false) := (zZ ZC.out 1).trans rfl; have zkO : KW.cell? ⟨g3, 2, none⟩ = some (.int .i64 0) := (zZ ZC.out 2).trans rfl; have zkP : KW.cell? ⟨g3, 3, none⟩ = some (.slice none 0 0) := (zZ ZC.out 3).trans rfl; have zkR : KW.cell? ⟨g3, 4, none⟩ = some (.slice none 0 0) := (zZ ZC.out 4).trans rfl; have zkS : KW.cell? ⟨g3, 5, none⟩ = some (.slice none 0 0) := (zZ ZC.out 5).trans rfl; have zkT := zV ZC.out 0; have zkU := zV ZC.out 1; have zk0 := zV ZC.out 2; have zk1 := zV ZC.out 3; have zk2 := zV ZC.out 4; have zk3 := zV ZC.out 5))
 have zf := zx.mk (YU ZC.out (⟨#[66]⟩ : ByteArray) false 250 (.slice A9 n9 c9) (.slice none 0 0) (.slice none 0 0))
 have zu := zx.mk (X7 (zxk.out) (Nat.le_of_eq iF.out.symm) (.string (⟨#[66]⟩ : ByteArray)) (.bool false) (.int .i64 250) (.slice A9 n9 c9) (.slice none 0 0) (.slice none 0 0))
 have LG3 := zx.mk (Nat.le_trans HB3.out.size (Nat.le_of_eq iF.out.symm))
 clear zkM zkN zkO zkP zkR zkS zkT zkU zk0 zk1 zk2 zk3
 generalize ((((((KW.setCell ⟨g3, 0, none⟩ (.string (⟨#[66]⟩ : ByteArray))).setCell ⟨g3, 1, none⟩ (.bool false)).setCell ⟨g3, 2, none⟩ (.int .i64 250)).setCell ⟨g3, 3, none⟩ (.slice A9 n9 c9)).setCell ⟨g3, 4, none⟩ (.slice none 0 0)).setCell ⟨g3, 5, none⟩ (.slice none 0 0)) = VX at zf zu ⊢
 have zl := zx.mk (Kd.yY HR3.out zu.out)
 have zH := zx.mk (HB3.out.trans (zu.out.mono HB3.out.size))
 clear HR3 HB3 ZC zxk iF zu
 have KF := zf
 have HR3 := zl
 have HB3 := zH
 clear zf zl zH
 refine (ZT.calls U4 VX rfl).mono ?_
 rintro e Uw ⟨v12, rfl, hr, hb⟩
 have zf := zx.mk (zN KF.out hb)
 have zl := zx.mk (Kd.yY HR3.out hb)
 have zu := zx.mk (Kd.vE hr HB3.out.size)
 have zH := zx.mk (HB3.out.trans (hb.mono HB3.out.size))
 clear KF HR3 HB3 hr hb
 have KF := zf
 have HR3 := zl
 have HL3 := zu
 have HB3 := zH
 clear zf zl zu zH
 obtain ⟨ah, c12, e12⟩ := Kd.xw HL3.out
 generalize U4.length = n12 at e12
 subst e12
 have hq4 : Uw.cell? ⟨g3, 4, none⟩ = some (.slice none 0 0) := (zZ KF.out 4).trans rfl
 have zqr := zV KF.out 4
 go_wp2_with fail
 have zf := zx.mk (qO (cs' := #[.string (⟨#[66]⟩ : ByteArray), .bool false, .int .i64 250, .slice A9 n9 c9, .slice ah n12 c12, .slice none 0 0]) KF.out 4 (.slice ah n12 c12) rfl)
 have zl := zx.mk (Kd.ZR HR3.out KF.out (by decide) 4 (.slice ah n12 c12))
 have zu := zx.mk (Kd.ZR HL3.out KF.out (by decide) 4 (.slice ah n12 c12))
 have zH := zx.mk (HB3.out.setCell (p := ⟨g3, 4, none⟩) LG3.out (.slice ah n12 c12))
 clear KF HR3 HL3 HB3 hq4 zqr
 generalize Uw.setCell ⟨g3, 4, none⟩ (.slice ah n12 c12) = bO at zf zl zu zH ⊢
 have FB3 := zx.mk (FB.mk zxz zf.out LG3.out zl.out zu.out (Kd.kG _ _ _ _ _))
 have au := zx.mk zH.out
 clear zf zl zu zH LG3
 refine (V5 59 _ Tryz.func59 (by kernel_rfl) rfl gT zx3 (⟨#[77]⟩ : ByteArray) 600 bO.heap.size (.slice none 0 0) [] (wF gT 127) bO (Nat.le_refl _) (Kd.kG _ _ _ _ _) (by simp [wH]) (by rw [List.nil_append]) (zzj gT)).mono ?_
 rintro e Kh ⟨v13, rfl, hr, hb, -, -⟩
 have HR4 := zx.mk hr
 have Ku := zx.mk hb
 clear hr hb
 obtain ⟨A13, c13, e13⟩ := Kd.xw HR4.out
 generalize (wF gT 127).length = n13 at e13
 subst e13
 go_wp2_with (first | ((with_reducible refine qb (N := 4) rfl ?_); refine qM ?hg (N := 4) ?hd (cs := #[.string (⟨#[]⟩ : ByteArray), .bool false, .int .i64 0, .slice none 0 0, .slice none 0 0, .slice none 0 0]) (t := 60) ?hr ?_; (case hd => rfl); (case hg => rfl); (case hr => first | (go_simp; done) | (go_simp; rfl)); intro g4 Q0 bP hbx hbq; have ZE := zx.mk hbx; have zxy := zx.mk hbq; have iG := zx.mk Q0; clear hbx hbq Q0; have zk4 : bP.cell? ⟨g4, 0, none⟩ = some (.string (⟨#[]⟩ : ByteArray)) := (zZ ZE.out 0).trans rfl; have zk5 : bP.cell? ⟨g4, 1, none⟩ = some (.bool false) := (zZ ZE.out 1).trans rfl; have zk6 : bP.cell? ⟨g4, 2, none⟩ = some (.int .i64 0) := (zZ ZE.out 2).trans rfl; have zk7 : bP.cell? ⟨g4, 3, none⟩ = some (.slice none 0 0) := (zZ ZE.out 3).trans rfl; have zk8 : bP.cell? ⟨g4, 4, none⟩ = some (.slice none 0 0) := (zZ ZE.out 4).trans rfl; have zk9 : bP.cell? ⟨g4, 5, none⟩ = some (.slice none 0 0) := (zZ ZE.out 5).trans rfl; have zyz := zV ZE.out 0; have zyq := zV ZE.out 1; have zyx := zV ZE.out 2; have zyj := zV ZE.out 3; have zyv := zV ZE.out 4; have zyk := zV ZE.out 5) | ((with_reducible refine qb (N := 5) rfl ?_); have zf := zx.mk (YU ZE.out (⟨#[77]⟩ : ByteArray) false 600 (.slice A13 n13 c13) (.slice none 0 0) (.slice none 0 0)); have zu := zx.mk (X7 (zxy.out) (Nat.le_of_eq iG.out.symm) (.string (⟨#[77]⟩ : ByteArray)) (.bool false) (.int .i64 600) (.slice A13 n13 c13) (.slice none 0 0) (.slice none 0 0)); have LG4 := zx.mk (Nat.le_trans Ku.out.size (Nat.le_of_eq iG.out.symm)); clear zk4 zk5 zk6 zk7 zk8 zk9 zyz zyq zyx zyj zyv zyk; generalize ((((((bP.setCell ⟨g4, 0, none⟩ (.string (⟨#[77]⟩ : ByteArray))).setCell ⟨g4, 1, none⟩ (.bool false)).setCell ⟨g4, 2, none⟩ (.int .i64 600)).setCell ⟨g4, 3, none⟩ (.slice A13 n13 c13)).setCell ⟨g4, 4, none⟩ (.slice none 0 0)).setCell ⟨g4, 5, none⟩ (.slice none 0 0)) = Uo at zf zu ⊢; have FB4 := zx.mk (FB.mk zxq zf.out LG4.out (Kd.yY HR4.out zu.out) (Kd.kG _ _ _ _ _) (Kd.kG _ _ _ _ _)); have BW3 := zx.mk (Ku.out.trans (zu.out.mono Ku.out.size)); clear HR4 Ku ZE zxy iG LG4 zf zu; refine qM ?hg (N := 5) ?hd (cs := #[.string (⟨#[]⟩ : ByteArray), .bool false, .int .i64 0, .slice none 0 0, .slice none 0 0, .slice none 0 0]) (t := 60) ?hr ?_; (case hd => rfl); (case hg => rfl); (case hr => first | (go_simp; done) | (go_simp; rfl)); intro g5 Q0 Zt hbx hbq; have ZF := zx.mk hbx; have zxw := zx.mk hbq; have iH := zx.mk Q0; clear hbx hbq Q0; have zyy : Zt.cell? ⟨g5, 0, none⟩ = some (.string (⟨#[]⟩ : ByteArray)) := (zZ ZF.out 0).trans rfl; have zyw : Zt.cell? ⟨g5, 1, none⟩ = some (.bool false) := (zZ ZF.out 1).trans rfl; have zyZ : Zt.cell? ⟨g5, 2, none⟩ = some (.int .i64 0) := (zZ ZF.out 2).trans rfl; have zyQ : Zt.cell? ⟨g5, 3, none⟩ = some (.slice none 0 0) := (zZ ZF.out 3).trans rfl; have zyX : Zt.cell? ⟨g5, 4, none⟩ = some (.slice none 0 0) := (zZ ZF.out 4).trans rfl; have zyJ : Zt.cell? ⟨g5, 5, none⟩ = some (.slice none 0 0) := (zZ ZF.out 5).trans rfl; have zyV := zV ZF.out 0; have zyK := zV ZF.out 1; have zyY := zV ZF.out 2; have zyW := zV ZF.out 3; have zya := zV ZF.out 4; have zyb := zV ZF.out 5))
 have zf := zx.mk (YU ZF.out (⟨#[83]⟩ : ByteArray) true 250 (.slice none 0 0) (.slice none 0 0) (.slice none 0 0))
 have zu := zx.mk (X7 (zxw.out) (Nat.le_of_eq iH.out.symm) (.string (⟨#[83]⟩ : ByteArray)) (.bool true) (.int .i64 250) (.slice none 0 0) (.slice none 0 0) (.slice none 0 0))
 have LG5 := zx.mk (Nat.le_of_eq iH.out.symm)
 clear zyy zyw zyZ zyQ zyX zyJ zyV zyK zyY zyW zya zyb
 generalize ((((((Zt.setCell ⟨g5, 0, none⟩ (.string (⟨#[83]⟩ : ByteArray))).setCell ⟨g5, 1, none⟩ (.bool true)).setCell ⟨g5, 2, none⟩ (.int .i64 250)).setCell ⟨g5, 3, none⟩ (.slice none 0 0)).setCell ⟨g5, 4, none⟩ (.slice none 0 0)).setCell ⟨g5, 5, none⟩ (.slice none 0 0)) = w16 at zf zu ⊢
 clear ZF zxw iH
 have BX5 := zf
 have mQ := zu
 clear zf zu
 have GWS := zx.mk (HGW.out.under (bN.out.trans ((mZ.out.mono bN.out.size).trans ((au.out.mono (Nat.le_trans bN.out.size mZ.out.size)).trans (BW3.out.mono (Nat.le_trans bN.out.size (Nat.le_trans mZ.out.size au.out.size)))))))
 refine (Tryz.strings_Fields U3 w16 (by decide +kernel) sI (GWS.out.under mQ.out).spc).mono ?_
 rintro e Js ⟨rfl, mX⟩
 have hlen : (Lib.fields U3.data.toList).length = 70 := gU
 rw [hlen]
 clear hlen
 have hcw : ((Lib.fields U3.data.toList).map fun l => Value.string ⟨l.toArray⟩).toArray = YE := rfl
 rw [hcw] at mX
 have BKW := zx.mk (show Js.heap[w16.heap.size]? = some (.cells YE 9 (0, 0)) by rw [mX]; exact wY _ _)
 have zf := vD BX5.out (.cells YE 9)
 rw [← mX] at zf
 have zl := zx.mk (show Below Uo.heap.size Uo Js by rw [mX]; exact mQ.out.alloc mQ.out.size _)
 clear BX5 mQ mX hcw
 have BX5 := zx.mk zf
 have mQ := zl
 clear zf zl
 generalize w16.heap.size = bw at BKW ⊢
 go_wp2
 go_loopw [7, 8, 9] (fun x y z wr => zwt Uo g5 bw x wr) (fun x y z _ => 70 - (intOf x).toNat)
 case atStart => exact ⟨0, 0, _, rfl, rfl, by omega, Kd.kG _ _ _ _ _, BX5.out, BKW.out, mQ.out⟩
 case round =>
  obtain ⟨m, k, u, rfl, hk0, hm, Qv, BX0, BK0, HB0⟩ := hrel
  have HKK := zx.mk hk0
  have hkm : k ≤ 2 * m := by omega
  have hmk : 2 * m ≤ k := by omega
  clear hk0
  have jl := zx.mk Qv
  have BX := zx.mk BX0
  have BK := zx.mk BK0
  have wG := zx.mk HB0
  clear Qv BX0 BK0 HB0 BX5 BKW mQ
  by_cases hlt : m < 35
  ·have q1 : decide ((k : Int) < 70) = true := decide_eq_true (by omega)
   have q2 : IntKind.i64.wrap ((k : Int) + 1) = (k : Int) + 1 := IntWalk.i64_in _ (by omega)
   have hcell : wr.cell? ⟨bw, k + 1, none⟩ = some (.string (kE (k + 1))) := (zZ BK.out _).trans (V7 _ (by omega))
   go_wp2_with fail
   have zvd := iK (kE (k + 1)) wr (by have := sM (k + 1); omega) (GWS.out.under wG.out)
   refine zvd.mono ?_
   rintro e Qk ⟨rfl, hb⟩
   clear zvd hcell q2
   have zf := zx.mk (Kd.qm (Kd.yY jl.out hb))
   have zl := zx.mk (xZ (zN BX.out hb))
   have zu := zx.mk (xZ (zN BK.out hb))
   have zH := zx.mk ((wG.out.trans (hb.mono wG.out.size)).drew)
   clear jl BX BK wG hb
   have jl := zf
   have BX := zl
   have BK := zu
   have wG := zH
   clear zf zl zu zH
   have zqs : k < 70 := by omega
   have q5 : ((k : Int) < 70) = True := eq_true (by omega)
   go_wp2
   refine jw (n := 12) (S := fun w' => w'.cell? ⟨g5, 3, none⟩ = some u ∧ w'.cell? ⟨bw, k, none⟩ = some (.string (kE k))) (ds := [11]) #[false, false, false, false, false, false, false, false, false, false, false, false] (by kernel_rfl) rfl rfl ⟨(zZ BX.out 3).trans rfl, (zZ BK.out _).trans (V7 _ zqs)⟩ (fun hHeld => ?_)
   refine VL std.zkd (fun zY => ?_)
   generalize Qk.drew = w16 at jl BX BK wG hHeld ⊢
   refine yL (i := 0) (N := some 50) (v := ?_) (a' := ?_) #[true, false, false, false, false, false, false, false, false, false, false, false] rfl rfl (yJ zY.out (by kernel_rfl)) (fun _ _ _ h => h) (Or.inl ⟨by rfl, ?_⟩) ?_ ?_
   rotate_left
   ·intro w'
    go_simp
    with_reducible rfl
   rotate_left
   ·simp only [Act.put, List.setIfInBounds_toArray, List.set_cons_zero, List.set_cons_succ]
    rfl
   refine yL (i := 2) (N := some 52) (v := ?_) (a' := ?_) #[true, false, true, false, false, false, false, false, false, false, false, false] rfl rfl (yJ zY.out (by kernel_rfl)) (fun _ _ _ h => h) (Or.inl ⟨by rfl, ?_⟩) ?_ ?_
   rotate_left
   ·intro w'
    go_simp
    with_reducible rfl
   rotate_left
   ·simp only [Act.put, List.setIfInBounds_toArray, List.set_cons_zero, List.set_cons_succ]
    rfl
   refine yL (i := 3) (N := some 53) (v := ?_) (a' := ?_) #[true, false, true, true, false, false, false, false, false, false, false, false] rfl rfl (yJ zY.out (by kernel_rfl)) (fun _ _ _ h => h) (Or.inl ⟨by rfl, ?_⟩) ?_ ?_
   rotate_left
   ·intro w'
    go_simp
    with_reducible rfl
   rotate_left
   ·simp only [Act.put, List.setIfInBounds_toArray, List.set_cons_zero, List.set_cons_succ]
    rfl
   refine yL (i := 4) (N := some 54) (v := ?_) (a' := ?_) #[true, false, true, true, true, false, false, false, false, false, false, false] rfl rfl (yJ zY.out (by kernel_rfl)) (fun _ _ _ h => h) (Or.inl ⟨by rfl, ?_⟩) ?_ ?_
   rotate_left
   ·intro w'
    go_simp
    with_reducible rfl
   rotate_left
   ·simp only [Act.put, List.setIfInBounds_toArray, List.set_cons_zero, List.set_cons_succ]
    rfl
   refine yL (i := 6) (N := some 56) (v := ?_) (a' := ?_) #[true, false, true, true, true, false, true, false, false, false, false, false] rfl rfl (yJ zY.out (by kernel_rfl)) (fun _ _ _ h => h) (Or.inl ⟨by rfl, ?_⟩) ?_ ?_
   rotate_left
   ·intro w'
    go_simp
    with_reducible rfl
   rotate_left
   ·simp only [Act.put, List.setIfInBounds_toArray, List.set_cons_zero, List.set_cons_succ]
    rfl
   refine VH (i := 1) (N := some 51) (v := ?_) (a' := ?_) #[true, true, true, true, true, false, true, false, false, false, false, false] rfl rfl (U0 zY.out (by kernel_rfl)) (fun _ _ _ h => h) (Or.inl ⟨by rfl, ?_⟩) hHeld ?_ ?_
   rotate_left
   ·rintro w' ⟨s0, s1⟩
    go_simp
    with_reducible rfl
   rotate_left
   ·simp only [Act.put, List.setIfInBounds_toArray, List.set_cons_zero, List.set_cons_succ]
    rfl
   refine VH (i := 5) (N := some 55) (v := ?_) (a' := ?_) #[true, true, true, true, true, true, true, false, false, false, false, false] rfl rfl (U0 zY.out (by kernel_rfl)) (fun _ _ _ h => h) (Or.inl ⟨by rfl, ?_⟩) hHeld ?_ ?_
   rotate_left
   ·rintro w' ⟨s0, s1⟩
    go_simp
    with_reducible rfl
   rotate_left
   ·simp only [Act.put, List.setIfInBounds_toArray, List.set_cons_zero, List.set_cons_succ]
    rfl
   refine yL (i := 7) (N := some 57) (v := ?_) (a' := ?_) #[true, true, true, true, true, true, true, true, false, false, false, false] rfl rfl (yJ zY.out (by kernel_rfl)) (fun _ _ _ h => h) (Or.inl ⟨by rfl, ?_⟩) ?_ ?_
   rotate_left
   ·intro w'
    go_simp
    with_reducible rfl
   rotate_left
   ·simp only [Act.put, List.setIfInBounds_toArray, List.set_cons_zero, List.set_cons_succ]
    rfl
   refine Q7 (i := 8) (N := some 58) #[true, true, true, true, true, true, true, true, true, false, false, false] rfl rfl (Zv zY.out (by kernel_rfl)) (by decide) (fun K hK => ?_)
   refine dD (w1 := ?_) (v := ?_) (by rfl) rfl ?_ ?_
   rotate_left 2
   ·go_simp
    constructor
    ·rfl
    ·rfl
   refine hK.out _ _ ⟨(zZ (vD BX.out _) 3).trans rfl, (zZ (vD BK.out _) _).trans (V7 _ zqs)⟩ (fun hHeld => ?_)
   clear hK K
   refine Qy (a' := ?_) ?_ ?_
   rotate_left
   ·show Act.put _ (some 58) _ = _
    simp only [Act.put, List.setIfInBounds_toArray, List.set_cons_zero, List.set_cons_succ]
    rfl
   refine Q7 (i := 9) (N := some 59) #[true, true, true, true, true, true, true, true, true, true, false, false] rfl rfl (Zv zY.out (by kernel_rfl)) (by decide) (fun K hK => ?_)
   refine Kd.Qz qH (w0 := Uo) Uo.heap.size (by rfl) (.tmp 51) (.tmp 58) 56 105 (.agg #[(.string ⟨#[]⟩), (.int .i64 0)]) 24 rfl Tryz.underlying56 aQ rfl (by decide) (by omega) u (V6 m) (⟨kE k, (Ul (kE (k + 1))).1⟩ : yh) [.string (kE k), .int .i64 (Ul (kE (k + 1))).1] (fun _ => True) (fun _ => False) rfl rfl ?aP (fun _ hk => hk.elim) ?aF ?aO ?aB ?aS ?aL ?_
   (case aP => exact Xg _ _ _ (⟨kE k, (Ul (kE (k + 1))).1⟩ : yh))
   (case aF => exact (fun _ _ => trivial))
   (case aO => exact jl.out)
   (case aB => exact wG.out)
   (case aS => exact wG.out.size)
   (case aL => rw [zqo]; omega)
   intro v1 Qk ho hb hg hat
   rw [HKK.out, ← zzk] at ho
   obtain ⟨Ao, co, eo⟩ := Kd.xw ho
   subst eo
   generalize (V6 (m + 1)).length = nn at ho hat ⊢
   have zf := zx.mk (wZ BX.out hg (Kd.UK jl.out BX.out (by decide)))
   have zl := zx.mk (wZ BK.out hg (Kd.UK jl.out BK.out (by decide)))
   have zu := zx.mk hb
   have zH := zx.mk ho
   clear BX BK wG jl ho hb hg hat hHeld
   have BX := zf
   have BK := zl
   have wG := zu
   have jl := zH
   clear zf zl zu zH
   refine hK.out _ _ ⟨(zZ BX.out 3).trans rfl, (zZ BK.out _).trans (V7 _ zqs)⟩ (fun hHeld => ?_)
   clear hK K
   refine Qy (a' := ?_) ?_ ?_
   rotate_left
   ·show Act.put _ (some 59) _ = _
    simp only [Act.put, List.setIfInBounds_toArray, List.set_cons_zero, List.set_cons_succ]
    rfl
   refine yL (i := 10) (N := some 60) (v := ?_) (a' := ?_) #[true, true, true, true, true, true, true, true, true, true, true, false] rfl rfl (yJ zY.out (by kernel_rfl)) (fun _ _ _ h => h) (Or.inl ⟨by rfl, ?_⟩) ?_ ?_
   rotate_left
   ·intro w'
    go_simp
    with_reducible rfl
   rotate_left
   ·simp only [Act.put, List.setIfInBounds_toArray, List.set_cons_zero, List.set_cons_succ]
    rfl
   refine fM (i := 11) (N := none) #[true, true, true, true, true, true, true, true, true, true, true, true] rfl rfl (Zv zY.out (by kernel_rfl)) (by decide) (fun K hK => ?_)
   have zql : Qk.cell? ⟨g5, 3, none⟩ = some u := (zZ BX.out 3).trans rfl
   have iV := zV BX.out 3
   refine fO (w1 := ?_) (by rfl) rfl ?_ ?_
   rotate_left
   ·go_simp
    rfl
   refine hK.out _ _ ?_
   clear hK K
   refine jk (xM zY.out (by kernel_rfl)) ?_
   have zf := zx.mk (qO (cs' := #[.string (⟨#[83]⟩ : ByteArray), .bool true, .int .i64 250, .slice Ao nn co, .slice none 0 0, .slice none 0 0]) BX.out 3 (.slice Ao nn co) rfl)
   have zl := zx.mk (Yr BK.out (p := ⟨g5, 3, none⟩) (zjd BK.out BX.out (by decide)) (.slice Ao nn co))
   have zu := zx.mk (wG.out.setCell (p := ⟨g5, 3, none⟩) LG5.out (.slice Ao nn co))
   have zH := zx.mk (Kd.ZR jl.out BX.out (by decide) 3 (.slice Ao nn co))
   clear BX BK wG jl hHeld zql iV
   generalize Qk.setCell ⟨g5, 3, none⟩ (.slice Ao nn co) = bE at zf zl zu zH ⊢
   have q4 : IntKind.i64.wrap ((k : Int) + 2) = ((k + 2 : Nat) : Int) := (IntWalk.i64_in _ (by omega)).trans (by omega)
   go_wp2
   go_roundw
   case rel => exact ⟨m + 1, k + 2, .slice Ao nn co, by first | rfl | (rw [q4]; done) | (simp; done), by have := HKK.out; omega, by omega, zH.out, zf.out, zl.out, zu.out⟩
   case measure => first | (simp [intOf]; omega) | (rw [q4]; simp [intOf]; omega)
  ·have zve : m = 35 := by omega
   have q1 : decide ((k : Int) < 70) = false := decide_eq_false (by omega)
   have hR5 := jl.out
   rw [zve] at hR5
   have BC3 := BW3.out.trans (wG.out.mono BW3.out.size)
   have BC2 := au.out.trans (BC3.mono au.out.size)
   have BC1 := mZ.out.trans (BC2.mono mZ.out.size)
   have BC0 := bN.out.trans (BC1.mono bN.out.size)
   obtain ⟨mJ, mV, mK, mY, mW, mg, mh, mo, mD, bk1, KM1⟩ := (FB1.out.keep BC1).cells
   obtain ⟨mE, mF, mG, mH, mI, mM, mO, mP, mR, bk2, KM2⟩ := (FB2.out.keep BC2).cells
   obtain ⟨mU, nk, ny, nZ, nQ, nX, nJ, nV, nK, nY, KM3⟩ := (FB3.out.keep BC3).cells
   obtain ⟨nW, ng, ni, nA, nC, nD, nE, nG, nH, nI, KM4⟩ := (FB4.out.keep wG.out).cells
   obtain ⟨nL, nM, nN, nO, nP, nR, nS, nT, nU, rz, KM5⟩ := (FB.mk zxx BX.out LG5.out hR5 (Kd.kG _ _ _ _ _) (Kd.kG _ _ _ _ _)).cells
   have BCA := zx.mk BC0
   have KA1 := zx.mk KM1
   have KA2 := zx.mk KM2
   have KA3 := zx.mk KM3
   have KA4 := zx.mk KM4
   have KA5 := zx.mk KM5
   have S0 := zx.mk bN.out.size
   have S1 := zx.mk mZ.out.size
   have S2 := zx.mk au.out.size
   have S3 := zx.mk BW3.out.size
   have S4 := zx.mk wG.out.size
   have zwA : wr.cell? ⟨g1, 0, none⟩ = some (.string (⟨#[82]⟩ : ByteArray)) := (zZ bk1 0).trans rfl
   have zwB : wr.cell? ⟨g1, 1, none⟩ = some (.bool false) := (zZ bk1 1).trans rfl
   have zwC : wr.cell? ⟨g1, 2, none⟩ = some (.int .i64 250) := (zZ bk1 2).trans rfl
   have zwD : wr.cell? ⟨g1, 3, none⟩ = some (.slice mJ mV mK) := (zZ bk1 3).trans rfl
   have zwE : wr.cell? ⟨g1, 4, none⟩ = some (.slice mY mW mg) := (zZ bk1 4).trans rfl
   have zwF : wr.cell? ⟨g1, 5, none⟩ = some (.slice mh mo mD) := (zZ bk1 5).trans rfl
   have zwG : wr.cell? ⟨g2, 0, none⟩ = some (.string (⟨#[73]⟩ : ByteArray)) := (zZ bk2 0).trans rfl
   have zwH : wr.cell? ⟨g2, 1, none⟩ = some (.bool false) := (zZ bk2 1).trans rfl
   have zwI : wr.cell? ⟨g2, 2, none⟩ = some (.int .i64 250) := (zZ bk2 2).trans rfl
   have zwL : wr.cell? ⟨g2, 3, none⟩ = some (.slice mE mF mG) := (zZ bk2 3).trans rfl
   have hx24 : wr.cell? ⟨g2, 4, none⟩ = some (.slice mH mI mM) := (zZ bk2 4).trans rfl
   have hx25 : wr.cell? ⟨g2, 5, none⟩ = some (.slice mO mP mR) := (zZ bk2 5).trans rfl
   have zwM : wr.cell? ⟨g3, 0, none⟩ = some (.string (⟨#[66]⟩ : ByteArray)) := (zZ nY 0).trans rfl
   have hx31 : wr.cell? ⟨g3, 1, none⟩ = some (.bool false) := (zZ nY 1).trans rfl
   have hx32 : wr.cell? ⟨g3, 2, none⟩ = some (.int .i64 250) := (zZ nY 2).trans rfl
   have zwN : wr.cell? ⟨g3, 3, none⟩ = some (.slice mU nk ny) := (zZ nY 3).trans rfl
   have hx34 : wr.cell? ⟨g3, 4, none⟩ = some (.slice nZ nQ nX) := (zZ nY 4).trans rfl
   have zwO : wr.cell? ⟨g3, 5, none⟩ = some (.slice nJ nV nK) := (zZ nY 5).trans rfl
   have zwP : wr.cell? ⟨g4, 0, none⟩ = some (.string (⟨#[77]⟩ : ByteArray)) := (zZ nI 0).trans rfl
   have zwR : wr.cell? ⟨g4, 1, none⟩ = some (.bool false) := (zZ nI 1).trans rfl
   have zwS : wr.cell? ⟨g4, 2, none⟩ = some (.int .i64 600) := (zZ nI 2).trans rfl
   have zwT : wr.cell? ⟨g4, 3, none⟩ = some (.slice nW ng ni) := (zZ nI 3).trans rfl
   have zwU : wr.cell? ⟨g4, 4, none⟩ = some (.slice nA nC nD) := (zZ nI 4).trans rfl
   have zw0 : wr.cell? ⟨g4, 5, none⟩ = some (.slice nE nG nH) := (zZ nI 5).trans rfl
   have zw1 : wr.cell? ⟨g5, 0, none⟩ = some (.string (⟨#[83]⟩ : ByteArray)) := (zZ rz 0).trans rfl
   have zw2 : wr.cell? ⟨g5, 1, none⟩ = some (.bool true) := (zZ rz 1).trans rfl
   have zw3 : wr.cell? ⟨g5, 2, none⟩ = some (.int .i64 250) := (zZ rz 2).trans rfl
   have zw4 : wr.cell? ⟨g5, 3, none⟩ = some (.slice nL nM nN) := (zZ rz 3).trans rfl
   have zw5 : wr.cell? ⟨g5, 4, none⟩ = some (.slice nO nP nR) := (zZ rz 4).trans rfl
   have zw6 : wr.cell? ⟨g5, 5, none⟩ = some (.slice nS nT nU) := (zZ rz 5).trans rfl
   clear hR5 BC0 BC1 BC2 BC3 KM1 KM2 KM3 KM4 KM5 bk1 bk2 nY nI rz jl BX BK wG hkm hmk zve hm hlt HKK FB1 FB2 FB3 FB4 bN mZ au BW3 GWS HGW LG5
   go_wp2
   clear zwA zwB zwC zwD zwE zwF zwG zwH zwI zwL hx24 hx25 zwM hx31 hx32 zwN hx34 zwO zwP zwR zwS zwT zwU zw0 zw1 zw2 zw3 zw4 zw5 zw6
   have hbn := yA (Below.refl wr.heap.size wr) (.cells #[.string (⟨#[82]⟩ : ByteArray), .bool false, .int .i64 250, .slice mJ mV mK, .slice mY mW mg, .slice mh mo mD, .string (⟨#[73]⟩ : ByteArray), .bool false, .int .i64 250, .slice mE mF mG, .slice mH mI mM, .slice mO mP mR, .string (⟨#[66]⟩ : ByteArray), .bool false, .int .i64 250, .slice mU nk ny, .slice nZ nQ nX, .slice nJ nV nK, .string (⟨#[77]⟩ : ByteArray), .bool false, .int .i64 600, .slice nW ng ni, .slice nA nC nD, .slice nE nG nH, .string (⟨#[83]⟩ : ByteArray), .bool true, .int .i64 250, .slice nL nM nN, .slice nO nP nR, .slice nS nT nU] 60)
   have hnew := wY wr (.cells #[.string (⟨#[82]⟩ : ByteArray), .bool false, .int .i64 250, .slice mJ mV mK, .slice mY mW mg, .slice mh mo mD, .string (⟨#[73]⟩ : ByteArray), .bool false, .int .i64 250, .slice mE mF mG, .slice mH mI mM, .slice mO mP mR, .string (⟨#[66]⟩ : ByteArray), .bool false, .int .i64 250, .slice mU nk ny, .slice nZ nQ nX, .slice nJ nV nK, .string (⟨#[77]⟩ : ByteArray), .bool false, .int .i64 600, .slice nW ng ni, .slice nA nC nD, .slice nE nG nH, .string (⟨#[83]⟩ : ByteArray), .bool true, .int .i64 250, .slice nL nM nN, .slice nO nP nR, .slice nS nT nU] 60 (0, 0))
   have hbw := BCA.out.alloc BCA.out.size (.cells #[.string (⟨#[82]⟩ : ByteArray), .bool false, .int .i64 250, .slice mJ mV mK, .slice mY mW mg, .slice mh mo mD, .string (⟨#[73]⟩ : ByteArray), .bool false, .int .i64 250, .slice mE mF mG, .slice mH mI mM, .slice mO mP mR, .string (⟨#[66]⟩ : ByteArray), .bool false, .int .i64 250, .slice mU nk ny, .slice nZ nQ nX, .slice nJ nV nK, .string (⟨#[77]⟩ : ByteArray), .bool false, .int .i64 600, .slice nW ng ni, .slice nA nC nD, .slice nE nG nH, .string (⟨#[83]⟩ : ByteArray), .bool true, .int .i64 250, .slice nL nM nN, .slice nO nP nR, .slice nS nT nU] 60)
   have hS : Kd.S Zq 60 (wr.alloc (.cells #[.string (⟨#[82]⟩ : ByteArray), .bool false, .int .i64 250, .slice mJ mV mK, .slice mY mW mg, .slice mh mo mD, .string (⟨#[73]⟩ : ByteArray), .bool false, .int .i64 250, .slice mE mF mG, .slice mH mI mM, .slice mO mP mR, .string (⟨#[66]⟩ : ByteArray), .bool false, .int .i64 250, .slice mU nk ny, .slice nZ nQ nX, .slice nJ nV nK, .string (⟨#[77]⟩ : ByteArray), .bool false, .int .i64 600, .slice nW ng ni, .slice nA nC nD, .slice nE nG nH, .string (⟨#[83]⟩ : ByteArray), .bool true, .int .i64 250, .slice nL nM nN, .slice nO nP nR, .slice nS nT nU] 60)) Un.heap.size (fun _ => True) (.slice (some ⟨wr.heap.size, 0, none⟩) 5 5) Zo := by
    generalize wr.alloc (.cells #[.string (⟨#[82]⟩ : ByteArray), .bool false, .int .i64 250, .slice mJ mV mK, .slice mY mW mg, .slice mh mo mD, .string (⟨#[73]⟩ : ByteArray), .bool false, .int .i64 250, .slice mE mF mG, .slice mH mI mM, .slice mO mP mR, .string (⟨#[66]⟩ : ByteArray), .bool false, .int .i64 250, .slice mU nk ny, .slice nZ nQ nX, .slice nJ nV nK, .string (⟨#[77]⟩ : ByteArray), .bool false, .int .i64 600, .slice nW ng ni, .slice nA nC nD, .slice nE nG nH, .string (⟨#[83]⟩ : ByteArray), .bool true, .int .i64 250, .slice nL nM nN, .slice nO nP nR, .slice nS nT nU] 60) = w' at hbn hnew ⊢
    have s0 := S0.out
    have s1 := S1.out
    have s2 := S2.out
    have s3 := S3.out
    have s4 := S4.out
    refine ⟨fun k => if k < bM.heap.size then 0 else if k < KE.heap.size then 1 else if k < bO.heap.size then 2 else if k < Uo.heap.size then 3 else 4, fun _ _ => trivial, [.string (⟨#[82]⟩ : ByteArray), .bool false, .int .i64 250, .slice mJ mV mK, .slice mY mW mg, .slice mh mo mD, .string (⟨#[73]⟩ : ByteArray), .bool false, .int .i64 250, .slice mE mF mG, .slice mH mI mM, .slice mO mP mR, .string (⟨#[66]⟩ : ByteArray), .bool false, .int .i64 250, .slice mU nk ny, .slice nZ nQ nX, .slice nJ nV nK, .string (⟨#[77]⟩ : ByteArray), .bool false, .int .i64 600, .slice nW ng ni, .slice nA nC nD, .slice nE nG nH, .string (⟨#[83]⟩ : ByteArray), .bool true, .int .i64 250, .slice nL nM nN, .slice nO nP nR, .slice nS nT nU], ⟨rfl, .inr ⟨wr.heap.size, 5, _, rfl, BCA.out.size, hnew, by decide, by decide, rfl, rfl⟩⟩, rfl, fun j p hj => ?_⟩
    have hne : ∀ q, q < wr.heap.size → some q ≠ (Value.slice (some ⟨wr.heap.size, 0, none⟩) 5 5).ownBlock := by
     intro q hq e
     have : wr.heap.size = q := by simpa [Value.ownBlock] using e.symm
     omega
    rcases j with _ | _ | _ | _ | _ | j
    ·obtain rfl := Option.some.inj hj
     refine KA1.out w' Un.heap.size _ hbn (by omega) (fun q h1 h2 => ⟨⟨trivial, hne q (by omega)⟩, ?_⟩)
     show (if q < bM.heap.size then 0 else if q < KE.heap.size then 1 else if q < bO.heap.size then 2 else if q < Uo.heap.size then 3 else 4) = 0
     repeat' split
     all_goals omega
    ·obtain rfl := Option.some.inj hj
     refine KA2.out w' Un.heap.size _ hbn (by omega) (fun q h1 h2 => ⟨⟨trivial, hne q (by omega)⟩, ?_⟩)
     show (if q < bM.heap.size then 0 else if q < KE.heap.size then 1 else if q < bO.heap.size then 2 else if q < Uo.heap.size then 3 else 4) = 1
     repeat' split
     all_goals omega
    ·obtain rfl := Option.some.inj hj
     refine KA3.out w' Un.heap.size _ hbn (by omega) (fun q h1 h2 => ⟨⟨trivial, hne q (by omega)⟩, ?_⟩)
     show (if q < bM.heap.size then 0 else if q < KE.heap.size then 1 else if q < bO.heap.size then 2 else if q < Uo.heap.size then 3 else 4) = 2
     repeat' split
     all_goals omega
    ·obtain rfl := Option.some.inj hj
     refine KA4.out w' Un.heap.size _ hbn (by omega) (fun q h1 h2 => ⟨⟨trivial, hne q (by omega)⟩, ?_⟩)
     show (if q < bM.heap.size then 0 else if q < KE.heap.size then 1 else if q < bO.heap.size then 2 else if q < Uo.heap.size then 3 else 4) = 3
     repeat' split
     all_goals omega
    ·obtain rfl := Option.some.inj hj
     refine KA5.out w' Un.heap.size _ hbn (by omega) (fun q h1 h2 => ⟨⟨trivial, hne q (by omega)⟩, ?_⟩)
     show (if q < bM.heap.size then 0 else if q < KE.heap.size then 1 else if q < bO.heap.size then 2 else if q < Uo.heap.size then 3 else 4) = 4
     repeat' split
     all_goals omega
    ·simp [Zo] at hj
   clear hbn hnew
   go_ret
   exact ⟨_, rfl, hS, hbw⟩
def xI.f : Option (List kD) := some Zo
theorem xI.calls (r : List kD) (w : World) (hG : GW w) (h : xI.f = some r) :
  Calls Tryz.prog 19 #[] w fun e w' => ∃ UW : Value, e = .returned UW ∧ Kd.S Zq 60 w' w.heap.size (fun _ => True) UW r ∧ Below w.heap.size w w' := by
 obtain rfl := Option.some.inj h
 exact zx4 w hG
end Go.Proofs.YtggifbbiiickmaaGreatDoor
namespace Go.Proofs.YtggifbbiiickmaaGreatDoor.PX
open Go.RowKit Go.Proofs.zk.ze Go.Proofs.zk.yc Go.Proofs.zk.yt
attribute [local go_sem] wo wu Zk Zy jd je wB wC   -- for this text's walks alone
set_option linter.unusedVariables false
set_option linter.unusedSimpArgs false
def qK.f  : Option (Bool) := (xI.f).bind fun Zp => ((qL.f Zp 0 10 true false (([(⟨#[102]⟩ : ByteArray), (⟨#[105]⟩ : ByteArray)] : List ByteArray)) ([] : List (wD))).bind fun jJ => (if jJ.2.2 = 0 then (if (jJ.2.1.length : Int) = 0 then (if (jJ.1.length : Int) = 1 then (if 0 < (jJ.1.length : Int) then (some (((zw jJ.1 0).f4).toList == ([102, 105] : List UInt8))) else (none)) else (some false)) else (some false)) else (some false)))
set_option maxHeartbeats 8000000 in
set_option maxRecDepth 100000 in
theorem qK.calls  (r : Bool) (w : World) (hG : GW w) (h : qK.f  = some r) :
  Calls Tryz.prog 11 #[] w fun e w' => e = .returned (.bool r) ∧ Below w.heap.size w w' := by
 have zqi := Tryz.underlying26
 have HG := zx.mk hG
 clear hG
 have HB := zx.mk (Below.refl w.heap.size w)
 have H : ((xI.f).bind fun Zp => ((qL.f Zp 0 10 true false (([(⟨#[102]⟩ : ByteArray), (⟨#[105]⟩ : ByteArray)] : List ByteArray)) ([] : List (wD))).bind fun jJ => (if jJ.2.2 = 0 then (if (jJ.2.1.length : Int) = 0 then (if (jJ.1.length : Int) = 1 then (if 0 < (jJ.1.length : Int) then (some (((zw jJ.1 0).f4).toList == ([102, 105] : List UInt8))) else (none)) else (some false)) else (some false)) else (some false)))) = some r := h
 clear h
 replace H := Option.bind_eq_some_iff.mp H
 obtain ⟨Zp, A10, H⟩ := H
 replace H : ((qL.f Zp 0 10 true false (([(⟨#[102]⟩ : ByteArray), (⟨#[105]⟩ : ByteArray)] : List ByteArray)) ([] : List (wD))).bind fun jJ => (if jJ.2.2 = 0 then (if (jJ.2.1.length : Int) = 0 then (if (jJ.1.length : Int) = 1 then (if 0 < (jJ.1.length : Int) then (some (((zw jJ.1 0).f4).toList == ([102, 105] : List UInt8))) else (none)) else (some false)) else (some false)) else (some false))) = some r := H
 have A1 := zx.mk A10
 clear A10
 obtain ⟨y114, hy114⟩ : ∃ y_ : List ByteArray, y_ = (([(⟨#[102]⟩ : ByteArray), (⟨#[105]⟩ : ByteArray)] : List ByteArray)) := ⟨_, rfl⟩
 replace H : ((qL.f Zp 0 10 true false y114 ([] : List (wD))).bind fun jJ => (if jJ.2.2 = 0 then (if (jJ.2.1.length : Int) = 0 then (if (jJ.1.length : Int) = 1 then (if 0 < (jJ.1.length : Int) then (some (((zw jJ.1 0).f4).toList == ([102, 105] : List UInt8))) else (none)) else (some false)) else (some false)) else (some false))) = some r := by first | (rw [hy114]; with_reducible exact H) | (have Ua := (Option.bind_some _ _).symm.trans H; rw [hy114]; with_reducible exact Ua) | (have Ua := (Option.bind_some _ _).symm.trans H; with_reducible exact Ua) | with_reducible exact H | (rw [hy114]; exact H) | exact H
 have Q5 := zx.mk hy114
 clear hy114
 replace H := Option.bind_eq_some_iff.mp H
 obtain ⟨⟨t117, Qm, Q9⟩, A20, H⟩ := H
 replace H : (if Q9 = 0 then (if (Qm.length : Int) = 0 then (if (t117.length : Int) = 1 then (if 0 < (t117.length : Int) then (some (((zw t117 0).f4).toList == ([102, 105] : List UInt8))) else (none)) else (some false)) else (some false)) else (some false)) = some r := H
 have A2 := zx.mk A20
 clear A20
 by_cases c3 : Q9 = 0
 ·rw [if_pos c3] at H
  have Qq : (Q9 == 0) = true := beq_iff_eq.mpr c3
  have Pz : (Q9 != 0) = false := bne_eq_false_iff_eq.mpr c3
  clear c3
  by_cases c4 : (Qm.length : Int) = 0
  ·rw [if_pos c4] at H
   have VN : ((Qm.length : Int) == 0) = true := beq_iff_eq.mpr c4
   have zz3 : ((Qm.length : Int) != 0) = false := bne_eq_false_iff_eq.mpr c4
   clear c4
   by_cases c5 : (t117.length : Int) = 1
   ·rw [if_pos c5] at H
    have Ub : ((t117.length : Int) == 1) = true := beq_iff_eq.mpr c5
    have JG : ((t117.length : Int) != 1) = false := bne_eq_false_iff_eq.mpr c5
    clear c5
    by_cases c6 : 0 < (t117.length : Int)
    ·rw [if_pos c6] at H
     have zwQ : decide (0 < (t117.length : Int)) = true := decide_eq_true c6
     have zJ7 : decide (0 < t117.length) = true := decide_eq_true (by omega)
     clear c6
     obtain rfl := Option.some.inj H
     go_enter Tryz.func11, Tryz.ntmps11
     go_wp2_with (first | ((with_reducible refine yg (f := 19) rfl ?_); refine jf (some 5) Tryz.func19 #[] ?_; (with_reducible refine (xI.calls  Zp _ ?qw A1.out).mono ?_); (case qw => exact GW.under HG.out (zP HB.out)); rintro e w7 ⟨rZ, rfl, ho0, hb⟩; refine ⟨_, rfl, ?_⟩; have zf := zx.mk (Kd.wS ho0 (zC (zP HB.out))); have zl := zx.mk (zL (zP HB.out) hb); clear HB; have xW := zf; have HB := zl; clear zf zl; (try clear hb); (try clear hb2); (try clear hk); (try clear hi); (try clear ho0)) | ((with_reducible refine qb (N := 7) rfl ?_); (try (refine Zc (by rfl) ?_; dsimp only)); refine Kd.QE Kd.string _ 9 ?hg (N := 7) ?hd (xs := ([(⟨#[102]⟩ : ByteArray), (⟨#[105]⟩ : ByteArray)] : List ByteArray)) (inner := [.string (⟨#[102]⟩ : ByteArray), .string (⟨#[105]⟩ : ByteArray)]) (ok := fun _ => True) (Zb := fun _ => True) ?hr ?hp (fun _ hk => hk) trivial (Below.refl _ _) (Nat.le_refl _) (by simp) ?_; (case hd => rfl); (case hg => rfl); (case hr => first | (go_simp; done) | (go_simp; rfl)); (case hp => exact (yR.one (show Kd.M Kd.string _ _ _ (⟨#[102]⟩ : ByteArray) [.string (⟨#[102]⟩ : ByteArray)] from rfl) (yR.one (show Kd.M Kd.string _ _ _ (⟨#[105]⟩ : ByteArray) [.string (⟨#[105]⟩ : ByteArray)] from rfl) (yR.none _ _)))); intro zqt w8 ho9 hb KY Qw; clear KY Qw; (first | rw [← Q5.out] at ho9 | (simp only [Int.reduceToNat] at ho9; rw [← Q5.out] at ho9)); have zf := zx.mk (Kd.qg (by (with_reducible repeat (first | apply Kd.xu | apply Kd.xA | apply Kd.qj)); exact xW.out) hb); have zl := zx.mk (Kd.vE ho9 (zC (zP HB.out))); have zu := zx.mk (zL (zP HB.out) hb); clear xW; clear HB; have xW := zf; have vG := zl; have HB := zu; clear zf zl zu; clear hb ho9; obtain ⟨zw7, zw8, zw9⟩ := Kd.jY xW.out; subst zw9; obtain ⟨zZz, zZq, zZx⟩ := Kd.xw vG.out; subst zZx) | ((with_reducible refine yg (f := 13) rfl ?_); refine jf (some 8) Tryz.func13 #[.slice zw7 Zp.length zw8, .agg #[.int .i64 0, .int .i64 10, .bool true, .bool false], .slice zZz y114.length zZq, .slice none 0 0] ?_; (refine (qL.calls _ _ Zp 0 10 true false _ _ y114 _ _ ([] : List (wD)) t117 Qm Q9 _ ?qw ?qI ?xX ?xJ ?xV ?xK ?xY A2.out).mono ?_); (case qw => repeat (first | exact (Kd.zn xW.out).2.2 | (with_reducible refine Kd.zD ?_ _) | (with_reducible refine Kd.zF ?_ _) | (with_reducible refine Kd.zo ?_))); (case qI => exact (Kd.zn xW.out).2.1); (case xX => repeat (first | exact (Kd.uV vG.out).2.2 | (with_reducible refine Kd.zD ?_ _) | (with_reducible refine Kd.zF ?_ _) | (with_reducible refine Kd.zo ?_))); (case xJ => exact (Kd.uV vG.out).2.1); (case xV => exact Kd.VI _ _); (case xK => exact Nat.le_refl _); (case xY => exact GW.under HG.out (zP HB.out)); rintro e Uw ⟨zqu, zqA, rfl, ho0, ho1, hb⟩; refine ⟨_, rfl, ?_⟩; have zf := zx.mk (Kd.qg (by (with_reducible repeat (first | apply Kd.xu | apply Kd.xA | apply Kd.qj)); exact xW.out) hb); have zl := zx.mk (Kd.Xf (vI vG.out) (Kd.Vj ho1) hb); have zu := zx.mk (Kd.wS ho0 (zC (zP HB.out))); have zH := zx.mk (Kd.vE (Kd.Vv ho1 (Kd.WJ (vI vG.out))) (zC (zP HB.out))); have qV := zx.mk (zL (zP HB.out) hb); clear xW; clear vG; clear HB; have xW := zf; have vG := zl; have Q6 := zu; have U5 := zH; have HB := qV; clear zf zl zu zH qV; (try clear hb); (try clear hb2); (try clear hk); (try clear hi); (try clear ho0); (try clear ho1); obtain ⟨zJ8, zJ9, zZj⟩ := Kd.xw U5.out; subst zZj; obtain ⟨zVz, zVq, zZv⟩ := Kd.jY Q6.out; subst zZv; have iI : 0 ≤ (0 : Int) := (by omega); have iL : 0 < (t117.length : Int) := of_decide_eq_true (by first | (with_reducible assumption) | assumption); obtain ⟨zJD, zJm, zJn, zZk, Pq, Px, Pj, Pv, Pk, Py, U6, aA, aC⟩ := qo (Kd.zn Q6.out).2.2 0 iI iL; cases zZk; obtain ⟨zJE, zvf, zvg, zzy⟩ := Kd.xB Q6.out z53 0 iI (by first | exact iL | exact of_decide_eq_true (by first | (with_reducible assumption) | assumption) | (have e_ := (Kd.zn Q6.out).1; omega)); obtain ⟨zQ7, rfl, Pw⟩ := qJ zvg; have VJ := zzy 6 _ rfl; rw [zB _ _ 6 (by omega)] at VJ; replace VJ := Option.some.inj (VJ.symm.trans U6); rw [VJ] at Pw; have zQ8 := zx.mk (show Kd.R (Kd.int .i64) 3 _ _ _ _ ((zw t117 0).f6) from Pw); clear VJ Pw; clear zzy zvf; have zJF : (0 < t117.length) = True := eq_true (by omega); (try rw [show ((0 : Int)).toNat = 0 from rfl] at Pq); (try rw [show 0 * 7 = 0 from rfl] at Pq); (try rw [Addr.add_zero'] at Pq); (try rw [show ((0 : Int)).toNat = 0 from rfl] at Px); (try rw [show 0 * 7 = 0 from rfl] at Px); (try rw [Addr.add_zero'] at Px); (try rw [show ((0 : Int)).toNat = 0 from rfl] at Pj); (try rw [show 0 * 7 = 0 from rfl] at Pj); (try rw [Addr.add_zero'] at Pj); (try rw [show ((0 : Int)).toNat = 0 from rfl] at Pv); (try rw [show 0 * 7 = 0 from rfl] at Pv); (try rw [Addr.add_zero'] at Pv); (try rw [show ((0 : Int)).toNat = 0 from rfl] at Pk); (try rw [show 0 * 7 = 0 from rfl] at Pk); (try rw [Addr.add_zero'] at Pk); (try rw [show ((0 : Int)).toNat = 0 from rfl] at Py); (try rw [show 0 * 7 = 0 from rfl] at Py); (try rw [Addr.add_zero'] at Py); (try rw [show ((0 : Int)).toNat = 0 from rfl] at U6); (try rw [show 0 * 7 = 0 from rfl] at U6); (try rw [Addr.add_zero'] at U6); have zQ9 := zx.mk aC; have zXz := zx.mk aA; clear aC aA; replace iI := eq_true iI; replace iL := eq_true iL))
     go_ret
     exact ⟨by first | rfl | (simp [zR, zS] <;> rfl) | (simp [*, zR, zS] <;> rfl), by repeat (first | (with_reducible first | exact HB.out | apply yA | apply yZ | apply yx) | exact HB.out)⟩
    ·rw [if_neg c6] at H
     exact absurd H (by simp)
   ·rw [if_neg c5] at H
    have Ub : ((t117.length : Int) == 1) = false := beq_eq_false_iff_ne.mpr c5
    have JG : ((t117.length : Int) != 1) = true := bne_iff_ne.mpr c5
    obtain rfl := Option.some.inj H
    go_enter Tryz.func11, Tryz.ntmps11
    go_wp2_with (first | ((with_reducible refine yg (f := 19) rfl ?_); refine jf (some 5) Tryz.func19 #[] ?_; (with_reducible refine (xI.calls  Zp _ ?qw A1.out).mono ?_); (case qw => exact GW.under HG.out (zP HB.out)); rintro e Zt ⟨rZ, rfl, ho0, hb⟩; refine ⟨_, rfl, ?_⟩; have zf := zx.mk (Kd.wS ho0 (zC (zP HB.out))); have zl := zx.mk (zL (zP HB.out) hb); clear HB; have xW := zf; have HB := zl; clear zf zl; (try clear hb); (try clear hb2); (try clear hk); (try clear hi); (try clear ho0)) | ((with_reducible refine qb (N := 7) rfl ?_); (try (refine Zc (by rfl) ?_; dsimp only)); refine Kd.QE Kd.string _ 9 ?hg (N := 7) ?hd (xs := ([(⟨#[102]⟩ : ByteArray), (⟨#[105]⟩ : ByteArray)] : List ByteArray)) (inner := [.string (⟨#[102]⟩ : ByteArray), .string (⟨#[105]⟩ : ByteArray)]) (ok := fun _ => True) (Zb := fun _ => True) ?hr ?hp (fun _ hk => hk) trivial (Below.refl _ _) (Nat.le_refl _) (by simp) ?_; (case hd => rfl); (case hg => rfl); (case hr => first | (go_simp; done) | (go_simp; rfl)); (case hp => exact (yR.one (show Kd.M Kd.string _ _ _ (⟨#[102]⟩ : ByteArray) [.string (⟨#[102]⟩ : ByteArray)] from rfl) (yR.one (show Kd.M Kd.string _ _ _ (⟨#[105]⟩ : ByteArray) [.string (⟨#[105]⟩ : ByteArray)] from rfl) (yR.none _ _)))); intro zqt w16 rQ hb KY Qw; clear KY Qw; (first | rw [← Q5.out] at rQ | (simp only [Int.reduceToNat] at rQ; rw [← Q5.out] at rQ)); have zf := zx.mk (Kd.qg (by (with_reducible repeat (first | apply Kd.xu | apply Kd.xA | apply Kd.qj)); exact xW.out) hb); have zl := zx.mk (Kd.vE rQ (zC (zP HB.out))); have zu := zx.mk (zL (zP HB.out) hb); clear xW; clear HB; have xW := zf; have vG := zl; have HB := zu; clear zf zl zu; clear hb rQ; obtain ⟨zZy, zZw, zZZ⟩ := Kd.jY xW.out; subst zZZ; obtain ⟨zZQ, zZX, zZJ⟩ := Kd.xw vG.out; subst zZJ) | ((with_reducible refine yg (f := 13) rfl ?_); refine jf (some 8) Tryz.func13 #[.slice zZy Zp.length zZw, .agg #[.int .i64 0, .int .i64 10, .bool true, .bool false], .slice zZQ y114.length zZX, .slice none 0 0] ?_; (refine (qL.calls _ _ Zp 0 10 true false _ _ y114 _ _ ([] : List (wD)) t117 Qm Q9 _ ?qw ?qI ?xX ?xJ ?xV ?xK ?xY A2.out).mono ?_); (case qw => repeat (first | exact (Kd.zn xW.out).2.2 | (with_reducible refine Kd.zD ?_ _) | (with_reducible refine Kd.zF ?_ _) | (with_reducible refine Kd.zo ?_))); (case qI => exact (Kd.zn xW.out).2.1); (case xX => repeat (first | exact (Kd.uV vG.out).2.2 | (with_reducible refine Kd.zD ?_ _) | (with_reducible refine Kd.zF ?_ _) | (with_reducible refine Kd.zo ?_))); (case xJ => exact (Kd.uV vG.out).2.1); (case xV => exact Kd.VI _ _); (case xK => exact Nat.le_refl _); (case xY => exact GW.under HG.out (zP HB.out)); rintro e bR ⟨zqu, zqA, rfl, ho0, ho1, hb⟩; refine ⟨_, rfl, ?_⟩; have zf := zx.mk (Kd.qg (by (with_reducible repeat (first | apply Kd.xu | apply Kd.xA | apply Kd.qj)); exact xW.out) hb); have zl := zx.mk (Kd.Xf (vI vG.out) (Kd.Vj ho1) hb); have zu := zx.mk (Kd.wS ho0 (zC (zP HB.out))); have zH := zx.mk (Kd.vE (Kd.Vv ho1 (Kd.WJ (vI vG.out))) (zC (zP HB.out))); have qV := zx.mk (zL (zP HB.out) hb); clear xW; clear vG; clear HB; have xW := zf; have vG := zl; have Q6 := zu; have U5 := zH; have HB := qV; clear zf zl zu zH qV; (try clear hb); (try clear hb2); (try clear hk); (try clear hi); (try clear ho0); (try clear ho1); obtain ⟨zVx, zVj, zZV⟩ := Kd.xw U5.out; subst zZV; obtain ⟨zVv, zVk, zZK⟩ := Kd.jY Q6.out; subst zZK))
    go_ret
    exact ⟨by first | rfl | (simp [zR, zS] <;> rfl) | (simp [*, zR, zS] <;> rfl), by repeat (first | (with_reducible first | exact HB.out | apply yA | apply yZ | apply yx) | exact HB.out)⟩
  ·rw [if_neg c4] at H
   have VN : ((Qm.length : Int) == 0) = false := beq_eq_false_iff_ne.mpr c4
   have zz3 : ((Qm.length : Int) != 0) = true := bne_iff_ne.mpr c4
   have zVy : ¬ (Qm = []) := fun h_ => c4 (by rw [h_]; rfl)
   obtain rfl := Option.some.inj H
   go_enter Tryz.func11, Tryz.ntmps11
   go_wp2_with (first | ((with_reducible refine yg (f := 19) rfl ?_); refine jf (some 5) Tryz.func19 #[] ?_; (with_reducible refine (xI.calls  Zp _ ?qw A1.out).mono ?_); (case qw => exact GW.under HG.out (zP HB.out)); rintro e w23 ⟨rZ, rfl, ho0, hb⟩; refine ⟨_, rfl, ?_⟩; have zf := zx.mk (Kd.wS ho0 (zC (zP HB.out))); have zl := zx.mk (zL (zP HB.out) hb); clear HB; have xW := zf; have HB := zl; clear zf zl; (try clear hb); (try clear hb2); (try clear hk); (try clear hi); (try clear ho0)) | ((with_reducible refine qb (N := 7) rfl ?_); (try (refine Zc (by rfl) ?_; dsimp only)); refine Kd.QE Kd.string _ 9 ?hg (N := 7) ?hd (xs := ([(⟨#[102]⟩ : ByteArray), (⟨#[105]⟩ : ByteArray)] : List ByteArray)) (inner := [.string (⟨#[102]⟩ : ByteArray), .string (⟨#[105]⟩ : ByteArray)]) (ok := fun _ => True) (Zb := fun _ => True) ?hr ?hp (fun _ hk => hk) trivial (Below.refl _ _) (Nat.le_refl _) (by simp) ?_; (case hd => rfl); (case hg => rfl); (case hr => first | (go_simp; done) | (go_simp; rfl)); (case hp => exact (yR.one (show Kd.M Kd.string _ _ _ (⟨#[102]⟩ : ByteArray) [.string (⟨#[102]⟩ : ByteArray)] from rfl) (yR.one (show Kd.M Kd.string _ _ _ (⟨#[105]⟩ : ByteArray) [.string (⟨#[105]⟩ : ByteArray)] from rfl) (yR.none _ _)))); intro zqt w24 rX hb KY Qw; clear KY Qw; (first | rw [← Q5.out] at rX | (simp only [Int.reduceToNat] at rX; rw [← Q5.out] at rX)); have zf := zx.mk (Kd.qg (by (with_reducible repeat (first | apply Kd.xu | apply Kd.xA | apply Kd.qj)); exact xW.out) hb); have zl := zx.mk (Kd.vE rX (zC (zP HB.out))); have zu := zx.mk (zL (zP HB.out) hb); clear xW; clear HB; have xW := zf; have vG := zl; have HB := zu; clear zf zl zu; clear hb rX; obtain ⟨zZY, zZW, zZa⟩ := Kd.jY xW.out; subst zZa; obtain ⟨zZb, zZc, zZd⟩ := Kd.xw vG.out; subst zZd) | ((with_reducible refine yg (f := 13) rfl ?_); refine jf (some 8) Tryz.func13 #[.slice zZY Zp.length zZW, .agg #[.int .i64 0, .int .i64 10, .bool true, .bool false], .slice zZb y114.length zZc, .slice none 0 0] ?_; (refine (qL.calls _ _ Zp 0 10 true false _ _ y114 _ _ ([] : List (wD)) t117 Qm Q9 _ ?qw ?qI ?xX ?xJ ?xV ?xK ?xY A2.out).mono ?_); (case qw => repeat (first | exact (Kd.zn xW.out).2.2 | (with_reducible refine Kd.zD ?_ _) | (with_reducible refine Kd.zF ?_ _) | (with_reducible refine Kd.zo ?_))); (case qI => exact (Kd.zn xW.out).2.1); (case xX => repeat (first | exact (Kd.uV vG.out).2.2 | (with_reducible refine Kd.zD ?_ _) | (with_reducible refine Kd.zF ?_ _) | (with_reducible refine Kd.zo ?_))); (case xJ => exact (Kd.uV vG.out).2.1); (case xV => exact Kd.VI _ _); (case xK => exact Nat.le_refl _); (case xY => exact GW.under HG.out (zP HB.out)); rintro e w28 ⟨zqu, zqA, rfl, ho0, ho1, hb⟩; refine ⟨_, rfl, ?_⟩; have zf := zx.mk (Kd.qg (by (with_reducible repeat (first | apply Kd.xu | apply Kd.xA | apply Kd.qj)); exact xW.out) hb); have zl := zx.mk (Kd.Xf (vI vG.out) (Kd.Vj ho1) hb); have zu := zx.mk (Kd.wS ho0 (zC (zP HB.out))); have zH := zx.mk (Kd.vE (Kd.Vv ho1 (Kd.WJ (vI vG.out))) (zC (zP HB.out))); have qV := zx.mk (zL (zP HB.out) hb); clear xW; clear vG; clear HB; have xW := zf; have vG := zl; have Q6 := zu; have U5 := zH; have HB := qV; clear zf zl zu zH qV; (try clear hb); (try clear hb2); (try clear hk); (try clear hi); (try clear ho0); (try clear ho1); obtain ⟨zVw, zVZ, zZe⟩ := Kd.xw U5.out; subst zZe))
   go_ret
   exact ⟨by first | rfl | (simp [zR, zS] <;> rfl) | (simp [*, zR, zS] <;> rfl), by repeat (first | (with_reducible first | exact HB.out | apply yA | apply yZ | apply yx) | exact HB.out)⟩
 ·rw [if_neg c3] at H
  have Qq : (Q9 == 0) = false := beq_eq_false_iff_ne.mpr c3
  have Pz : (Q9 != 0) = true := bne_iff_ne.mpr c3
  obtain rfl := Option.some.inj H
  go_enter Tryz.func11, Tryz.ntmps11
  go_wp2_with (first | ((with_reducible refine yg (f := 19) rfl ?_); refine jf (some 5) Tryz.func19 #[] ?_; (with_reducible refine (xI.calls  Zp _ ?qw A1.out).mono ?_); (case qw => exact GW.under HG.out (zP HB.out)); rintro e w30 ⟨rZ, rfl, ho0, hb⟩; refine ⟨_, rfl, ?_⟩; have zf := zx.mk (Kd.wS ho0 (zC (zP HB.out))); have zl := zx.mk (zL (zP HB.out) hb); clear HB; have xW := zf; have HB := zl; clear zf zl; (try clear hb); (try clear hb2); (try clear hk); (try clear hi); (try clear ho0)) | ((with_reducible refine qb (N := 7) rfl ?_); (try (refine Zc (by rfl) ?_; dsimp only)); refine Kd.QE Kd.string _ 9 ?hg (N := 7) ?hd (xs := ([(⟨#[102]⟩ : ByteArray), (⟨#[105]⟩ : ByteArray)] : List ByteArray)) (inner := [.string (⟨#[102]⟩ : ByteArray), .string (⟨#[105]⟩ : ByteArray)]) (ok := fun _ => True) (Zb := fun _ => True) ?hr ?hp (fun _ hk => hk) trivial (Below.refl _ _) (Nat.le_refl _) (by simp) ?_; (case hd => rfl); (case hg => rfl); (case hr => first | (go_simp; done) | (go_simp; rfl)); (case hp => exact (yR.one (show Kd.M Kd.string _ _ _ (⟨#[102]⟩ : ByteArray) [.string (⟨#[102]⟩ : ByteArray)] from rfl) (yR.one (show Kd.M Kd.string _ _ _ (⟨#[105]⟩ : ByteArray) [.string (⟨#[105]⟩ : ByteArray)] from rfl) (yR.none _ _)))); intro zqt w31 rJ hb KY Qw; clear KY Qw; (first | rw [← Q5.out] at rJ | (simp only [Int.reduceToNat] at rJ; rw [← Q5.out] at rJ)); have zf := zx.mk (Kd.qg (by (with_reducible repeat (first | apply Kd.xu | apply Kd.xA | apply Kd.qj)); exact xW.out) hb); have zl := zx.mk (Kd.vE rJ (zC (zP HB.out))); have zu := zx.mk (zL (zP HB.out) hb); clear xW; clear HB; have xW := zf; have vG := zl; have HB := zu; clear zf zl zu; clear hb rJ; obtain ⟨zZf, zZg, zZh⟩ := Kd.jY xW.out; subst zZh; obtain ⟨zZi, zZl, zZm⟩ := Kd.xw vG.out; subst zZm) | ((with_reducible refine yg (f := 13) rfl ?_); refine jf (some 8) Tryz.func13 #[.slice zZf Zp.length zZg, .agg #[.int .i64 0, .int .i64 10, .bool true, .bool false], .slice zZi y114.length zZl, .slice none 0 0] ?_; (refine (qL.calls _ _ Zp 0 10 true false _ _ y114 _ _ ([] : List (wD)) t117 Qm Q9 _ ?qw ?qI ?xX ?xJ ?xV ?xK ?xY A2.out).mono ?_); (case qw => repeat (first | exact (Kd.zn xW.out).2.2 | (with_reducible refine Kd.zD ?_ _) | (with_reducible refine Kd.zF ?_ _) | (with_reducible refine Kd.zo ?_))); (case qI => exact (Kd.zn xW.out).2.1); (case xX => repeat (first | exact (Kd.uV vG.out).2.2 | (with_reducible refine Kd.zD ?_ _) | (with_reducible refine Kd.zF ?_ _) | (with_reducible refine Kd.zo ?_))); (case xJ => exact (Kd.uV vG.out).2.1); (case xV => exact Kd.VI _ _); (case xK => exact Nat.le_refl _); (case xY => exact GW.under HG.out (zP HB.out)); rintro e w35 ⟨zqu, zqA, rfl, ho0, ho1, hb⟩; refine ⟨_, rfl, ?_⟩; have zf := zx.mk (Kd.qg (by (with_reducible repeat (first | apply Kd.xu | apply Kd.xA | apply Kd.qj)); exact xW.out) hb); have zl := zx.mk (Kd.Xf (vI vG.out) (Kd.Vj ho1) hb); have zu := zx.mk (Kd.wS ho0 (zC (zP HB.out))); have zH := zx.mk (Kd.vE (Kd.Vv ho1 (Kd.WJ (vI vG.out))) (zC (zP HB.out))); have qV := zx.mk (zL (zP HB.out) hb); clear xW; clear vG; clear HB; have xW := zf; have vG := zl; have Q6 := zu; have U5 := zH; have HB := qV; clear zf zl zu zH qV; (try clear hb); (try clear hb2); (try clear hk); (try clear hi); (try clear ho0); (try clear ho1)))
  go_ret
  exact ⟨by first | rfl | (simp [zR, zS] <;> rfl) | (simp [*, zR, zS] <;> rfl), by repeat (first | (with_reducible first | exact HB.out | apply yA | apply yZ | apply yx) | exact HB.out)⟩
end Go.Proofs.YtggifbbiiickmaaGreatDoor.PX
namespace Go.Proofs.YtggifbbiiickmaaGreatDoor.PX
open Go.RowKit Go.Proofs.zk.ze Go.Proofs.zk.yc Go.Proofs.zk.yt
attribute [local go_sem] wo wu Zk Zy jd je wB wC   -- for this text's walks alone
set_option linter.unusedVariables false
set_option linter.unusedSimpArgs false
def yu.l0 : Nat → ByteArray → List ByteArray → Int → Option (List ByteArray)
 | 0, _, _, _ => none
 | k + 1, x0, x3, x4 => if x4 < (x0.size : Int) then (if 0 ≤ x4 then (if x4 ≤ (wrap64 (x4 + 1)) then (if (wrap64 (x4 + 1)) ≤ (x0.size : Int) then (if x3.length < 8796093022208 then (yu.l0 k x0 (x3 ++ [x0.extract (x4 : Int).toNat ((wrap64 (x4 + 1)) : Int).toNat]) (wrap64 (x4 + 1))) else (none)) else (none)) else (none)) else (none)) else (some x3)
def yu.f (k : Nat) (a0 : ByteArray) : Option (List ByteArray) := yu.l0 k a0 ([] : List ByteArray) 0
set_option maxHeartbeats 8000000 in
set_option maxRecDepth 100000 in
theorem yu.calls (k : Nat) (a0 : ByteArray) (r : List ByteArray) (w : World) (h : yu.f k a0 = some r) :
  Calls Tryz.prog 20 #[.string a0] w fun e w' => ∃ UW : Value, e = .returned (UW) ∧ Kd.R Kd.string 9 w' w.heap.size (fun _ => True) UW r ∧ Below w.heap.size w w' := by
 have HB := zx.mk (Below.refl w.heap.size w)
 have H : (yu.l0 k a0 ([] : List ByteArray) 0) = some r := h
 clear h
 have H' := zx.mk H
 clear H
 go_enter Tryz.func20, Tryz.ntmps20
 go_wp2
 go_loopg [3, 4] k (fun kq v3 v4 w' => ∃ (Yj : List ByteArray) (wR : Int), v4 = .int .i64 wR ∧ zx (yu.l0 kq a0 Yj wR = some r) ∧ zx (kq ≤ k) ∧ zx (Kd.R Kd.string 9 w' w.heap.size (fun _ => True) v3 Yj) ∧ zx (Below w.heap.size w w'))
 case atStart => exact ⟨(([] : List ByteArray)), (0), (by first | rfl | (simp; done) | (simp [*]; done)), H', ⟨Nat.le_refl _⟩, ⟨by first | exact Kd.kG _ _ _ _ _ | exact Kd.zv9 _ _ _ _ _ | exact Kd.zkz _ _ _ _ _ | exact Kd.zv7 _ _ _ _ _ | exact Kd.zqP _ _ _ _ _⟩, ⟨zP HB.out⟩⟩
 case round =>
  clear H'
  obtain ⟨Yj, wR, rfl, HA, jg, zqB, HB⟩ := hrel
  cases gk with
  | zero => exact absurd HA.out (by simp [yu.l0])
  | succ k1 =>
   have H := HA.out
   clear HA
   simp only [yu.l0] at H
   by_cases c2 : wR < (a0.size : Int)
   ·rw [if_pos c2] at H
    have dN : decide (wR < (a0.size : Int)) = true := decide_eq_true c2
    clear c2
    by_cases c3 : 0 ≤ wR
    ·rw [if_pos c3] at H
     have Qq := eq_true c3
     have Pz : decide (0 ≤ wR) = true := decide_eq_true c3
     clear c3
     by_cases c4 : wR ≤ (wrap64 (wR + 1))
     ·rw [if_pos c4] at H
      have VN := eq_true c4
      have zz3 : decide (wR ≤ (wrap64 (wR + 1))) = true := decide_eq_true c4
      by_cases c5 : (wrap64 (wR + 1)) ≤ (a0.size : Int)
      ·rw [if_pos c5] at H
       have Ub := eq_true c5
       have JG : decide ((wrap64 (wR + 1)) ≤ (a0.size : Int)) = true := decide_eq_true c5
       by_cases c6 : Yj.length < 8796093022208
       ·rw [if_pos c6] at H
        have zZn := zx.mk c6
        clear c6
        obtain ⟨zvh, KG⟩ : ∃ y_ : List ByteArray, y_ = (Yj ++ [a0.extract (wR : Int).toNat ((wrap64 (wR + 1)) : Int).toNat]) := ⟨_, rfl⟩
        replace H : (yu.l0 k1 a0 zvh (wrap64 (wR + 1))) = some r := by first | (rw [KG]; with_reducible exact H) | (have Ua := (Option.bind_some _ _).symm.trans H; rw [KG]; with_reducible exact Ua) | (have Ua := (Option.bind_some _ _).symm.trans H; with_reducible exact Ua) | with_reducible exact H | (rw [KG]; exact H) | exact H
        have zyc := zx.mk KG
        clear KG
        have H' := zx.mk H
        clear H
        go_wp2_with (first | ((with_reducible refine Qd (b := .append) (xs := #[.tmp 11, .tmp 17]) rfl ?_); at_builtin; refine Kd.JD Kd.string (w0 := w) w.heap.size rfl (.tmp 11) (.tmp 17) 27 9 (.string ⟨#[]⟩) 16 rfl Tryz.underlying27 zqR rfl (by decide) (by omega) u3 Yj (a0.extract (wR : Int).toNat ((wrap64 (wR + 1)) : Int).toNat) [.string (a0.extract (wR : Int).toNat ((wrap64 (wR + 1)) : Int).toNat)] (fun _ => True) (fun _ => False) rfl rfl ?aP (fun _ hk => hk.elim) ?aF ?aO ?aB ?aS ?aL ?_; (case aP => exact rfl); (case aB => exact (zP HB.out)); (case aF => exact (fun _ _ => trivial)); (case aO => exact (vI zqB.out)); (case aS => exact (zC (zP HB.out))); (case aL => have := zZn.out; omega); intro zVQ w7 ho hb hg hat; rw [← zyc.out] at ho; have zf := zx.mk (hb); have zl := zx.mk (ho); clear HB; clear zqB; have HB := zf; have zyd := zl; clear zf zl; clear ho hb hg hat))
        go_roundg k1
        case measure => have := jg.out; omega
        case rel => exact ⟨(zvh), (wrap64 (wR + 1)), (by first | rfl | (simp; done) | (simp [*]; done)), H', ⟨by have := jg.out; omega⟩, ⟨vI zyd.out⟩, ⟨zP HB.out⟩⟩
       ·rw [if_neg c6] at H
        exact absurd H (by simp)
      ·rw [if_neg c5] at H
       exact absurd H (by simp)
     ·rw [if_neg c4] at H
      exact absurd H (by simp)
    ·rw [if_neg c3] at H
     exact absurd H (by simp)
   ·rw [if_neg c2] at H
    have dN : decide (wR < (a0.size : Int)) = false := decide_eq_false c2
    clear c2
    obtain rfl := Option.some.inj H
    go_wp2
    go_ret
    exact ⟨_, by first | rfl | (simp [zR, zS] <;> rfl) | (simp [*, zR, zS] <;> rfl), by (with_reducible repeat (first | apply Kd.WQ | apply Kd.WX | apply Kd.qm)); exact zqB.out, by repeat (first | (with_reducible first | exact HB.out | apply yA | apply yZ | apply yx) | exact HB.out)⟩
end Go.Proofs.YtggifbbiiickmaaGreatDoor.PX
namespace Go.Proofs.YtggifbbiiickmaaGreatDoor
open Go.RowKit Go.Proofs.zk.ze Go.Proofs.zk.yc Go.Proofs.zk.yt Go.Proofs.YtggifbbiiickmaaGreatDoor.PX
set_option linter.unusedSimpArgs false
set_option linter.unusedVariables false
theorem zzw : Zo.all (fun x => qN x && okF x) = true := by decide +kernel
theorem PZ : Zo.length = 5 := rfl
theorem zzZ : ∀ x ∈ Zo, qN x = true := fun x hx => by
 have h := List.all_eq_true.1 zzw x hx
 simp only [Bool.and_eq_true] at h
 exact h.1
theorem zx5 : Zo.all okF = true := List.all_eq_true.2 fun x hx => by
 have h := List.all_eq_true.1 zzw x hx
 simp only [Bool.and_eq_true] at h
 exact h.2
theorem rV : qK.f = some true := by decide +kernel
def wI (s : ByteArray) : List ByteArray := (List.range s.size).map fun i => s.extract i (i + 1)
theorem V8 (s : ByteArray) : (wI s).length = s.size := by simp [wI]
theorem zx6 (s : ByteArray) (hs : s.size ≤ 1000) : ∀ d i, i + d = s.size → Ev (fun k => yu.l0 k s ((wI s).take i) (i : Int)) (wI s) := by
 intro d
 induction d with
 | zero =>
  intro i h
  refine Ev.step (fun k => by rw [yu.l0]) (pq (by omega) (zzC ?_ (Ev.now _)))
  rw [List.take_of_length_le (by rw [V8]; omega)]
 | succ d ih =>
  intro i h
  have hw : wrap64 ((i : Int) + 1) = ((i + 1 : Nat) : Int) := (YA (by omega) (by omega)).trans (by omega)
  have q1 : (i : Int) < (s.size : Int) := by omega
  have q2 : (0 : Int) ≤ (i : Int) := by omega
  have q3 : (i : Int) ≤ ((i + 1 : Nat) : Int) := by omega
  have q4 : ((i + 1 : Nat) : Int) ≤ (s.size : Int) := by omega
  have q5 : ((wI s).take i).length < 8796093022208 := by rw [List.length_take, V8]; omega
  have hr := ih (i + 1) (by omega)
  have ht : (wI s).take (i + 1) = (wI s).take i ++ [s.extract (i : Int).toNat (((i + 1 : Nat) : Int)).toNat] := by
   have hi : i < s.size := by omega
   rw [List.take_add_one, Int.toNat_natCast, Int.toNat_natCast]
   congr 1
   simp [wI, hi]
  rw [ht] at hr
  refine Ev.step (fun k => by rw [yu.l0, hw]) (qB q1 (qB q2 (qB q3 (qB q4 (qB q5 hr)))))
theorem zqC (s : ByteArray) (hs : s.size ≤ 1000) : Ev (fun k => yu.f k s) (wI s) := by
 have h := zx6 s hs s.size 0 (by omega)
 rw [List.take_zero] at h
 exact Ev.congr (fun k => by rw [yu.f]; rfl) h
theorem zx7 (l : List yS) (f s : Int) (zI za : Bool) (chars : List ByteArray) (pairs : List kI) (h1 : l.all okF = true) (h2 : l.length ≤ 1000000000) (h3 : chars.length ≤ 1000000000) (h4 : pairs.length ≤ 1000000000) :
  qL.f l f s zI za chars pairs = some (Kl l f s zI za chars pairs) := by
 unfold qL.f
 rw [if_pos ⟨h1, h2, h3, h4⟩]
theorem aD (a n : Int) (h0 : 0 < n) (h1 : n ≤ 1000000) : ∃ i : Nat, (i : Int) < n ∧ wrap64 ((IntKind.u64.wrap a).tmod n) = (i : Int) := by
 have hu : 0 ≤ IntKind.u64.wrap a := by
  show 0 ≤ a % 18446744073709551616
  exact Int.emod_nonneg _ (by decide)
 generalize IntKind.u64.wrap a = u at hu
 rw [Int.tmod_eq_emod_of_nonneg hu]
 have e0 := Int.emod_nonneg u (by omega : n ≠ 0)
 have e1 := Int.emod_lt_of_pos u h0
 generalize u % n = r at e0 e1
 exact ⟨r.toNat, by omega, by rw [YA (by omega) (by omega)]; omega⟩
theorem rdB (l : List vS) (i : Nat) (b : vS) (h : l[i]? = some b) : zw l (i : Int) = b := by
 simp [zw, List.getD_eq_getElem?_getD, h]
def KH (l : List yS) (s : Int) (b : vS) (a : Int) (n : ByteArray) : Prop := 0 ≤ a ∧ a < (l.length : Int) ∧ Ym (qG l a) n = true ∧ b = VT (Ya (qG l a) n s).1 a s n
def GoodAt (l : List yS) (s : Int) (za : Bool) (out : List vS) (i : Nat) : Prop :=
 (∃ b a n, out[i]? = some b ∧ KH l s b a n) ∨
 (∃ QO b b' a n n', 0 < i ∧ out[i]? = some (Xl QO) ∧ out[i - 1]? = some b ∧ KH l s b a n ∧ out[i + 1]? = some b' ∧ KH l s b' a n' ∧ za = true ∧ (Zx (qG l a) n n' s).1 = QO ∧ QO ≠ 0)
def Xo (l : List yS) (s : Int) (za : Bool) (out : List vS) : Prop :=
 (∀ i, i < out.length → GoodAt l s za out i) ∧ (out = [] ∨ ∃ b a n, out.getLast? = some b ∧ KH l s b a n)
theorem VK {α : Type} {l m : List α} {i : Nat} {x : α} (h : l[i]? = some x) : (l ++ m)[i]? = some x := by
 rw [List.getElem?_append_left (List.getElem?_eq_some_iff.1 h).1]; exact h
theorem GoodAt.app {l : List yS} {s : Int} {za : Bool} {out : List vS} {i : Nat} (m : List vS) (h : GoodAt l s za out i) : GoodAt l s za (out ++ m) i := by
 rcases h with ⟨b, a, n, h1, h2⟩ | ⟨y, b, b', a, n, n', h0, h1, h2, h3, h4, h5, h6⟩
 ·exact Or.inl ⟨b, a, n, VK h1, h2⟩
 ·exact Or.inr ⟨y, b, b', a, n, n', h0, VK h1, VK h2, h3, VK h4, h5, h6⟩
theorem zzQ {l : List yS} {f : Int} {n : ByteArray} (h : 0 ≤ uY l f n) : Ym (qG l (uY l f n)) n = true := by
 unfold uY at h ⊢
 split
 ·rename_i h1; exact h1
 ·rename_i h1
  rw [if_neg h1] at h
  have key : ∀ (m : List yS) (i : Nat) (pre : List yS), pre.length = i → 0 ≤ Yb n m i → Ym (qG (pre ++ m) (Yb n m i)) n = true := by
   intro m
   induction m with
   | nil => intro i pre _ h; unfold Yb at h; omega
   | cons x r ih =>
    intro i pre hp h
    unfold Yb at h ⊢
    by_cases hx : (x.f1 && Ym x n) = true
    ·rw [if_pos hx]
     rw [Bool.and_eq_true] at hx
     have e : qG (pre ++ x :: r) (i : Int) = x := by
      unfold qG zK
      rw [Int.toNat_natCast, List.getD_eq_getElem?_getD, List.getElem?_append_right (by omega), hp, Nat.sub_self]
      rfl
     rw [e]; exact hx.2
    ·rw [if_neg hx] at h ⊢
     have := ih (i + 1) (pre ++ [x]) (by simp [hp]) h
     simpa using this
  exact key l 0 [] rfl h
theorem zzX (l : List yS) (f s : Int) (za : Bool) (st : List vS × List ByteArray) (n : ByteArray) (hf0 : 0 ≤ f) (hf1 : f < (l.length : Int)) (h : Xo l s za st.1) : Xo l s za (Yn l f s za st n).1 := by
 unfold Yn
 by_cases h0 : uY l f n < 0
 ·rw [if_pos h0]; exact h
 ·rw [if_neg h0]
  have hlt := gJ (l := l) n hf0 hf1
  have hh := zzQ (l := l) (f := f) (n := n) (by omega)
  generalize uY l f n = a at h0 hlt hh ⊢
  have hG : KH l s (VT (Ya (qG l a) n s).1 a s n) a n := ⟨by omega, by omega, hh, rfl⟩
  generalize VT (Ya (qG l a) n s).1 a s n = g at hG ⊢
  have hlast : ∀ (pre : List vS), (pre ++ [g]).getLast? = some g := fun pre => by simp
  obtain ⟨h1, h2⟩ := h
  have hk : Yc l s za st.1 a n = [] ∨ ∃ y b, Yc l s za st.1 a n = [Xl y] ∧ st.1.getLast? = some b ∧ b.f2 = a ∧ za = true ∧ (Zx (qG l a) b.f4 n s).1 = y ∧ y ≠ 0 := by
   unfold Yc
   cases hl : st.1.getLast? with
   | none => exact Or.inl rfl
   | some b =>
    dsimp only
    by_cases hc : (za && decide (b.f2 = a)) = true
    ·rw [if_pos hc]
     by_cases hz : (Zx (qG l a) b.f4 n s).1 = 0
     ·rw [if_pos hz]; exact Or.inl rfl
     ·rw [if_neg hz]
      simp only [Bool.and_eq_true, decide_eq_true_eq] at hc
      exact Or.inr ⟨_, b, rfl, rfl, hc.2, hc.1, rfl, hz⟩
    ·rw [if_neg hc]; exact Or.inl rfl
  rcases hk with hk | ⟨y, b, hk, hb, hba, hkt, hy, hy0⟩
  ·rw [hk, List.append_nil]
   refine ⟨fun i hi => ?_, Or.inr ⟨g, a, n, hlast _, hG⟩⟩
   by_cases e : i < st.1.length
   ·exact (h1 i e).app _
   ·have : i = st.1.length := by simp at hi; omega
    subst this
    exact Or.inl ⟨g, a, n, by simp, hG⟩
  ·rw [hk]
   rcases h2 with h2 | ⟨b0, a0, n0, hb0, hG0⟩
   ·rw [h2] at hb; cases hb
   rw [hb] at hb0
   obtain rfl := Option.some.inj hb0
   have ea : a0 = a := by rw [← hba, hG0.2.2.2]; rfl
   subst ea
   have en : b.f4 = n0 := by rw [hG0.2.2.2]; rfl
   rw [en] at hy
   have hpos : 0 < st.1.length := by
    rcases Nat.eq_zero_or_pos st.1.length with h | h
    ·rw [List.eq_nil_of_length_eq_zero h] at hb; cases hb
    ·exact h
   have hget : st.1[st.1.length - 1]? = some b := by rw [← List.getLast?_eq_getElem?]; exact hb
   refine ⟨fun i hi => ?_, Or.inr ⟨g, a0, n, hlast _, hG⟩⟩
   by_cases e : i < st.1.length
   ·rw [List.append_assoc]; exact (h1 i e).app _
   ·have hi2 : i = st.1.length ∨ i = st.1.length + 1 := by simp at hi; omega
    rcases hi2 with rfl | rfl
    ·refine Or.inr ⟨y, b, g, a0, n0, n, hpos, by simp, ?_, hG0, ?_, hG, hkt, hy, hy0⟩
     ·rw [List.append_assoc]; exact VK hget
     ·simp
    ·exact Or.inl ⟨g, a0, n, by simp, hG⟩
theorem zzJ (l : List yS) (f s : Int) (za : Bool) (ns : List ByteArray) (hf0 : 0 ≤ f) (hf1 : f < (l.length : Int)) : Xo l s za (Qx l f s za ns).1 := by
 have key : ∀ (ns : List ByteArray) (st : List vS × List ByteArray), Xo l s za st.1 → Xo l s za (ns.foldl (Yn l f s za) st).1 := by
  intro ns
  induction ns with
  | nil => intro st h; exact h
  | cons n r ih => intro st h; exact ih _ (zzX l f s za st n hf0 hf1 h)
 exact key ns ([], []) ⟨fun i hi => absurd hi (Nat.not_lt_zero _), Or.inl rfl⟩
theorem zqD (l : List yS) (f s : Int) (za : Bool) (ns : List ByteArray) : (Qx l f s za ns).1.length ≤ 2 * ns.length ∧ (Qx l f s za ns).2.length ≤ ns.length := by
 have key : ∀ (ns : List ByteArray) (st : List vS × List ByteArray), (ns.foldl (Yn l f s za) st).1.length ≤ st.1.length + 2 * ns.length ∧ (ns.foldl (Yn l f s za) st).2.length ≤ st.2.length + ns.length := by
  intro ns
  induction ns with
  | nil => intro st; exact ⟨Nat.le_refl _, Nat.le_refl _⟩
  | cons n r ih =>
   intro st
   have h1 := ih (Yn l f s za st n)
   have h2 := gF l f s za st n
   simp only [List.foldl_cons, List.length_cons]
   omega
 have := key ns ([], [])
 simpa [Qx] using this
theorem sN (J : ByteArray → ByteArray → ByteArray × Bool) : ∀ (m : Nat) (l : List ByteArray), l.length ≤ m → (Z4 J l).length ≤ l.length := by
 intro m
 induction m with
 | zero =>
  intro l h
  obtain rfl : l = [] := List.eq_nil_of_length_eq_zero (by omega)
  rw [Z4]; exact Nat.le_refl _
 | succ m ih =>
  intro l h
  cases l with
  | nil => rw [Z4]; exact Nat.le_refl _
  | cons c r =>
   rw [Z4]
   have h1 := WL J r c
   have h2 := ih (Yo J c r).2 (by simp at h; omega)
   simp only [List.length_cons]
   omega
theorem iN (l : List yS) (f : Int) (zI : Bool) (chars : List ByteArray) (pairs : List kI) : (Zi l f zI chars pairs).length ≤ chars.length := by
 unfold Zi
 split
 ·have := sN (fjoin (qG l f)) _ (chars.map (tT pairs)) (Nat.le_refl _)
  rwa [List.length_map] at this
 ·rw [List.length_map]; exact Nat.le_refl _
theorem zqE {x : yS} {n : ByteArray} {s : Int} (hv : qN x = true) (h0 : 1 ≤ s) (h1 : s ≤ 1000) (hh : Ym x n = true) : (Ya x n s).2 = 0 := by
 have X6 : Ze s (qN x) = true := by unfold Ze; rw [hv, decide_eq_true h0, decide_eq_true h1]; rfl
 unfold Ya Ki
 rw [if_pos X6]
 cases hf : x.f3.find? (fun x => decide (x.f0 = n)) with
 | some y => rfl
 | none =>
  unfold Ym Q8 at hh
  obtain ⟨y, hy, he⟩ := List.any_eq_true.1 hh
  rw [List.find?_eq_none] at hf
  exact absurd (decide_eq_true (VR.1 (beq_iff_eq.1 he))) (hf y hy)
theorem zqF {x : yS} {n m : ByteArray} {s : Int} (hv : qN x = true) (h0 : 1 ≤ s) (h1 : s ≤ 1000) : (Zx x n m s).2 = 0 := by
 have X6 : Ze s (qN x) = true := by unfold Ze; rw [hv, decide_eq_true h0, decide_eq_true h1]; rfl
 unfold Zx VP
 rw [if_pos X6]
end Go.Proofs.YtggifbbiiickmaaGreatDoor
namespace Go.Proofs.YtggifbbiiickmaaGreatDoor.PX
open Go.RowKit Go.Proofs.zk.ze Go.Proofs.zk.yc Go.Proofs.zk.yt
attribute [local go_sem] wo wu Zk Zy jd je wB wC   -- for this text's walks alone
set_option linter.unusedVariables false
set_option linter.unusedSimpArgs false
def yB.l0 : Nat → Int → List (Xa) → Int → Int → Option (Int)
 | 0, _, _, _, _ => none
 | k + 1, x3, x6, x7, x8 => if x8 < x7 then (if 0 ≤ x8 then (if x8 < (x6.length : Int) then (if ((zw x6 x8).f0) = 0 then (yB.l0 k (wrap64 (x3 + ((zw x6 x8).f1))) x6 x7 (wrap64 (x8 + 1))) else (if ((zw x6 x8).f0) = 1 then (yB.l0 k (wrap64 (x3 + ((zw x6 x8).f1))) x6 x7 (wrap64 (x8 + 1))) else (if ((zw x6 x8).f0) = 2 then (yB.l0 k (wrap64 (x3 + ((zw x6 x8).f1))) x6 x7 (wrap64 (x8 + 1))) else (if ((zw x6 x8).f0) = 4 then (yB.l0 k (wrap64 (x3 + ((zw x6 x8).f1))) x6 x7 (wrap64 (x8 + 1))) else (if ((zw x6 x8).f0) = 6 then (yB.l0 k (wrap64 (x3 + ((zw x6 x8).f1))) x6 x7 (wrap64 (x8 + 1))) else (yB.l0 k x3 x6 x7 (wrap64 (x8 + 1)))))))) else (none)) else (none)) else (some x3)
def yB.f (k : Nat) (l0 : List (Xa)) : Option (Int) := yB.l0 k 0 l0 (l0.length : Int) 0
theorem yB.zzV : ∀ k, (∀ y0 y1 y2 y3, jy (yB.l0 k y0 y1 y2 y3) (yB.l0 (k + 1) y0 y1 y2 y3))
 | 0 => fun _ _ _ _ r h => by simp [yB.l0] at h
 | k + 1 => by
  have ih0 := yB.zzV k
  ·intro y0 y1 y2 y3
   unfold yB.l0
   repeat' first
   | (with_reducible exact ih0 _ _ _ _)
   | (with_reducible exact jy.refl _)
   | (with_reducible exact jy.none _)
   | (with_reducible refine jy.ite ?_ ?_)
   | (with_reducible refine jy.bind ?_ (fun _ => ?_))
   | exact ih0 _ _ _ _
   | exact jy.none _
   | refine jy.ite ?_ ?_
   | refine jy.bind ?_ (fun _ => ?_)
theorem yB.mono : ∀ a0 k, jy (yB.f k a0) (yB.f (k + 1) a0) := by
 intro a0 k
 have ih0 := yB.zzV k
 unfold yB.f
 repeat' first
   | (with_reducible exact ih0 _ _ _ _)
   | (with_reducible exact jy.refl _)
   | (with_reducible exact jy.none _)
   | (with_reducible refine jy.ite ?_ ?_)
   | (with_reducible refine jy.bind ?_ (fun _ => ?_))
   | exact ih0 _ _ _ _
   | exact jy.none _
   | refine jy.ite ?_ ?_
   | refine jy.bind ?_ (fun _ => ?_)
set_option maxHeartbeats 8000000 in
set_option maxRecDepth 100000 in
theorem yB.calls (k : Nat) (A0 : Option Addr) (c0 : Nat) (l0 : List (Xa)) (r : Int) (w : World) (hr0 : Kd.C Xb w A0 l0.length l0) (hc0 : l0.length ≤ c0) (h : yB.f k l0 = some r) :
  Calls Tryz.prog 23 #[.slice A0 l0.length c0] w fun e w' => e = .returned (.int .i64 r) ∧ Below w.heap.size w w' := by
 have zVX := Tryz.underlying53
 have Qv := zx.mk hr0
 have HC0 := zx.mk hc0
 clear hr0 hc0
 have HB := zx.mk (Below.refl w.heap.size w)
 have H : (yB.l0 k 0 l0 (l0.length : Int) 0) = some r := h
 clear h
 have H' := zx.mk H
 clear H
 go_enter Tryz.func23, Tryz.ntmps23
 go_wp2
 go_loopg [3, 8] k (fun kq v3 v8 w' => ∃ (Yj : Int) (yC : Int), v3 = .int .i64 Yj ∧ v8 = .int .i64 yC ∧ zx (yB.l0 kq Yj l0 (l0.length : Int) yC = some r) ∧ zx (kq ≤ k) ∧ zx (Below w.heap.size w w'))
 case atStart => exact ⟨(0), (0), (by first | rfl | (simp; done) | (simp [*]; done)), (by first | rfl | (simp; done) | (simp [*]; done)), H', ⟨Nat.le_refl _⟩, ⟨zP HB.out⟩⟩
 case round =>
  clear H'
  obtain ⟨Yj, yC, rfl, rfl, HA, jg, HB⟩ := hrel
  cases gk with
  | zero => exact absurd HA.out (by simp [yB.l0])
  | succ k1 =>
   have H := HA.out
   clear HA
   simp only [yB.l0] at H
   by_cases c2 : yC < (l0.length : Int)
   ·rw [if_pos c2] at H
    have dN : decide (yC < (l0.length : Int)) = true := decide_eq_true c2
    clear c2
    by_cases c3 : 0 ≤ yC
    ·rw [if_pos c3] at H
     have Qq : decide (0 ≤ yC) = true := decide_eq_true c3
     clear c3
     by_cases c4 : yC < (l0.length : Int)
     ·rw [if_pos c4] at H
      have VN : decide (yC < (l0.length : Int)) = true := decide_eq_true c4
      clear c4
      by_cases c5 : ((zw l0 yC).f0) = 0
      ·rw [if_pos c5] at H
       have Ub : (((zw l0 yC).f0) == 0) = true := beq_iff_eq.mpr c5
       have JG : (((zw l0 yC).f0) != 0) = false := bne_eq_false_iff_eq.mpr c5
       clear c5
       have H' := zx.mk H
       clear H
       have wL : 0 ≤ (yC : Int) := of_decide_eq_true (by first | (with_reducible assumption) | assumption)
       have wM : yC < (l0.length : Int) := of_decide_eq_true (by first | (with_reducible assumption) | assumption)
       obtain ⟨KI, Ur, Us, Qn, vQ, vX, vJ, vV, vK, vY, vW, uR, uS⟩ := qo Qv.out yC wL wM
       cases Qn
       replace vQ := (HB.out.cell (World.block_lt_of_cell? w _ vQ)).trans vQ
       replace vX := (HB.out.cell (World.block_lt_of_cell? w _ vX)).trans vX
       replace vJ := (HB.out.cell (World.block_lt_of_cell? w _ vJ)).trans vJ
       replace vV := (HB.out.cell (World.block_lt_of_cell? w _ vV)).trans vV
       replace vK := (HB.out.cell (World.block_lt_of_cell? w _ vK)).trans vK
       replace vY := (HB.out.cell (World.block_lt_of_cell? w _ vY)).trans vY
       replace vW := (HB.out.cell (World.block_lt_of_cell? w _ vW)).trans vW
       have VY := zx.mk uS
       have VW := zx.mk uR
       clear uS uR
       replace wL := eq_true wL
       replace wM := eq_true wM
       go_wp2_with (first | ((with_reducible refine qb (N := 5) rfl ?_); refine qM ?hg (N := 5) ?hd (cs := #[.int .i64 0, .int .i64 0, .int .i64 0, .int .i64 0, .string (⟨#[]⟩ : ByteArray), .string (⟨#[]⟩ : ByteArray), .slice none 0 0]) (t := 53) ?hr ?_; (case hd => rfl); (case hg => rfl); (case hr => first | (go_simp; done) | (go_simp; rfl)); intro qQ hg w6 xC hb; have zf := zx.mk (zL (zP HB.out) hb); have zl := zx.mk (xC); have zu := zx.mk ((by rw [hg]; exact (zC (zP HB.out)) : w.heap.size ≤ qQ)); have zH := zx.mk ((by rw [hg]; exact (zC (zP HB.out)) : w.heap.size ≤ qQ)); clear HB; have HB := zf; have zU := zl; have KL := zu; have KM := zH; clear zf zl zu zH; clear hb xC hg; have zjM : w6.cell? ⟨qQ, 0, none⟩ = some (.int .i64 0) := (zZ zU.out 0).trans rfl; have zjN : w6.cell? ⟨qQ, 1, none⟩ = some (.int .i64 0) := (zZ zU.out 1).trans rfl; have zjO : w6.cell? ⟨qQ, 2, none⟩ = some (.int .i64 0) := (zZ zU.out 2).trans rfl; have zjP : w6.cell? ⟨qQ, 3, none⟩ = some (.int .i64 0) := (zZ zU.out 3).trans rfl; have zjR : w6.cell? ⟨qQ, 4, none⟩ = some (.string (⟨#[]⟩ : ByteArray)) := (zZ zU.out 4).trans rfl; have zjS : w6.cell? ⟨qQ, 5, none⟩ = some (.string (⟨#[]⟩ : ByteArray)) := (zZ zU.out 5).trans rfl; have zJo : w6.cell? ⟨qQ, 6, none⟩ = some (.slice none 0 0) := (zZ zU.out 6).trans rfl; have zjT := zV zU.out 0; have zjU := zV zU.out 1; have zj0 := zV zU.out 2; have zj1 := zV zU.out 3; have zj2 := zV zU.out 4; have zj3 := zV zU.out 5; have zJp := zV zU.out 6))
       go_roundg k1
       case measure => have := jg.out; omega
       case rel => exact ⟨(wrap64 (Yj + ((zw l0 yC).f1))), (wrap64 (yC + 1)), (by first | rfl | (simp; done) | (simp [*]; done)), (by first | rfl | (simp; done) | (simp [*]; done)), H', ⟨by have := jg.out; omega⟩, ⟨zP HB.out⟩⟩
      ·rw [if_neg c5] at H
       have Ub : (((zw l0 yC).f0) == 0) = false := beq_eq_false_iff_ne.mpr c5
       have JG : (((zw l0 yC).f0) != 0) = true := bne_iff_ne.mpr c5
       by_cases c8 : ((zw l0 yC).f0) = 1
       ·rw [if_pos c8] at H
        have eF : (((zw l0 yC).f0) == 1) = true := beq_iff_eq.mpr c8
        have zZo : (((zw l0 yC).f0) != 1) = false := bne_eq_false_iff_eq.mpr c8
        clear c8
        have H' := zx.mk H
        clear H
        have wL : 0 ≤ (yC : Int) := of_decide_eq_true (by first | (with_reducible assumption) | assumption)
        have wM : yC < (l0.length : Int) := of_decide_eq_true (by first | (with_reducible assumption) | assumption)
        obtain ⟨KI, Ur, Us, Qn, vQ, vX, vJ, vV, vK, vY, vW, uR, uS⟩ := qo Qv.out yC wL wM
        cases Qn
        replace vQ := (HB.out.cell (World.block_lt_of_cell? w _ vQ)).trans vQ
        replace vX := (HB.out.cell (World.block_lt_of_cell? w _ vX)).trans vX
        replace vJ := (HB.out.cell (World.block_lt_of_cell? w _ vJ)).trans vJ
        replace vV := (HB.out.cell (World.block_lt_of_cell? w _ vV)).trans vV
        replace vK := (HB.out.cell (World.block_lt_of_cell? w _ vK)).trans vK
        replace vY := (HB.out.cell (World.block_lt_of_cell? w _ vY)).trans vY
        replace vW := (HB.out.cell (World.block_lt_of_cell? w _ vW)).trans vW
        have VY := zx.mk uS
        have VW := zx.mk uR
        clear uS uR
        replace wL := eq_true wL
        replace wM := eq_true wM
        go_wp2_with (first | ((with_reducible refine qb (N := 5) rfl ?_); refine qM ?hg (N := 5) ?hd (cs := #[.int .i64 0, .int .i64 0, .int .i64 0, .int .i64 0, .string (⟨#[]⟩ : ByteArray), .string (⟨#[]⟩ : ByteArray), .slice none 0 0]) (t := 53) ?hr ?_; (case hd => rfl); (case hg => rfl); (case hr => first | (go_simp; done) | (go_simp; rfl)); intro qQ hg w9 xC hb; have zf := zx.mk (zL (zP HB.out) hb); have zl := zx.mk (xC); have zu := zx.mk ((by rw [hg]; exact (zC (zP HB.out)) : w.heap.size ≤ qQ)); have zH := zx.mk ((by rw [hg]; exact (zC (zP HB.out)) : w.heap.size ≤ qQ)); clear HB; have HB := zf; have zU := zl; have KL := zu; have KM := zH; clear zf zl zu zH; clear hb xC hg; have zXq : w9.cell? ⟨qQ, 0, none⟩ = some (.int .i64 0) := (zZ zU.out 0).trans rfl; have zXx : w9.cell? ⟨qQ, 1, none⟩ = some (.int .i64 0) := (zZ zU.out 1).trans rfl; have zXj : w9.cell? ⟨qQ, 2, none⟩ = some (.int .i64 0) := (zZ zU.out 2).trans rfl; have zXv : w9.cell? ⟨qQ, 3, none⟩ = some (.int .i64 0) := (zZ zU.out 3).trans rfl; have zXk : w9.cell? ⟨qQ, 4, none⟩ = some (.string (⟨#[]⟩ : ByteArray)) := (zZ zU.out 4).trans rfl; have zXy : w9.cell? ⟨qQ, 5, none⟩ = some (.string (⟨#[]⟩ : ByteArray)) := (zZ zU.out 5).trans rfl; have zXw : w9.cell? ⟨qQ, 6, none⟩ = some (.slice none 0 0) := (zZ zU.out 6).trans rfl; have zXZ := zV zU.out 0; have zXQ := zV zU.out 1; have zXX := zV zU.out 2; have zXJ := zV zU.out 3; have zXV := zV zU.out 4; have zXK := zV zU.out 5; have zXY := zV zU.out 6))
        go_roundg k1
        case measure => have := jg.out; omega
        case rel => exact ⟨(wrap64 (Yj + ((zw l0 yC).f1))), (wrap64 (yC + 1)), (by first | rfl | (simp; done) | (simp [*]; done)), (by first | rfl | (simp; done) | (simp [*]; done)), H', ⟨by have := jg.out; omega⟩, ⟨zP HB.out⟩⟩
       ·rw [if_neg c8] at H
        have eF : (((zw l0 yC).f0) == 1) = false := beq_eq_false_iff_ne.mpr c8
        have zZo : (((zw l0 yC).f0) != 1) = true := bne_iff_ne.mpr c8
        by_cases c11 : ((zw l0 yC).f0) = 2
        ·rw [if_pos c11] at H
         have zye : (((zw l0 yC).f0) == 2) = true := beq_iff_eq.mpr c11
         have zyf : (((zw l0 yC).f0) != 2) = false := bne_eq_false_iff_eq.mpr c11
         clear c11
         have H' := zx.mk H
         clear H
         have wL : 0 ≤ (yC : Int) := of_decide_eq_true (by first | (with_reducible assumption) | assumption)
         have wM : yC < (l0.length : Int) := of_decide_eq_true (by first | (with_reducible assumption) | assumption)
         obtain ⟨KI, Ur, Us, Qn, vQ, vX, vJ, vV, vK, vY, vW, uR, uS⟩ := qo Qv.out yC wL wM
         cases Qn
         replace vQ := (HB.out.cell (World.block_lt_of_cell? w _ vQ)).trans vQ
         replace vX := (HB.out.cell (World.block_lt_of_cell? w _ vX)).trans vX
         replace vJ := (HB.out.cell (World.block_lt_of_cell? w _ vJ)).trans vJ
         replace vV := (HB.out.cell (World.block_lt_of_cell? w _ vV)).trans vV
         replace vK := (HB.out.cell (World.block_lt_of_cell? w _ vK)).trans vK
         replace vY := (HB.out.cell (World.block_lt_of_cell? w _ vY)).trans vY
         replace vW := (HB.out.cell (World.block_lt_of_cell? w _ vW)).trans vW
         have VY := zx.mk uS
         have VW := zx.mk uR
         clear uS uR
         replace wL := eq_true wL
         replace wM := eq_true wM
         go_wp2_with (first | ((with_reducible refine qb (N := 5) rfl ?_); refine qM ?hg (N := 5) ?hd (cs := #[.int .i64 0, .int .i64 0, .int .i64 0, .int .i64 0, .string (⟨#[]⟩ : ByteArray), .string (⟨#[]⟩ : ByteArray), .slice none 0 0]) (t := 53) ?hr ?_; (case hd => rfl); (case hg => rfl); (case hr => first | (go_simp; done) | (go_simp; rfl)); intro qQ hg Uw xC hb; have zf := zx.mk (zL (zP HB.out) hb); have zl := zx.mk (xC); have zu := zx.mk ((by rw [hg]; exact (zC (zP HB.out)) : w.heap.size ≤ qQ)); have zH := zx.mk ((by rw [hg]; exact (zC (zP HB.out)) : w.heap.size ≤ qQ)); clear HB; have HB := zf; have zU := zl; have KL := zu; have KM := zH; clear zf zl zu zH; clear hb xC hg; have zXW : Uw.cell? ⟨qQ, 0, none⟩ = some (.int .i64 0) := (zZ zU.out 0).trans rfl; have zXa : Uw.cell? ⟨qQ, 1, none⟩ = some (.int .i64 0) := (zZ zU.out 1).trans rfl; have zXb : Uw.cell? ⟨qQ, 2, none⟩ = some (.int .i64 0) := (zZ zU.out 2).trans rfl; have zXc : Uw.cell? ⟨qQ, 3, none⟩ = some (.int .i64 0) := (zZ zU.out 3).trans rfl; have zXd : Uw.cell? ⟨qQ, 4, none⟩ = some (.string (⟨#[]⟩ : ByteArray)) := (zZ zU.out 4).trans rfl; have zXe : Uw.cell? ⟨qQ, 5, none⟩ = some (.string (⟨#[]⟩ : ByteArray)) := (zZ zU.out 5).trans rfl; have zXf : Uw.cell? ⟨qQ, 6, none⟩ = some (.slice none 0 0) := (zZ zU.out 6).trans rfl; have zXg := zV zU.out 0; have zXh := zV zU.out 1; have zXi := zV zU.out 2; have zXl := zV zU.out 3; have zXm := zV zU.out 4; have zXn := zV zU.out 5; have zXo := zV zU.out 6))
         go_roundg k1
         case measure => have := jg.out; omega
         case rel => exact ⟨(wrap64 (Yj + ((zw l0 yC).f1))), (wrap64 (yC + 1)), (by first | rfl | (simp; done) | (simp [*]; done)), (by first | rfl | (simp; done) | (simp [*]; done)), H', ⟨by have := jg.out; omega⟩, ⟨zP HB.out⟩⟩
        ·rw [if_neg c11] at H
         have zye : (((zw l0 yC).f0) == 2) = false := beq_eq_false_iff_ne.mpr c11
         have zyf : (((zw l0 yC).f0) != 2) = true := bne_iff_ne.mpr c11
         by_cases c14 : ((zw l0 yC).f0) = 4
         ·rw [if_pos c14] at H
          have zyg : (((zw l0 yC).f0) == 4) = true := beq_iff_eq.mpr c14
          have zyh : (((zw l0 yC).f0) != 4) = false := bne_eq_false_iff_eq.mpr c14
          clear c14
          have H' := zx.mk H
          clear H
          have wL : 0 ≤ (yC : Int) := of_decide_eq_true (by first | (with_reducible assumption) | assumption)
          have wM : yC < (l0.length : Int) := of_decide_eq_true (by first | (with_reducible assumption) | assumption)
          obtain ⟨KI, Ur, Us, Qn, vQ, vX, vJ, vV, vK, vY, vW, uR, uS⟩ := qo Qv.out yC wL wM
          cases Qn
          replace vQ := (HB.out.cell (World.block_lt_of_cell? w _ vQ)).trans vQ
          replace vX := (HB.out.cell (World.block_lt_of_cell? w _ vX)).trans vX
          replace vJ := (HB.out.cell (World.block_lt_of_cell? w _ vJ)).trans vJ
          replace vV := (HB.out.cell (World.block_lt_of_cell? w _ vV)).trans vV
          replace vK := (HB.out.cell (World.block_lt_of_cell? w _ vK)).trans vK
          replace vY := (HB.out.cell (World.block_lt_of_cell? w _ vY)).trans vY
          replace vW := (HB.out.cell (World.block_lt_of_cell? w _ vW)).trans vW
          have VY := zx.mk uS
          have VW := zx.mk uR
          clear uS uR
          replace wL := eq_true wL
          replace wM := eq_true wM
          go_wp2_with (first | ((with_reducible refine qb (N := 5) rfl ?_); refine qM ?hg (N := 5) ?hd (cs := #[.int .i64 0, .int .i64 0, .int .i64 0, .int .i64 0, .string (⟨#[]⟩ : ByteArray), .string (⟨#[]⟩ : ByteArray), .slice none 0 0]) (t := 53) ?hr ?_; (case hd => rfl); (case hg => rfl); (case hr => first | (go_simp; done) | (go_simp; rfl)); intro qQ hg Zt xC hb; have zf := zx.mk (zL (zP HB.out) hb); have zl := zx.mk (xC); have zu := zx.mk ((by rw [hg]; exact (zC (zP HB.out)) : w.heap.size ≤ qQ)); have zH := zx.mk ((by rw [hg]; exact (zC (zP HB.out)) : w.heap.size ≤ qQ)); clear HB; have HB := zf; have zU := zl; have KL := zu; have KM := zH; clear zf zl zu zH; clear hb xC hg; have zxs : Zt.cell? ⟨qQ, 0, none⟩ = some (.int .i64 0) := (zZ zU.out 0).trans rfl; have zxt : Zt.cell? ⟨qQ, 1, none⟩ = some (.int .i64 0) := (zZ zU.out 1).trans rfl; have zxu : Zt.cell? ⟨qQ, 2, none⟩ = some (.int .i64 0) := (zZ zU.out 2).trans rfl; have zxA : Zt.cell? ⟨qQ, 3, none⟩ = some (.int .i64 0) := (zZ zU.out 3).trans rfl; have zxB : Zt.cell? ⟨qQ, 4, none⟩ = some (.string (⟨#[]⟩ : ByteArray)) := (zZ zU.out 4).trans rfl; have zxC : Zt.cell? ⟨qQ, 5, none⟩ = some (.string (⟨#[]⟩ : ByteArray)) := (zZ zU.out 5).trans rfl; have zXp : Zt.cell? ⟨qQ, 6, none⟩ = some (.slice none 0 0) := (zZ zU.out 6).trans rfl; have zxD := zV zU.out 0; have zxE := zV zU.out 1; have zxF := zV zU.out 2; have zxG := zV zU.out 3; have zxH := zV zU.out 4; have zxI := zV zU.out 5; have zXr := zV zU.out 6))
          go_roundg k1
          case measure => have := jg.out; omega
          case rel => exact ⟨(wrap64 (Yj + ((zw l0 yC).f1))), (wrap64 (yC + 1)), (by first | rfl | (simp; done) | (simp [*]; done)), (by first | rfl | (simp; done) | (simp [*]; done)), H', ⟨by have := jg.out; omega⟩, ⟨zP HB.out⟩⟩
         ·rw [if_neg c14] at H
          have zyg : (((zw l0 yC).f0) == 4) = false := beq_eq_false_iff_ne.mpr c14
          have zyh : (((zw l0 yC).f0) != 4) = true := bne_iff_ne.mpr c14
          by_cases c17 : ((zw l0 yC).f0) = 6
          ·rw [if_pos c17] at H
           have zyi : (((zw l0 yC).f0) == 6) = true := beq_iff_eq.mpr c17
           have zyl : (((zw l0 yC).f0) != 6) = false := bne_eq_false_iff_eq.mpr c17
           clear c17
           have H' := zx.mk H
           clear H
           have wL : 0 ≤ (yC : Int) := of_decide_eq_true (by first | (with_reducible assumption) | assumption)
           have wM : yC < (l0.length : Int) := of_decide_eq_true (by first | (with_reducible assumption) | assumption)
           obtain ⟨KI, Ur, Us, Qn, vQ, vX, vJ, vV, vK, vY, vW, uR, uS⟩ := qo Qv.out yC wL wM
           cases Qn
           replace vQ := (HB.out.cell (World.block_lt_of_cell? w _ vQ)).trans vQ
           replace vX := (HB.out.cell (World.block_lt_of_cell? w _ vX)).trans vX
           replace vJ := (HB.out.cell (World.block_lt_of_cell? w _ vJ)).trans vJ
           replace vV := (HB.out.cell (World.block_lt_of_cell? w _ vV)).trans vV
           replace vK := (HB.out.cell (World.block_lt_of_cell? w _ vK)).trans vK
           replace vY := (HB.out.cell (World.block_lt_of_cell? w _ vY)).trans vY
           replace vW := (HB.out.cell (World.block_lt_of_cell? w _ vW)).trans vW
           have VY := zx.mk uS
           have VW := zx.mk uR
           clear uS uR
           replace wL := eq_true wL
           replace wM := eq_true wM
           go_wp2_with (first | ((with_reducible refine qb (N := 5) rfl ?_); refine qM ?hg (N := 5) ?hd (cs := #[.int .i64 0, .int .i64 0, .int .i64 0, .int .i64 0, .string (⟨#[]⟩ : ByteArray), .string (⟨#[]⟩ : ByteArray), .slice none 0 0]) (t := 53) ?hr ?_; (case hd => rfl); (case hg => rfl); (case hr => first | (go_simp; done) | (go_simp; rfl)); intro qQ hg Qk xC hb; have zf := zx.mk (zL (zP HB.out) hb); have zl := zx.mk (xC); have zu := zx.mk ((by rw [hg]; exact (zC (zP HB.out)) : w.heap.size ≤ qQ)); have zH := zx.mk ((by rw [hg]; exact (zC (zP HB.out)) : w.heap.size ≤ qQ)); clear HB; have HB := zf; have zU := zl; have KL := zu; have KM := zH; clear zf zl zu zH; clear hb xC hg; have zXs : Qk.cell? ⟨qQ, 0, none⟩ = some (.int .i64 0) := (zZ zU.out 0).trans rfl; have zXt : Qk.cell? ⟨qQ, 1, none⟩ = some (.int .i64 0) := (zZ zU.out 1).trans rfl; have zXu : Qk.cell? ⟨qQ, 2, none⟩ = some (.int .i64 0) := (zZ zU.out 2).trans rfl; have zXA : Qk.cell? ⟨qQ, 3, none⟩ = some (.int .i64 0) := (zZ zU.out 3).trans rfl; have zXB : Qk.cell? ⟨qQ, 4, none⟩ = some (.string (⟨#[]⟩ : ByteArray)) := (zZ zU.out 4).trans rfl; have zXC : Qk.cell? ⟨qQ, 5, none⟩ = some (.string (⟨#[]⟩ : ByteArray)) := (zZ zU.out 5).trans rfl; have zXD : Qk.cell? ⟨qQ, 6, none⟩ = some (.slice none 0 0) := (zZ zU.out 6).trans rfl; have zXE := zV zU.out 0; have zXF := zV zU.out 1; have zXG := zV zU.out 2; have zXH := zV zU.out 3; have zXI := zV zU.out 4; have zXL := zV zU.out 5; have zXM := zV zU.out 6))
           go_roundg k1
           case measure => have := jg.out; omega
           case rel => exact ⟨(wrap64 (Yj + ((zw l0 yC).f1))), (wrap64 (yC + 1)), (by first | rfl | (simp; done) | (simp [*]; done)), (by first | rfl | (simp; done) | (simp [*]; done)), H', ⟨by have := jg.out; omega⟩, ⟨zP HB.out⟩⟩
          ·rw [if_neg c17] at H
           have zyi : (((zw l0 yC).f0) == 6) = false := beq_eq_false_iff_ne.mpr c17
           have zyl : (((zw l0 yC).f0) != 6) = true := bne_iff_ne.mpr c17
           have H' := zx.mk H
           clear H
           have wL : 0 ≤ (yC : Int) := of_decide_eq_true (by first | (with_reducible assumption) | assumption)
           have wM : yC < (l0.length : Int) := of_decide_eq_true (by first | (with_reducible assumption) | assumption)
           obtain ⟨KI, Ur, Us, Qn, vQ, vX, vJ, vV, vK, vY, vW, uR, uS⟩ := qo Qv.out yC wL wM
           cases Qn
           replace vQ := (HB.out.cell (World.block_lt_of_cell? w _ vQ)).trans vQ
           replace vX := (HB.out.cell (World.block_lt_of_cell? w _ vX)).trans vX
           replace vJ := (HB.out.cell (World.block_lt_of_cell? w _ vJ)).trans vJ
           replace vV := (HB.out.cell (World.block_lt_of_cell? w _ vV)).trans vV
           replace vK := (HB.out.cell (World.block_lt_of_cell? w _ vK)).trans vK
           replace vY := (HB.out.cell (World.block_lt_of_cell? w _ vY)).trans vY
           replace vW := (HB.out.cell (World.block_lt_of_cell? w _ vW)).trans vW
           have VY := zx.mk uS
           have VW := zx.mk uR
           clear uS uR
           replace wL := eq_true wL
           replace wM := eq_true wM
           go_wp2_with (first | ((with_reducible refine qb (N := 5) rfl ?_); refine qM ?hg (N := 5) ?hd (cs := #[.int .i64 0, .int .i64 0, .int .i64 0, .int .i64 0, .string (⟨#[]⟩ : ByteArray), .string (⟨#[]⟩ : ByteArray), .slice none 0 0]) (t := 53) ?hr ?_; (case hd => rfl); (case hg => rfl); (case hr => first | (go_simp; done) | (go_simp; rfl)); intro qQ hg bR xC hb; have zf := zx.mk (zL (zP HB.out) hb); have zl := zx.mk (xC); have zu := zx.mk ((by rw [hg]; exact (zC (zP HB.out)) : w.heap.size ≤ qQ)); have zH := zx.mk ((by rw [hg]; exact (zC (zP HB.out)) : w.heap.size ≤ qQ)); clear HB; have HB := zf; have zU := zl; have KL := zu; have KM := zH; clear zf zl zu zH; clear hb xC hg; have zXN : bR.cell? ⟨qQ, 0, none⟩ = some (.int .i64 0) := (zZ zU.out 0).trans rfl; have zXO : bR.cell? ⟨qQ, 1, none⟩ = some (.int .i64 0) := (zZ zU.out 1).trans rfl; have zXP : bR.cell? ⟨qQ, 2, none⟩ = some (.int .i64 0) := (zZ zU.out 2).trans rfl; have zXR : bR.cell? ⟨qQ, 3, none⟩ = some (.int .i64 0) := (zZ zU.out 3).trans rfl; have zXS : bR.cell? ⟨qQ, 4, none⟩ = some (.string (⟨#[]⟩ : ByteArray)) := (zZ zU.out 4).trans rfl; have zXT : bR.cell? ⟨qQ, 5, none⟩ = some (.string (⟨#[]⟩ : ByteArray)) := (zZ zU.out 5).trans rfl; have zXU : bR.cell? ⟨qQ, 6, none⟩ = some (.slice none 0 0) := (zZ zU.out 6).trans rfl; have zX0 := zV zU.out 0; have zX1 := zV zU.out 1; have zX2 := zV zU.out 2; have zX3 := zV zU.out 3; have zX4 := zV zU.out 4; have zX5 := zV zU.out 5; have zX6 := zV zU.out 6))
           go_roundg k1
           case measure => have := jg.out; omega
           case rel => exact ⟨(Yj), (wrap64 (yC + 1)), (by first | rfl | (simp; done) | (simp [*]; done)), (by first | rfl | (simp; done) | (simp [*]; done)), H', ⟨by have := jg.out; omega⟩, ⟨zP HB.out⟩⟩
     ·rw [if_neg c4] at H
      exact absurd H (by simp)
    ·rw [if_neg c3] at H
     exact absurd H (by simp)
   ·rw [if_neg c2] at H
    have dN : decide (yC < (l0.length : Int)) = false := decide_eq_false c2
    clear c2
    obtain rfl := Option.some.inj H
    go_wp2
    go_ret
    exact ⟨by first | rfl | (simp [zR, zS] <;> rfl) | (simp [*, zR, zS] <;> rfl), by repeat (first | (with_reducible first | exact HB.out | apply yA | apply yZ | apply yx) | exact HB.out)⟩
end Go.Proofs.YtggifbbiiickmaaGreatDoor.PX
