/-
  Texts that lean on one another, laid in one file. No condition.
-/
import Derived.Test.YtggifbbiiickmaaGreatDoorGRW1
import Derived.Test.YtggifbbiiickmaaGreatDoorGRW3
import Derived.Deep.Slices
import Derived.ChangeArms
import Derived.ChangeSlices
import Derived.SizedLaws
import Derived.WideShapes
import Derived.Test.YtggifbbiiickmaaGreatDoorGRW2
import Derived.Lib.LaidU8
import Derived.Shelf.Vars
namespace Go.Proofs.YtggifbbiiickmaaGreatDoor.PX
open Go.RowKit Go.Proofs.zk.zK Go.Proofs.zk.yQ Go.Proofs.zk.yX
attribute [local go_sem] jZ jQ jL jM uD uE jX jJ   -- for this text's walks alone
set_option linter.unusedVariables false
set_option linter.unusedSimpArgs false
def yP.l0 : Nat → Int → Int → List (uR) → Option (Bool)
 | 0, _, _, _ => none
 | k + 1, x3, x4, XG => if x4 < (XG.length : Int) then (if 0 ≤ x4 then (yP.l0 k (wrap64 ((wrap64 ((wrap64 (x3 + (((xU XG x4).f3).length : Int))) + (((xU XG x4).f4).length : Int))) + (((xU XG x4).f5).length : Int))) (wrap64 (x4 + 1)) XG) else (none)) else (if x3 > 1200 then (some true) else (some (decide ((XG.length : Int) > 10))))
def yP.f (k : Nat) (zD : List (uR)) : Option (Bool) := yP.l0 k 0 0 zD
set_option maxHeartbeats 8000000 in
set_option maxRecDepth 100000 in
theorem yP.calls (k : Nat) (yF : Option Addr) (yG : Nat) (zD : List (uR)) (r : Bool) (w : World) (J4 : Kd.C jY w yF zD.length zD) (J5 : zD.length ≤ yG) (h : yP.f k zD = some r) :
  Calls Tryz.prog 10 #[.agg #[.slice yF zD.length yG]] w fun e w' => e = .returned (.bool r) ∧ Below w.heap.size w w' := by
 have zy6 := Tryz.underlying24
 have XZ := zx.mk J4
 have VZ := zx.mk J5
 clear J4 J5
 have HB := zx.mk (Below.refl w.heap.size w)
 have H : (yP.l0 k 0 0 zD) = some r := h
 clear h
 have H' := zx.mk H
 clear H
 go_enter Tryz.func10, Tryz.ntmps10
 go_wp2_with (first | ((with_reducible refine qw (N := 1) rfl ?_); (try (refine qV (by rfl) ?_; dsimp only)); refine qL ?hg (N := 1) ?hd (cs := #[.slice yF zD.length yG]) (t := 24) ?hr ?_; (case hd => rfl); (case hg => rfl); (case hr => first | (go_simp; done) | (go_simp; rfl)); intro Yz hg w2 qN hb; have zX := zx.mk (zA (zB HB.out) hb); have zV := zx.mk (qN); have zf := zx.mk ((by rw [hg]; exact (zW (zB HB.out)) : w.heap.size ≤ Yz)); have zu := zx.mk ((by rw [hg]; exact (zW (zB HB.out)) : w.heap.size ≤ Yz)); clear HB; have HB := zX; have Yu := zV; have zkv := zf; have dS := zu; clear zX zV zf zu; clear hb qN hg))
 repeat (go_quiet (first | ((with_reducible refine qw (N := 1) rfl ?_); (try (refine qV (by rfl) ?_; dsimp only)); refine qL ?hg (N := 1) ?hd (cs := #[.slice yF zD.length yG]) (t := 24) ?hr ?_; (case hd => rfl); (case hg => rfl); (case hr => first | (go_simp; done) | (go_simp; rfl)); intro Yz hg w2 qN hb; have zX := zx.mk (zA (zB HB.out) hb); have zV := zx.mk (qN); have zf := zx.mk ((by rw [hg]; exact (zW (zB HB.out)) : w.heap.size ≤ Yz)); have zu := zx.mk ((by rw [hg]; exact (zW (zB HB.out)) : w.heap.size ≤ Yz)); clear HB; have HB := zX; have Yu := zV; have zkv := zf; have dS := zu; clear zX zV zf zu; clear hb qN hg)); try go_wp2_with (first | ((with_reducible refine qw (N := 1) rfl ?_); (try (refine qV (by rfl) ?_; dsimp only)); refine qL ?hg (N := 1) ?hd (cs := #[.slice yF zD.length yG]) (t := 24) ?hr ?_; (case hd => rfl); (case hg => rfl); (case hr => first | (go_simp; done) | (go_simp; rfl)); intro Yz hg w2 qN hb; have zX := zx.mk (zA (zB HB.out) hb); have zV := zx.mk (qN); have zf := zx.mk ((by rw [hg]; exact (zW (zB HB.out)) : w.heap.size ≤ Yz)); have zu := zx.mk ((by rw [hg]; exact (zW (zB HB.out)) : w.heap.size ≤ Yz)); clear HB; have HB := zX; have Yu := zV; have zkv := zf; have dS := zu; clear zX zV zf zu; clear hb qN hg)))
 go_loopg [3, 4] k (fun kq v3 v4 w' => ∃ (JJ : Int) (wo : Int), v3 = .int .i64 JJ ∧ v4 = .int .i64 wo ∧ zx (yP.l0 kq JJ wo zD = some r) ∧ zx (kq ≤ k) ∧ zx (w'.heap[Yz]? = some (.cells #[(.slice yF zD.length yG)] 24 (0, 0))) ∧ zx (Below w.heap.size w w'))
 case atStart => exact ⟨(0), (0), (by first | rfl | (simp; done) | (simp [*]; done)), (by first | rfl | (simp; done) | (simp [*]; done)), H', ⟨Nat.le_refl _⟩, ⟨zU Yu.out⟩, ⟨zB HB.out⟩⟩
 case round =>
  clear H'
  try clear c1
  try clear p2
  obtain ⟨JJ, wo, rfl, rfl, HA, Xc, Yu, HB⟩ := hrel
  cases gk with
  | zero => exact absurd HA.out (by simp [yP.l0])
  | succ k1 =>
   have H := HA.out
   clear HA
   simp only [yP.l0] at H
   by_cases c3 : wo < (zD.length : Int)
   ·rw [if_pos c3] at H
    have Yh : decide (wo < (zD.length : Int)) = true := decide_eq_true c3
    clear c3
    by_cases c4 : 0 ≤ wo
    ·rw [if_pos c4] at H
     have Xg : decide (0 ≤ wo) = true := decide_eq_true c4
     clear c4
     have H' := zx.mk H
     clear H
     have zKA : wr.cell? ⟨Yz, 0, none⟩ = some (.slice yF zD.length yG) := (zy Yu.out 0).trans rfl
     have zKB := zw Yu.out 0
     have zve : 0 ≤ (wo : Int) := of_decide_eq_true (by first | (with_reducible assumption) | assumption)
     have zvf : wo < (zD.length : Int) := of_decide_eq_true (by first | (with_reducible assumption) | assumption)
     obtain ⟨zkk, zKC, zKD, zKE, zKF, zKG, zKH, e108, P8, P9, bq, QL, QM, QN, zzI, zzL, zzM, zzN, zzO, zzP⟩ := XL XZ.out wo zve zvf
     cases e108
     replace P8 := (HB.out.cell (World.block_lt_of_cell? w _ P8)).trans P8
     replace P9 := (HB.out.cell (World.block_lt_of_cell? w _ P9)).trans P9
     replace bq := (HB.out.cell (World.block_lt_of_cell? w _ bq)).trans bq
     replace QL := (HB.out.cell (World.block_lt_of_cell? w _ QL)).trans QL
     replace QM := (HB.out.cell (World.block_lt_of_cell? w _ QM)).trans QM
     replace QN := (HB.out.cell (World.block_lt_of_cell? w _ QN)).trans QN
     have zV2 := zx.mk zzL
     have zV3 := zx.mk zzI
     clear zzL zzI
     have zV4 := zx.mk zzN
     have zV5 := zx.mk zzM
     clear zzN zzM
     have zV6 := zx.mk zzP
     have zV7 := zx.mk zzO
     clear zzP zzO
     replace zve := eq_true zve
     replace zvf := eq_true zvf
     have zvg : 0 ≤ (wo : Int) := of_decide_eq_true (by first | (with_reducible assumption) | assumption)
     have zvh : wo < (zD.length : Int) := of_decide_eq_true (by first | (with_reducible assumption) | assumption)
     obtain ⟨zZU, zKI, zKL, zKM, zKN, zKO, zKP, e109, bZ, bQ, bX, Uk, Uy, Uw, zzR, zzS, zzT, zzU, zz0, zz1⟩ := XL XZ.out wo zvg zvh
     obtain rfl : zkk = zZU := (by injection e109)
     replace bZ := (HB.out.cell (World.block_lt_of_cell? w _ bZ)).trans bZ
     replace bQ := (HB.out.cell (World.block_lt_of_cell? w _ bQ)).trans bQ
     replace bX := (HB.out.cell (World.block_lt_of_cell? w _ bX)).trans bX
     replace Uk := (HB.out.cell (World.block_lt_of_cell? w _ Uk)).trans Uk
     replace Uy := (HB.out.cell (World.block_lt_of_cell? w _ Uy)).trans Uy
     replace Uw := (HB.out.cell (World.block_lt_of_cell? w _ Uw)).trans Uw
     have zV8 := zx.mk zzS
     have zV9 := zx.mk zzR
     clear zzS zzR
     have zKz := zx.mk zzU
     have zKq := zx.mk zzT
     clear zzU zzT
     have zKx := zx.mk zz1
     have zKj := zx.mk zz0
     clear zz1 zz0
     replace zvg := eq_true zvg
     replace zvh := eq_true zvh
     have ZY := Option.some.inj (QL.symm.trans Uk)
     injection ZY with ZY VE VF
     subst ZY
     subst VF
     clear VE
     have ZY := Option.some.inj (QM.symm.trans Uy)
     injection ZY with ZY VE VF
     subst ZY
     subst VF
     clear VE
     have ZY := Option.some.inj (QN.symm.trans Uw)
     injection ZY with ZY VE VF
     subst ZY
     subst VF
     clear VE
     have zvi : 0 ≤ (wo : Int) := of_decide_eq_true (by first | (with_reducible assumption) | assumption)
     have zvl : wo < (zD.length : Int) := of_decide_eq_true (by first | (with_reducible assumption) | assumption)
     obtain ⟨zZ0, zKR, zKS, zKT, zKU, zK0, zK1, zXG, bJ, bV, bK, UZ, UQ, UJ, zz2, zz3, zz4, zz5, zz6, zz7⟩ := XL XZ.out wo zvi zvl
     obtain rfl : zkk = zZ0 := (by injection zXG)
     replace bJ := (HB.out.cell (World.block_lt_of_cell? w _ bJ)).trans bJ
     replace bV := (HB.out.cell (World.block_lt_of_cell? w _ bV)).trans bV
     replace bK := (HB.out.cell (World.block_lt_of_cell? w _ bK)).trans bK
     replace UZ := (HB.out.cell (World.block_lt_of_cell? w _ UZ)).trans UZ
     replace UQ := (HB.out.cell (World.block_lt_of_cell? w _ UQ)).trans UQ
     replace UJ := (HB.out.cell (World.block_lt_of_cell? w _ UJ)).trans UJ
     have zKv := zx.mk zz3
     have zKk := zx.mk zz2
     clear zz3 zz2
     have zKy := zx.mk zz5
     have zKw := zx.mk zz4
     clear zz5 zz4
     have zKZ := zx.mk zz7
     have zKQ := zx.mk zz6
     clear zz7 zz6
     replace zvi := eq_true zvi
     replace zvl := eq_true zvl
     have ZY := Option.some.inj (QL.symm.trans UZ)
     injection ZY with ZY VE VF
     subst ZY
     subst VF
     clear VE
     have ZY := Option.some.inj (QM.symm.trans UQ)
     injection ZY with ZY VE VF
     subst ZY
     subst VF
     clear VE
     have ZY := Option.some.inj (QN.symm.trans UJ)
     injection ZY with ZY VE VF
     subst ZY
     subst VF
     clear VE
     go_wp2
     repeat (go_quiet (fail); try go_wp2)
     go_roundg k1
     case measure => have := Xc.out; omega
     case rel => exact ⟨(wrap64 ((wrap64 ((wrap64 (JJ + (((xU zD wo).f3).length : Int))) + (((xU zD wo).f4).length : Int))) + (((xU zD wo).f5).length : Int))), (wrap64 (wo + 1)), (by first | rfl | (simp; done) | (simp [*]; done)), (by first | rfl | (simp; done) | (simp [*]; done)), H', ⟨by have := Xc.out; omega⟩, ⟨zU Yu.out⟩, ⟨zB HB.out⟩⟩
    ·rw [if_neg c4] at H
     exact absurd H (by simp)
   ·rw [if_neg c3] at H
    have Yh : decide (wo < (zD.length : Int)) = false := decide_eq_false c3
    clear c3
    by_cases c6 : JJ > 1200
    ·rw [if_pos c6] at H
     have YO : decide (1200 < JJ) = true := decide_eq_true c6
     clear c6
     obtain rfl := Option.some.inj H
     have zyl : wr.cell? ⟨Yz, 0, none⟩ = some (.slice yF zD.length yG) := (zy Yu.out 0).trans rfl
     have zym := zw Yu.out 0
     go_wp2
     repeat (go_quiet (fail); try go_wp2)
     go_ret
     exact ⟨by first | rfl | (simp [zG, zH] <;> rfl) | (simp [*, zG, zH] <;> rfl), by repeat (first | (with_reducible first | exact HB.out | apply yj | apply zN | apply yY | refine qb ?_ dS.out) | exact HB.out)⟩
    ·rw [if_neg c6] at H
     have YO : decide (1200 < JJ) = false := decide_eq_false c6
     clear c6
     obtain rfl := Option.some.inj H
     have zx2 : wr.cell? ⟨Yz, 0, none⟩ = some (.slice yF zD.length yG) := (zy Yu.out 0).trans rfl
     have zx3 := zw Yu.out 0
     go_wp2
     repeat (go_quiet (fail); try go_wp2)
     go_ret
     exact ⟨by first | rfl | (simp [zG, zH] <;> rfl) | (simp [*, zG, zH] <;> rfl), by repeat (first | (with_reducible first | exact HB.out | apply yj | apply zN | apply yY | refine qb ?_ dS.out) | exact HB.out)⟩
end Go.Proofs.YtggifbbiiickmaaGreatDoor.PX
namespace Go.Proofs.YtggifbbiiickmaaGreatDoor.PX
open Go.RowKit Go.Proofs.zk.zK Go.Proofs.zk.yQ Go.Proofs.zk.yX
attribute [local go_sem] jZ jQ jL jM uD uE jX jJ   -- for this text's walks alone
set_option linter.unusedVariables false
set_option linter.unusedSimpArgs false
def qx.f (zD : List (uR)) : Option ((List (uR))) := (uw.f).bind fun Xh => (if Xh.length + zD.length < 1353245080339 then (some (Xh ++ zD)) else (none))
set_option maxHeartbeats 8000000 in
set_option maxRecDepth 100000 in
theorem qx.calls (QW : Nat → Prop) (yF : Option Addr) (yG : Nat) (zD : List (uR)) (r : List (uR)) (w : World) (zZ1 : Kd.V jY 60 w w.heap.size (fun k_ => QW k_) (.slice yF zD.length yG) zD) (hG : GW w) (h : qx.f zD = some r) :
  Calls Tryz.prog 12 #[.agg #[.slice yF zD.length yG]] w fun e w' => ∃ Ve : Value, e = .returned (Ve) ∧ Kd.N jY 60 w' w.heap.size (fun k_ => (QW k_ ∨ w.heap.size ≤ k_)) Ve r ∧ Below w.heap.size w w' := by
 have zy6 := Tryz.underlying24
 have HG := zx.mk hG
 clear hG
 have Zy := zx.mk (show Kd.V jY 60 w w.heap.size (fun k_ => (QW k_ ∨ w.heap.size ≤ k_)) (.slice yF zD.length yG) zD from Kd.zxK zZ1 (fun k_ hk => .inl hk))
 have HB := zx.mk (Below.refl w.heap.size w)
 have H : ((uw.f).bind fun Xh => (if Xh.length + zD.length < 1353245080339 then (some (Xh ++ zD)) else (none))) = some r := h
 clear h
 replace H := Option.bind_eq_some_iff.mp H
 obtain ⟨Xh, A20, H⟩ := H
 replace H : (if Xh.length + zD.length < 1353245080339 then (some (Xh ++ zD)) else (none)) = some r := H
 have A2 := zx.mk A20
 clear A20
 by_cases c3 : Xh.length + zD.length < 1353245080339
 ·rw [if_pos c3] at H
  have zXH := zx.mk c3
  clear c3
  obtain ⟨zXI, J6⟩ : ∃ y_ : List (uR), y_ = (Xh ++ zD) := ⟨_, rfl⟩
  replace H : (some zXI) = some r := by first | (rw [J6]; with_reducible exact H) | (have uF := (Option.bind_some _ _).symm.trans H; rw [J6]; with_reducible exact uF) | (have uF := (Option.bind_some _ _).symm.trans H; with_reducible exact uF) | with_reducible exact H | (rw [J6]; exact H) | exact H
  have zZ2 := zx.mk J6
  clear J6
  obtain rfl := Option.some.inj H
  go_enter Tryz.func12, Tryz.ntmps12
  try go_wp2_with (first | ((with_reducible refine qw (N := 1) rfl ?_); refine qL ?hg (N := 1) ?hd (cs := #[.slice yF zD.length yG]) (t := 24) ?hr ?_; (case hd => rfl); (case hg => rfl); (case hr => first | (go_simp; done) | (go_simp; rfl)); intro ZE hg w4 qN hb; have zX := zx.mk (Kd.zkn (Kd.zjV (by (with_reducible repeat (first | apply Kd.Ki | apply Kd.Kl | apply Kd.Jo)); exact Zy.out) ZE (Nat.le_of_eq hg.symm)) hb); have zV := zx.mk (zA (zB HB.out) hb); have zf := zx.mk (qN); have zu := zx.mk ((by rw [hg]; exact (zW (zB HB.out)) : w.heap.size ≤ ZE)); have yZ := zx.mk ((by rw [hg]; exact (zW (zB HB.out)) : w.heap.size ≤ ZE)); clear Zy; clear HB; have Zy := zX; have HB := zV; have wE := zf; have zYg := zu; have zZ3 := yZ; clear zX zV zf zu yZ; clear hb qN hg))
  have zX := zx.mk (Kd.Jo Zy.out)
  have zV := zx.mk (uX wE.out)
  have zf := zx.mk (yY HB.out)
  clear Zy
  clear wE
  clear HB
  have Zy := zX
  have wE := zV
  have HB := zf
  clear zX zV zf
  refine pG (n := 5) (S := fun w' => w'.cell? ⟨ZE, 0, none⟩ = some (.slice yF zD.length yG)) (ds := []) #[false, false, false, false, false] (by kernel_rfl) rfl rfl ((zy wE.out 0).trans rfl) (fun hHeld => ?_)
  generalize w4.drew = w5 at Zy wE HB hHeld ⊢
  refine qU (i := 1) (N := some 4) (v := ?_) (a' := ?_) #[false, true, false, false, false] rfl rfl (by kernel_rfl) (fun _ _ _ h => h) (Or.inl ⟨by rfl, ?_⟩) ?_ ?_
  rotate_left
  ·intro w'
   go_simp
   with_reducible rfl
  rotate_left
  ·simp only [Act.put, List.setIfInBounds_toArray, List.set_cons_zero, List.set_cons_succ, vJ, vV]
   rfl
  refine Z4 (i := 2) (N := some 5) (v := ?_) (a' := ?_) #[false, true, true, false, false] rfl rfl (by kernel_rfl) (fun _ _ _ h => h) (Or.inl ⟨by rfl, ?_⟩) hHeld ?_ ?_
  rotate_left
  ·intro w' s0
   go_simp
   with_reducible rfl
  rotate_left
  ·simp only [Act.put, List.setIfInBounds_toArray, List.set_cons_zero, List.set_cons_succ, vJ, vV]
   rfl
  refine Ye (i := 0) (N := some 3) #[true, true, true, false, false] rfl rfl (by kernel_rfl) (by decide) (fun K hK => ?_)
  refine Yf Tryz.func19 (by kernel_rfl) rfl #[] (by rfl) rfl rfl (by (try simp only [List.map_toArray, List.map_cons, List.map_nil]); first | done | rfl | (simp only [List.length_drop, List.length_take]; rfl)) ?_
  with_reducible refine (uw.calls  Xh _ ?yO A2.out).mono ?_
  (case yO => exact GW.under HG.out (zB HB.out))
  rintro e w6 ⟨v127, rfl, ho0, hb⟩
  refine ⟨_, rfl, ?_⟩
  have zX := zx.mk (Kd.zjJ (by (with_reducible repeat (first | apply Kd.Ki | apply Kd.Kl | apply Kd.Jo)); exact Zy.out) (Kd.ZP ho0) hb)
  have zV := zx.mk (Kd.wH (Kd.yM (ok' := fun k_ => (QW k_ ∨ w.heap.size ≤ k_) ∧ k_ ≠ ZE) (Kd.S_N (Kd.Qm ho0)) (fun k_ vN => ⟨(.inr (Nat.le_trans (zW (zB HB.out)) vN.2.1)), (Kd.xJ (g := ZE) (o := .cells #[.slice yF zD.length yG] 24 (0, 0)) (zU wE.out) k_ vN.2.1)⟩)) (zW (zB HB.out)))
  have zf := zx.mk (zm (g := ZE) (o := .cells #[.slice yF zD.length yG] 24 (0, 0)) (zU wE.out) hb)
  have zu := zx.mk (zA (zB HB.out) hb)
  clear Zy
  clear wE
  clear HB
  have Zy := zX
  have zq0 := zV
  have wE := zf
  have HB := zu
  clear zX zV zf zu
  (try clear hb)
  (try clear hb2)
  (try clear hk)
  (try clear hi)
  (try clear ho0)
  refine hK.out _ _ ((zy wE.out 0).trans rfl) (fun hHeld => ?_)
  clear hK K
  refine wB (a' := ?_) ?_ ?_
  rotate_left
  ·show Act.put _ (some 3) _ = _
   simp only [Act.put, List.setIfInBounds_toArray, List.set_cons_zero, List.set_cons_succ, vJ, vV]
   rfl
  refine Ye (i := 3) (N := some 6) #[true, true, true, true, false] rfl rfl (by kernel_rfl) (by decide) (fun K hK => ?_)
  refine Kd.Vb jY (w0 := w) w.heap.size (by rfl) (.tmp 3) (.tmp 5) 22 60 (.agg #[(.string ⟨#[]⟩), (.bool false), (.int .i64 0), (.slice none 0 0), (.slice none 0 0), (.slice none 0 0)]) 104 rfl Tryz.underlying22 zyY rfl (by decide) (by omega) v127 Xh zD _ _ _ (fun k_ => (QW k_ ∨ w.heap.size ≤ k_) ∧ k_ ≠ ZE) (fun k_ => ((fun k_ => (QW k_ ∨ w.heap.size ≤ k_) ∧ k_ ≠ ZE)) k_ ∧ some k_ ≠ (v127 : Value).ownBlock) rfl rfl ?aO ?aR (fun _ hk => hk) ?aF ?aB ?aS ?aL ?_
  (case aR => exact (by skip; exact Kd.V_F (Kd.zxK (ok' := (fun k_ => ((fun k_ => (QW k_ ∨ w.heap.size ≤ k_) ∧ k_ ≠ ZE)) k_ ∧ some k_ ≠ (v127 : Value).ownBlock)) (Zy.out) (fun k_ hk => ⟨⟨hk.1.1, hk.1.2⟩, hk.2⟩))))
  (case aB => exact (zB HB.out))
  (case aF => exact (fun k_ hk => ⟨(.inr (Nat.le_trans (zW (zB HB.out)) hk)), Kd.xJ (g := ZE) (o := .cells #[.slice yF zD.length yG] 24 (0, 0)) (zU wE.out) k_ hk⟩))
  (case aO => exact (by (with_reducible repeat (first | apply Kd.qD | apply Kd.qF | apply Kd.qE)); exact zq0.out))
  (case aS => exact (zW (zB HB.out)))
  (case aL => have := zXH.out; omega)
  intro v130 w7 ho hb hg hat
  rw [← zZ2.out] at ho
  have zX := zx.mk (Kd.zjX (ok := (fun k_ => (QW k_ ∨ w.heap.size ≤ k_) ∧ k_ ≠ ZE)) (by (with_reducible repeat (first | apply Kd.Ki | apply Kd.Kl | apply Kd.Jo)); exact Zy.out) hg hat)
  have zV := zx.mk (qj (g := ZE) (o := .cells #[.slice yF zD.length yG] 24 (0, 0)) (zU wE.out) hg (Kd.YL zq0.out wE.out (by decide)))
  have zf := zx.mk (hb)
  have zu := zx.mk (ho)
  clear Zy
  clear wE
  clear HB
  clear zq0
  have Zy := zX
  have wE := zV
  have HB := zf
  have zZ4 := zu
  clear zX zV zf zu
  clear ho hb hg hat
  refine hK.out _ _ ((zy wE.out 0).trans rfl) (fun hHeld => ?_)
  clear hK K
  refine wB (a' := ?_) ?_ ?_
  rotate_left
  ·show Act.put _ (some 6) _ = _
   simp only [Act.put, List.setIfInBounds_toArray, List.set_cons_zero, List.set_cons_succ, vJ, vV]
   rfl
  refine qU (i := 4) (N := some 2) (v := ?_) (a' := ?_) #[true, true, true, true, true] rfl rfl (by kernel_rfl) (fun _ _ _ h => h) (Or.inl ⟨by rfl, ?_⟩) ?_ ?_
  rotate_left
  ·intro w'
   go_simp
   with_reducible rfl
  rotate_left
  ·simp only [Act.put, List.setIfInBounds_toArray, List.set_cons_zero, List.set_cons_succ, vJ, vV]
   rfl
  refine wX (by kernel_rfl) ?_
  try go_wp2
  go_ret
  exact ⟨_, by first | rfl | (simp [zG, zH] <;> rfl) | (simp [*, zG, zH] <;> rfl), by (with_reducible repeat (first | apply Kd.qD | apply Kd.qF | apply Kd.qE)); exact Kd.yM zZ4.out (fun _ hk => hk.1), by repeat (first | (with_reducible first | exact HB.out | apply yj | apply zN | apply yY | refine qb ?_ zZ3.out) | exact HB.out)⟩
 ·rw [if_neg c3] at H
  exact absurd H (by simp)
end Go.Proofs.YtggifbbiiickmaaGreatDoor.PX
namespace Go.Proofs.YtggifbbiiickmaaGreatDoor
open Go.RowKit Go.Proofs.zk.zK Go.Proofs.zk.yQ Go.Proofs.zk.yX Go.Proofs.YtggifbbiiickmaaGreatDoor.PX
set_option linter.unusedSimpArgs false
set_option linter.unusedVariables false
theorem zx4 (b : vO) (hl : b.f6.length ≤ 1000000000) : ∀ d i, i + d = b.f6.length → Ev (fun k => zl.l0 k (i : Int) b.f0 b.f1 b.f2 b.f3 b.f4 b.f5 b.f6 b.f0 b.f1 b.f2 b.f3 b.f4 b.f5 b.f6) true := by
 intro d
 induction d with
 | zero => intro i h; exact Ev.step (fun k => by rw [zl.l0]) (jP (by omega) (Ev.now _))
 | succ d ih =>
  intro i h
  have hw : wrap64 ((i : Int) + 1) = ((i + 1 : Nat) : Int) := (ZG (by omega) (by omega)).trans (by omega)
  have q1 : (i : Int) < (b.f6.length : Int) := by omega
  have q2 : (0 : Int) ≤ (i : Int) := by omega
  have hr := ih (i + 1) (by omega)
  exact Ev.step (fun k => by rw [zl.l0, hw]) (qc q1 (qc q2 (qc q1 (qc rfl hr))))
theorem sO (b : vO) (hl : b.f6.length ≤ 1000000000) : Ev (fun k => zl.f k b.f0 b.f1 b.f2 b.f3 b.f4 b.f5 b.f6 b.f0 b.f1 b.f2 b.f3 b.f4 b.f5 b.f6) true := by
 have h : Ev (fun k => zl.l0 k 0 b.f0 b.f1 b.f2 b.f3 b.f4 b.f5 b.f6 b.f0 b.f1 b.f2 b.f3 b.f4 b.f5 b.f6) true := zx4 b hl b.f6.length 0 (by omega)
 have e : ((b.f6.length : Int) != (b.f6.length : Int)) = false := by simp
 have h0 : Ev (fun k => zl.j0 k false b.f0 b.f1 b.f2 b.f3 b.f4 b.f5 b.f6 b.f0 b.f1 b.f2 b.f3 b.f4 b.f5 b.f6) true :=
  Ev.step (fun k => by rw [zl.j0]) (jP Bool.false_ne_true h)
 exact Ev.congr (fun k => by rw [zl.f, e]) (qc rfl (qc rfl (qc rfl (qc rfl (qc rfl (qc rfl h0))))))
theorem zy7 (l : List vO) (hl : l.length ≤ 1000000000) (hb : ∀ b ∈ l, b.f6.length ≤ 1000000000) : ∀ d i, i + d = l.length → Ev (fun k => zF.l0 k l l (i : Int)) true := by
 intro d
 induction d with
 | zero => intro i h; exact Ev.step (fun k => by rw [zF.l0]) (jP (by omega) (Ev.now _))
 | succ d ih =>
  intro i h
  have hi : i < l.length := by omega
  have hw : wrap64 ((i : Int) + 1) = ((i + 1 : Nat) : Int) := (ZG (by omega) (by omega)).trans (by omega)
  have q1 : (i : Int) < (l.length : Int) := by omega
  have q2 : (0 : Int) ≤ (i : Int) := by omega
  have hr := ih (i + 1) (by omega)
  have hd := rdB l i _ (List.getElem?_eq_getElem hi)
  have hs := sO l[i] (hb _ (List.getElem_mem hi))
  exact Ev.step (fun k => by rw [zF.l0, hw, hd]) (qc q1 (qc q2 (qc q1 (Ev.bind hs (qc rfl hr)))))
theorem zx5 (l : List vO) (hl : l.length ≤ 1000000000) (hb : ∀ b ∈ l, b.f6.length ≤ 1000000000) : Ev (fun k => zF.f k l l) true :=
 Ev.congr (fun k => by rw [zF.f]; rfl) (qc rfl (zy7 l hl hb l.length 0 (by omega)))
theorem zy8 (l : List ByteArray) (hl : l.length ≤ 1000000000) : ∀ d i, i + d = l.length → Ev (fun k => yx.l0 k l l (i : Int)) true := by
 intro d
 induction d with
 | zero => intro i h; exact Ev.step (fun k => by rw [yx.l0]) (jP (by omega) (Ev.now _))
 | succ d ih =>
  intro i h
  have hw : wrap64 ((i : Int) + 1) = ((i + 1 : Nat) : Int) := (ZG (by omega) (by omega)).trans (by omega)
  have q1 : (i : Int) < (l.length : Int) := by omega
  have q2 : (0 : Int) ≤ (i : Int) := by omega
  have hr := ih (i + 1) (by omega)
  exact Ev.step (fun k => by rw [yx.l0, hw]) (qc q1 (qc q2 (qc q1 (qc rfl hr))))
theorem zx6 (l : List ByteArray) (hl : l.length ≤ 1000000000) : Ev (fun k => yx.f k l l) true :=
 Ev.congr (fun k => by rw [yx.f]; rfl) (qc rfl (zy8 l hl l.length 0 (by omega)))
def okM (x : y8) : Prop := x.f3.length ≤ 140737488355328 ∧ x.f4.length ≤ 140737488355328 ∧ x.f5.length ≤ 140737488355328
theorem zXL (n a b c : Int) (h0 : 0 ≤ n) (h1 : n ≤ 4222124650659840) (ha : 0 ≤ a) (ha1 : a ≤ 140737488355328) (hb : 0 ≤ b) (hb1 : b ≤ 140737488355328) (hc : 0 ≤ c) (hc1 : c ≤ 140737488355328) : wrap64 (wrap64 (wrap64 (n + a) + b) + c) = n + a + b + c := by
 rw [ZG (x := n + a) (by omega) (by omega), ZG (x := n + a + b) (by omega) (by omega), ZG (by omega) (by omega)]
theorem zk1 (l : List y8) (hl : l.length ≤ 2000000000000) (hM : ∀ x ∈ l, okM x) : ∀ d i n, i + d = l.length →
  ∃ b, Ev (fun k => yP.l0 k n (i : Int) l) b ∧ (b = false → l.length ≤ 10 ∧ (0 ≤ n → n ≤ (i : Int) * 422212465065984 → (∀ x ∈ l.drop i, x.f3.length ≤ 1200 ∧ x.f4.length ≤ 1200 ∧ x.f5.length ≤ 1200) ∧ n ≤ 1200)) := by
 intro d
 induction d with
 | zero =>
  intro i n h
  by_cases hn : n > 1200
  ·exact ⟨true, Ev.step (fun k => by rw [yP.l0]) (jP (by omega) (qc hn (Ev.now _))), fun h => by cases h⟩
  ·refine ⟨decide ((l.length : Int) > 10), Ev.step (fun k => by rw [yP.l0]) (jP (by omega) (jP hn (Ev.now _))), fun hd => ⟨?_, fun _ _ => ⟨fun x hx => ?_, by omega⟩⟩⟩
   ·have := of_decide_eq_false hd; omega
   ·rw [List.drop_eq_nil_of_le (by omega)] at hx; cases hx
 | succ d ih =>
  intro i n h
  have hi : i < l.length := by omega
  have hw : wrap64 ((i : Int) + 1) = ((i + 1 : Nat) : Int) := (ZG (by omega) (by omega)).trans (by omega)
  have q1 : (i : Int) < (l.length : Int) := by omega
  have q2 : (0 : Int) ≤ (i : Int) := by omega
  have hd : xU l (i : Int) = l[i] := by simp [xU, List.getD_eq_getElem?_getD, hi]
  obtain ⟨m1, m2, m3⟩ := hM _ (List.getElem_mem hi)
  have hdr : l.drop i = l[i] :: l.drop (i + 1) := List.drop_eq_getElem_cons hi
  generalize l[i] = x at hd m1 m2 m3 hdr
  obtain ⟨b, hb, hf⟩ := ih (i + 1) (wrap64 (wrap64 (wrap64 (n + (x.f3.length : Int)) + (x.f4.length : Int)) + (x.f5.length : Int))) (by omega)
  refine ⟨b, Ev.step (fun k => by rw [yP.l0, hw, hd]) (qc q1 (qc q2 hb)), fun hbf => ?_⟩
  obtain ⟨h1, h2⟩ := hf hbf
  refine ⟨h1, fun n0 n1 => ?_⟩
  rw [zXL n _ _ _ n0 (by omega) (by omega) (by omega) (by omega) (by omega) (by omega) (by omega)] at h2
  obtain ⟨g1, g2⟩ := h2 (by omega) (by omega)
  refine ⟨fun y hy => ?_, by omega⟩
  rw [hdr] at hy
  rcases List.mem_cons.1 hy with rfl | hy
  ·omega
  ·exact g1 y hy
theorem zvm (l : List y8) (hl : l.length ≤ 2000000000000) (hM : ∀ x ∈ l, okM x) : ∃ b, Ev (fun k => yP.f k l) b ∧ (b = false → l.length ≤ 10 ∧ ∀ x ∈ l, x.f3.length ≤ 1200 ∧ x.f4.length ≤ 1200 ∧ x.f5.length ≤ 1200) := by
 obtain ⟨b, h1, h2⟩ := zk1 l hl hM l.length 0 0 (by omega)
 refine ⟨b, Ev.congr (fun k => by rw [yP.f]; rfl) h1, fun h => ?_⟩
 obtain ⟨g1, g2⟩ := h2 h
 have := (g2 (Int.le_refl _) (by omega)).1
 rw [List.drop_zero] at this
 exact ⟨g1, this⟩
theorem zZ5 (l : List y8) (hl : l.length ≤ 1000) : qx.f l = some (YU ++ l) := by
 unfold qx.f
 show (some YU).bind _ = _
 rw [Option.bind_some, if_pos (by rw [PV]; omega)]
theorem zy9 (l : List y8) (h : ∀ x ∈ l, x.f3.length ≤ 1200 ∧ x.f4.length ≤ 1200 ∧ x.f5.length ≤ 1200) : (YU ++ l).all okF = true := by
 rw [List.all_append, zkT, Bool.true_and, List.all_eq_true]
 intro x hx
 have := h x hx
 exact decide_eq_true (by omega)
end Go.Proofs.YtggifbbiiickmaaGreatDoor
namespace Go.Proofs.YtggifbbiiickmaaGreatDoor.PX
open Go.RowKit Go.Proofs.zk.zK Go.Proofs.zk.yQ Go.Proofs.zk.yX
attribute [local go_sem] jZ jQ jL jM uD uE jX jJ   -- for this text's walks alone
set_option linter.unusedVariables false
set_option linter.unusedSimpArgs false
mutual
def zZ.j0 : Nat → List ByteArray → List ByteArray → Bool → List (uR) → Option (Bool)
 | 0, _, _, _, _ => none
 | k + 1, x1, x2, x26, bY => if x26 = true then ((yC.f).bind fun bW => (some bW)) else ((qx.f bY).bind fun uP => ((yE.f uP 0 12 false false x1 ([] : List (uI))).bind fun wY => ((qx.f bY).bind fun uh => ((yE.f uh 0 12 false false x2 ([] : List (uI))).bind fun uf => ((qx.f bY).bind fun kS => ((some (([] : List ByteArray) : List ByteArray)).bind fun jD => (if jD.length + x1.length < 8796093022208 then ((some (jD ++ x1 : List ByteArray)).bind fun jh => (if jh.length + x2.length < 8796093022208 then ((yE.f kS 0 12 false false (jh ++ x2) ([] : List (uI))).bind fun y7 => (if wY.2.2 = 0 then (zZ.j1 k wY.1 wY.2.1 uf.1 uf.2.1 y7.1 y7.2.1 y7.2.2 (uf.2.2 != 0)) else (zZ.j1 k wY.1 wY.2.1 uf.1 uf.2.1 y7.1 y7.2.1 y7.2.2 true))) else (none))) else (none))))))))
def zZ.j1 : Nat → List (jR) → List ByteArray → List (jR) → List ByteArray → List (jR) → List ByteArray → Int → Bool → Option (Bool)
 | 0, _, _, _, _, _, _, _, _ => none
 | k + 1, x8, x9, dw, x12, x14, x15, x16, x65 => if x65 = true then (if x16 = 0 then (some false) else ((yC.f).bind fun bf => (some bf))) else (if x16 = 0 then ((some (([] : List (jR)) : List (jR))).bind fun Y2 => (if Y2.length + x8.length < 1599289640401 then ((some (Y2 ++ x8 : List (jR))).bind fun ZL => (if ZL.length + dw.length < 1599289640401 then ((zF.f k x14 (ZL ++ dw)).bind fun Xi => (if Xi = true then ((some (([] : List ByteArray) : List ByteArray)).bind fun jO => (if jO.length + x9.length < 8796093022208 then ((some (jO ++ x9 : List ByteArray)).bind fun jW => (if jW.length + x12.length < 8796093022208 then ((yx.f k x15 (jW ++ x12)).bind fun kU => (if kU = true then ((yC.f).bind fun j3 => (some j3)) else (some false))) else (none))) else (none))) else (some false))) else (none))) else (none))) else (some false))
end
def zZ.f (k : Nat) (zD : List (uR)) (l1 : List ByteArray) (l2 : List ByteArray) : Option (Bool) := (yP.f k zD).bind fun bg => (if bg = true then (zZ.j0 k l1 l2 true zD) else (zZ.j0 k l1 l2 (decide ((wrap64 ((l1.length : Int) + (l2.length : Int))) > 300)) zD))
def zZ.T4 : Bool × List (List Nat × List Nat) := (true, [([], []), ([0], [0]), ([], []), ([], []), ([1, 2, 3, 1], [1, 2, 3]), ([4], [4]), ([5], [5]), ([5], [5]), ([5], [5]), ([6, 4, 0, 1, 2, 3, 4, 5, 6], [6]), ([7, 9, 0, 1, 2, 3, 4, 5, 6, 7, 9], [7]), ([8, 10, 0, 1, 2, 3, 4, 5, 6, 7, 8, 9, 10], [8])])
def zZ.B4 : List Nat := [0, 1, 0, 0, 15, 31, 63, 63, 63, 127, 767, 2047]
theorem zZ.zqs : vk .any (opsOf Tryz.f5 4) = zZ.T4 := by kernel_rfl
theorem zZ.zZ6 : um zZ.T4.2 zZ.B4 = true := by kernel_rfl
def zZ.T5 : Bool × List (List Nat × List Nat) := (true, [([], []), ([0], [0]), ([], []), ([], []), ([1, 2, 3, 1], [1, 2, 3]), ([4], [4]), ([5], [5]), ([5], [5]), ([5], [5]), ([6, 4, 0, 1, 2, 3, 4, 5, 6], [6]), ([7, 9, 0, 1, 2, 3, 4, 5, 6, 7, 9], [7]), ([8, 10, 0, 1, 2, 3, 4, 5, 6, 7, 8, 9, 10], [8])])
def zZ.B5 : List Nat := [0, 1, 0, 0, 15, 31, 63, 63, 63, 127, 767, 2047]
theorem zZ.mh : vk .any (opsOf Tryz.f5 5) = zZ.T5 := by kernel_rfl
theorem zZ.zqf : um zZ.T5.2 zZ.B5 = true := by kernel_rfl
def zZ.T6 : Bool × List (List Nat × List Nat) := (true, [([], []), ([0], [0]), ([], []), ([], []), ([], []), ([3, 4, 1], [3, 4]), ([], []), ([5, 6, 5], [5, 6]), ([1, 2, 7, 7], [1, 2, 7]), ([8], [8]), ([9], [9]), ([9], [9]), ([9], [9]), ([10, 8, 0, 1, 2, 3, 4, 5, 6, 7, 8, 9, 10], [10]), ([11, 13, 0, 1, 2, 3, 4, 5, 6, 7, 8, 9, 10, 11, 13], [11]), ([12, 14, 0, 1, 2, 3, 4, 5, 6, 7, 8, 9, 10, 11, 12, 13, 14], [12])])
def zZ.B6 : List Nat := [0, 1, 0, 0, 0, 27, 0, 123, 255, 511, 1023, 1023, 1023, 2047, 12287, 32767]
theorem zZ.zqU : vk .any (opsOf Tryz.f5 6) = zZ.T6 := by kernel_rfl
theorem zZ.dR : um zZ.T6.2 zZ.B6 = true := by kernel_rfl
set_option maxHeartbeats 8000000 in
set_option maxRecDepth 100000 in
theorem zZ.calls (k : Nat) (yF : Option Addr) (yG : Nat) (zD : List (uR)) (A1 : Option Addr) (c1 : Nat) (l1 : List ByteArray) (A2 : Option Addr) (c2 : Nat) (l2 : List ByteArray) (r : Bool) (w : World) (J4 : Kd.C jY w yF zD.length zD) (J5 : zD.length ≤ yG) (hr1 : Kd.C Kd.string w A1 l1.length l1) (hc1 : l1.length ≤ c1) (hr2 : Kd.C Kd.string w A2 l2.length l2) (hc2 : l2.length ≤ c2) (hG : GW w) (h : zZ.f k zD l1 l2 = some r) :
  Calls Tryz.prog 5 #[.agg #[.slice yF zD.length yG], .slice A1 l1.length c1, .slice A2 l2.length c2] w fun e w' => e = .returned (.bool r) ∧ Below w.heap.size w w' := by
 have zy6 := Tryz.underlying24
 have zvv := Tryz.underlying26
 have HG := zx.mk hG
 clear hG
 have XZ := zx.mk J4
 have VZ := zx.mk J5
 clear J4 J5
 have HR1 := zx.mk hr1
 have HC1 := zx.mk hc1
 clear hr1 hc1
 have HR2 := zx.mk hr2
 have HC2 := zx.mk hc2
 clear hr2 hc2
 have HB := zx.mk (Below.refl w.heap.size w)
 have H : ((yP.f k zD).bind fun bg => (if bg = true then (zZ.j0 k l1 l2 true zD) else (zZ.j0 k l1 l2 (decide ((wrap64 ((l1.length : Int) + (l2.length : Int))) > 300)) zD))) = some r := h
 clear h
 have HC4 := zx.mk H
 clear H
 go_enter Tryz.func5, Tryz.ntmps5
 go_upto_region 1 with (first | ((with_reducible refine qw (N := 3) rfl ?_); (try (refine qV (by rfl) ?_; dsimp only)); refine qL ?hg (N := 3) ?hd (cs := #[.slice yF zD.length yG]) (t := 24) ?hr ?_; (case hd => rfl); (case hg => rfl); (case hr => first | (go_simp; done) | (go_simp; rfl)); intro zh hg w5 qN hb; have zX := zx.mk (zA (zB HB.out) hb); have zV := zx.mk (qN); have zf := zx.mk ((by rw [hg]; exact (zW (zB HB.out)) : w.heap.size ≤ zh)); have zu := zx.mk ((by rw [hg]; exact (zW (zB HB.out)) : w.heap.size ≤ zh)); clear HB; have HB := zX; have zY := zV; have dU := zf; have VQ := zu; clear zX zV zf zu; clear hb qN hg))
 (try simp only [Act.put, List.setIfInBounds_toArray, List.set_cons_zero, List.set_cons_succ])
 go_cut [26] (fun v26 wc => ∃ (kq : Nat) (d9 : Bool), v26 = .bool d9 ∧ zx (zZ.j0 kq l1 l2 d9 zD = some r) ∧ zx (kq ≤ k) ∧ zx (wc.heap[zh]? = some (.cells #[(.slice yF zD.length yG)] 24 (0, 0))) ∧ zx (Below w.heap.size w wc))
 case first =>
  have H := HC4.out
  clear HC4
  replace H := Option.bind_eq_some_iff.mp H
  obtain ⟨bg, mZ, H⟩ := H
  replace H : (if bg = true then (zZ.j0 k l1 l2 true zD) else (zZ.j0 k l1 l2 (decide ((wrap64 ((l1.length : Int) + (l2.length : Int))) > 300)) zD)) = some r := H
  have A6 := zx.mk mZ
  clear mZ
  by_cases c7 : bg = true
  ·subst c7
   have H1 : (zZ.j0 k l1 l2 true zD) = some r := by rw [if_pos rfl] at H; exact H
   clear H
   have H := H1
   clear H1
   have H' := zx.mk H
   clear H
   have zx2 : w5.cell? ⟨zh, 0, none⟩ = some (.slice yF zD.length yG) := (zy zY.out 0).trans rfl
   have zx3 := zw zY.out 0
   go_wp2_with (first | ((with_reducible refine yL (f := 10) rfl ?_); refine kF (some 18) Tryz.func10 #[.agg #[.slice yF zD.length yG]] ?_; (with_reducible refine (yP.calls k _ _ zD true _ ?yO ?qd A6.out).mono ?_); (case yO => repeat (first | exact (Kd.zC XZ.out HB.out) | (with_reducible refine Kd.yJ ?_ _) | (with_reducible refine Kd.yV ?_ _) | (with_reducible refine Kd.yH ?_))); (case qd => exact VZ.out); rintro e w9 ⟨rfl, hb⟩; refine ⟨_, rfl, ?_⟩; have zX := zx.mk (zm (g := zh) (o := .cells #[.slice yF zD.length yG] 24 (0, 0)) (zU zY.out) hb); have zV := zx.mk (zA (zB HB.out) hb); clear zY; clear HB; have zY := zX; have HB := zV; clear zX zV; (try clear hb); (try clear hb2); (try clear hk); (try clear hi)))
   go_meet
   case rel => exact ⟨_, (true), (by first | rfl | (simp; done) | (simp [*]; done)), H', ⟨by first | omega | exact Nat.le_refl _⟩, ⟨zU zY.out⟩, ⟨zB HB.out⟩⟩
  ·replace c7 := Bool.eq_false_iff.mpr c7
   subst c7
   have H1 : (zZ.j0 k l1 l2 (decide ((wrap64 ((l1.length : Int) + (l2.length : Int))) > 300)) zD) = some r := by rw [if_neg (show ¬ (false = true) by decide)] at H; exact H
   clear H
   have H := H1
   clear H1
   have H' := zx.mk H
   clear H
   have zk2 : w5.cell? ⟨zh, 0, none⟩ = some (.slice yF zD.length yG) := (zy zY.out 0).trans rfl
   have zk3 := zw zY.out 0
   go_wp2_with (first | ((with_reducible refine yL (f := 10) rfl ?_); refine kF (some 18) Tryz.func10 #[.agg #[.slice yF zD.length yG]] ?_; (with_reducible refine (yP.calls k _ _ zD false _ ?yO ?qd A6.out).mono ?_); (case yO => repeat (first | exact (Kd.zC XZ.out HB.out) | (with_reducible refine Kd.yJ ?_ _) | (with_reducible refine Kd.yV ?_ _) | (with_reducible refine Kd.yH ?_))); (case qd => exact VZ.out); rintro e Ul ⟨rfl, hb⟩; refine ⟨_, rfl, ?_⟩; have zX := zx.mk (zm (g := zh) (o := .cells #[.slice yF zD.length yG] 24 (0, 0)) (zU zY.out) hb); have zV := zx.mk (zA (zB HB.out) hb); clear zY; clear HB; have zY := zX; have HB := zV; clear zX zV; (try clear hb); (try clear hb2); (try clear hk); (try clear hi)))
   go_meet
   case rel => exact ⟨_, (decide ((wrap64 ((l1.length : Int) + (l2.length : Int))) > 300)), (by first | rfl | (simp; done) | (simp [*]; done)), H', ⟨by first | omega | exact Nat.le_refl _⟩, ⟨zU zY.out⟩, ⟨zB HB.out⟩⟩
 case rest =>
  clear HC4
  try clear c1
  try clear c2
  try clear p2
  try clear c5
  try clear p6
  try clear c7
  try clear c10
  try clear zk2
  try clear zx2
  try clear zk3
  try clear zx3
  obtain ⟨kq, d9, rfl, HA, fq, zY, HB⟩ := hcut
  cases kq with
  | zero => exact absurd HA.out (by simp [zZ.j0])
  | succ Z0 =>
   have H := HA.out
   clear HA
   simp only [zZ.j0] at H
   by_cases c12 : d9 = true
   ·subst c12
    have H1 : ((yC.f).bind fun bW => (some bW)) = some r := by rw [if_pos rfl] at H; exact H
    clear H
    have H := H1
    clear H1
    replace H := Option.bind_eq_some_iff.mp H
    obtain ⟨bW, zwz, H⟩ := H
    replace H : (some bW) = some r := H
    have A13 := zx.mk zwz
    clear zwz
    obtain rfl := Option.some.inj H
    go_wp2_with (first | ((with_reducible refine yL (f := 11) rfl ?_); refine kF (some 27) Tryz.func11 #[] ?_; (with_reducible refine (yC.calls  bW _ ?yO A13.out).mono ?_); (case yO => exact GW.under HG.out (zB HB.out)); rintro e dA ⟨rfl, hb⟩; refine ⟨_, rfl, ?_⟩; have zX := zx.mk (zm (g := zh) (o := .cells #[.slice yF zD.length yG] 24 (0, 0)) (zU zY.out) hb); have zV := zx.mk (zA (zB HB.out) hb); clear zY; clear HB; have zY := zX; have HB := zV; clear zX zV; (try clear hb); (try clear hb2); (try clear hk); (try clear hi)))
    go_ret
    exact ⟨by first | rfl | (simp [zG, zH] <;> rfl) | (simp [*, zG, zH] <;> rfl), by repeat (first | (with_reducible first | exact HB.out | apply yj | apply zN | apply yY | refine qb ?_ VQ.out) | exact HB.out)⟩
   ·replace c12 := Bool.eq_false_iff.mpr c12
    subst c12
    have H1 : ((qx.f zD).bind fun uP => ((yE.f uP 0 12 false false l1 ([] : List (uI))).bind fun wY => ((qx.f zD).bind fun uh => ((yE.f uh 0 12 false false l2 ([] : List (uI))).bind fun uf => ((qx.f zD).bind fun kS => ((some (([] : List ByteArray) : List ByteArray)).bind fun jD => (if jD.length + l1.length < 8796093022208 then ((some (jD ++ l1 : List ByteArray)).bind fun jh => (if jh.length + l2.length < 8796093022208 then ((yE.f kS 0 12 false false (jh ++ l2) ([] : List (uI))).bind fun y7 => (if wY.2.2 = 0 then (zZ.j1 Z0 wY.1 wY.2.1 uf.1 uf.2.1 y7.1 y7.2.1 y7.2.2 (uf.2.2 != 0)) else (zZ.j1 Z0 wY.1 wY.2.1 uf.1 uf.2.1 y7.1 y7.2.1 y7.2.2 true))) else (none))) else (none)))))))) = some r := by rw [if_neg (show ¬ (false = true) by decide)] at H; exact H
    clear H
    have H := H1
    clear H1
    replace H := Option.bind_eq_some_iff.mp H
    obtain ⟨uP, zwq, H⟩ := H
    replace H : ((yE.f uP 0 12 false false l1 ([] : List (uI))).bind fun wY => ((qx.f zD).bind fun uh => ((yE.f uh 0 12 false false l2 ([] : List (uI))).bind fun uf => ((qx.f zD).bind fun kS => ((some (([] : List ByteArray) : List ByteArray)).bind fun jD => (if jD.length + l1.length < 8796093022208 then ((some (jD ++ l1 : List ByteArray)).bind fun jh => (if jh.length + l2.length < 8796093022208 then ((yE.f kS 0 12 false false (jh ++ l2) ([] : List (uI))).bind fun y7 => (if wY.2.2 = 0 then (zZ.j1 Z0 wY.1 wY.2.1 uf.1 uf.2.1 y7.1 y7.2.1 y7.2.2 (uf.2.2 != 0)) else (zZ.j1 Z0 wY.1 wY.2.1 uf.1 uf.2.1 y7.1 y7.2.1 y7.2.2 true))) else (none))) else (none))))))) = some r := H
    have A15 := zx.mk zwq
    clear zwq
    replace H := Option.bind_eq_some_iff.mp H
    obtain ⟨⟨xC, qm, YA⟩, zwx, H⟩ := H
    replace H : ((qx.f zD).bind fun uh => ((yE.f uh 0 12 false false l2 ([] : List (uI))).bind fun uf => ((qx.f zD).bind fun kS => ((some (([] : List ByteArray) : List ByteArray)).bind fun jD => (if jD.length + l1.length < 8796093022208 then ((some (jD ++ l1 : List ByteArray)).bind fun jh => (if jh.length + l2.length < 8796093022208 then ((yE.f kS 0 12 false false (jh ++ l2) ([] : List (uI))).bind fun y7 => (if YA = 0 then (zZ.j1 Z0 xC qm uf.1 uf.2.1 y7.1 y7.2.1 y7.2.2 (uf.2.2 != 0)) else (zZ.j1 Z0 xC qm uf.1 uf.2.1 y7.1 y7.2.1 y7.2.2 true))) else (none))) else (none)))))) = some r := H
    have A16 := zx.mk zwx
    clear zwx
    replace H := Option.bind_eq_some_iff.mp H
    obtain ⟨uh, zwj, H⟩ := H
    replace H : ((yE.f uh 0 12 false false l2 ([] : List (uI))).bind fun uf => ((qx.f zD).bind fun kS => ((some (([] : List ByteArray) : List ByteArray)).bind fun jD => (if jD.length + l1.length < 8796093022208 then ((some (jD ++ l1 : List ByteArray)).bind fun jh => (if jh.length + l2.length < 8796093022208 then ((yE.f kS 0 12 false false (jh ++ l2) ([] : List (uI))).bind fun y7 => (if YA = 0 then (zZ.j1 Z0 xC qm uf.1 uf.2.1 y7.1 y7.2.1 y7.2.2 (uf.2.2 != 0)) else (zZ.j1 Z0 xC qm uf.1 uf.2.1 y7.1 y7.2.1 y7.2.2 true))) else (none))) else (none))))) = some r := H
    have A17 := zx.mk zwj
    clear zwj
    replace H := Option.bind_eq_some_iff.mp H
    obtain ⟨⟨vD, xA, VG⟩, zwv, H⟩ := H
    replace H : ((qx.f zD).bind fun kS => ((some (([] : List ByteArray) : List ByteArray)).bind fun jD => (if jD.length + l1.length < 8796093022208 then ((some (jD ++ l1 : List ByteArray)).bind fun jh => (if jh.length + l2.length < 8796093022208 then ((yE.f kS 0 12 false false (jh ++ l2) ([] : List (uI))).bind fun y7 => (if YA = 0 then (zZ.j1 Z0 xC qm vD xA y7.1 y7.2.1 y7.2.2 (VG != 0)) else (zZ.j1 Z0 xC qm vD xA y7.1 y7.2.1 y7.2.2 true))) else (none))) else (none)))) = some r := H
    have A18 := zx.mk zwv
    clear zwv
    replace H := Option.bind_eq_some_iff.mp H
    obtain ⟨kS, zwk, H⟩ := H
    replace H : ((some (([] : List ByteArray) : List ByteArray)).bind fun jD => (if jD.length + l1.length < 8796093022208 then ((some (jD ++ l1 : List ByteArray)).bind fun jh => (if jh.length + l2.length < 8796093022208 then ((yE.f kS 0 12 false false (jh ++ l2) ([] : List (uI))).bind fun y7 => (if YA = 0 then (zZ.j1 Z0 xC qm vD xA y7.1 y7.2.1 y7.2.2 (VG != 0)) else (zZ.j1 Z0 xC qm vD xA y7.1 y7.2.1 y7.2.2 true))) else (none))) else (none))) = some r := H
    have A19 := zx.mk zwk
    clear zwk
    obtain ⟨jD, J7⟩ : ∃ y_ : List ByteArray, y_ = (([] : List ByteArray)) := ⟨_, rfl⟩
    replace H : (if jD.length + l1.length < 8796093022208 then ((some (jD ++ l1 : List ByteArray)).bind fun jh => (if jh.length + l2.length < 8796093022208 then ((yE.f kS 0 12 false false (jh ++ l2) ([] : List (uI))).bind fun y7 => (if YA = 0 then (zZ.j1 Z0 xC qm vD xA y7.1 y7.2.1 y7.2.2 (VG != 0)) else (zZ.j1 Z0 xC qm vD xA y7.1 y7.2.1 y7.2.2 true))) else (none))) else (none)) = some r := by first | (rw [J7]; with_reducible exact H) | (have uF := (Option.bind_some _ _).symm.trans H; rw [J7]; with_reducible exact uF) | (have uF := (Option.bind_some _ _).symm.trans H; with_reducible exact uF) | with_reducible exact H | (rw [J7]; exact H) | exact H
    have gq := zx.mk J7
    clear J7
    by_cases c20 : jD.length + l1.length < 8796093022208
    ·rw [if_pos c20] at H
     have zZ7 := zx.mk c20
     clear c20
     obtain ⟨jh, J8⟩ : ∃ y_ : List ByteArray, y_ = (jD ++ l1) := ⟨_, rfl⟩
     replace H : (if jh.length + l2.length < 8796093022208 then ((yE.f kS 0 12 false false (jh ++ l2) ([] : List (uI))).bind fun y7 => (if YA = 0 then (zZ.j1 Z0 xC qm vD xA y7.1 y7.2.1 y7.2.2 (VG != 0)) else (zZ.j1 Z0 xC qm vD xA y7.1 y7.2.1 y7.2.2 true))) else (none)) = some r := by first | (rw [J8]; with_reducible exact H) | (have uF := (Option.bind_some _ _).symm.trans H; rw [J8]; with_reducible exact uF) | (have uF := (Option.bind_some _ _).symm.trans H; with_reducible exact uF) | with_reducible exact H | (rw [J8]; exact H) | exact H
     have zZ8 := zx.mk J8
     clear J8
     by_cases c21 : jh.length + l2.length < 8796093022208
     ·rw [if_pos c21] at H
      have zZ9 := zx.mk c21
      clear c21
      obtain ⟨zq1, J9⟩ : ∃ y_ : List ByteArray, y_ = (jh ++ l2) := ⟨_, rfl⟩
      replace H : ((yE.f kS 0 12 false false zq1 ([] : List (uI))).bind fun y7 => (if YA = 0 then (zZ.j1 Z0 xC qm vD xA y7.1 y7.2.1 y7.2.2 (VG != 0)) else (zZ.j1 Z0 xC qm vD xA y7.1 y7.2.1 y7.2.2 true))) = some r := by first | (rw [J9]; with_reducible exact H) | (have uF := (Option.bind_some _ _).symm.trans H; rw [J9]; with_reducible exact uF) | (have uF := (Option.bind_some _ _).symm.trans H; with_reducible exact uF) | with_reducible exact H | (rw [J9]; exact H) | exact H
      have zQz := zx.mk J9
      clear J9
      replace H := Option.bind_eq_some_iff.mp H
      obtain ⟨⟨kC, ZM, ZN⟩, zwy, H⟩ := H
      replace H : (if YA = 0 then (zZ.j1 Z0 xC qm vD xA kC ZM ZN (VG != 0)) else (zZ.j1 Z0 xC qm vD xA kC ZM ZN true)) = some r := H
      have A22 := zx.mk zwy
      clear zwy
      have zvn := zx.mk H
      clear H
      try go_wp2_with (first | ((with_reducible refine qw (N := 7) rfl ?_); (try (refine qV (by rfl) ?_; dsimp only)); refine qL ?hg (N := 7) ?hd (cs := #[.int .i64 0, .int .i64 0, .bool false, .bool false]) (t := 26) ?hr ?_; (case hd => rfl); (case hg => rfl); (case hr => first | (go_simp; done) | (go_simp; rfl)); intro zJ hg Un qN hb; have zX := zx.mk (zm (g := zh) (o := .cells #[.slice yF zD.length yG] 24 (0, 0)) (zU zY.out) hb); have zV := zx.mk (zA (zB HB.out) hb); have zf := zx.mk (qN); have zu := zx.mk ((by rw [hg]; exact (zW (zB HB.out)) : w.heap.size ≤ zJ)); have yZ := zx.mk ((by rw [hg]; exact (zW (zB HB.out)) : w.heap.size ≤ zJ)); have yT := zx.mk ((by rw [hg]; exact Nat.ne_of_lt (kY (g := zh) (o := .cells #[.slice yF zD.length yG] 24 (0, 0)) (zU zY.out)) : zh ≠ zJ)); have qX := zx.mk ((by rw [hg]; exact Nat.ne_of_gt (kY (g := zh) (o := .cells #[.slice yF zD.length yG] 24 (0, 0)) (zU zY.out)) : zJ ≠ zh)); clear zY; clear HB; have zY := zX; have HB := zV; have zQ := zf; have gy := zu; have UK := yZ; have zx7 := yT; have zx8 := qX; clear zX zV zf zu yZ yT qX; clear hb qN hg; have zYh := zx8.out; have zYi := zx7.out; have PE : Un.cell? ⟨zJ, 0, none⟩ = some (.int .i64 0) := (zy zQ.out 0).trans rfl; have PG : Un.cell? ⟨zJ, 1, none⟩ = some (.int .i64 0) := (zy zQ.out 1).trans rfl; have PI : Un.cell? ⟨zJ, 2, none⟩ = some (.bool false) := (zy zQ.out 2).trans rfl; have PL : Un.cell? ⟨zJ, 3, none⟩ = some (.bool false) := (zy zQ.out 3).trans rfl; have PN := zw zQ.out 0; have PO := zw zQ.out 1; have PU := zw zQ.out 2; have P5 := zw zQ.out 3))
      have zX : zx (((((Un.setCell ⟨zJ, 0, none⟩ (.int .i64 0)).setCell ⟨zJ, 1, none⟩ (.int .i64 12)).setCell ⟨zJ, 2, none⟩ (.bool false)).setCell ⟨zJ, 3, none⟩ (.bool false)).heap[zh]? = some (.cells #[.slice yF zD.length yG] 24 (0, 0))) := ⟨bfS zY.out⟩
      have zV : zx (((((Un.setCell ⟨zJ, 0, none⟩ (.int .i64 0)).setCell ⟨zJ, 1, none⟩ (.int .i64 12)).setCell ⟨zJ, 2, none⟩ (.bool false)).setCell ⟨zJ, 3, none⟩ (.bool false)).heap[zJ]? = some (.cells #[.int .i64 0, .int .i64 12, .bool false, .bool false] 26 (0, 0))) := ⟨by (with_reducible repeat (first | refine ZQ ?_ _ | refine uX ?_ | refine vP ?_ _)); refine xX (cs := #[.int .i64 0, .int .i64 12, .bool false, .bool false]) ?_ 3 _ rfl; (with_reducible repeat (first | refine ZQ ?_ _ | refine uX ?_ | refine vP ?_ _)); refine xX (cs := #[.int .i64 0, .int .i64 12, .bool false, .bool false]) ?_ 2 _ rfl; (with_reducible repeat (first | refine ZQ ?_ _ | refine uX ?_ | refine vP ?_ _)); refine xX (cs := #[.int .i64 0, .int .i64 0, .bool false, .bool false]) ?_ 1 _ rfl; (with_reducible repeat (first | refine ZQ ?_ _ | refine uX ?_ | refine vP ?_ _)); refine xX (cs := #[.int .i64 0, .int .i64 0, .bool false, .bool false]) ?_ 0 _ rfl; (with_reducible repeat (first | refine ZQ ?_ _ | refine uX ?_ | refine vP ?_ _)); exact zQ.out⟩
      have zf : zx (Below w.heap.size w ((((Un.setCell ⟨zJ, 0, none⟩ (.int .i64 0)).setCell ⟨zJ, 1, none⟩ (.int .i64 12)).setCell ⟨zJ, 2, none⟩ (.bool false)).setCell ⟨zJ, 3, none⟩ (.bool false))) := ⟨zB HB.out⟩
      (try clear zY)
      (try clear zQ)
      (try clear HB)
      generalize ((((Un.setCell ⟨zJ, 0, none⟩ (.int .i64 0)).setCell ⟨zJ, 1, none⟩ (.int .i64 12)).setCell ⟨zJ, 2, none⟩ (.bool false)).setCell ⟨zJ, 3, none⟩ (.bool false)) = w27 at zX zV zf ⊢
      have zY := zX
      have zQ := zV
      have HB := zf
      clear zX zV zf
      have zX := zx.mk (uX zY.out)
      have zV := zx.mk (uX zQ.out)
      have zf := zx.mk (yY HB.out)
      clear zY zQ HB
      have zY := zX
      have zQ := zV
      have HB := zf
      clear zX zV zf
      refine pG (n := 12) (S := fun w' => w'.cell? ⟨zh, 0, none⟩ = some (.slice yF zD.length yG) ∧ w'.cell? ⟨zJ, 0, none⟩ = some (.int .i64 0) ∧ w'.cell? ⟨zJ, 1, none⟩ = some (.int .i64 12) ∧ w'.cell? ⟨zJ, 2, none⟩ = some (.bool false) ∧ w'.cell? ⟨zJ, 3, none⟩ = some (.bool false)) (ds := []) #[false, false, false, false, false, false, false, false, false, false, false, false] (by kernel_rfl) rfl rfl ⟨(zy zY.out 0).trans rfl, (zy zQ.out 0).trans rfl, (zy zQ.out 1).trans rfl, (zy zQ.out 2).trans rfl, (zy zQ.out 3).trans rfl⟩ (fun hHeld => ?_); refine XY zZ.zqs zZ.zZ6 (fun qz QY => ?_)
      generalize w27.drew = w28 at zY zQ HB hHeld ⊢
      refine pI 3 (some 33) qz ?_
      refine ak 0 (some 30) qz QY hHeld ?_
      refine ak 2 (some 32) qz QY hHeld ?_
      refine Jr 1 (some 31) qz (fun K hK => ?_)
      refine Yf Tryz.func12 (by kernel_rfl) rfl #[.agg #[.slice yF zD.length yG]] (by rfl) rfl rfl (by (try simp only [List.map_toArray, List.map_cons, List.map_nil]); first | done | rfl | (simp only [List.length_drop, List.length_take]; rfl)) ?_
      with_reducible refine (qx.calls (fun k_ => k_ < w.heap.size) _ _ zD uP _ ?yO ?qd A15.out).mono ?_
      (case yO => exact Kd.zqQ VZ.out (Kd.YJ (Kd.C_F Q7 XZ.out) (zB HB.out)))
      (case qd => exact GW.under HG.out (zB HB.out))
      rintro e w29 ⟨zY1, rfl, ho0, hb⟩
      refine ⟨_, rfl, ?_⟩
      have zX := zx.mk (Kd.wH (Kd.yM (ok' := fun k_ => k_ ≠ zh ∧ k_ ≠ zJ) ho0 (fun k_ vN => ⟨Or.elim vN (fun hs_ => fun e_ => Nat.not_le.2 hs_ (by rw [e_]; exact dU.out)) (fun uG => (Kd.xJ (g := zh) (o := .cells #[.slice yF zD.length yG] 24 (0, 0)) (zU zY.out) k_ uG)), Or.elim vN (fun hs_ => fun e_ => Nat.not_le.2 hs_ (by rw [e_]; exact gy.out)) (fun uG => (Kd.xJ (g := zJ) (o := .cells #[.int .i64 0, .int .i64 12, .bool false, .bool false] 26 (0, 0)) (zU zQ.out) k_ uG))⟩)) (zW (zB HB.out)))
      have zV := zx.mk (zm (g := zh) (o := .cells #[.slice yF zD.length yG] 24 (0, 0)) (zU zY.out) hb)
      have zf := zx.mk (zm (g := zJ) (o := .cells #[.int .i64 0, .int .i64 12, .bool false, .bool false] 26 (0, 0)) (zU zQ.out) hb)
      have zu := zx.mk (zA (zB HB.out) hb)
      clear zY zQ HB
      have ql := zX
      have zY := zV
      have zQ := zf
      have HB := zu
      clear zX zV zf zu
      (try clear hb)
      (try clear hb2)
      (try clear hk)
      (try clear hi)
      (try clear ho0)
      obtain ⟨kV, kK, zww⟩ := Kd.jI ql.out
      (first | subst zww | (injection zww with VH sP VI; have sS := VH.symm; have sU := VI.symm; clear VH sP VI; subst sS; subst sU))
      refine hK.out _ _ ⟨(zy zY.out 0).trans rfl, (zy zQ.out 0).trans rfl, (zy zQ.out 1).trans rfl, (zy zQ.out 2).trans rfl, (zy zQ.out 3).trans rfl⟩ (fun hHeld => ?_)
      clear hK K
      refine Vd (some 31) ?_
      refine Jr 4 (some 34) qz (fun K hK => ?_)
      refine Yf Tryz.func13 (by kernel_rfl) rfl #[.slice kV uP.length kK, .agg #[.int .i64 0, .int .i64 12, .bool false, .bool false], .slice A1 l1.length c1, .slice none 0 0] (by rfl) rfl rfl (by (try simp only [List.map_toArray, List.map_cons, List.map_nil]); first | done | rfl | (simp only [List.length_drop, List.length_take]; rfl)) ?_
      refine (yE.calls _ _ uP 0 12 false false _ _ l1 _ _ ([] : List (uI)) xC qm YA _ ?yO ?qd ?q8 ?q9 ?uK ?uY ?uW A16.out).mono ?_
      (case yO => repeat (first | exact (Kd.vT ql.out).2.2 | (with_reducible refine Kd.yJ ?_ _) | (with_reducible refine Kd.yV ?_ _) | (with_reducible refine Kd.yH ?_)))
      (case qd => exact (Kd.vT ql.out).2.1)
      (case q8 => repeat (first | exact (Kd.zC HR1.out HB.out) | (with_reducible refine Kd.yJ ?_ _) | (with_reducible refine Kd.yV ?_ _) | (with_reducible refine Kd.yH ?_)))
      (case q9 => exact HC1.out)
      (case uK => exact Kd.QT _ _)
      (case uY => exact Nat.le_refl _)
      (case uW => exact GW.under HG.out (zB HB.out))
      rintro e w31 ⟨uH, yS, rfl, ho0, ho1, hb⟩
      refine ⟨_, rfl, ?_⟩
      have zX := zx.mk (Kd.yM (Kd.jG (Kd.jG (Kd.Xt (z8 ql.out) hb) (Kd.ZP ho0)) (Kd.qQ ho1)) (fun _ h_ => h_.1))
      have zV := zx.mk (Kd.wH (Kd.yM (ok' := fun k_ => some k_ ≠ (yS : Value).ownBlock ∧ some k_ ≠ (.slice kV uP.length kK : Value).ownBlock ∧ k_ ≠ zh ∧ k_ ≠ zJ) (Kd.S_N (Kd.Qm (Kd.UA ho0 (Kd.V5 ho1) (by decide)))) (fun k_ vN => ⟨vN.1.2, (Kd.fresh' (Kd.uj (z8 ql.out)) k_ vN.2.1), (Kd.xJ (g := zh) (o := .cells #[.slice yF zD.length yG] 24 (0, 0)) (zU zY.out) k_ vN.2.1), (Kd.xJ (g := zJ) (o := .cells #[.int .i64 0, .int .i64 12, .bool false, .bool false] 26 (0, 0)) (zU zQ.out) k_ vN.2.1)⟩)) (zW (zB HB.out)))
      have zf := zx.mk (Kd.vv ho1 (zW (zB HB.out)))
      have zu := zx.mk (zm (g := zh) (o := .cells #[.slice yF zD.length yG] 24 (0, 0)) (zU zY.out) hb)
      have yZ := zx.mk (zm (g := zJ) (o := .cells #[.int .i64 0, .int .i64 12, .bool false, .bool false] 26 (0, 0)) (zU zQ.out) hb)
      have yT := zx.mk (zA (zB HB.out) hb)
      clear ql zY zQ HB
      have ql := zX
      have qH := zV
      have qg := zf
      have zY := zu
      have zQ := yZ
      have HB := yT
      clear zX zV zf zu yZ yT
      (try clear hb)
      (try clear hb2)
      (try clear hk)
      (try clear hi)
      (try clear ho0)
      (try clear ho1)
      refine hK.out _ _ ⟨(zy zY.out 0).trans rfl, (zy zQ.out 0).trans rfl, (zy zQ.out 1).trans rfl, (zy zQ.out 2).trans rfl, (zy zQ.out 3).trans rfl⟩ (fun hHeld => ?_)
      clear hK K
      refine Vd (some 34) ?_
      refine pI 5 (some 29) qz ?_
      refine pI 6 (some 35) qz ?_
      refine pI 7 (some 36) qz ?_
      refine pI 8 (some 37) qz ?_
      refine pI 9 (some 8) qz ?_
      refine pI 10 (some 9) qz ?_
      refine pI 11 (some 10) qz ?_
      refine wX (jA qz.out (by kernel_rfl)) ?_
      try go_wp2
      have zX := zx.mk (Kd.qE ql.out)
      have zV := zx.mk (Kd.qE qH.out)
      have zf := zx.mk (Kd.wF qg.out)
      have zu := zx.mk (uX zY.out)
      have yZ := zx.mk (uX zQ.out)
      have yT := zx.mk (yY HB.out)
      clear ql qH qg zY zQ HB
      have ql := zX
      have qH := zV
      have qg := zf
      have zY := zu
      have zQ := yZ
      have HB := yT
      clear zX zV zf zu yZ yT
      refine pG (n := 12) (S := fun w' => w'.cell? ⟨zh, 0, none⟩ = some (.slice yF zD.length yG) ∧ w'.cell? ⟨zJ, 0, none⟩ = some (.int .i64 0) ∧ w'.cell? ⟨zJ, 1, none⟩ = some (.int .i64 12) ∧ w'.cell? ⟨zJ, 2, none⟩ = some (.bool false) ∧ w'.cell? ⟨zJ, 3, none⟩ = some (.bool false)) (ds := []) #[false, false, false, false, false, false, false, false, false, false, false, false] (by kernel_rfl) rfl rfl ⟨(zy zY.out 0).trans rfl, (zy zQ.out 0).trans rfl, (zy zQ.out 1).trans rfl, (zy zQ.out 2).trans rfl, (zy zQ.out 3).trans rfl⟩ (fun hHeld => ?_); refine XY zZ.mh zZ.zqf (fun qz QY => ?_)
      generalize w31.drew = w32 at ql qH qg zY zQ HB hHeld ⊢
      refine pI 3 (some 42) qz ?_
      refine ak 0 (some 39) qz QY hHeld ?_
      refine ak 2 (some 41) qz QY hHeld ?_
      refine Jr 1 (some 40) qz (fun K hK => ?_)
      refine Yf Tryz.func12 (by kernel_rfl) rfl #[.agg #[.slice yF zD.length yG]] (by rfl) rfl rfl (by (try simp only [List.map_toArray, List.map_cons, List.map_nil]); first | done | rfl | (simp only [List.length_drop, List.length_take]; rfl)) ?_
      with_reducible refine (qx.calls (fun k_ => k_ < w.heap.size) _ _ zD uh _ ?yO ?qd A17.out).mono ?_
      (case yO => exact Kd.zqQ VZ.out (Kd.YJ (Kd.C_F Q7 XZ.out) (zB HB.out)))
      (case qd => exact GW.under HG.out (zB HB.out))
      rintro e w33 ⟨zY2, rfl, ho0, hb⟩
      refine ⟨_, rfl, ?_⟩
      have zX := zx.mk (Kd.qY (z8 ql.out) (Kd.vK ho0) hb)
      have zV := zx.mk (Kd.qY (z8 qH.out) (Kd.vK ho0) hb)
      have zf := zx.mk (Kd.yU (zR qg.out) hb)
      have zu := zx.mk (Kd.wH (Kd.yM (ok' := fun k_ => some k_ ≠ (.slice kV uP.length kK : Value).ownBlock ∧ some k_ ≠ (uH : Value).ownBlock ∧ some k_ ≠ (yS : Value).ownBlock ∧ k_ ≠ zh ∧ k_ ≠ zJ) ho0 (fun k_ vN => ⟨Or.elim vN (fun hs_ => fun e_ => Nat.not_le.2 hs_ (Kd.vK ql.out k_ e_.symm)) (fun uG => (Kd.fresh' (Kd.uj (z8 ql.out)) k_ uG)), Or.elim vN (fun hs_ => fun e_ => Nat.not_le.2 hs_ (Kd.vK qH.out k_ e_.symm)) (fun uG => (Kd.fresh' (Kd.uj (z8 qH.out)) k_ uG)), Or.elim vN (fun hs_ => fun e_ => Nat.not_le.2 hs_ (Kd.qQ qg.out k_ e_.symm)) (fun uG => (Kd.fresh' (Kd.qW (zR qg.out)) k_ uG)), Or.elim vN (fun hs_ => fun e_ => Nat.not_le.2 hs_ (by rw [e_]; exact dU.out)) (fun uG => (Kd.xJ (g := zh) (o := .cells #[.slice yF zD.length yG] 24 (0, 0)) (zU zY.out) k_ uG)), Or.elim vN (fun hs_ => fun e_ => Nat.not_le.2 hs_ (by rw [e_]; exact gy.out)) (fun uG => (Kd.xJ (g := zJ) (o := .cells #[.int .i64 0, .int .i64 12, .bool false, .bool false] 26 (0, 0)) (zU zQ.out) k_ uG))⟩)) (zW (zB HB.out)))
      have yZ := zx.mk (zm (g := zh) (o := .cells #[.slice yF zD.length yG] 24 (0, 0)) (zU zY.out) hb)
      have yT := zx.mk (zm (g := zJ) (o := .cells #[.int .i64 0, .int .i64 12, .bool false, .bool false] 26 (0, 0)) (zU zQ.out) hb)
      have qX := zx.mk (zA (zB HB.out) hb)
      clear ql qH qg zY zQ HB
      have ql := zX
      have qH := zV
      have qg := zf
      have xV := zu
      have zY := yZ
      have zQ := yT
      have HB := qX
      clear zX zV zf zu yZ yT qX
      (try clear hb)
      (try clear hb2)
      (try clear hk)
      (try clear hi)
      (try clear ho0)
      obtain ⟨kX, kJ, zqN⟩ := Kd.jI xV.out
      (first | subst zqN | (injection zqN with VH sP VI; have sS := VH.symm; have sU := VI.symm; clear VH sP VI; subst sS; subst sU))
      refine hK.out _ _ ⟨(zy zY.out 0).trans rfl, (zy zQ.out 0).trans rfl, (zy zQ.out 1).trans rfl, (zy zQ.out 2).trans rfl, (zy zQ.out 3).trans rfl⟩ (fun hHeld => ?_)
      clear hK K
      refine Vd (some 40) ?_
      refine Jr 4 (some 43) qz (fun K hK => ?_)
      refine Yf Tryz.func13 (by kernel_rfl) rfl #[.slice kX uh.length kJ, .agg #[.int .i64 0, .int .i64 12, .bool false, .bool false], .slice A2 l2.length c2, .slice none 0 0] (by rfl) rfl rfl (by (try simp only [List.map_toArray, List.map_cons, List.map_nil]); first | done | rfl | (simp only [List.length_drop, List.length_take]; rfl)) ?_
      refine (yE.calls _ _ uh 0 12 false false _ _ l2 _ _ ([] : List (uI)) vD xA VG _ ?yO ?qd ?q8 ?q9 ?uK ?uY ?uW A18.out).mono ?_
      (case yO => repeat (first | exact (Kd.vT xV.out).2.2 | (with_reducible refine Kd.yJ ?_ _) | (with_reducible refine Kd.yV ?_ _) | (with_reducible refine Kd.yH ?_)))
      (case qd => exact (Kd.vT xV.out).2.1)
      (case q8 => repeat (first | exact (Kd.zC HR2.out HB.out) | (with_reducible refine Kd.yJ ?_ _) | (with_reducible refine Kd.yV ?_ _) | (with_reducible refine Kd.yH ?_)))
      (case q9 => exact HC2.out)
      (case uK => exact Kd.QT _ _)
      (case uY => exact Nat.le_refl _)
      (case uW => exact GW.under HG.out (zB HB.out))
      rintro e w35 ⟨xR, yg, rfl, ho0, ho1, hb⟩
      refine ⟨_, rfl, ?_⟩
      have zX := zx.mk (Kd.yM (Kd.jG (Kd.jG (Kd.Xt (z8 ql.out) hb) (Kd.ZP ho0)) (Kd.qQ ho1)) (fun _ h_ => h_.1))
      have zV := zx.mk (Kd.yM (Kd.jG (Kd.jG (Kd.Xt (z8 qH.out) hb) (Kd.ZP ho0)) (Kd.qQ ho1)) (fun _ h_ => h_.1))
      have zf := zx.mk (Kd.uJ (zR qg.out) (Kd.qQ ho1) hb)
      have zu := zx.mk (Kd.yM (Kd.jG (Kd.jG (Kd.Xt (z8 xV.out) hb) (Kd.ZP ho0)) (Kd.qQ ho1)) (fun _ h_ => h_.1))
      have yZ := zx.mk (Kd.wH (Kd.yM (ok' := fun k_ => some k_ ≠ (yg : Value).ownBlock ∧ some k_ ≠ (.slice kV uP.length kK : Value).ownBlock ∧ some k_ ≠ (uH : Value).ownBlock ∧ some k_ ≠ (yS : Value).ownBlock ∧ some k_ ≠ (.slice kX uh.length kJ : Value).ownBlock ∧ k_ ≠ zh ∧ k_ ≠ zJ) (Kd.S_N (Kd.Qm (Kd.UA ho0 (Kd.V5 ho1) (by decide)))) (fun k_ vN => ⟨vN.1.2, (Kd.fresh' (Kd.uj (z8 ql.out)) k_ vN.2.1), (Kd.fresh' (Kd.uj (z8 qH.out)) k_ vN.2.1), (Kd.fresh' (Kd.qW (zR qg.out)) k_ vN.2.1), (Kd.fresh' (Kd.uj (z8 xV.out)) k_ vN.2.1), (Kd.xJ (g := zh) (o := .cells #[.slice yF zD.length yG] 24 (0, 0)) (zU zY.out) k_ vN.2.1), (Kd.xJ (g := zJ) (o := .cells #[.int .i64 0, .int .i64 12, .bool false, .bool false] 26 (0, 0)) (zU zQ.out) k_ vN.2.1)⟩)) (zW (zB HB.out)))
      have yT := zx.mk (Kd.vv (Kd.jF ho1 (Kd.qW (zR qg.out))) (zW (zB HB.out)))
      have qX := zx.mk (zm (g := zh) (o := .cells #[.slice yF zD.length yG] 24 (0, 0)) (zU zY.out) hb)
      have qo := zx.mk (zm (g := zJ) (o := .cells #[.int .i64 0, .int .i64 12, .bool false, .bool false] 26 (0, 0)) (zU zQ.out) hb)
      have qp := zx.mk (zA (zB HB.out) hb)
      clear ql qH qg xV zY zQ HB
      have ql := zX
      have qH := zV
      have qg := zf
      have xV := zu
      have vZ := yZ
      have xK := yT
      have zY := qX
      have zQ := qo
      have HB := qp
      clear zX zV zf zu yZ yT qX qo qp
      (try clear hb)
      (try clear hb2)
      (try clear hk)
      (try clear hi)
      (try clear ho0)
      (try clear ho1)
      refine hK.out _ _ ⟨(zy zY.out 0).trans rfl, (zy zQ.out 0).trans rfl, (zy zQ.out 1).trans rfl, (zy zQ.out 2).trans rfl, (zy zQ.out 3).trans rfl⟩ (fun hHeld => ?_)
      clear hK K
      refine Vd (some 43) ?_
      refine pI 5 (some 38) qz ?_
      refine pI 6 (some 44) qz ?_
      refine pI 7 (some 45) qz ?_
      refine pI 8 (some 46) qz ?_
      refine pI 9 (some 11) qz ?_
      refine pI 10 (some 12) qz ?_
      refine pI 11 (some 13) qz ?_
      refine wX (jA qz.out (by kernel_rfl)) ?_
      try go_wp2
      have zX := zx.mk (Kd.qE ql.out)
      have zV := zx.mk (Kd.qE qH.out)
      have zf := zx.mk (Kd.wF qg.out)
      have zu := zx.mk (Kd.qE xV.out)
      have yZ := zx.mk (Kd.qE vZ.out)
      have yT := zx.mk (Kd.wF xK.out)
      have qX := zx.mk (uX zY.out)
      have qo := zx.mk (uX zQ.out)
      have qp := zx.mk (yY HB.out)
      clear ql qH qg xV vZ xK zY zQ HB
      have ql := zX
      have qH := zV
      have qg := zf
      have xV := zu
      have vZ := yZ
      have xK := yT
      have zY := qX
      have zQ := qo
      have HB := qp
      clear zX zV zf zu yZ yT qX qo qp
      refine pG (n := 16) (S := fun w' => w'.cell? ⟨zh, 0, none⟩ = some (.slice yF zD.length yG) ∧ w'.cell? ⟨zJ, 0, none⟩ = some (.int .i64 0) ∧ w'.cell? ⟨zJ, 1, none⟩ = some (.int .i64 12) ∧ w'.cell? ⟨zJ, 2, none⟩ = some (.bool false) ∧ w'.cell? ⟨zJ, 3, none⟩ = some (.bool false)) (ds := []) #[false, false, false, false, false, false, false, false, false, false, false, false, false, false, false, false] (by kernel_rfl) rfl rfl ⟨(zy zY.out 0).trans rfl, (zy zQ.out 0).trans rfl, (zy zQ.out 1).trans rfl, (zy zQ.out 2).trans rfl, (zy zQ.out 3).trans rfl⟩ (fun hHeld => ?_); refine XY zZ.zqU zZ.dR (fun qz QY => ?_)
      generalize w35.drew = w36 at ql qH qg xV vZ xK zY zQ HB hHeld ⊢
      refine pI 4 (some 52) qz ?_
      refine pI 6 (some 54) qz ?_
      refine ak 0 (some 48) qz QY hHeld ?_
      refine ak 2 (some 50) qz QY hHeld ?_
      refine zwi (σ := Value × Value) 10 #[true, true, true, true, true, false, true, false, false, false, false, false, false, false, false, false] (fun s_ => [(49, s_.1), (51, s_.2)]) (fun s_ w' => (w'.cell? ⟨zh, 0, none⟩ = some (.slice yF zD.length yG) ∧ w'.cell? ⟨zJ, 0, none⟩ = some (.int .i64 0) ∧ w'.cell? ⟨zJ, 1, none⟩ = some (.int .i64 12) ∧ w'.cell? ⟨zJ, 2, none⟩ = some (.bool false) ∧ w'.cell? ⟨zJ, 3, none⟩ = some (.bool false)) ∧ (Kd.N jY 60 w' w.heap.size (fun k_ => some k_ ≠ (uH : Value).ownBlock ∧ some k_ ≠ (yS : Value).ownBlock ∧ some k_ ≠ (.slice kX uh.length kJ : Value).ownBlock ∧ some k_ ≠ (xR : Value).ownBlock ∧ some k_ ≠ (yg : Value).ownBlock ∧ some k_ ≠ (s_.1 : Value).ownBlock ∧ some k_ ≠ (s_.2 : Value).ownBlock ∧ k_ ≠ zh ∧ k_ ≠ zJ) (.slice kV uP.length kK) uP) ∧ (Kd.N kE 53 w' w.heap.size (fun k_ => some k_ ≠ (.slice kV uP.length kK : Value).ownBlock ∧ some k_ ≠ (yS : Value).ownBlock ∧ some k_ ≠ (.slice kX uh.length kJ : Value).ownBlock ∧ some k_ ≠ (xR : Value).ownBlock ∧ some k_ ≠ (yg : Value).ownBlock ∧ some k_ ≠ (s_.1 : Value).ownBlock ∧ some k_ ≠ (s_.2 : Value).ownBlock ∧ k_ ≠ zh ∧ k_ ≠ zJ) uH xC) ∧ (Kd.R Kd.string 9 w' w.heap.size (fun k_ => some k_ ≠ (yg : Value).ownBlock ∧ some k_ ≠ (s_.2 : Value).ownBlock) yS qm) ∧ (Kd.N jY 60 w' w.heap.size (fun k_ => some k_ ≠ (.slice kV uP.length kK : Value).ownBlock ∧ some k_ ≠ (uH : Value).ownBlock ∧ some k_ ≠ (yS : Value).ownBlock ∧ some k_ ≠ (xR : Value).ownBlock ∧ some k_ ≠ (yg : Value).ownBlock ∧ some k_ ≠ (s_.1 : Value).ownBlock ∧ some k_ ≠ (s_.2 : Value).ownBlock ∧ k_ ≠ zh ∧ k_ ≠ zJ) (.slice kX uh.length kJ) uh) ∧ (Kd.N kE 53 w' w.heap.size (fun k_ => some k_ ≠ (.slice kV uP.length kK : Value).ownBlock ∧ some k_ ≠ (uH : Value).ownBlock ∧ some k_ ≠ (yS : Value).ownBlock ∧ some k_ ≠ (.slice kX uh.length kJ : Value).ownBlock ∧ some k_ ≠ (yg : Value).ownBlock ∧ some k_ ≠ (s_.1 : Value).ownBlock ∧ some k_ ≠ (s_.2 : Value).ownBlock ∧ k_ ≠ zh ∧ k_ ≠ zJ) xR vD) ∧ (Kd.R Kd.string 9 w' w.heap.size (fun k_ => some k_ ≠ (yS : Value).ownBlock ∧ some k_ ≠ (s_.2 : Value).ownBlock) yg xA) ∧ (Kd.N jY 60 w' w.heap.size (fun k_ => some k_ ≠ (.slice kV uP.length kK : Value).ownBlock ∧ some k_ ≠ (uH : Value).ownBlock ∧ some k_ ≠ (yS : Value).ownBlock ∧ some k_ ≠ (.slice kX uh.length kJ : Value).ownBlock ∧ some k_ ≠ (xR : Value).ownBlock ∧ some k_ ≠ (yg : Value).ownBlock ∧ some k_ ≠ (s_.2 : Value).ownBlock ∧ k_ ≠ zh ∧ k_ ≠ zJ) s_.1 kS) ∧ (Kd.R Kd.string 9 w' w.heap.size (fun k_ => some k_ ≠ (yS : Value).ownBlock ∧ some k_ ≠ (yg : Value).ownBlock) s_.2 jD) ∧ (w'.heap[zh]? = some (.cells #[.slice yF zD.length yG] 24 (0, 0))) ∧ (w'.heap[zJ]? = some (.cells #[.int .i64 0, .int .i64 12, .bool false, .bool false] 26 (0, 0))) ∧ (Below w.heap.size w w')) ?_ ?_
      rotate_left
      ·intro zky
       refine zQK (i := 1) (j := 3) (Ni := some 49) (Nj := some 51) #[true, true, true, false, true, false, true, false, false, false, false, false, false, false, false, false] #[true, false, true, true, true, false, true, false, false, false, false, false, false, false, false, false] rfl rfl rfl rfl (zyx qz.out (by kernel_rfl)) (by decide) (by decide) (fun K hK => ?_) (fun K hK => ?_)
       ·skip
        refine Yf Tryz.func12 (by kernel_rfl) rfl #[.agg #[.slice yF zD.length yG]] (by rfl) rfl rfl (by (try simp only [List.map_toArray, List.map_cons, List.map_nil]); first | done | rfl | (simp only [List.length_drop, List.length_take]; rfl)) ?_
        with_reducible refine (qx.calls (fun k_ => k_ < w.heap.size) _ _ zD kS _ ?yO ?qd A19.out).mono ?_
        (case yO => exact Kd.zqQ VZ.out (Kd.YJ (Kd.C_F Q7 XZ.out) (zB HB.out)))
        (case qd => exact GW.under HG.out (zB HB.out))
        rintro e w37 ⟨ZW, rfl, ho0, hb⟩
        refine ⟨_, rfl, ?_⟩
        have zX := zx.mk (Kd.qY (z8 ql.out) (Kd.vK ho0) hb)
        have zV := zx.mk (Kd.qY (z8 qH.out) (Kd.vK ho0) hb)
        have zf := zx.mk (Kd.yU (zR qg.out) hb)
        have zu := zx.mk (Kd.qY (z8 xV.out) (Kd.vK ho0) hb)
        have yZ := zx.mk (Kd.qY (z8 vZ.out) (Kd.vK ho0) hb)
        have yT := zx.mk (Kd.yU (zR xK.out) hb)
        have qX := zx.mk (Kd.wH (Kd.yM (ok' := fun k_ => some k_ ≠ (.slice kV uP.length kK : Value).ownBlock ∧ some k_ ≠ (uH : Value).ownBlock ∧ some k_ ≠ (yS : Value).ownBlock ∧ some k_ ≠ (.slice kX uh.length kJ : Value).ownBlock ∧ some k_ ≠ (xR : Value).ownBlock ∧ some k_ ≠ (yg : Value).ownBlock ∧ k_ ≠ zh ∧ k_ ≠ zJ) ho0 (fun k_ vN => ⟨Or.elim vN (fun hs_ => fun e_ => Nat.not_le.2 hs_ (Kd.vK ql.out k_ e_.symm)) (fun uG => (Kd.fresh' (Kd.uj (z8 ql.out)) k_ uG)), Or.elim vN (fun hs_ => fun e_ => Nat.not_le.2 hs_ (Kd.vK qH.out k_ e_.symm)) (fun uG => (Kd.fresh' (Kd.uj (z8 qH.out)) k_ uG)), Or.elim vN (fun hs_ => fun e_ => Nat.not_le.2 hs_ (Kd.qQ qg.out k_ e_.symm)) (fun uG => (Kd.fresh' (Kd.qW (zR qg.out)) k_ uG)), Or.elim vN (fun hs_ => fun e_ => Nat.not_le.2 hs_ (Kd.vK xV.out k_ e_.symm)) (fun uG => (Kd.fresh' (Kd.uj (z8 xV.out)) k_ uG)), Or.elim vN (fun hs_ => fun e_ => Nat.not_le.2 hs_ (Kd.vK vZ.out k_ e_.symm)) (fun uG => (Kd.fresh' (Kd.uj (z8 vZ.out)) k_ uG)), Or.elim vN (fun hs_ => fun e_ => Nat.not_le.2 hs_ (Kd.qQ xK.out k_ e_.symm)) (fun uG => (Kd.fresh' (Kd.qW (zR xK.out)) k_ uG)), Or.elim vN (fun hs_ => fun e_ => Nat.not_le.2 hs_ (by rw [e_]; exact dU.out)) (fun uG => (Kd.xJ (g := zh) (o := .cells #[.slice yF zD.length yG] 24 (0, 0)) (zU zY.out) k_ uG)), Or.elim vN (fun hs_ => fun e_ => Nat.not_le.2 hs_ (by rw [e_]; exact gy.out)) (fun uG => (Kd.xJ (g := zJ) (o := .cells #[.int .i64 0, .int .i64 12, .bool false, .bool false] 26 (0, 0)) (zU zQ.out) k_ uG))⟩)) (zW (zB HB.out)))
        have qo := zx.mk (zm (g := zh) (o := .cells #[.slice yF zD.length yG] 24 (0, 0)) (zU zY.out) hb)
        have qp := zx.mk (zm (g := zJ) (o := .cells #[.int .i64 0, .int .i64 12, .bool false, .bool false] 26 (0, 0)) (zU zQ.out) hb)
        have qM := zx.mk (zA (zB HB.out) hb)
        clear ql qH qg xV vZ xK zY zQ HB
        have ql := zX
        have qH := zV
        have qg := zf
        have xV := zu
        have vZ := yZ
        have xK := yT
        have j5 := qX
        have zY := qo
        have zQ := qp
        have HB := qM
        clear zX zV zf zu yZ yT qX qo qp qM
        (try clear hb)
        (try clear hb2)
        (try clear hk)
        (try clear hi)
        (try clear ho0)
        refine hK.out _ _ ⟨(zy zY.out 0).trans rfl, (zy zQ.out 0).trans rfl, (zy zQ.out 1).trans rfl, (zy zQ.out 2).trans rfl, (zy zQ.out 3).trans rfl⟩ (fun hHeld => ?_)
        clear hK K
        refine Vd (some 49) ?_
        refine Jr 3 (some 51) qz (fun K hK => ?_)
        refine Kd.Je Kd.string _ 9 ?hg (N := 51) ?hd (xs := ([] : List ByteArray)) (inner := []) (ok := fun _ => True) (vW := fun _ => True) ?hr ?hp (fun _ hk => hk) trivial (Below.refl _ _) (Nat.le_refl _) (by simp) ?_; (case hd => rfl); (case hg => rfl); (case hr => first | (go_simp; done) | (go_simp; rfl)); (case hp => exact (yD.none _ _))
        intro YB w38 Xl hb ZJ jd
        clear ZJ jd
        (first | rw [← gq.out] at Xl | (simp only [Int.reduceToNat] at Xl; rw [← gq.out] at Xl))
        have zX := zx.mk (Kd.qY (z8 ql.out) (Kd.qQ Xl) hb)
        have zV := zx.mk (Kd.qY (z8 qH.out) (Kd.qQ Xl) hb)
        have zf := zx.mk (Kd.uJ (zR qg.out) (Kd.qQ Xl) hb)
        have zu := zx.mk (Kd.qY (z8 xV.out) (Kd.qQ Xl) hb)
        have yZ := zx.mk (Kd.qY (z8 vZ.out) (Kd.qQ Xl) hb)
        have yT := zx.mk (Kd.uJ (zR xK.out) (Kd.qQ Xl) hb)
        have qX := zx.mk (Kd.qY (z8 j5.out) (Kd.qQ Xl) hb)
        have qo := zx.mk (Kd.vv (Kd.jF (Kd.jF Xl (Kd.qW (zR qg.out))) (Kd.qW (zR xK.out))) (zW (zB HB.out)))
        have qp := zx.mk (zm (g := zh) (o := .cells #[.slice yF zD.length yG] 24 (0, 0)) (zU zY.out) hb)
        have qM := zx.mk (zm (g := zJ) (o := .cells #[.int .i64 0, .int .i64 12, .bool false, .bool false] 26 (0, 0)) (zU zQ.out) hb)
        have uZ := zx.mk (zA (zB HB.out) hb)
        clear ql qH qg xV vZ xK j5 zY zQ HB
        have ql := zX
        have qH := zV
        have qg := zf
        have xV := zu
        have vZ := yZ
        have xK := yT
        have j5 := qX
        have ZF := qo
        have zY := qp
        have zQ := qM
        have HB := uZ
        clear zX zV zf zu yZ yT qX qo qp qM uZ hb Xl
        refine hK.out _ _ ⟨(zy zY.out 0).trans rfl, (zy zQ.out 0).trans rfl, (zy zQ.out 1).trans rfl, (zy zQ.out 2).trans rfl, (zy zQ.out 3).trans rfl⟩ (fun hHeld => ?_)
        clear hK K
        refine Vd (some 51) ?_
        exact wB (by simp only [Qi, Act.put, List.setIfInBounds_toArray, List.set_cons_zero, List.set_cons_succ]) (zky (ZW, YB) _ ⟨hHeld, (by (with_reducible repeat (first | apply Kd.qD | apply Kd.qF | apply Kd.qE)); exact Kd.yM ql.out (fun _ hk => ⟨hk.1.1.1.1.1.1.2, ⟨hk.1.1.1.1.1.2, ⟨hk.1.1.1.1.2, ⟨hk.1.1.1.2, ⟨hk.1.1.2, ⟨hk.1.2, ⟨hk.2, ⟨hk.1.1.1.1.1.1.1.1, hk.1.1.1.1.1.1.1.2⟩⟩⟩⟩⟩⟩⟩⟩)), (by (with_reducible repeat (first | apply Kd.qD | apply Kd.qF | apply Kd.qE)); exact Kd.yM qH.out (fun _ hk => ⟨hk.1.1.1.1.1.2.1, ⟨hk.1.1.1.1.1.1, ⟨hk.1.1.1.1.2, ⟨hk.1.1.1.2, ⟨hk.1.1.2, ⟨hk.1.2, ⟨hk.2, ⟨hk.1.1.1.1.1.2.2.1, hk.1.1.1.1.1.2.2.2⟩⟩⟩⟩⟩⟩⟩⟩)), (zR (Kd.xQ qg.out (fun _ hk => ⟨hk.1.2, hk.2⟩))), (by (with_reducible repeat (first | apply Kd.qD | apply Kd.qF | apply Kd.qE)); exact Kd.yM xV.out (fun _ hk => ⟨hk.1.1.1.1.1, ⟨hk.1.1.1.1.2.1, ⟨hk.1.1.1.1.2.2.1, ⟨hk.1.1.1.2, ⟨hk.1.1.2, ⟨hk.1.2, ⟨hk.2, ⟨hk.1.1.1.1.2.2.2.1, hk.1.1.1.1.2.2.2.2⟩⟩⟩⟩⟩⟩⟩⟩)), (by (with_reducible repeat (first | apply Kd.qD | apply Kd.qF | apply Kd.qE)); exact Kd.yM vZ.out (fun _ hk => ⟨hk.1.1.2.1, ⟨hk.1.1.2.2.1, ⟨hk.1.1.2.2.2.1, ⟨hk.1.1.2.2.2.2.1, ⟨hk.1.1.1, ⟨hk.1.2, ⟨hk.2, ⟨hk.1.1.2.2.2.2.2.1, hk.1.1.2.2.2.2.2.2⟩⟩⟩⟩⟩⟩⟩⟩)), (zR (Kd.xQ xK.out (fun _ hk => ⟨hk.1.2, hk.2⟩))), (by (with_reducible repeat (first | apply Kd.qD | apply Kd.qF | apply Kd.qE)); exact Kd.yM j5.out (fun _ hk => ⟨hk.1.1, ⟨hk.1.2.1, ⟨hk.1.2.2.1, ⟨hk.1.2.2.2.1, ⟨hk.1.2.2.2.2.1, ⟨hk.1.2.2.2.2.2.1, ⟨hk.2, ⟨hk.1.2.2.2.2.2.2.1, hk.1.2.2.2.2.2.2.2⟩⟩⟩⟩⟩⟩⟩⟩)), (zR (Kd.xQ ZF.out (fun _ hk => ⟨hk.1.2, hk.2⟩))), (zU zY.out), (zU zQ.out), (zB HB.out)⟩)
       ·skip
        refine Kd.Je Kd.string _ 9 ?hg (N := 51) ?hd (xs := ([] : List ByteArray)) (inner := []) (ok := fun _ => True) (vW := fun _ => True) ?hr ?hp (fun _ hk => hk) trivial (Below.refl _ _) (Nat.le_refl _) (by simp) ?_; (case hd => rfl); (case hg => rfl); (case hr => first | (go_simp; done) | (go_simp; rfl)); (case hp => exact (yD.none _ _))
        intro YB w37 X6 hb ZJ jd
        clear ZJ jd
        (first | rw [← gq.out] at X6 | (simp only [Int.reduceToNat] at X6; rw [← gq.out] at X6))
        have zX := zx.mk (Kd.qY (z8 ql.out) (Kd.qQ X6) hb)
        have zV := zx.mk (Kd.qY (z8 qH.out) (Kd.qQ X6) hb)
        have zf := zx.mk (Kd.uJ (zR qg.out) (Kd.qQ X6) hb)
        have zu := zx.mk (Kd.qY (z8 xV.out) (Kd.qQ X6) hb)
        have yZ := zx.mk (Kd.qY (z8 vZ.out) (Kd.qQ X6) hb)
        have yT := zx.mk (Kd.uJ (zR xK.out) (Kd.qQ X6) hb)
        have qX := zx.mk (Kd.vv (Kd.jF (Kd.jF X6 (Kd.qW (zR qg.out))) (Kd.qW (zR xK.out))) (zW (zB HB.out)))
        have qo := zx.mk (zm (g := zh) (o := .cells #[.slice yF zD.length yG] 24 (0, 0)) (zU zY.out) hb)
        have qp := zx.mk (zm (g := zJ) (o := .cells #[.int .i64 0, .int .i64 12, .bool false, .bool false] 26 (0, 0)) (zU zQ.out) hb)
        have qM := zx.mk (zA (zB HB.out) hb)
        clear ql qH qg xV vZ xK zY zQ HB
        have ql := zX
        have qH := zV
        have qg := zf
        have xV := zu
        have vZ := yZ
        have xK := yT
        have ZF := qX
        have zY := qo
        have zQ := qp
        have HB := qM
        clear zX zV zf zu yZ yT qX qo qp qM hb X6
        refine hK.out _ _ ⟨(zy zY.out 0).trans rfl, (zy zQ.out 0).trans rfl, (zy zQ.out 1).trans rfl, (zy zQ.out 2).trans rfl, (zy zQ.out 3).trans rfl⟩ (fun hHeld => ?_)
        clear hK K
        refine Vd (some 51) ?_
        refine Jr 1 (some 49) qz (fun K hK => ?_)
        refine Yf Tryz.func12 (by kernel_rfl) rfl #[.agg #[.slice yF zD.length yG]] (by rfl) rfl rfl (by (try simp only [List.map_toArray, List.map_cons, List.map_nil]); first | done | rfl | (simp only [List.length_drop, List.length_take]; rfl)) ?_
        with_reducible refine (qx.calls (fun k_ => k_ < w.heap.size) _ _ zD kS _ ?yO ?qd A19.out).mono ?_
        (case yO => exact Kd.zqQ VZ.out (Kd.YJ (Kd.C_F Q7 XZ.out) (zB HB.out)))
        (case qd => exact GW.under HG.out (zB HB.out))
        rintro e w39 ⟨ZW, rfl, ho0, hb⟩
        refine ⟨_, rfl, ?_⟩
        have zX := zx.mk (Kd.qY (z8 ql.out) (Kd.vK ho0) hb)
        have zV := zx.mk (Kd.qY (z8 qH.out) (Kd.vK ho0) hb)
        have zf := zx.mk (Kd.yU (zR qg.out) hb)
        have zu := zx.mk (Kd.qY (z8 xV.out) (Kd.vK ho0) hb)
        have yZ := zx.mk (Kd.qY (z8 vZ.out) (Kd.vK ho0) hb)
        have yT := zx.mk (Kd.yU (zR xK.out) hb)
        have qX := zx.mk (Kd.yU (zR ZF.out) hb)
        have qo := zx.mk (Kd.wH (Kd.yM (ok' := fun k_ => some k_ ≠ (.slice kV uP.length kK : Value).ownBlock ∧ some k_ ≠ (uH : Value).ownBlock ∧ some k_ ≠ (yS : Value).ownBlock ∧ some k_ ≠ (.slice kX uh.length kJ : Value).ownBlock ∧ some k_ ≠ (xR : Value).ownBlock ∧ some k_ ≠ (yg : Value).ownBlock ∧ some k_ ≠ (YB : Value).ownBlock ∧ k_ ≠ zh ∧ k_ ≠ zJ) ho0 (fun k_ vN => ⟨Or.elim vN (fun hs_ => fun e_ => Nat.not_le.2 hs_ (Kd.vK ql.out k_ e_.symm)) (fun uG => (Kd.fresh' (Kd.uj (z8 ql.out)) k_ uG)), Or.elim vN (fun hs_ => fun e_ => Nat.not_le.2 hs_ (Kd.vK qH.out k_ e_.symm)) (fun uG => (Kd.fresh' (Kd.uj (z8 qH.out)) k_ uG)), Or.elim vN (fun hs_ => fun e_ => Nat.not_le.2 hs_ (Kd.qQ qg.out k_ e_.symm)) (fun uG => (Kd.fresh' (Kd.qW (zR qg.out)) k_ uG)), Or.elim vN (fun hs_ => fun e_ => Nat.not_le.2 hs_ (Kd.vK xV.out k_ e_.symm)) (fun uG => (Kd.fresh' (Kd.uj (z8 xV.out)) k_ uG)), Or.elim vN (fun hs_ => fun e_ => Nat.not_le.2 hs_ (Kd.vK vZ.out k_ e_.symm)) (fun uG => (Kd.fresh' (Kd.uj (z8 vZ.out)) k_ uG)), Or.elim vN (fun hs_ => fun e_ => Nat.not_le.2 hs_ (Kd.qQ xK.out k_ e_.symm)) (fun uG => (Kd.fresh' (Kd.qW (zR xK.out)) k_ uG)), Or.elim vN (fun hs_ => fun e_ => Nat.not_le.2 hs_ (Kd.qQ ZF.out k_ e_.symm)) (fun uG => (Kd.fresh' (Kd.qW (zR ZF.out)) k_ uG)), Or.elim vN (fun hs_ => fun e_ => Nat.not_le.2 hs_ (by rw [e_]; exact dU.out)) (fun uG => (Kd.xJ (g := zh) (o := .cells #[.slice yF zD.length yG] 24 (0, 0)) (zU zY.out) k_ uG)), Or.elim vN (fun hs_ => fun e_ => Nat.not_le.2 hs_ (by rw [e_]; exact gy.out)) (fun uG => (Kd.xJ (g := zJ) (o := .cells #[.int .i64 0, .int .i64 12, .bool false, .bool false] 26 (0, 0)) (zU zQ.out) k_ uG))⟩)) (zW (zB HB.out)))
        have qp := zx.mk (zm (g := zh) (o := .cells #[.slice yF zD.length yG] 24 (0, 0)) (zU zY.out) hb)
        have qM := zx.mk (zm (g := zJ) (o := .cells #[.int .i64 0, .int .i64 12, .bool false, .bool false] 26 (0, 0)) (zU zQ.out) hb)
        have uZ := zx.mk (zA (zB HB.out) hb)
        clear ql qH qg xV vZ xK ZF zY zQ HB
        have ql := zX
        have qH := zV
        have qg := zf
        have xV := zu
        have vZ := yZ
        have xK := yT
        have ZF := qX
        have j5 := qo
        have zY := qp
        have zQ := qM
        have HB := uZ
        clear zX zV zf zu yZ yT qX qo qp qM uZ
        (try clear hb)
        (try clear hb2)
        (try clear hk)
        (try clear hi)
        (try clear ho0)
        refine hK.out _ _ ⟨(zy zY.out 0).trans rfl, (zy zQ.out 0).trans rfl, (zy zQ.out 1).trans rfl, (zy zQ.out 2).trans rfl, (zy zQ.out 3).trans rfl⟩ (fun hHeld => ?_)
        clear hK K
        refine Vd (some 49) ?_
        exact wB (by simp only [Qi, Act.put, List.setIfInBounds_toArray, List.set_cons_zero, List.set_cons_succ]) (zky (ZW, YB) _ ⟨hHeld, (by (with_reducible repeat (first | apply Kd.qD | apply Kd.qF | apply Kd.qE)); exact Kd.yM ql.out (fun _ hk => ⟨hk.1.1.1.1.1.1.2, ⟨hk.1.1.1.1.1.2, ⟨hk.1.1.1.1.2, ⟨hk.1.1.1.2, ⟨hk.1.1.2, ⟨hk.2, ⟨hk.1.2, ⟨hk.1.1.1.1.1.1.1.1, hk.1.1.1.1.1.1.1.2⟩⟩⟩⟩⟩⟩⟩⟩)), (by (with_reducible repeat (first | apply Kd.qD | apply Kd.qF | apply Kd.qE)); exact Kd.yM qH.out (fun _ hk => ⟨hk.1.1.1.1.1.2.1, ⟨hk.1.1.1.1.1.1, ⟨hk.1.1.1.1.2, ⟨hk.1.1.1.2, ⟨hk.1.1.2, ⟨hk.2, ⟨hk.1.2, ⟨hk.1.1.1.1.1.2.2.1, hk.1.1.1.1.1.2.2.2⟩⟩⟩⟩⟩⟩⟩⟩)), (zR (Kd.xQ qg.out (fun _ hk => ⟨hk.1.2, hk.2⟩))), (by (with_reducible repeat (first | apply Kd.qD | apply Kd.qF | apply Kd.qE)); exact Kd.yM xV.out (fun _ hk => ⟨hk.1.1.1.1.1, ⟨hk.1.1.1.1.2.1, ⟨hk.1.1.1.1.2.2.1, ⟨hk.1.1.1.2, ⟨hk.1.1.2, ⟨hk.2, ⟨hk.1.2, ⟨hk.1.1.1.1.2.2.2.1, hk.1.1.1.1.2.2.2.2⟩⟩⟩⟩⟩⟩⟩⟩)), (by (with_reducible repeat (first | apply Kd.qD | apply Kd.qF | apply Kd.qE)); exact Kd.yM vZ.out (fun _ hk => ⟨hk.1.1.2.1, ⟨hk.1.1.2.2.1, ⟨hk.1.1.2.2.2.1, ⟨hk.1.1.2.2.2.2.1, ⟨hk.1.1.1, ⟨hk.2, ⟨hk.1.2, ⟨hk.1.1.2.2.2.2.2.1, hk.1.1.2.2.2.2.2.2⟩⟩⟩⟩⟩⟩⟩⟩)), (zR (Kd.xQ xK.out (fun _ hk => ⟨hk.1.2, hk.2⟩))), (z8 j5.out), (zR (Kd.xQ ZF.out (fun _ hk => ⟨hk.1.2, hk.2⟩))), (zU zY.out), (zU zQ.out), (zB HB.out)⟩)
      rintro ⟨ZW, YB⟩ Xp ⟨hS_, h0_, h1_, h2_, h3_, h4_, h5_, h6_, h7_, h8_, h9_, zwZ⟩
      have zX : zx (Kd.N jY 60 Xp w.heap.size (fun k_ => some k_ ≠ (uH : Value).ownBlock ∧ some k_ ≠ (yS : Value).ownBlock ∧ some k_ ≠ (.slice kX uh.length kJ : Value).ownBlock ∧ some k_ ≠ (xR : Value).ownBlock ∧ some k_ ≠ (yg : Value).ownBlock ∧ some k_ ≠ (ZW : Value).ownBlock ∧ some k_ ≠ (YB : Value).ownBlock ∧ k_ ≠ zh ∧ k_ ≠ zJ) (.slice kV uP.length kK) uP) := ⟨h0_⟩
      have zV : zx (Kd.N kE 53 Xp w.heap.size (fun k_ => some k_ ≠ (.slice kV uP.length kK : Value).ownBlock ∧ some k_ ≠ (yS : Value).ownBlock ∧ some k_ ≠ (.slice kX uh.length kJ : Value).ownBlock ∧ some k_ ≠ (xR : Value).ownBlock ∧ some k_ ≠ (yg : Value).ownBlock ∧ some k_ ≠ (ZW : Value).ownBlock ∧ some k_ ≠ (YB : Value).ownBlock ∧ k_ ≠ zh ∧ k_ ≠ zJ) uH xC) := ⟨h1_⟩
      have zf : zx (Kd.R Kd.string 9 Xp w.heap.size (fun k_ => some k_ ≠ (yg : Value).ownBlock ∧ some k_ ≠ (YB : Value).ownBlock) yS qm) := ⟨h2_⟩
      have zu : zx (Kd.N jY 60 Xp w.heap.size (fun k_ => some k_ ≠ (.slice kV uP.length kK : Value).ownBlock ∧ some k_ ≠ (uH : Value).ownBlock ∧ some k_ ≠ (yS : Value).ownBlock ∧ some k_ ≠ (xR : Value).ownBlock ∧ some k_ ≠ (yg : Value).ownBlock ∧ some k_ ≠ (ZW : Value).ownBlock ∧ some k_ ≠ (YB : Value).ownBlock ∧ k_ ≠ zh ∧ k_ ≠ zJ) (.slice kX uh.length kJ) uh) := ⟨h3_⟩
      have yZ : zx (Kd.N kE 53 Xp w.heap.size (fun k_ => some k_ ≠ (.slice kV uP.length kK : Value).ownBlock ∧ some k_ ≠ (uH : Value).ownBlock ∧ some k_ ≠ (yS : Value).ownBlock ∧ some k_ ≠ (.slice kX uh.length kJ : Value).ownBlock ∧ some k_ ≠ (yg : Value).ownBlock ∧ some k_ ≠ (ZW : Value).ownBlock ∧ some k_ ≠ (YB : Value).ownBlock ∧ k_ ≠ zh ∧ k_ ≠ zJ) xR vD) := ⟨h4_⟩
      have yT : zx (Kd.R Kd.string 9 Xp w.heap.size (fun k_ => some k_ ≠ (yS : Value).ownBlock ∧ some k_ ≠ (YB : Value).ownBlock) yg xA) := ⟨h5_⟩
      have qX : zx (Kd.N jY 60 Xp w.heap.size (fun k_ => some k_ ≠ (.slice kV uP.length kK : Value).ownBlock ∧ some k_ ≠ (uH : Value).ownBlock ∧ some k_ ≠ (yS : Value).ownBlock ∧ some k_ ≠ (.slice kX uh.length kJ : Value).ownBlock ∧ some k_ ≠ (xR : Value).ownBlock ∧ some k_ ≠ (yg : Value).ownBlock ∧ some k_ ≠ (YB : Value).ownBlock ∧ k_ ≠ zh ∧ k_ ≠ zJ) ZW kS) := ⟨h6_⟩
      have qo : zx (Kd.R Kd.string 9 Xp w.heap.size (fun k_ => some k_ ≠ (yS : Value).ownBlock ∧ some k_ ≠ (yg : Value).ownBlock) YB jD) := ⟨h7_⟩
      have qp : zx (Xp.heap[zh]? = some (.cells #[.slice yF zD.length yG] 24 (0, 0))) := ⟨h8_⟩
      have qM : zx (Xp.heap[zJ]? = some (.cells #[.int .i64 0, .int .i64 12, .bool false, .bool false] 26 (0, 0))) := ⟨h9_⟩
      have uZ : zx (Below w.heap.size w Xp) := ⟨zwZ⟩
      clear ql qH qg xV vZ xK zY zQ HB h0_ h1_ h2_ h3_ h4_ h5_ h6_ h7_ h8_ h9_ zwZ
      have ql := zX
      have qH := zV
      have qg := zf
      have xV := zu
      have vZ := yZ
      have xK := yT
      have j5 := qX
      have ZF := qo
      have zY := qp
      have zQ := qM
      have HB := uZ
      clear zX zV zf zu yZ yT qX qo qp qM uZ
      have hHeld : Xp.cell? ⟨zh, 0, none⟩ = some (.slice yF zD.length yG) ∧ Xp.cell? ⟨zJ, 0, none⟩ = some (.int .i64 0) ∧ Xp.cell? ⟨zJ, 1, none⟩ = some (.int .i64 12) ∧ Xp.cell? ⟨zJ, 2, none⟩ = some (.bool false) ∧ Xp.cell? ⟨zJ, 3, none⟩ = some (.bool false) := hS_
      refine wB (a' := ?_) ?_ ?_
      rotate_left
      ·simp only [Qi, Act.put, List.setIfInBounds_toArray, List.set_cons_zero, List.set_cons_succ]
       rfl
      refine Jr 5 (some 53) qz (fun K hK => ?_)
      refine Kd.ZX Kd.string (w0 := w) w.heap.size (by rfl) (.tmp 51) (.tmp 52) 27 9 (.string ⟨#[]⟩) 16 rfl Tryz.underlying27 Q6 rfl (by decide) (by omega) YB jD l1 _ _ _ (fun k_ => some k_ ≠ (yS : Value).ownBlock ∧ some k_ ≠ (yg : Value).ownBlock) (fun _ => False) rfl rfl ?aO ?aR (fun _ _ h => h) (fun _ h => h.elim) ?aF ?aB ?aS ?aL ?_
      (case aR => repeat (first | exact (Kd.zC HR1.out HB.out) | (with_reducible refine Kd.yJ ?_ _) | (with_reducible refine Kd.yV ?_ _) | (with_reducible refine Kd.yH ?_)))
      (case aB => exact (zB HB.out))
      (case aF => exact (fun k_ hk => ⟨Kd.fresh' (Kd.qW (zR qg.out)) k_ hk, Kd.fresh' (Kd.qW (zR xK.out)) k_ hk⟩))
      (case aO => exact (zR ZF.out))
      (case aS => exact (zW (zB HB.out)))
      (case aL => have := zZ7.out; omega)
      intro zXM w41 ho hb hg hat
      rw [← zZ8.out] at ho
      have zX := zx.mk (qj (g := zh) (o := .cells #[.slice yF zD.length yG] 24 (0, 0)) (zU zY.out) hg (Kd.wW ZF.out zY.out (by decide)))
      have zV := zx.mk (qj (g := zJ) (o := .cells #[.int .i64 0, .int .i64 12, .bool false, .bool false] 26 (0, 0)) (zU zQ.out) hg (Kd.wW ZF.out zQ.out (by decide)))
      have zf := zx.mk (Kd.yN (ok := (fun k_ => some k_ ≠ (uH : Value).ownBlock ∧ some k_ ≠ (yS : Value).ownBlock ∧ some k_ ≠ (.slice kX uh.length kJ : Value).ownBlock ∧ some k_ ≠ (xR : Value).ownBlock ∧ some k_ ≠ (yg : Value).ownBlock ∧ some k_ ≠ (ZW : Value).ownBlock ∧ k_ ≠ zh ∧ k_ ≠ zJ)) (by (with_reducible repeat (first | apply Kd.qD | apply Kd.qF | apply Kd.qE)); exact Kd.yM ql.out (fun _ hk => ⟨⟨hk.1, ⟨hk.2.1, ⟨hk.2.2.1, ⟨hk.2.2.2.1, ⟨hk.2.2.2.2.1, ⟨hk.2.2.2.2.2.1, ⟨hk.2.2.2.2.2.2.2.1, hk.2.2.2.2.2.2.2.2⟩⟩⟩⟩⟩⟩⟩, hk.2.2.2.2.2.2.1⟩)) hg hat)
      have zu := zx.mk (Kd.yN (ok := (fun k_ => some k_ ≠ (.slice kV uP.length kK : Value).ownBlock ∧ some k_ ≠ (yS : Value).ownBlock ∧ some k_ ≠ (.slice kX uh.length kJ : Value).ownBlock ∧ some k_ ≠ (xR : Value).ownBlock ∧ some k_ ≠ (yg : Value).ownBlock ∧ some k_ ≠ (ZW : Value).ownBlock ∧ k_ ≠ zh ∧ k_ ≠ zJ)) (by (with_reducible repeat (first | apply Kd.qD | apply Kd.qF | apply Kd.qE)); exact Kd.yM qH.out (fun _ hk => ⟨⟨hk.1, ⟨hk.2.1, ⟨hk.2.2.1, ⟨hk.2.2.2.1, ⟨hk.2.2.2.2.1, ⟨hk.2.2.2.2.2.1, ⟨hk.2.2.2.2.2.2.2.1, hk.2.2.2.2.2.2.2.2⟩⟩⟩⟩⟩⟩⟩, hk.2.2.2.2.2.2.1⟩)) hg hat)
      have yZ := zx.mk (Kd.jr (ok := (fun k_ => some k_ ≠ (yg : Value).ownBlock)) (zR qg.out) hg hat)
      have yT := zx.mk (Kd.yN (ok := (fun k_ => some k_ ≠ (.slice kV uP.length kK : Value).ownBlock ∧ some k_ ≠ (uH : Value).ownBlock ∧ some k_ ≠ (yS : Value).ownBlock ∧ some k_ ≠ (xR : Value).ownBlock ∧ some k_ ≠ (yg : Value).ownBlock ∧ some k_ ≠ (ZW : Value).ownBlock ∧ k_ ≠ zh ∧ k_ ≠ zJ)) (by (with_reducible repeat (first | apply Kd.qD | apply Kd.qF | apply Kd.qE)); exact Kd.yM xV.out (fun _ hk => ⟨⟨hk.1, ⟨hk.2.1, ⟨hk.2.2.1, ⟨hk.2.2.2.1, ⟨hk.2.2.2.2.1, ⟨hk.2.2.2.2.2.1, ⟨hk.2.2.2.2.2.2.2.1, hk.2.2.2.2.2.2.2.2⟩⟩⟩⟩⟩⟩⟩, hk.2.2.2.2.2.2.1⟩)) hg hat)
      have qX := zx.mk (Kd.yN (ok := (fun k_ => some k_ ≠ (.slice kV uP.length kK : Value).ownBlock ∧ some k_ ≠ (uH : Value).ownBlock ∧ some k_ ≠ (yS : Value).ownBlock ∧ some k_ ≠ (.slice kX uh.length kJ : Value).ownBlock ∧ some k_ ≠ (yg : Value).ownBlock ∧ some k_ ≠ (ZW : Value).ownBlock ∧ k_ ≠ zh ∧ k_ ≠ zJ)) (by (with_reducible repeat (first | apply Kd.qD | apply Kd.qF | apply Kd.qE)); exact Kd.yM vZ.out (fun _ hk => ⟨⟨hk.1, ⟨hk.2.1, ⟨hk.2.2.1, ⟨hk.2.2.2.1, ⟨hk.2.2.2.2.1, ⟨hk.2.2.2.2.2.1, ⟨hk.2.2.2.2.2.2.2.1, hk.2.2.2.2.2.2.2.2⟩⟩⟩⟩⟩⟩⟩, hk.2.2.2.2.2.2.1⟩)) hg hat)
      have qo := zx.mk (Kd.jr (ok := (fun k_ => some k_ ≠ (yS : Value).ownBlock)) (zR xK.out) hg hat)
      have qp := zx.mk (Kd.yN (ok := (fun k_ => some k_ ≠ (.slice kV uP.length kK : Value).ownBlock ∧ some k_ ≠ (uH : Value).ownBlock ∧ some k_ ≠ (yS : Value).ownBlock ∧ some k_ ≠ (.slice kX uh.length kJ : Value).ownBlock ∧ some k_ ≠ (xR : Value).ownBlock ∧ some k_ ≠ (yg : Value).ownBlock ∧ k_ ≠ zh ∧ k_ ≠ zJ)) (by (with_reducible repeat (first | apply Kd.qD | apply Kd.qF | apply Kd.qE)); exact Kd.yM j5.out (fun _ hk => ⟨⟨hk.1, ⟨hk.2.1, ⟨hk.2.2.1, ⟨hk.2.2.2.1, ⟨hk.2.2.2.2.1, ⟨hk.2.2.2.2.2.1, ⟨hk.2.2.2.2.2.2.2.1, hk.2.2.2.2.2.2.2.2⟩⟩⟩⟩⟩⟩⟩, hk.2.2.2.2.2.2.1⟩)) hg hat)
      have qM := zx.mk (hb)
      have uZ := zx.mk (ho)
      clear zY zQ ql qH qg xV vZ xK j5 HB ZF
      have zY := zX
      have zQ := zV
      have ql := zf
      have qH := zu
      have qg := yZ
      have xV := yT
      have vZ := qX
      have xK := qo
      have j5 := qp
      have HB := qM
      have gZ := uZ
      clear zX zV zf zu yZ yT qX qo qp qM uZ ho hb hg hat
      refine hK.out _ _ ⟨(zy zY.out 0).trans rfl, (zy zQ.out 0).trans rfl, (zy zQ.out 1).trans rfl, (zy zQ.out 2).trans rfl, (zy zQ.out 3).trans rfl⟩ (fun hHeld => ?_)
      clear hK K
      refine Vd (some 53) ?_
      refine Jr 7 (some 55) qz (fun K hK => ?_)
      refine Kd.ZX Kd.string (w0 := w) w.heap.size (by rfl) (.tmp 53) (.tmp 54) 27 9 (.string ⟨#[]⟩) 16 rfl Tryz.underlying27 Q6 rfl (by decide) (by omega) zXM jh l2 _ _ _ (fun k_ => some k_ ≠ (yS : Value).ownBlock ∧ some k_ ≠ (yg : Value).ownBlock) (fun _ => False) rfl rfl ?aO ?aR (fun _ _ h => h) (fun _ h => h.elim) ?aF ?aB ?aS ?aL ?_
      (case aR => repeat (first | exact (Kd.zC HR2.out HB.out) | (with_reducible refine Kd.yJ ?_ _) | (with_reducible refine Kd.yV ?_ _) | (with_reducible refine Kd.yH ?_)))
      (case aB => exact (zB HB.out))
      (case aF => exact (fun k_ hk => ⟨Kd.fresh' (Kd.qW (zR qg.out)) k_ hk, Kd.fresh' (Kd.qW (zR xK.out)) k_ hk⟩))
      (case aO => exact (zR gZ.out))
      (case aS => exact (zW (zB HB.out)))
      (case aL => have := zZ9.out; omega)
      intro zY3 w42 ho hb hg hat
      rw [← zQz.out] at ho
      have zX := zx.mk (qj (g := zh) (o := .cells #[.slice yF zD.length yG] 24 (0, 0)) (zU zY.out) hg (Kd.wW gZ.out zY.out (by decide)))
      have zV := zx.mk (qj (g := zJ) (o := .cells #[.int .i64 0, .int .i64 12, .bool false, .bool false] 26 (0, 0)) (zU zQ.out) hg (Kd.wW gZ.out zQ.out (by decide)))
      have zf := zx.mk (Kd.yN (ok := (fun k_ => some k_ ≠ (uH : Value).ownBlock ∧ some k_ ≠ (yS : Value).ownBlock ∧ some k_ ≠ (.slice kX uh.length kJ : Value).ownBlock ∧ some k_ ≠ (xR : Value).ownBlock ∧ some k_ ≠ (yg : Value).ownBlock ∧ some k_ ≠ (ZW : Value).ownBlock ∧ k_ ≠ zh ∧ k_ ≠ zJ)) (z8 ql.out) hg hat)
      have zu := zx.mk (Kd.yN (ok := (fun k_ => some k_ ≠ (.slice kV uP.length kK : Value).ownBlock ∧ some k_ ≠ (yS : Value).ownBlock ∧ some k_ ≠ (.slice kX uh.length kJ : Value).ownBlock ∧ some k_ ≠ (xR : Value).ownBlock ∧ some k_ ≠ (yg : Value).ownBlock ∧ some k_ ≠ (ZW : Value).ownBlock ∧ k_ ≠ zh ∧ k_ ≠ zJ)) (z8 qH.out) hg hat)
      have yZ := zx.mk (Kd.jr (ok := (fun k_ => some k_ ≠ (yg : Value).ownBlock)) (zR qg.out) hg hat)
      have yT := zx.mk (Kd.yN (ok := (fun k_ => some k_ ≠ (.slice kV uP.length kK : Value).ownBlock ∧ some k_ ≠ (uH : Value).ownBlock ∧ some k_ ≠ (yS : Value).ownBlock ∧ some k_ ≠ (xR : Value).ownBlock ∧ some k_ ≠ (yg : Value).ownBlock ∧ some k_ ≠ (ZW : Value).ownBlock ∧ k_ ≠ zh ∧ k_ ≠ zJ)) (z8 xV.out) hg hat)
      have qX := zx.mk (Kd.yN (ok := (fun k_ => some k_ ≠ (.slice kV uP.length kK : Value).ownBlock ∧ some k_ ≠ (uH : Value).ownBlock ∧ some k_ ≠ (yS : Value).ownBlock ∧ some k_ ≠ (.slice kX uh.length kJ : Value).ownBlock ∧ some k_ ≠ (yg : Value).ownBlock ∧ some k_ ≠ (ZW : Value).ownBlock ∧ k_ ≠ zh ∧ k_ ≠ zJ)) (z8 vZ.out) hg hat)
      have qo := zx.mk (Kd.jr (ok := (fun k_ => some k_ ≠ (yS : Value).ownBlock)) (zR xK.out) hg hat)
      have qp := zx.mk (Kd.yN (ok := (fun k_ => some k_ ≠ (.slice kV uP.length kK : Value).ownBlock ∧ some k_ ≠ (uH : Value).ownBlock ∧ some k_ ≠ (yS : Value).ownBlock ∧ some k_ ≠ (.slice kX uh.length kJ : Value).ownBlock ∧ some k_ ≠ (xR : Value).ownBlock ∧ some k_ ≠ (yg : Value).ownBlock ∧ k_ ≠ zh ∧ k_ ≠ zJ)) (z8 j5.out) hg hat)
      have qM := zx.mk (hb)
      have uZ := zx.mk (ho)
      clear zY zQ ql qH qg xV vZ xK j5 HB gZ
      have zY := zX
      have zQ := zV
      have ql := zf
      have qH := zu
      have qg := yZ
      have xV := yT
      have vZ := qX
      have xK := qo
      have j5 := qp
      have HB := qM
      have Qa := uZ
      clear zX zV zf zu yZ yT qX qo qp qM uZ ho hb hg hat
      obtain ⟨zwQ, zwX, zwJ⟩ := Kd.jI j5.out
      (first | subst zwJ | (injection zwJ with VH sP VI; have sS := VH.symm; have sU := VI.symm; clear VH sP VI; subst sS; subst sU))
      obtain ⟨zwV, zwK, zwY⟩ := Kd.qA Qa.out
      (first | subst zwY | (injection zwY with VH sP VI; have sS := VH.symm; have sU := VI.symm; clear VH sP VI; subst sS; subst sU))
      refine hK.out _ _ ⟨(zy zY.out 0).trans rfl, (zy zQ.out 0).trans rfl, (zy zQ.out 1).trans rfl, (zy zQ.out 2).trans rfl, (zy zQ.out 3).trans rfl⟩ (fun hHeld => ?_)
      clear hK K
      refine Vd (some 55) ?_
      refine Jr 8 (some 56) qz (fun K hK => ?_)
      refine Yf Tryz.func13 (by kernel_rfl) rfl #[.slice zwQ kS.length zwX, .agg #[.int .i64 0, .int .i64 12, .bool false, .bool false], .slice zwV zq1.length zwK, .slice none 0 0] (by rfl) rfl rfl (by (try simp only [List.map_toArray, List.map_cons, List.map_nil]); first | done | rfl | (simp only [List.length_drop, List.length_take]; rfl)) ?_
      refine (yE.calls _ _ kS 0 12 false false _ _ zq1 _ _ ([] : List (uI)) kC ZM ZN _ ?yO ?qd ?q8 ?q9 ?uK ?uY ?uW A22.out).mono ?_
      (case yO => repeat (first | exact (Kd.vT j5.out).2.2 | (with_reducible refine Kd.yJ ?_ _) | (with_reducible refine Kd.yV ?_ _) | (with_reducible refine Kd.yH ?_)))
      (case qd => exact (Kd.vT j5.out).2.1)
      (case q8 => repeat (first | exact (Kd.qO Qa.out).2.2 | (with_reducible refine Kd.yJ ?_ _) | (with_reducible refine Kd.yV ?_ _) | (with_reducible refine Kd.yH ?_)))
      (case q9 => exact (Kd.qO Qa.out).2.1)
      (case uK => exact Kd.QT _ _)
      (case uY => exact Nat.le_refl _)
      (case uW => exact GW.under HG.out (zB HB.out))
      rintro e w45 ⟨vE, qy, rfl, ho0, ho1, hb⟩
      refine ⟨_, rfl, ?_⟩
      have zX := zx.mk (Kd.yM (Kd.jG (Kd.jG (Kd.Xt (z8 ql.out) hb) (Kd.ZP ho0)) (Kd.qQ ho1)) (fun _ h_ => h_.1))
      have zV := zx.mk (Kd.yM (Kd.jG (Kd.jG (Kd.Xt (z8 qH.out) hb) (Kd.ZP ho0)) (Kd.qQ ho1)) (fun _ h_ => h_.1))
      have zf := zx.mk (Kd.uJ (zR qg.out) (Kd.qQ ho1) hb)
      have zu := zx.mk (Kd.yM (Kd.jG (Kd.jG (Kd.Xt (z8 xV.out) hb) (Kd.ZP ho0)) (Kd.qQ ho1)) (fun _ h_ => h_.1))
      have yZ := zx.mk (Kd.yM (Kd.jG (Kd.jG (Kd.Xt (z8 vZ.out) hb) (Kd.ZP ho0)) (Kd.qQ ho1)) (fun _ h_ => h_.1))
      have yT := zx.mk (Kd.uJ (zR xK.out) (Kd.qQ ho1) hb)
      have qX := zx.mk (Kd.yM (Kd.jG (Kd.jG (Kd.Xt (z8 j5.out) hb) (Kd.ZP ho0)) (Kd.qQ ho1)) (fun _ h_ => h_.1))
      have qo := zx.mk (Kd.uJ (zR Qa.out) (Kd.qQ ho1) hb)
      have qp := zx.mk (Kd.wH (Kd.yM (ok' := fun k_ => some k_ ≠ (qy : Value).ownBlock ∧ some k_ ≠ (.slice kV uP.length kK : Value).ownBlock ∧ some k_ ≠ (uH : Value).ownBlock ∧ some k_ ≠ (yS : Value).ownBlock ∧ some k_ ≠ (.slice kX uh.length kJ : Value).ownBlock ∧ some k_ ≠ (xR : Value).ownBlock ∧ some k_ ≠ (yg : Value).ownBlock ∧ some k_ ≠ (.slice zwQ kS.length zwX : Value).ownBlock ∧ some k_ ≠ (.slice zwV zq1.length zwK : Value).ownBlock ∧ k_ ≠ zh ∧ k_ ≠ zJ) (Kd.S_N (Kd.Qm (Kd.UA ho0 (Kd.V5 ho1) (by decide)))) (fun k_ vN => ⟨vN.1.2, (Kd.fresh' (Kd.uj (z8 ql.out)) k_ vN.2.1), (Kd.fresh' (Kd.uj (z8 qH.out)) k_ vN.2.1), (Kd.fresh' (Kd.qW (zR qg.out)) k_ vN.2.1), (Kd.fresh' (Kd.uj (z8 xV.out)) k_ vN.2.1), (Kd.fresh' (Kd.uj (z8 vZ.out)) k_ vN.2.1), (Kd.fresh' (Kd.qW (zR xK.out)) k_ vN.2.1), (Kd.fresh' (Kd.uj (z8 j5.out)) k_ vN.2.1), (Kd.fresh' (Kd.qW (zR Qa.out)) k_ vN.2.1), (Kd.xJ (g := zh) (o := .cells #[.slice yF zD.length yG] 24 (0, 0)) (zU zY.out) k_ vN.2.1), (Kd.xJ (g := zJ) (o := .cells #[.int .i64 0, .int .i64 12, .bool false, .bool false] 26 (0, 0)) (zU zQ.out) k_ vN.2.1)⟩)) (zW (zB HB.out)))
      have qM := zx.mk (Kd.vv (Kd.jF (Kd.jF (Kd.jF ho1 (Kd.qW (zR qg.out))) (Kd.qW (zR xK.out))) (Kd.qW (zR Qa.out))) (zW (zB HB.out)))
      have uZ := zx.mk (zm (g := zh) (o := .cells #[.slice yF zD.length yG] 24 (0, 0)) (zU zY.out) hb)
      have zwW := zx.mk (zm (g := zJ) (o := .cells #[.int .i64 0, .int .i64 12, .bool false, .bool false] 26 (0, 0)) (zU zQ.out) hb)
      have zwa := zx.mk (zA (zB HB.out) hb)
      clear ql qH qg xV vZ xK j5 Qa zY zQ HB
      have ql := zX
      have qH := zV
      have qg := zf
      have xV := zu
      have vZ := yZ
      have xK := yT
      have j5 := qX
      have Qa := qo
      have zkw := qp
      have zkZ := qM
      have zY := uZ
      have zQ := zwW
      have HB := zwa
      clear zX zV zf zu yZ yT qX qo qp qM uZ zwW zwa
      (try clear hb)
      (try clear hb2)
      (try clear hk)
      (try clear hi)
      (try clear ho0)
      (try clear ho1)
      refine hK.out _ _ ⟨(zy zY.out 0).trans rfl, (zy zQ.out 0).trans rfl, (zy zQ.out 1).trans rfl, (zy zQ.out 2).trans rfl, (zy zQ.out 3).trans rfl⟩ (fun hHeld => ?_)
      clear hK K
      refine Vd (some 56) ?_
      refine pI 9 (some 47) qz ?_
      refine pI 10 (some 57) qz ?_
      refine pI 11 (some 58) qz ?_
      refine pI 12 (some 59) qz ?_
      refine pI 13 (some 14) qz ?_
      refine pI 14 (some 15) qz ?_
      refine pI 15 (some 16) qz ?_
      refine wX (jA qz.out (by kernel_rfl)) ?_
      go_upto_region 7 with (fail)
      go_cut [65] (fun v65 wc => ∃ (kq : Nat) (Kz : Bool), v65 = .bool Kz ∧ zx (zZ.j1 kq xC qm vD xA kC ZM ZN Kz = some r) ∧ zx (kq ≤ Z0) ∧ zx (Kd.N kE 53 wc w.heap.size (fun k_ => some k_ ≠ (yS : Value).ownBlock ∧ some k_ ≠ (xR : Value).ownBlock ∧ some k_ ≠ (yg : Value).ownBlock ∧ some k_ ≠ (vE : Value).ownBlock ∧ some k_ ≠ (qy : Value).ownBlock ∧ k_ ≠ zh ∧ k_ ≠ zJ) uH xC) ∧ zx (Kd.R Kd.string 9 wc w.heap.size (fun k_ => some k_ ≠ (yg : Value).ownBlock ∧ some k_ ≠ (qy : Value).ownBlock) yS qm) ∧ zx (Kd.N kE 53 wc w.heap.size (fun k_ => some k_ ≠ (uH : Value).ownBlock ∧ some k_ ≠ (yS : Value).ownBlock ∧ some k_ ≠ (yg : Value).ownBlock ∧ some k_ ≠ (vE : Value).ownBlock ∧ some k_ ≠ (qy : Value).ownBlock ∧ k_ ≠ zh ∧ k_ ≠ zJ) xR vD) ∧ zx (Kd.R Kd.string 9 wc w.heap.size (fun k_ => some k_ ≠ (yS : Value).ownBlock ∧ some k_ ≠ (qy : Value).ownBlock) yg xA) ∧ zx (Kd.N kE 53 wc w.heap.size (fun k_ => some k_ ≠ (uH : Value).ownBlock ∧ some k_ ≠ (yS : Value).ownBlock ∧ some k_ ≠ (xR : Value).ownBlock ∧ some k_ ≠ (yg : Value).ownBlock ∧ some k_ ≠ (qy : Value).ownBlock ∧ k_ ≠ zh ∧ k_ ≠ zJ) vE kC) ∧ zx (Kd.R Kd.string 9 wc w.heap.size (fun k_ => some k_ ≠ (yS : Value).ownBlock ∧ some k_ ≠ (yg : Value).ownBlock) qy ZM) ∧ zx (wc.heap[zh]? = some (.cells #[(.slice yF zD.length yG)] 24 (0, 0))) ∧ zx (wc.heap[zJ]? = some (.cells #[.int .i64 0, .int .i64 12, .bool false, .bool false] 26 (0, 0))) ∧ zx (Below w.heap.size w wc))
      case first =>
       have H := zvn.out
       clear zvn
       by_cases c46 : YA = 0
       ·rw [if_pos c46] at H
        have UY : (YA == 0) = true := beq_iff_eq.mpr c46
        have zkQ : (YA != 0) = false := bne_eq_false_iff_eq.mpr c46
        clear c46
        (first | rw [UY] | (simp only [vJ, vV]; rw [UY]) | skip)
        have H' := zx.mk H
        clear H
        go_wp2
        go_meet
        case rel => exact ⟨_, ((VG != 0)), (by first | rfl | (simp; done) | (simp [*]; done)), H', ⟨by have := fq.out; first | omega | exact Nat.le_refl _⟩, ⟨by (with_reducible repeat (first | apply Kd.qD | apply Kd.qF | apply Kd.qE)); exact Kd.yM qH.out (fun _ hk => ⟨hk.1.1.1.2.1, ⟨hk.1.1.1.2.2.2.1, ⟨hk.1.1.1.2.2.2.2.1, ⟨hk.1.2, ⟨hk.2, ⟨hk.1.1.1.2.2.2.2.2.2.1, hk.1.1.1.2.2.2.2.2.2.2⟩⟩⟩⟩⟩⟩)⟩, ⟨by (with_reducible repeat (first | apply Kd.Yk | apply Kd.Yy | apply Kd.wF)); exact Kd.xQ qg.out (fun _ hk => ⟨hk.1.1, hk.2⟩)⟩, ⟨by (with_reducible repeat (first | apply Kd.qD | apply Kd.qF | apply Kd.qE)); exact Kd.yM vZ.out (fun _ hk => ⟨hk.1.1.1.2.1, ⟨hk.1.1.1.2.2.1, ⟨hk.1.1.1.2.2.2.2.1, ⟨hk.1.2, ⟨hk.2, ⟨hk.1.1.1.2.2.2.2.2.2.1, hk.1.1.1.2.2.2.2.2.2.2⟩⟩⟩⟩⟩⟩)⟩, ⟨by (with_reducible repeat (first | apply Kd.Yk | apply Kd.Yy | apply Kd.wF)); exact Kd.xQ xK.out (fun _ hk => ⟨hk.1.1, hk.2⟩)⟩, ⟨by (with_reducible repeat (first | apply Kd.qD | apply Kd.qF | apply Kd.qE)); exact Kd.yM zkw.out (fun _ hk => ⟨hk.2.2.1, ⟨hk.2.2.2.1, ⟨hk.2.2.2.2.2.1, ⟨hk.2.2.2.2.2.2.1, ⟨hk.1, ⟨hk.2.2.2.2.2.2.2.2.2.1, hk.2.2.2.2.2.2.2.2.2.2⟩⟩⟩⟩⟩⟩)⟩, ⟨by (with_reducible repeat (first | apply Kd.Yk | apply Kd.Yy | apply Kd.wF)); exact Kd.xQ zkZ.out (fun _ hk => ⟨hk.1.1.2, hk.1.2⟩)⟩, ⟨zU zY.out⟩, ⟨zU zQ.out⟩, ⟨zB HB.out⟩⟩
       ·rw [if_neg c46] at H
        have UY : (YA == 0) = false := beq_eq_false_iff_ne.mpr c46
        have zkQ : (YA != 0) = true := bne_iff_ne.mpr c46
        (first | rw [UY] | (simp only [vJ, vV]; rw [UY]) | skip)
        have H' := zx.mk H
        clear H
        go_wp2
        go_meet
        case rel => exact ⟨_, (true), (by first | rfl | (simp; done) | (simp [*]; done)), H', ⟨by have := fq.out; first | omega | exact Nat.le_refl _⟩, ⟨by (with_reducible repeat (first | apply Kd.qD | apply Kd.qF | apply Kd.qE)); exact Kd.yM qH.out (fun _ hk => ⟨hk.1.1.1.2.1, ⟨hk.1.1.1.2.2.2.1, ⟨hk.1.1.1.2.2.2.2.1, ⟨hk.1.2, ⟨hk.2, ⟨hk.1.1.1.2.2.2.2.2.2.1, hk.1.1.1.2.2.2.2.2.2.2⟩⟩⟩⟩⟩⟩)⟩, ⟨by (with_reducible repeat (first | apply Kd.Yk | apply Kd.Yy | apply Kd.wF)); exact Kd.xQ qg.out (fun _ hk => ⟨hk.1.1, hk.2⟩)⟩, ⟨by (with_reducible repeat (first | apply Kd.qD | apply Kd.qF | apply Kd.qE)); exact Kd.yM vZ.out (fun _ hk => ⟨hk.1.1.1.2.1, ⟨hk.1.1.1.2.2.1, ⟨hk.1.1.1.2.2.2.2.1, ⟨hk.1.2, ⟨hk.2, ⟨hk.1.1.1.2.2.2.2.2.2.1, hk.1.1.1.2.2.2.2.2.2.2⟩⟩⟩⟩⟩⟩)⟩, ⟨by (with_reducible repeat (first | apply Kd.Yk | apply Kd.Yy | apply Kd.wF)); exact Kd.xQ xK.out (fun _ hk => ⟨hk.1.1, hk.2⟩)⟩, ⟨by (with_reducible repeat (first | apply Kd.qD | apply Kd.qF | apply Kd.qE)); exact Kd.yM zkw.out (fun _ hk => ⟨hk.2.2.1, ⟨hk.2.2.2.1, ⟨hk.2.2.2.2.2.1, ⟨hk.2.2.2.2.2.2.1, ⟨hk.1, ⟨hk.2.2.2.2.2.2.2.2.2.1, hk.2.2.2.2.2.2.2.2.2.2⟩⟩⟩⟩⟩⟩)⟩, ⟨by (with_reducible repeat (first | apply Kd.Yk | apply Kd.Yy | apply Kd.wF)); exact Kd.xQ zkZ.out (fun _ hk => ⟨hk.1.1.2, hk.1.2⟩)⟩, ⟨zU zY.out⟩, ⟨zU zQ.out⟩, ⟨zB HB.out⟩⟩
      case rest =>
       clear zvn
       try clear c1
       try clear c2
       try clear p2
       try clear c4
       try clear c12
       try clear c13
       try clear c20
       try clear c21
       try clear c46
       try clear UY
       try clear zkQ
       obtain ⟨kq, Kz, rfl, HA, zY4, qh, qZ, yI, yh, yA, yK, zY, zQ, HB⟩ := hcut
       cases kq with
       | zero => exact absurd HA.out (by simp [zZ.j1])
       | succ p8 =>
        have H := HA.out
        clear HA
        simp only [zZ.j1] at H
        by_cases c47 : Kz = true
        ·subst c47
         have H1 : (if ZN = 0 then (some false) else ((yC.f).bind fun bf => (some bf))) = some r := by rw [if_pos rfl] at H; exact H
         clear H
         have H := H1
         clear H1
         by_cases tq : ZN = 0
         ·rw [if_pos tq] at H
          have zQq : (ZN == 0) = true := beq_iff_eq.mpr tq
          have zQx : (ZN != 0) = false := bne_eq_false_iff_eq.mpr tq
          clear tq
          obtain rfl := Option.some.inj H
          go_wp2
          go_ret
          exact ⟨by first | rfl | (simp [zG, zH] <;> rfl) | (simp [*, zG, zH] <;> rfl), by repeat (first | (with_reducible first | exact HB.out | apply yj | apply zN | apply yY | refine qb ?_ VQ.out | refine qb ?_ UK.out) | exact HB.out)⟩
         ·rw [if_neg tq] at H
          have zQq : (ZN == 0) = false := beq_eq_false_iff_ne.mpr tq
          have zQx : (ZN != 0) = true := bne_iff_ne.mpr tq
          replace H := Option.bind_eq_some_iff.mp H
          obtain ⟨bf, zwb, H⟩ := H
          replace H : (some bf) = some r := H
          have A49 := zx.mk zwb
          clear zwb
          obtain rfl := Option.some.inj H
          go_wp2_with (first | (go_at_call 11; (with_reducible refine (yC.calls  bf _ ?yO A49.out).mono ?_); (case yO => exact GW.under HG.out (zB HB.out)); rintro e w50 ⟨rfl, hb⟩; have zX := zx.mk (Kd.vB (z8 qh.out) hb); have zV := zx.mk (Kd.yU (zR qZ.out) hb); have zf := zx.mk (Kd.vB (z8 yI.out) hb); have zu := zx.mk (Kd.yU (zR yh.out) hb); have yZ := zx.mk (Kd.vB (z8 yA.out) hb); have yT := zx.mk (Kd.yU (zR yK.out) hb); have qX := zx.mk (zm (g := zh) (o := .cells #[.slice yF zD.length yG] 24 (0, 0)) (zU zY.out) hb); have qo := zx.mk (zm (g := zJ) (o := .cells #[.int .i64 0, .int .i64 12, .bool false, .bool false] 26 (0, 0)) (zU zQ.out) hb); have qp := zx.mk (zA (zB HB.out) hb); clear qh; clear qZ; clear yI; clear yh; clear yA; clear yK; clear zY; clear zQ; clear HB; have qh := zX; have qZ := zV; have yI := zf; have yh := zu; have yA := yZ; have yK := yT; have zY := qX; have zQ := qo; have HB := qp; clear zX zV zf zu yZ yT qX qo qp; (try clear hb); (try clear hb2); (try clear hk); (try clear hi)))
          go_ret
          exact ⟨by first | rfl | (simp [zG, zH] <;> rfl) | (simp [*, zG, zH] <;> rfl), by repeat (first | (with_reducible first | exact HB.out | apply yj | apply zN | apply yY | refine qb ?_ VQ.out | refine qb ?_ UK.out) | exact HB.out)⟩
        ·replace c47 := Bool.eq_false_iff.mpr c47
         subst c47
         have H1 : (if ZN = 0 then ((some (([] : List (jR)) : List (jR))).bind fun Y2 => (if Y2.length + xC.length < 1599289640401 then ((some (Y2 ++ xC : List (jR))).bind fun ZL => (if ZL.length + vD.length < 1599289640401 then ((zF.f p8 kC (ZL ++ vD)).bind fun Xi => (if Xi = true then ((some (([] : List ByteArray) : List ByteArray)).bind fun jO => (if jO.length + qm.length < 8796093022208 then ((some (jO ++ qm : List ByteArray)).bind fun jW => (if jW.length + xA.length < 8796093022208 then ((yx.f p8 ZM (jW ++ xA)).bind fun kU => (if kU = true then ((yC.f).bind fun j3 => (some j3)) else (some false))) else (none))) else (none))) else (some false))) else (none))) else (none))) else (some false)) = some r := by rw [if_neg (show ¬ (false = true) by decide)] at H; exact H
         clear H
         have H := H1
         clear H1
         by_cases c51 : ZN = 0
         ·rw [if_pos c51] at H
          have zQj : (ZN == 0) = true := beq_iff_eq.mpr c51
          have zQv : (ZN != 0) = false := bne_eq_false_iff_eq.mpr c51
          clear c51
          obtain ⟨Y2, Kq⟩ : ∃ y_ : List (jR), y_ = (([] : List (jR))) := ⟨_, rfl⟩
          replace H : (if Y2.length + xC.length < 1599289640401 then ((some (Y2 ++ xC : List (jR))).bind fun ZL => (if ZL.length + vD.length < 1599289640401 then ((zF.f p8 kC (ZL ++ vD)).bind fun Xi => (if Xi = true then ((some (([] : List ByteArray) : List ByteArray)).bind fun jO => (if jO.length + qm.length < 8796093022208 then ((some (jO ++ qm : List ByteArray)).bind fun jW => (if jW.length + xA.length < 8796093022208 then ((yx.f p8 ZM (jW ++ xA)).bind fun kU => (if kU = true then ((yC.f).bind fun j3 => (some j3)) else (some false))) else (none))) else (none))) else (some false))) else (none))) else (none)) = some r := by first | (rw [Kq]; with_reducible exact H) | (have uF := (Option.bind_some _ _).symm.trans H; rw [Kq]; with_reducible exact uF) | (have uF := (Option.bind_some _ _).symm.trans H; with_reducible exact uF) | with_reducible exact H | (rw [Kq]; exact H) | exact H
          have UW := zx.mk Kq
          clear Kq
          by_cases c52 : Y2.length + xC.length < 1599289640401
          ·rw [if_pos c52] at H
           have zq2 := zx.mk c52
           clear c52
           obtain ⟨ZL, Kj⟩ : ∃ y_ : List (jR), y_ = (Y2 ++ xC) := ⟨_, rfl⟩
           replace H : (if ZL.length + vD.length < 1599289640401 then ((zF.f p8 kC (ZL ++ vD)).bind fun Xi => (if Xi = true then ((some (([] : List ByteArray) : List ByteArray)).bind fun jO => (if jO.length + qm.length < 8796093022208 then ((some (jO ++ qm : List ByteArray)).bind fun jW => (if jW.length + xA.length < 8796093022208 then ((yx.f p8 ZM (jW ++ xA)).bind fun kU => (if kU = true then ((yC.f).bind fun j3 => (some j3)) else (some false))) else (none))) else (none))) else (some false))) else (none)) = some r := by first | (rw [Kj]; with_reducible exact H) | (have uF := (Option.bind_some _ _).symm.trans H; rw [Kj]; with_reducible exact uF) | (have uF := (Option.bind_some _ _).symm.trans H; with_reducible exact uF) | with_reducible exact H | (rw [Kj]; exact H) | exact H
           have zq3 := zx.mk Kj
           clear Kj
           by_cases c53 : ZL.length + vD.length < 1599289640401
           ·rw [if_pos c53] at H
            have zq4 := zx.mk c53
            clear c53
            obtain ⟨ZO, Kv⟩ : ∃ y_ : List (jR), y_ = (ZL ++ vD) := ⟨_, rfl⟩
            replace H : ((zF.f p8 kC ZO).bind fun Xi => (if Xi = true then ((some (([] : List ByteArray) : List ByteArray)).bind fun jO => (if jO.length + qm.length < 8796093022208 then ((some (jO ++ qm : List ByteArray)).bind fun jW => (if jW.length + xA.length < 8796093022208 then ((yx.f p8 ZM (jW ++ xA)).bind fun kU => (if kU = true then ((yC.f).bind fun j3 => (some j3)) else (some false))) else (none))) else (none))) else (some false))) = some r := by first | (rw [Kv]; with_reducible exact H) | (have uF := (Option.bind_some _ _).symm.trans H; rw [Kv]; with_reducible exact uF) | (have uF := (Option.bind_some _ _).symm.trans H; with_reducible exact uF) | with_reducible exact H | (rw [Kv]; exact H) | exact H
            have zq5 := zx.mk Kv
            clear Kv
            replace H := Option.bind_eq_some_iff.mp H
            obtain ⟨Xi, zwc, H⟩ := H
            replace H : (if Xi = true then ((some (([] : List ByteArray) : List ByteArray)).bind fun jO => (if jO.length + qm.length < 8796093022208 then ((some (jO ++ qm : List ByteArray)).bind fun jW => (if jW.length + xA.length < 8796093022208 then ((yx.f p8 ZM (jW ++ xA)).bind fun kU => (if kU = true then ((yC.f).bind fun j3 => (some j3)) else (some false))) else (none))) else (none))) else (some false)) = some r := H
            have A54 := zx.mk zwc
            clear zwc
            by_cases c55 : Xi = true
            ·subst c55
             have H1 : ((some (([] : List ByteArray) : List ByteArray)).bind fun jO => (if jO.length + qm.length < 8796093022208 then ((some (jO ++ qm : List ByteArray)).bind fun jW => (if jW.length + xA.length < 8796093022208 then ((yx.f p8 ZM (jW ++ xA)).bind fun kU => (if kU = true then ((yC.f).bind fun j3 => (some j3)) else (some false))) else (none))) else (none))) = some r := by rw [if_pos rfl] at H; exact H
             clear H
             have H := H1
             clear H1
             obtain ⟨jO, Kk⟩ : ∃ y_ : List ByteArray, y_ = (([] : List ByteArray)) := ⟨_, rfl⟩
             replace H : (if jO.length + qm.length < 8796093022208 then ((some (jO ++ qm : List ByteArray)).bind fun jW => (if jW.length + xA.length < 8796093022208 then ((yx.f p8 ZM (jW ++ xA)).bind fun kU => (if kU = true then ((yC.f).bind fun j3 => (some j3)) else (some false))) else (none))) else (none)) = some r := by first | (rw [Kk]; with_reducible exact H) | (have uF := (Option.bind_some _ _).symm.trans H; rw [Kk]; with_reducible exact uF) | (have uF := (Option.bind_some _ _).symm.trans H; with_reducible exact uF) | with_reducible exact H | (rw [Kk]; exact H) | exact H
             have gQ := zx.mk Kk
             clear Kk
             by_cases c56 : jO.length + qm.length < 8796093022208
             ·rw [if_pos c56] at H
              have zkX := zx.mk c56
              clear c56
              obtain ⟨jW, Ky⟩ : ∃ y_ : List ByteArray, y_ = (jO ++ qm) := ⟨_, rfl⟩
              replace H : (if jW.length + xA.length < 8796093022208 then ((yx.f p8 ZM (jW ++ xA)).bind fun kU => (if kU = true then ((yC.f).bind fun j3 => (some j3)) else (some false))) else (none)) = some r := by first | (rw [Ky]; with_reducible exact H) | (have uF := (Option.bind_some _ _).symm.trans H; rw [Ky]; with_reducible exact uF) | (have uF := (Option.bind_some _ _).symm.trans H; with_reducible exact uF) | with_reducible exact H | (rw [Ky]; exact H) | exact H
              have zkJ := zx.mk Ky
              clear Ky
              by_cases c57 : jW.length + xA.length < 8796093022208
              ·rw [if_pos c57] at H
               have zkV := zx.mk c57
               clear c57
               obtain ⟨zvo, Kw⟩ : ∃ y_ : List ByteArray, y_ = (jW ++ xA) := ⟨_, rfl⟩
               replace H : ((yx.f p8 ZM zvo).bind fun kU => (if kU = true then ((yC.f).bind fun j3 => (some j3)) else (some false))) = some r := by first | (rw [Kw]; with_reducible exact H) | (have uF := (Option.bind_some _ _).symm.trans H; rw [Kw]; with_reducible exact uF) | (have uF := (Option.bind_some _ _).symm.trans H; with_reducible exact uF) | with_reducible exact H | (rw [Kw]; exact H) | exact H
               have zkK := zx.mk Kw
               clear Kw
               replace H := Option.bind_eq_some_iff.mp H
               obtain ⟨kU, zwd, H⟩ := H
               replace H : (if kU = true then ((yC.f).bind fun j3 => (some j3)) else (some false)) = some r := H
               have A58 := zx.mk zwd
               clear zwd
               by_cases c59 : kU = true
               ·subst c59
                have H1 : ((yC.f).bind fun j3 => (some j3)) = some r := by rw [if_pos rfl] at H; exact H
                clear H
                have H := H1
                clear H1
                replace H := Option.bind_eq_some_iff.mp H
                obtain ⟨j3, zwe, H⟩ := H
                replace H : (some j3) = some r := H
                have mZ := zx.mk zwe
                clear zwe
                obtain rfl := Option.some.inj H
                go_wp2_with (first | ((with_reducible refine qw (N := 75) rfl ?_); (try (refine qV (by rfl) ?_; dsimp only)); refine Kd.zqZ kE _ 53 ?hg (N' := 75) ?hd (xs := ([] : List (jR))) (inner := []) (ok := (fun k_ => some k_ ≠ (uH : Value).ownBlock ∧ some k_ ≠ (yS : Value).ownBlock ∧ some k_ ≠ (xR : Value).ownBlock ∧ some k_ ≠ (yg : Value).ownBlock ∧ some k_ ≠ (vE : Value).ownBlock ∧ some k_ ≠ (qy : Value).ownBlock ∧ k_ ≠ zh ∧ k_ ≠ zJ)) (vW := (fun k_ => some k_ ≠ (uH : Value).ownBlock ∧ some k_ ≠ (yS : Value).ownBlock ∧ some k_ ≠ (xR : Value).ownBlock ∧ some k_ ≠ (yg : Value).ownBlock ∧ some k_ ≠ (vE : Value).ownBlock ∧ some k_ ≠ (qy : Value).ownBlock ∧ k_ ≠ zh ∧ k_ ≠ zJ)) ?hr ?hp (fun _ hk => hk) ((show ∀ k_, wc.heap.size ≤ k_ → (fun k_ => some k_ ≠ (uH : Value).ownBlock ∧ some k_ ≠ (yS : Value).ownBlock ∧ some k_ ≠ (xR : Value).ownBlock ∧ some k_ ≠ (yg : Value).ownBlock ∧ some k_ ≠ (vE : Value).ownBlock ∧ some k_ ≠ (qy : Value).ownBlock ∧ k_ ≠ zh ∧ k_ ≠ zJ) k_ from fun k_ hk => ⟨Kd.fresh' (Kd.uj (z8 qh.out)) k_ hk, Kd.fresh' (Kd.qW (zR qZ.out)) k_ hk, Kd.fresh' (Kd.uj (z8 yI.out)) k_ hk, Kd.fresh' (Kd.qW (zR yh.out)) k_ hk, Kd.fresh' (Kd.uj (z8 yA.out)) k_ hk, Kd.fresh' (Kd.qW (zR yK.out)) k_ hk, Kd.xJ (g := zh) (o := .cells #[.slice yF zD.length yG] 24 (0, 0)) (zU zY.out) k_ hk, Kd.xJ (g := zJ) (o := .cells #[.int .i64 0, .int .i64 12, .bool false, .bool false] 26 (0, 0)) (zU zQ.out) k_ hk⟩) _ (Nat.le_refl _)) (Below.refl _ _) (Nat.le_refl _) (by simp) ?_; (case hd => rfl); (case hg => rfl); (case hr => first | (go_simp; done) | (go_simp; rfl)); (case hp => exact (yD.none _ _)); intro X7 w61 VL hb ZJ jd; clear ZJ jd; (first | rw [← UW.out] at VL | (simp only [Int.reduceToNat] at VL; rw [← UW.out] at VL)); have zX := zx.mk (Kd.qY (z8 qh.out) (Kd.vK VL) hb); have zV := zx.mk (Kd.yU (zR qZ.out) hb); have zf := zx.mk (Kd.qY (z8 yI.out) (Kd.vK VL) hb); have zu := zx.mk (Kd.yU (zR yh.out) hb); have yZ := zx.mk (Kd.qY (z8 yA.out) (Kd.vK VL) hb); have yT := zx.mk (Kd.yU (zR yK.out) hb); have qX := zx.mk (Kd.wH VL (zW (zB HB.out))); have qo := zx.mk (zm (g := zh) (o := .cells #[.slice yF zD.length yG] 24 (0, 0)) (zU zY.out) hb); have qp := zx.mk (zm (g := zJ) (o := .cells #[.int .i64 0, .int .i64 12, .bool false, .bool false] 26 (0, 0)) (zU zQ.out) hb); have qM := zx.mk (zA (zB HB.out) hb); clear qh; clear qZ; clear yI; clear yh; clear yA; clear yK; clear zY; clear zQ; clear HB; have qh := zX; have qZ := zV; have yI := zf; have yh := zu; have yA := yZ; have yK := yT; have ji := qX; have zY := qo; have zQ := qp; have HB := qM; clear zX zV zf zu yZ yT qX qo qp qM; clear hb VL; obtain ⟨VN, VO, zXN⟩ := Kd.jI qh.out; subst zXN) | ((with_reducible refine uy (b := .append) (xs := #[.tmp 75, .tmp 76]) rfl ?_); (try (refine qV (by rfl) ?_; dsimp only)); at_builtin; refine Kd.wZ kE (w0 := w) w.heap.size rfl (.tmp 75) (.tmp 76) 34 53 (.agg #[(.int .i64 0), (.int .i64 0), (.int .i64 0), (.int .i64 0), (.string ⟨#[]⟩), (.string ⟨#[]⟩), (.slice none 0 0)]) 88 rfl Tryz.underlying34 Xa rfl (by decide) (by omega) X7 Y2 xC _ _ _ (fun k_ => some k_ ≠ (yS : Value).ownBlock ∧ some k_ ≠ (xR : Value).ownBlock ∧ some k_ ≠ (yg : Value).ownBlock ∧ some k_ ≠ (vE : Value).ownBlock ∧ some k_ ≠ (qy : Value).ownBlock ∧ k_ ≠ zh ∧ k_ ≠ zJ) (fun k_ => ((fun k_ => some k_ ≠ (yS : Value).ownBlock ∧ some k_ ≠ (xR : Value).ownBlock ∧ some k_ ≠ (yg : Value).ownBlock ∧ some k_ ≠ (vE : Value).ownBlock ∧ some k_ ≠ (qy : Value).ownBlock ∧ k_ ≠ zh ∧ k_ ≠ zJ)) k_ ∧ some k_ ≠ (X7 : Value).ownBlock) rfl rfl ?aO ?aR (fun _ hk => hk) ?aF ?aB ?aS ?aL ?_; (case aR => exact (by skip; exact Kd.tT (Kd.yM (ok' := (fun k_ => ((fun k_ => some k_ ≠ (yS : Value).ownBlock ∧ some k_ ≠ (xR : Value).ownBlock ∧ some k_ ≠ (yg : Value).ownBlock ∧ some k_ ≠ (vE : Value).ownBlock ∧ some k_ ≠ (qy : Value).ownBlock ∧ k_ ≠ zh ∧ k_ ≠ zJ)) k_ ∧ some k_ ≠ (X7 : Value).ownBlock)) (qh.out) (fun k_ hk => ⟨⟨hk.1.1, ⟨hk.1.2.1, ⟨hk.1.2.2.1, ⟨hk.1.2.2.2.1, ⟨hk.1.2.2.2.2.1, ⟨hk.1.2.2.2.2.2.1, hk.1.2.2.2.2.2.2⟩⟩⟩⟩⟩⟩, hk.2⟩)))); (case aB => exact (zB HB.out)); (case aF => exact (fun k_ hk => ⟨Kd.fresh' (Kd.qW (zR qZ.out)) k_ hk, Kd.fresh' (Kd.uj (z8 yI.out)) k_ hk, Kd.fresh' (Kd.qW (zR yh.out)) k_ hk, Kd.fresh' (Kd.uj (z8 yA.out)) k_ hk, Kd.fresh' (Kd.qW (zR yK.out)) k_ hk, Kd.xJ (g := zh) (o := .cells #[.slice yF zD.length yG] 24 (0, 0)) (zU zY.out) k_ hk, Kd.xJ (g := zJ) (o := .cells #[.int .i64 0, .int .i64 12, .bool false, .bool false] 26 (0, 0)) (zU zQ.out) k_ hk⟩)); (case aO => exact (by (with_reducible repeat (first | apply Kd.qD | apply Kd.qF | apply Kd.qE)); exact Kd.yM ji.out (fun _ hk => ⟨hk.2.1, ⟨hk.2.2.1, ⟨hk.2.2.2.1, ⟨hk.2.2.2.2.1, ⟨hk.2.2.2.2.2.1, ⟨hk.2.2.2.2.2.2.1, hk.2.2.2.2.2.2.2⟩⟩⟩⟩⟩⟩))); (case aS => exact (zW (zB HB.out))); (case aL => have := zq2.out; omega); intro X8 w63 ho hb hg hat; rw [← zq3.out] at ho; have zX := zx.mk (Kd.yN (ok := (fun k_ => some k_ ≠ (yS : Value).ownBlock ∧ some k_ ≠ (xR : Value).ownBlock ∧ some k_ ≠ (yg : Value).ownBlock ∧ some k_ ≠ (vE : Value).ownBlock ∧ some k_ ≠ (qy : Value).ownBlock ∧ k_ ≠ zh ∧ k_ ≠ zJ)) (z8 qh.out) hg hat); have zV := zx.mk (Kd.jk (zR qZ.out) (Kd.jy (z8 ji.out)) (by decide) hg); have zf := zx.mk (Kd.yN (ok := (fun k_ => some k_ ≠ (.slice VN xC.length VO : Value).ownBlock ∧ some k_ ≠ (yS : Value).ownBlock ∧ some k_ ≠ (yg : Value).ownBlock ∧ some k_ ≠ (vE : Value).ownBlock ∧ some k_ ≠ (qy : Value).ownBlock ∧ k_ ≠ zh ∧ k_ ≠ zJ)) (z8 yI.out) hg hat); have zu := zx.mk (Kd.jk (zR yh.out) (Kd.jy (z8 ji.out)) (by decide) hg); have yZ := zx.mk (Kd.yN (ok := (fun k_ => some k_ ≠ (.slice VN xC.length VO : Value).ownBlock ∧ some k_ ≠ (yS : Value).ownBlock ∧ some k_ ≠ (xR : Value).ownBlock ∧ some k_ ≠ (yg : Value).ownBlock ∧ some k_ ≠ (qy : Value).ownBlock ∧ k_ ≠ zh ∧ k_ ≠ zJ)) (z8 yA.out) hg hat); have yT := zx.mk (Kd.jk (zR yK.out) (Kd.jy (z8 ji.out)) (by decide) hg); have qX := zx.mk (qj (g := zh) (o := .cells #[.slice yF zD.length yG] 24 (0, 0)) (zU zY.out) hg (Kd.YL ji.out zY.out (by decide))); have qo := zx.mk (qj (g := zJ) (o := .cells #[.int .i64 0, .int .i64 12, .bool false, .bool false] 26 (0, 0)) (zU zQ.out) hg (Kd.YL ji.out zQ.out (by decide))); have qp := zx.mk (hb); have qM := zx.mk (ho); clear qh; clear qZ; clear yI; clear yh; clear yA; clear yK; clear zY; clear zQ; clear HB; clear ji; have qh := zX; have qZ := zV; have yI := zf; have yh := zu; have yA := yZ; have yK := yT; have zY := qX; have zQ := qo; have HB := qp; have jl := qM; clear zX zV zf zu yZ yT qX qo qp qM; clear ho hb hg hat; obtain ⟨bn, bA, zXO⟩ := Kd.jI yI.out; subst zXO) | ((with_reducible refine uy (b := .append) (xs := #[.tmp 77, .tmp 78]) rfl ?_); (try (refine qV (by rfl) ?_; dsimp only)); at_builtin; refine Kd.wZ kE (w0 := w) w.heap.size rfl (.tmp 77) (.tmp 78) 34 53 (.agg #[(.int .i64 0), (.int .i64 0), (.int .i64 0), (.int .i64 0), (.string ⟨#[]⟩), (.string ⟨#[]⟩), (.slice none 0 0)]) 88 rfl Tryz.underlying34 Xa rfl (by decide) (by omega) X8 ZL vD _ _ _ (fun k_ => some k_ ≠ (yS : Value).ownBlock ∧ some k_ ≠ (yg : Value).ownBlock ∧ some k_ ≠ (vE : Value).ownBlock ∧ some k_ ≠ (qy : Value).ownBlock ∧ k_ ≠ zh ∧ k_ ≠ zJ) (fun k_ => ((fun k_ => some k_ ≠ (yS : Value).ownBlock ∧ some k_ ≠ (yg : Value).ownBlock ∧ some k_ ≠ (vE : Value).ownBlock ∧ some k_ ≠ (qy : Value).ownBlock ∧ k_ ≠ zh ∧ k_ ≠ zJ)) k_ ∧ some k_ ≠ (X8 : Value).ownBlock) rfl rfl ?aO ?aR (fun _ hk => hk) ?aF ?aB ?aS ?aL ?_; (case aR => exact (by skip; exact Kd.tT (Kd.yM (ok' := (fun k_ => ((fun k_ => some k_ ≠ (yS : Value).ownBlock ∧ some k_ ≠ (yg : Value).ownBlock ∧ some k_ ≠ (vE : Value).ownBlock ∧ some k_ ≠ (qy : Value).ownBlock ∧ k_ ≠ zh ∧ k_ ≠ zJ)) k_ ∧ some k_ ≠ (X8 : Value).ownBlock)) (yI.out) (fun k_ hk => ⟨⟨hk.1.2.1, ⟨hk.1.2.2.1, ⟨hk.1.2.2.2.1, ⟨hk.1.2.2.2.2.1, ⟨hk.1.2.2.2.2.2.1, hk.1.2.2.2.2.2.2⟩⟩⟩⟩⟩, hk.2⟩)))); (case aB => exact (zB HB.out)); (case aF => exact (fun k_ hk => ⟨Kd.fresh' (Kd.qW (zR qZ.out)) k_ hk, Kd.fresh' (Kd.qW (zR yh.out)) k_ hk, Kd.fresh' (Kd.uj (z8 yA.out)) k_ hk, Kd.fresh' (Kd.qW (zR yK.out)) k_ hk, Kd.xJ (g := zh) (o := .cells #[.slice yF zD.length yG] 24 (0, 0)) (zU zY.out) k_ hk, Kd.xJ (g := zJ) (o := .cells #[.int .i64 0, .int .i64 12, .bool false, .bool false] 26 (0, 0)) (zU zQ.out) k_ hk⟩)); (case aO => exact (by (with_reducible repeat (first | apply Kd.qD | apply Kd.qF | apply Kd.qE)); exact Kd.yM jl.out (fun _ hk => ⟨hk.1, ⟨hk.2.2.1, ⟨hk.2.2.2.1, ⟨hk.2.2.2.2.1, ⟨hk.2.2.2.2.2.1, hk.2.2.2.2.2.2⟩⟩⟩⟩⟩))); (case aS => exact (zW (zB HB.out))); (case aL => have := zq4.out; omega); intro zwf w65 ho hb hg hat; rw [← zq5.out] at ho; have zX := zx.mk (Kd.yN (ok := (fun k_ => some k_ ≠ (yS : Value).ownBlock ∧ some k_ ≠ (.slice bn vD.length bA : Value).ownBlock ∧ some k_ ≠ (yg : Value).ownBlock ∧ some k_ ≠ (vE : Value).ownBlock ∧ some k_ ≠ (qy : Value).ownBlock ∧ k_ ≠ zh ∧ k_ ≠ zJ)) (z8 qh.out) hg hat); have zV := zx.mk (Kd.jk (zR qZ.out) (Kd.jy (z8 jl.out)) (by decide) hg); have zf := zx.mk (Kd.yN (ok := (fun k_ => some k_ ≠ (.slice VN xC.length VO : Value).ownBlock ∧ some k_ ≠ (yS : Value).ownBlock ∧ some k_ ≠ (yg : Value).ownBlock ∧ some k_ ≠ (vE : Value).ownBlock ∧ some k_ ≠ (qy : Value).ownBlock ∧ k_ ≠ zh ∧ k_ ≠ zJ)) (z8 yI.out) hg hat); have zu := zx.mk (Kd.jk (zR yh.out) (Kd.jy (z8 jl.out)) (by decide) hg); have yZ := zx.mk (Kd.yN (ok := (fun k_ => some k_ ≠ (.slice VN xC.length VO : Value).ownBlock ∧ some k_ ≠ (yS : Value).ownBlock ∧ some k_ ≠ (.slice bn vD.length bA : Value).ownBlock ∧ some k_ ≠ (yg : Value).ownBlock ∧ some k_ ≠ (qy : Value).ownBlock ∧ k_ ≠ zh ∧ k_ ≠ zJ)) (z8 yA.out) hg hat); have yT := zx.mk (Kd.jk (zR yK.out) (Kd.jy (z8 jl.out)) (by decide) hg); have qX := zx.mk (qj (g := zh) (o := .cells #[.slice yF zD.length yG] 24 (0, 0)) (zU zY.out) hg (Kd.YL jl.out zY.out (by decide))); have qo := zx.mk (qj (g := zJ) (o := .cells #[.int .i64 0, .int .i64 12, .bool false, .bool false] 26 (0, 0)) (zU zQ.out) hg (Kd.YL jl.out zQ.out (by decide))); have qp := zx.mk (hb); have qM := zx.mk (ho); clear qh; clear qZ; clear yI; clear yh; clear yA; clear yK; clear zY; clear zQ; clear HB; clear jl; have qh := zX; have qZ := zV; have yI := zf; have yh := zu; have yA := yZ; have yK := yT; have zY := qX; have zQ := qo; have HB := qp; have xY := qM; clear zX zV zf zu yZ yT qX qo qp qM; clear ho hb hg hat; obtain ⟨bB, bC, zXP⟩ := Kd.jI yA.out; subst zXP; obtain ⟨bD, bE, zXR⟩ := Kd.jI xY.out; subst zXR) | (go_at_call 18; (with_reducible refine (zF.calls p8 _ _ kC _ _ ZO true _ ?yO ?qd ?q8 ?q9 A54.out).mono ?_); (case yO => repeat (first | exact (Kd.vT yA.out).2.2 | (with_reducible refine Kd.yJ ?_ _) | (with_reducible refine Kd.yV ?_ _) | (with_reducible refine Kd.yH ?_))); (case qd => exact (Kd.vT yA.out).2.1); (case q8 => repeat (first | exact (Kd.vT xY.out).2.2 | (with_reducible refine Kd.yJ ?_ _) | (with_reducible refine Kd.yV ?_ _) | (with_reducible refine Kd.yH ?_))); (case q9 => exact (Kd.vT xY.out).2.1); rintro e w69 ⟨rfl, hb⟩; have zX := zx.mk (Kd.vB (z8 qh.out) hb); have zV := zx.mk (Kd.yU (zR qZ.out) hb); have zf := zx.mk (Kd.vB (z8 yI.out) hb); have zu := zx.mk (Kd.yU (zR yh.out) hb); have yZ := zx.mk (Kd.vB (z8 yA.out) hb); have yT := zx.mk (Kd.yU (zR yK.out) hb); have qX := zx.mk (Kd.vB (z8 xY.out) hb); have qo := zx.mk (zm (g := zh) (o := .cells #[.slice yF zD.length yG] 24 (0, 0)) (zU zY.out) hb); have qp := zx.mk (zm (g := zJ) (o := .cells #[.int .i64 0, .int .i64 12, .bool false, .bool false] 26 (0, 0)) (zU zQ.out) hb); have qM := zx.mk (zA (zB HB.out) hb); clear qh; clear qZ; clear yI; clear yh; clear yA; clear yK; clear xY; clear zY; clear zQ; clear HB; have qh := zX; have qZ := zV; have yI := zf; have yh := zu; have yA := yZ; have yK := yT; have xY := qX; have zY := qo; have zQ := qp; have HB := qM; clear zX zV zf zu yZ yT qX qo qp qM; (try clear hb); (try clear hb2); (try clear hk); (try clear hi)) | ((with_reducible refine qw (N := 84) rfl ?_); (try (refine qV (by rfl) ?_; dsimp only)); refine Kd.Yc Kd.string _ 9 ?hg (N := 84) ?hd (xs := ([] : List ByteArray)) (inner := []) (ok := fun _ => True) (vW := fun _ => True) ?hr ?hp (fun _ hk => hk) trivial (Below.refl _ _) (Nat.le_refl _) (by simp) ?_; (case hd => rfl); (case hg => rfl); (case hr => first | (go_simp; done) | (go_simp; rfl)); (case hp => exact (yD.none _ _)); intro zvp w70 Xm hb ZJ jd; clear ZJ jd; (first | rw [← gQ.out] at Xm | (simp only [Int.reduceToNat] at Xm; rw [← gQ.out] at Xm)); have zX := zx.mk (Kd.qY (z8 qh.out) (Kd.qQ Xm) hb); have zV := zx.mk (Kd.uJ (zR qZ.out) (Kd.qQ Xm) hb); have zf := zx.mk (Kd.qY (z8 yI.out) (Kd.qQ Xm) hb); have zu := zx.mk (Kd.uJ (zR yh.out) (Kd.qQ Xm) hb); have yZ := zx.mk (Kd.qY (z8 yA.out) (Kd.qQ Xm) hb); have yT := zx.mk (Kd.uJ (zR yK.out) (Kd.qQ Xm) hb); have qX := zx.mk (Kd.qY (z8 xY.out) (Kd.qQ Xm) hb); have qo := zx.mk (Kd.vv (Kd.jF (Kd.jF (Kd.jF Xm (Kd.qW (zR qZ.out))) (Kd.qW (zR yh.out))) (Kd.qW (zR yK.out))) (zW (zB HB.out))); have qp := zx.mk (zm (g := zh) (o := .cells #[.slice yF zD.length yG] 24 (0, 0)) (zU zY.out) hb); have qM := zx.mk (zm (g := zJ) (o := .cells #[.int .i64 0, .int .i64 12, .bool false, .bool false] 26 (0, 0)) (zU zQ.out) hb); have uZ := zx.mk (zA (zB HB.out) hb); clear qh; clear qZ; clear yI; clear yh; clear yA; clear yK; clear xY; clear zY; clear zQ; clear HB; have qh := zX; have qZ := zV; have yI := zf; have yh := zu; have yA := yZ; have yK := yT; have xY := qX; have XB := qo; have zY := qp; have zQ := qM; have HB := uZ; clear zX zV zf zu yZ yT qX qo qp qM uZ; clear hb Xm; obtain ⟨YC, YD, zXS⟩ := Kd.qA qZ.out; subst zXS) | ((with_reducible refine uy (b := .append) (xs := #[.tmp 84, .tmp 85]) rfl ?_); (try (refine qV (by rfl) ?_; dsimp only)); at_builtin; refine Kd.pE Kd.string (w0 := w) w.heap.size rfl (.tmp 84) (.tmp 85) 27 9 (.string ⟨#[]⟩) 16 rfl Tryz.underlying27 Q6 rfl (by decide) (by omega) zvp jO qm _ _ _ (fun k_ => some k_ ≠ (.slice YC qm.length YD : Value).ownBlock ∧ some k_ ≠ (yg : Value).ownBlock ∧ some k_ ≠ (qy : Value).ownBlock) (fun _ => False) rfl rfl ?aO ?aR (fun _ _ h => h) (fun _ h => h.elim) ?aF ?aB ?aS ?aL ?_; (case aR => repeat (first | exact (Kd.qO qZ.out).2.2 | (with_reducible refine Kd.yJ ?_ _) | (with_reducible refine Kd.yV ?_ _) | (with_reducible refine Kd.yH ?_))); (case aB => exact (zB HB.out)); (case aF => exact (fun k_ hk => ⟨Kd.fresh' (Kd.qW (zR qZ.out)) k_ hk, Kd.fresh' (Kd.qW (zR yh.out)) k_ hk, Kd.fresh' (Kd.qW (zR yK.out)) k_ hk⟩)); (case aO => exact (zR (Kd.xQ XB.out (fun _ hk => ⟨hk.1.1.2, ⟨hk.1.2, hk.2⟩⟩)))); (case aS => exact (zW (zB HB.out))); (case aL => have := zkX.out; omega); intro zvr w72 ho hb hg hat; rw [← zkJ.out] at ho; have zX := zx.mk (Kd.yN (ok := (fun k_ => some k_ ≠ (.slice YC qm.length YD : Value).ownBlock ∧ some k_ ≠ (.slice bn vD.length bA : Value).ownBlock ∧ some k_ ≠ (yg : Value).ownBlock ∧ some k_ ≠ (.slice bB kC.length bC : Value).ownBlock ∧ some k_ ≠ (qy : Value).ownBlock ∧ some k_ ≠ (.slice bD ZO.length bE : Value).ownBlock ∧ k_ ≠ zh ∧ k_ ≠ zJ)) (by (with_reducible repeat (first | apply Kd.qD | apply Kd.qF | apply Kd.qE)); exact Kd.yM qh.out (fun _ hk => ⟨⟨hk.1.1.1, ⟨hk.1.1.2.1, ⟨hk.1.1.2.2.1, ⟨hk.1.1.2.2.2.1, ⟨hk.1.1.2.2.2.2.1, ⟨hk.1.2, ⟨hk.1.1.2.2.2.2.2.1, hk.1.1.2.2.2.2.2.2⟩⟩⟩⟩⟩⟩⟩, hk.2⟩)) hg hat); have zV := zx.mk (Kd.jr (ok := (fun k_ => some k_ ≠ (yg : Value).ownBlock ∧ some k_ ≠ (qy : Value).ownBlock)) (zR qZ.out) hg hat); have zf := zx.mk (Kd.yN (ok := (fun k_ => some k_ ≠ (.slice VN xC.length VO : Value).ownBlock ∧ some k_ ≠ (.slice YC qm.length YD : Value).ownBlock ∧ some k_ ≠ (yg : Value).ownBlock ∧ some k_ ≠ (.slice bB kC.length bC : Value).ownBlock ∧ some k_ ≠ (qy : Value).ownBlock ∧ some k_ ≠ (.slice bD ZO.length bE : Value).ownBlock ∧ k_ ≠ zh ∧ k_ ≠ zJ)) (by (with_reducible repeat (first | apply Kd.qD | apply Kd.qF | apply Kd.qE)); exact Kd.yM yI.out (fun _ hk => ⟨⟨hk.1.1.1, ⟨hk.1.1.2.1, ⟨hk.1.1.2.2.1, ⟨hk.1.1.2.2.2.1, ⟨hk.1.1.2.2.2.2.1, ⟨hk.1.2, ⟨hk.1.1.2.2.2.2.2.1, hk.1.1.2.2.2.2.2.2⟩⟩⟩⟩⟩⟩⟩, hk.2⟩)) hg hat); have zu := zx.mk (Kd.jr (ok := (fun k_ => some k_ ≠ (.slice YC qm.length YD : Value).ownBlock ∧ some k_ ≠ (qy : Value).ownBlock)) (zR yh.out) hg hat); have yZ := zx.mk (Kd.yN (ok := (fun k_ => some k_ ≠ (.slice VN xC.length VO : Value).ownBlock ∧ some k_ ≠ (.slice YC qm.length YD : Value).ownBlock ∧ some k_ ≠ (.slice bn vD.length bA : Value).ownBlock ∧ some k_ ≠ (yg : Value).ownBlock ∧ some k_ ≠ (qy : Value).ownBlock ∧ some k_ ≠ (.slice bD ZO.length bE : Value).ownBlock ∧ k_ ≠ zh ∧ k_ ≠ zJ)) (by (with_reducible repeat (first | apply Kd.qD | apply Kd.qF | apply Kd.qE)); exact Kd.yM yA.out (fun _ hk => ⟨⟨hk.1.1.1, ⟨hk.1.1.2.1, ⟨hk.1.1.2.2.1, ⟨hk.1.1.2.2.2.1, ⟨hk.1.1.2.2.2.2.1, ⟨hk.1.2, ⟨hk.1.1.2.2.2.2.2.1, hk.1.1.2.2.2.2.2.2⟩⟩⟩⟩⟩⟩⟩, hk.2⟩)) hg hat); have yT := zx.mk (Kd.jr (ok := (fun k_ => some k_ ≠ (.slice YC qm.length YD : Value).ownBlock ∧ some k_ ≠ (yg : Value).ownBlock)) (zR yK.out) hg hat); have qX := zx.mk (qj (g := zh) (o := .cells #[.slice yF zD.length yG] 24 (0, 0)) (zU zY.out) hg (Kd.wW XB.out zY.out (by decide))); have qo := zx.mk (qj (g := zJ) (o := .cells #[.int .i64 0, .int .i64 12, .bool false, .bool false] 26 (0, 0)) (zU zQ.out) hg (Kd.wW XB.out zQ.out (by decide))); have qp := zx.mk (Kd.yN (ok := (fun k_ => some k_ ≠ (.slice YC qm.length YD : Value).ownBlock ∧ some k_ ≠ (yg : Value).ownBlock ∧ some k_ ≠ (.slice bB kC.length bC : Value).ownBlock ∧ some k_ ≠ (qy : Value).ownBlock ∧ k_ ≠ zh ∧ k_ ≠ zJ)) (z8 xY.out) hg hat); have qM := zx.mk (hb); have uZ := zx.mk (ho); clear qh; clear qZ; clear yI; clear yh; clear yA; clear yK; clear zY; clear zQ; clear xY; clear HB; clear XB; have qh := zX; have qZ := zV; have yI := zf; have yh := zu; have yA := yZ; have yK := yT; have zY := qX; have zQ := qo; have xY := qp; have HB := qM; have XC := uZ; clear zX zV zf zu yZ yT qX qo qp qM uZ; clear ho hb hg hat; obtain ⟨JV, JK, zXT⟩ := Kd.qA yh.out; subst zXT) | ((with_reducible refine uy (b := .append) (xs := #[.tmp 86, .tmp 87]) rfl ?_); (try (refine qV (by rfl) ?_; dsimp only)); at_builtin; refine Kd.pE Kd.string (w0 := w) w.heap.size rfl (.tmp 86) (.tmp 87) 27 9 (.string ⟨#[]⟩) 16 rfl Tryz.underlying27 Q6 rfl (by decide) (by omega) zvr jW xA _ _ _ (fun k_ => some k_ ≠ (.slice YC qm.length YD : Value).ownBlock ∧ some k_ ≠ (.slice JV xA.length JK : Value).ownBlock ∧ some k_ ≠ (qy : Value).ownBlock) (fun _ => False) rfl rfl ?aO ?aR (fun _ _ h => h) (fun _ h => h.elim) ?aF ?aB ?aS ?aL ?_; (case aR => repeat (first | exact (Kd.qO yh.out).2.2 | (with_reducible refine Kd.yJ ?_ _) | (with_reducible refine Kd.yV ?_ _) | (with_reducible refine Kd.yH ?_))); (case aB => exact (zB HB.out)); (case aF => exact (fun k_ hk => ⟨Kd.fresh' (Kd.qW (zR qZ.out)) k_ hk, Kd.fresh' (Kd.qW (zR yh.out)) k_ hk, Kd.fresh' (Kd.qW (zR yK.out)) k_ hk⟩)); (case aO => exact (zR XC.out)); (case aS => exact (zW (zB HB.out))); (case aL => have := zkV.out; omega); intro zXU w74 ho hb hg hat; rw [← zkK.out] at ho; have zX := zx.mk (Kd.yN (ok := (fun k_ => some k_ ≠ (.slice YC qm.length YD : Value).ownBlock ∧ some k_ ≠ (.slice bn vD.length bA : Value).ownBlock ∧ some k_ ≠ (.slice JV xA.length JK : Value).ownBlock ∧ some k_ ≠ (.slice bB kC.length bC : Value).ownBlock ∧ some k_ ≠ (qy : Value).ownBlock ∧ some k_ ≠ (.slice bD ZO.length bE : Value).ownBlock ∧ k_ ≠ zh ∧ k_ ≠ zJ)) (z8 qh.out) hg hat); have zV := zx.mk (Kd.jr (ok := (fun k_ => some k_ ≠ (.slice JV xA.length JK : Value).ownBlock ∧ some k_ ≠ (qy : Value).ownBlock)) (zR qZ.out) hg hat); have zf := zx.mk (Kd.yN (ok := (fun k_ => some k_ ≠ (.slice VN xC.length VO : Value).ownBlock ∧ some k_ ≠ (.slice YC qm.length YD : Value).ownBlock ∧ some k_ ≠ (.slice JV xA.length JK : Value).ownBlock ∧ some k_ ≠ (.slice bB kC.length bC : Value).ownBlock ∧ some k_ ≠ (qy : Value).ownBlock ∧ some k_ ≠ (.slice bD ZO.length bE : Value).ownBlock ∧ k_ ≠ zh ∧ k_ ≠ zJ)) (z8 yI.out) hg hat); have zu := zx.mk (Kd.jr (ok := (fun k_ => some k_ ≠ (.slice YC qm.length YD : Value).ownBlock ∧ some k_ ≠ (qy : Value).ownBlock)) (zR yh.out) hg hat); have yZ := zx.mk (Kd.yN (ok := (fun k_ => some k_ ≠ (.slice VN xC.length VO : Value).ownBlock ∧ some k_ ≠ (.slice YC qm.length YD : Value).ownBlock ∧ some k_ ≠ (.slice bn vD.length bA : Value).ownBlock ∧ some k_ ≠ (.slice JV xA.length JK : Value).ownBlock ∧ some k_ ≠ (qy : Value).ownBlock ∧ some k_ ≠ (.slice bD ZO.length bE : Value).ownBlock ∧ k_ ≠ zh ∧ k_ ≠ zJ)) (z8 yA.out) hg hat); have yT := zx.mk (Kd.jr (ok := (fun k_ => some k_ ≠ (.slice YC qm.length YD : Value).ownBlock ∧ some k_ ≠ (.slice JV xA.length JK : Value).ownBlock)) (zR yK.out) hg hat); have qX := zx.mk (qj (g := zh) (o := .cells #[.slice yF zD.length yG] 24 (0, 0)) (zU zY.out) hg (Kd.wW XC.out zY.out (by decide))); have qo := zx.mk (qj (g := zJ) (o := .cells #[.int .i64 0, .int .i64 12, .bool false, .bool false] 26 (0, 0)) (zU zQ.out) hg (Kd.wW XC.out zQ.out (by decide))); have qp := zx.mk (Kd.yN (ok := (fun k_ => some k_ ≠ (.slice YC qm.length YD : Value).ownBlock ∧ some k_ ≠ (.slice JV xA.length JK : Value).ownBlock ∧ some k_ ≠ (.slice bB kC.length bC : Value).ownBlock ∧ some k_ ≠ (qy : Value).ownBlock ∧ k_ ≠ zh ∧ k_ ≠ zJ)) (z8 xY.out) hg hat); have qM := zx.mk (hb); have uZ := zx.mk (ho); clear qh; clear qZ; clear yI; clear yh; clear yA; clear yK; clear zY; clear zQ; clear xY; clear HB; clear XC; have qh := zX; have qZ := zV; have yI := zf; have yh := zu; have yA := yZ; have yK := yT; have zY := qX; have zQ := qo; have xY := qp; have HB := qM; have XQ := uZ; clear zX zV zf zu yZ yT qX qo qp qM uZ; clear ho hb hg hat; obtain ⟨zY5, zY6, zX0⟩ := Kd.qA yK.out; subst zX0; obtain ⟨zY7, zY8, zX1⟩ := Kd.qA XQ.out; subst zX1) | (go_at_call 17; (with_reducible refine (yx.calls p8 _ _ ZM _ _ zvo true _ ?yO ?qd ?q8 ?q9 A58.out).mono ?_); (case yO => repeat (first | exact (Kd.qO yK.out).2.2 | (with_reducible refine Kd.yJ ?_ _) | (with_reducible refine Kd.yV ?_ _) | (with_reducible refine Kd.yH ?_))); (case qd => exact (Kd.qO yK.out).2.1); (case q8 => repeat (first | exact (Kd.qO XQ.out).2.2 | (with_reducible refine Kd.yJ ?_ _) | (with_reducible refine Kd.yV ?_ _) | (with_reducible refine Kd.yH ?_))); (case q9 => exact (Kd.qO XQ.out).2.1); rintro e w' ⟨rfl, ⟨nd, rfl⟩⟩) | (go_at_call 11; (with_reducible refine (yC.calls  j3 _ ?yO mZ.out).mono ?_); (case yO => exact GW.under HG.out (zB HB.out)); rintro e w78 ⟨rfl, hb⟩; have zX := zx.mk (Kd.vB (z8 qh.out) hb); have zV := zx.mk (Kd.yU (zR qZ.out) hb); have zf := zx.mk (Kd.vB (z8 yI.out) hb); have zu := zx.mk (Kd.yU (zR yh.out) hb); have yZ := zx.mk (Kd.vB (z8 yA.out) hb); have yT := zx.mk (Kd.yU (zR yK.out) hb); have qX := zx.mk (Kd.vB (z8 xY.out) hb); have qo := zx.mk (Kd.yU (zR XQ.out) hb); have qp := zx.mk (zm (g := zh) (o := .cells #[.slice yF zD.length yG] 24 (0, 0)) (zU zY.out) hb); have qM := zx.mk (zm (g := zJ) (o := .cells #[.int .i64 0, .int .i64 12, .bool false, .bool false] 26 (0, 0)) (zU zQ.out) hb); have uZ := zx.mk (zA (zB HB.out) hb); clear qh; clear qZ; clear yI; clear yh; clear yA; clear yK; clear xY; clear XQ; clear zY; clear zQ; clear HB; have qh := zX; have qZ := zV; have yI := zf; have yh := zu; have yA := yZ; have yK := yT; have xY := qX; have XQ := qo; have zY := qp; have zQ := qM; have HB := uZ; clear zX zV zf zu yZ yT qX qo qp qM uZ; (try clear hb); (try clear hb2); (try clear hk); (try clear hi)))
                go_ret
                exact ⟨by first | rfl | (simp [zG, zH] <;> rfl) | (simp [*, zG, zH] <;> rfl), by repeat (first | (with_reducible first | exact HB.out | apply yj | apply zN | apply yY | refine qb ?_ VQ.out | refine qb ?_ UK.out) | exact HB.out)⟩
               ·replace c59 := Bool.eq_false_iff.mpr c59
                subst c59
                have H1 : (some false) = some r := by rw [if_neg (show ¬ (false = true) by decide)] at H; exact H
                clear H
                have H := H1
                clear H1
                obtain rfl := Option.some.inj H
                go_wp2_with (first | ((with_reducible refine qw (N := 75) rfl ?_); (try (refine qV (by rfl) ?_; dsimp only)); refine Kd.zqZ kE _ 53 ?hg (N' := 75) ?hd (xs := ([] : List (jR))) (inner := []) (ok := (fun k_ => some k_ ≠ (uH : Value).ownBlock ∧ some k_ ≠ (yS : Value).ownBlock ∧ some k_ ≠ (xR : Value).ownBlock ∧ some k_ ≠ (yg : Value).ownBlock ∧ some k_ ≠ (vE : Value).ownBlock ∧ some k_ ≠ (qy : Value).ownBlock ∧ k_ ≠ zh ∧ k_ ≠ zJ)) (vW := (fun k_ => some k_ ≠ (uH : Value).ownBlock ∧ some k_ ≠ (yS : Value).ownBlock ∧ some k_ ≠ (xR : Value).ownBlock ∧ some k_ ≠ (yg : Value).ownBlock ∧ some k_ ≠ (vE : Value).ownBlock ∧ some k_ ≠ (qy : Value).ownBlock ∧ k_ ≠ zh ∧ k_ ≠ zJ)) ?hr ?hp (fun _ hk => hk) ((show ∀ k_, wc.heap.size ≤ k_ → (fun k_ => some k_ ≠ (uH : Value).ownBlock ∧ some k_ ≠ (yS : Value).ownBlock ∧ some k_ ≠ (xR : Value).ownBlock ∧ some k_ ≠ (yg : Value).ownBlock ∧ some k_ ≠ (vE : Value).ownBlock ∧ some k_ ≠ (qy : Value).ownBlock ∧ k_ ≠ zh ∧ k_ ≠ zJ) k_ from fun k_ hk => ⟨Kd.fresh' (Kd.uj (z8 qh.out)) k_ hk, Kd.fresh' (Kd.qW (zR qZ.out)) k_ hk, Kd.fresh' (Kd.uj (z8 yI.out)) k_ hk, Kd.fresh' (Kd.qW (zR yh.out)) k_ hk, Kd.fresh' (Kd.uj (z8 yA.out)) k_ hk, Kd.fresh' (Kd.qW (zR yK.out)) k_ hk, Kd.xJ (g := zh) (o := .cells #[.slice yF zD.length yG] 24 (0, 0)) (zU zY.out) k_ hk, Kd.xJ (g := zJ) (o := .cells #[.int .i64 0, .int .i64 12, .bool false, .bool false] 26 (0, 0)) (zU zQ.out) k_ hk⟩) _ (Nat.le_refl _)) (Below.refl _ _) (Nat.le_refl _) (by simp) ?_; (case hd => rfl); (case hg => rfl); (case hr => first | (go_simp; done) | (go_simp; rfl)); (case hp => exact (yD.none _ _)); intro X7 w79 VP hb ZJ jd; clear ZJ jd; (first | rw [← UW.out] at VP | (simp only [Int.reduceToNat] at VP; rw [← UW.out] at VP)); have zX := zx.mk (Kd.qY (z8 qh.out) (Kd.vK VP) hb); have zV := zx.mk (Kd.yU (zR qZ.out) hb); have zf := zx.mk (Kd.qY (z8 yI.out) (Kd.vK VP) hb); have zu := zx.mk (Kd.yU (zR yh.out) hb); have yZ := zx.mk (Kd.qY (z8 yA.out) (Kd.vK VP) hb); have yT := zx.mk (Kd.yU (zR yK.out) hb); have qX := zx.mk (Kd.wH VP (zW (zB HB.out))); have qo := zx.mk (zm (g := zh) (o := .cells #[.slice yF zD.length yG] 24 (0, 0)) (zU zY.out) hb); have qp := zx.mk (zm (g := zJ) (o := .cells #[.int .i64 0, .int .i64 12, .bool false, .bool false] 26 (0, 0)) (zU zQ.out) hb); have qM := zx.mk (zA (zB HB.out) hb); clear qh; clear qZ; clear yI; clear yh; clear yA; clear yK; clear zY; clear zQ; clear HB; have qh := zX; have qZ := zV; have yI := zf; have yh := zu; have yA := yZ; have yK := yT; have ji := qX; have zY := qo; have zQ := qp; have HB := qM; clear zX zV zf zu yZ yT qX qo qp qM; clear hb VP; obtain ⟨VR, VT, zX2⟩ := Kd.jI qh.out; subst zX2) | ((with_reducible refine uy (b := .append) (xs := #[.tmp 75, .tmp 76]) rfl ?_); (try (refine qV (by rfl) ?_; dsimp only)); at_builtin; refine Kd.wZ kE (w0 := w) w.heap.size rfl (.tmp 75) (.tmp 76) 34 53 (.agg #[(.int .i64 0), (.int .i64 0), (.int .i64 0), (.int .i64 0), (.string ⟨#[]⟩), (.string ⟨#[]⟩), (.slice none 0 0)]) 88 rfl Tryz.underlying34 Xa rfl (by decide) (by omega) X7 Y2 xC _ _ _ (fun k_ => some k_ ≠ (yS : Value).ownBlock ∧ some k_ ≠ (xR : Value).ownBlock ∧ some k_ ≠ (yg : Value).ownBlock ∧ some k_ ≠ (vE : Value).ownBlock ∧ some k_ ≠ (qy : Value).ownBlock ∧ k_ ≠ zh ∧ k_ ≠ zJ) (fun k_ => ((fun k_ => some k_ ≠ (yS : Value).ownBlock ∧ some k_ ≠ (xR : Value).ownBlock ∧ some k_ ≠ (yg : Value).ownBlock ∧ some k_ ≠ (vE : Value).ownBlock ∧ some k_ ≠ (qy : Value).ownBlock ∧ k_ ≠ zh ∧ k_ ≠ zJ)) k_ ∧ some k_ ≠ (X7 : Value).ownBlock) rfl rfl ?aO ?aR (fun _ hk => hk) ?aF ?aB ?aS ?aL ?_; (case aR => exact (by skip; exact Kd.tT (Kd.yM (ok' := (fun k_ => ((fun k_ => some k_ ≠ (yS : Value).ownBlock ∧ some k_ ≠ (xR : Value).ownBlock ∧ some k_ ≠ (yg : Value).ownBlock ∧ some k_ ≠ (vE : Value).ownBlock ∧ some k_ ≠ (qy : Value).ownBlock ∧ k_ ≠ zh ∧ k_ ≠ zJ)) k_ ∧ some k_ ≠ (X7 : Value).ownBlock)) (qh.out) (fun k_ hk => ⟨⟨hk.1.1, ⟨hk.1.2.1, ⟨hk.1.2.2.1, ⟨hk.1.2.2.2.1, ⟨hk.1.2.2.2.2.1, ⟨hk.1.2.2.2.2.2.1, hk.1.2.2.2.2.2.2⟩⟩⟩⟩⟩⟩, hk.2⟩)))); (case aB => exact (zB HB.out)); (case aF => exact (fun k_ hk => ⟨Kd.fresh' (Kd.qW (zR qZ.out)) k_ hk, Kd.fresh' (Kd.uj (z8 yI.out)) k_ hk, Kd.fresh' (Kd.qW (zR yh.out)) k_ hk, Kd.fresh' (Kd.uj (z8 yA.out)) k_ hk, Kd.fresh' (Kd.qW (zR yK.out)) k_ hk, Kd.xJ (g := zh) (o := .cells #[.slice yF zD.length yG] 24 (0, 0)) (zU zY.out) k_ hk, Kd.xJ (g := zJ) (o := .cells #[.int .i64 0, .int .i64 12, .bool false, .bool false] 26 (0, 0)) (zU zQ.out) k_ hk⟩)); (case aO => exact (by (with_reducible repeat (first | apply Kd.qD | apply Kd.qF | apply Kd.qE)); exact Kd.yM ji.out (fun _ hk => ⟨hk.2.1, ⟨hk.2.2.1, ⟨hk.2.2.2.1, ⟨hk.2.2.2.2.1, ⟨hk.2.2.2.2.2.1, ⟨hk.2.2.2.2.2.2.1, hk.2.2.2.2.2.2.2⟩⟩⟩⟩⟩⟩))); (case aS => exact (zW (zB HB.out))); (case aL => have := zq2.out; omega); intro X8 w81 ho hb hg hat; rw [← zq3.out] at ho; have zX := zx.mk (Kd.yN (ok := (fun k_ => some k_ ≠ (yS : Value).ownBlock ∧ some k_ ≠ (xR : Value).ownBlock ∧ some k_ ≠ (yg : Value).ownBlock ∧ some k_ ≠ (vE : Value).ownBlock ∧ some k_ ≠ (qy : Value).ownBlock ∧ k_ ≠ zh ∧ k_ ≠ zJ)) (z8 qh.out) hg hat); have zV := zx.mk (Kd.jk (zR qZ.out) (Kd.jy (z8 ji.out)) (by decide) hg); have zf := zx.mk (Kd.yN (ok := (fun k_ => some k_ ≠ (.slice VR xC.length VT : Value).ownBlock ∧ some k_ ≠ (yS : Value).ownBlock ∧ some k_ ≠ (yg : Value).ownBlock ∧ some k_ ≠ (vE : Value).ownBlock ∧ some k_ ≠ (qy : Value).ownBlock ∧ k_ ≠ zh ∧ k_ ≠ zJ)) (z8 yI.out) hg hat); have zu := zx.mk (Kd.jk (zR yh.out) (Kd.jy (z8 ji.out)) (by decide) hg); have yZ := zx.mk (Kd.yN (ok := (fun k_ => some k_ ≠ (.slice VR xC.length VT : Value).ownBlock ∧ some k_ ≠ (yS : Value).ownBlock ∧ some k_ ≠ (xR : Value).ownBlock ∧ some k_ ≠ (yg : Value).ownBlock ∧ some k_ ≠ (qy : Value).ownBlock ∧ k_ ≠ zh ∧ k_ ≠ zJ)) (z8 yA.out) hg hat); have yT := zx.mk (Kd.jk (zR yK.out) (Kd.jy (z8 ji.out)) (by decide) hg); have qX := zx.mk (qj (g := zh) (o := .cells #[.slice yF zD.length yG] 24 (0, 0)) (zU zY.out) hg (Kd.YL ji.out zY.out (by decide))); have qo := zx.mk (qj (g := zJ) (o := .cells #[.int .i64 0, .int .i64 12, .bool false, .bool false] 26 (0, 0)) (zU zQ.out) hg (Kd.YL ji.out zQ.out (by decide))); have qp := zx.mk (hb); have qM := zx.mk (ho); clear qh; clear qZ; clear yI; clear yh; clear yA; clear yK; clear zY; clear zQ; clear HB; clear ji; have qh := zX; have qZ := zV; have yI := zf; have yh := zu; have yA := yZ; have yK := yT; have zY := qX; have zQ := qo; have HB := qp; have jl := qM; clear zX zV zf zu yZ yT qX qo qp qM; clear ho hb hg hat; obtain ⟨bF, bG, zX3⟩ := Kd.jI yI.out; subst zX3) | ((with_reducible refine uy (b := .append) (xs := #[.tmp 77, .tmp 78]) rfl ?_); (try (refine qV (by rfl) ?_; dsimp only)); at_builtin; refine Kd.wZ kE (w0 := w) w.heap.size rfl (.tmp 77) (.tmp 78) 34 53 (.agg #[(.int .i64 0), (.int .i64 0), (.int .i64 0), (.int .i64 0), (.string ⟨#[]⟩), (.string ⟨#[]⟩), (.slice none 0 0)]) 88 rfl Tryz.underlying34 Xa rfl (by decide) (by omega) X8 ZL vD _ _ _ (fun k_ => some k_ ≠ (yS : Value).ownBlock ∧ some k_ ≠ (yg : Value).ownBlock ∧ some k_ ≠ (vE : Value).ownBlock ∧ some k_ ≠ (qy : Value).ownBlock ∧ k_ ≠ zh ∧ k_ ≠ zJ) (fun k_ => ((fun k_ => some k_ ≠ (yS : Value).ownBlock ∧ some k_ ≠ (yg : Value).ownBlock ∧ some k_ ≠ (vE : Value).ownBlock ∧ some k_ ≠ (qy : Value).ownBlock ∧ k_ ≠ zh ∧ k_ ≠ zJ)) k_ ∧ some k_ ≠ (X8 : Value).ownBlock) rfl rfl ?aO ?aR (fun _ hk => hk) ?aF ?aB ?aS ?aL ?_; (case aR => exact (by skip; exact Kd.tT (Kd.yM (ok' := (fun k_ => ((fun k_ => some k_ ≠ (yS : Value).ownBlock ∧ some k_ ≠ (yg : Value).ownBlock ∧ some k_ ≠ (vE : Value).ownBlock ∧ some k_ ≠ (qy : Value).ownBlock ∧ k_ ≠ zh ∧ k_ ≠ zJ)) k_ ∧ some k_ ≠ (X8 : Value).ownBlock)) (yI.out) (fun k_ hk => ⟨⟨hk.1.2.1, ⟨hk.1.2.2.1, ⟨hk.1.2.2.2.1, ⟨hk.1.2.2.2.2.1, ⟨hk.1.2.2.2.2.2.1, hk.1.2.2.2.2.2.2⟩⟩⟩⟩⟩, hk.2⟩)))); (case aB => exact (zB HB.out)); (case aF => exact (fun k_ hk => ⟨Kd.fresh' (Kd.qW (zR qZ.out)) k_ hk, Kd.fresh' (Kd.qW (zR yh.out)) k_ hk, Kd.fresh' (Kd.uj (z8 yA.out)) k_ hk, Kd.fresh' (Kd.qW (zR yK.out)) k_ hk, Kd.xJ (g := zh) (o := .cells #[.slice yF zD.length yG] 24 (0, 0)) (zU zY.out) k_ hk, Kd.xJ (g := zJ) (o := .cells #[.int .i64 0, .int .i64 12, .bool false, .bool false] 26 (0, 0)) (zU zQ.out) k_ hk⟩)); (case aO => exact (by (with_reducible repeat (first | apply Kd.qD | apply Kd.qF | apply Kd.qE)); exact Kd.yM jl.out (fun _ hk => ⟨hk.1, ⟨hk.2.2.1, ⟨hk.2.2.2.1, ⟨hk.2.2.2.2.1, ⟨hk.2.2.2.2.2.1, hk.2.2.2.2.2.2⟩⟩⟩⟩⟩))); (case aS => exact (zW (zB HB.out))); (case aL => have := zq4.out; omega); intro zwf w83 ho hb hg hat; rw [← zq5.out] at ho; have zX := zx.mk (Kd.yN (ok := (fun k_ => some k_ ≠ (yS : Value).ownBlock ∧ some k_ ≠ (.slice bF vD.length bG : Value).ownBlock ∧ some k_ ≠ (yg : Value).ownBlock ∧ some k_ ≠ (vE : Value).ownBlock ∧ some k_ ≠ (qy : Value).ownBlock ∧ k_ ≠ zh ∧ k_ ≠ zJ)) (z8 qh.out) hg hat); have zV := zx.mk (Kd.jk (zR qZ.out) (Kd.jy (z8 jl.out)) (by decide) hg); have zf := zx.mk (Kd.yN (ok := (fun k_ => some k_ ≠ (.slice VR xC.length VT : Value).ownBlock ∧ some k_ ≠ (yS : Value).ownBlock ∧ some k_ ≠ (yg : Value).ownBlock ∧ some k_ ≠ (vE : Value).ownBlock ∧ some k_ ≠ (qy : Value).ownBlock ∧ k_ ≠ zh ∧ k_ ≠ zJ)) (z8 yI.out) hg hat); have zu := zx.mk (Kd.jk (zR yh.out) (Kd.jy (z8 jl.out)) (by decide) hg); have yZ := zx.mk (Kd.yN (ok := (fun k_ => some k_ ≠ (.slice VR xC.length VT : Value).ownBlock ∧ some k_ ≠ (yS : Value).ownBlock ∧ some k_ ≠ (.slice bF vD.length bG : Value).ownBlock ∧ some k_ ≠ (yg : Value).ownBlock ∧ some k_ ≠ (qy : Value).ownBlock ∧ k_ ≠ zh ∧ k_ ≠ zJ)) (z8 yA.out) hg hat); have yT := zx.mk (Kd.jk (zR yK.out) (Kd.jy (z8 jl.out)) (by decide) hg); have qX := zx.mk (qj (g := zh) (o := .cells #[.slice yF zD.length yG] 24 (0, 0)) (zU zY.out) hg (Kd.YL jl.out zY.out (by decide))); have qo := zx.mk (qj (g := zJ) (o := .cells #[.int .i64 0, .int .i64 12, .bool false, .bool false] 26 (0, 0)) (zU zQ.out) hg (Kd.YL jl.out zQ.out (by decide))); have qp := zx.mk (hb); have qM := zx.mk (ho); clear qh; clear qZ; clear yI; clear yh; clear yA; clear yK; clear zY; clear zQ; clear HB; clear jl; have qh := zX; have qZ := zV; have yI := zf; have yh := zu; have yA := yZ; have yK := yT; have zY := qX; have zQ := qo; have HB := qp; have xY := qM; clear zX zV zf zu yZ yT qX qo qp qM; clear ho hb hg hat; obtain ⟨bH, bI, zX4⟩ := Kd.jI yA.out; subst zX4; obtain ⟨bL, bM, zX5⟩ := Kd.jI xY.out; subst zX5) | (go_at_call 18; (with_reducible refine (zF.calls p8 _ _ kC _ _ ZO true _ ?yO ?qd ?q8 ?q9 A54.out).mono ?_); (case yO => repeat (first | exact (Kd.vT yA.out).2.2 | (with_reducible refine Kd.yJ ?_ _) | (with_reducible refine Kd.yV ?_ _) | (with_reducible refine Kd.yH ?_))); (case qd => exact (Kd.vT yA.out).2.1); (case q8 => repeat (first | exact (Kd.vT xY.out).2.2 | (with_reducible refine Kd.yJ ?_ _) | (with_reducible refine Kd.yV ?_ _) | (with_reducible refine Kd.yH ?_))); (case q9 => exact (Kd.vT xY.out).2.1); rintro e w87 ⟨rfl, hb⟩; have zX := zx.mk (Kd.vB (z8 qh.out) hb); have zV := zx.mk (Kd.yU (zR qZ.out) hb); have zf := zx.mk (Kd.vB (z8 yI.out) hb); have zu := zx.mk (Kd.yU (zR yh.out) hb); have yZ := zx.mk (Kd.vB (z8 yA.out) hb); have yT := zx.mk (Kd.yU (zR yK.out) hb); have qX := zx.mk (Kd.vB (z8 xY.out) hb); have qo := zx.mk (zm (g := zh) (o := .cells #[.slice yF zD.length yG] 24 (0, 0)) (zU zY.out) hb); have qp := zx.mk (zm (g := zJ) (o := .cells #[.int .i64 0, .int .i64 12, .bool false, .bool false] 26 (0, 0)) (zU zQ.out) hb); have qM := zx.mk (zA (zB HB.out) hb); clear qh; clear qZ; clear yI; clear yh; clear yA; clear yK; clear xY; clear zY; clear zQ; clear HB; have qh := zX; have qZ := zV; have yI := zf; have yh := zu; have yA := yZ; have yK := yT; have xY := qX; have zY := qo; have zQ := qp; have HB := qM; clear zX zV zf zu yZ yT qX qo qp qM; (try clear hb); (try clear hb2); (try clear hk); (try clear hi)) | ((with_reducible refine qw (N := 84) rfl ?_); (try (refine qV (by rfl) ?_; dsimp only)); refine Kd.Yc Kd.string _ 9 ?hg (N := 84) ?hd (xs := ([] : List ByteArray)) (inner := []) (ok := fun _ => True) (vW := fun _ => True) ?hr ?hp (fun _ hk => hk) trivial (Below.refl _ _) (Nat.le_refl _) (by simp) ?_; (case hd => rfl); (case hg => rfl); (case hr => first | (go_simp; done) | (go_simp; rfl)); (case hp => exact (yD.none _ _)); intro zvp w88 Xn hb ZJ jd; clear ZJ jd; (first | rw [← gQ.out] at Xn | (simp only [Int.reduceToNat] at Xn; rw [← gQ.out] at Xn)); have zX := zx.mk (Kd.qY (z8 qh.out) (Kd.qQ Xn) hb); have zV := zx.mk (Kd.uJ (zR qZ.out) (Kd.qQ Xn) hb); have zf := zx.mk (Kd.qY (z8 yI.out) (Kd.qQ Xn) hb); have zu := zx.mk (Kd.uJ (zR yh.out) (Kd.qQ Xn) hb); have yZ := zx.mk (Kd.qY (z8 yA.out) (Kd.qQ Xn) hb); have yT := zx.mk (Kd.uJ (zR yK.out) (Kd.qQ Xn) hb); have qX := zx.mk (Kd.qY (z8 xY.out) (Kd.qQ Xn) hb); have qo := zx.mk (Kd.vv (Kd.jF (Kd.jF (Kd.jF Xn (Kd.qW (zR qZ.out))) (Kd.qW (zR yh.out))) (Kd.qW (zR yK.out))) (zW (zB HB.out))); have qp := zx.mk (zm (g := zh) (o := .cells #[.slice yF zD.length yG] 24 (0, 0)) (zU zY.out) hb); have qM := zx.mk (zm (g := zJ) (o := .cells #[.int .i64 0, .int .i64 12, .bool false, .bool false] 26 (0, 0)) (zU zQ.out) hb); have uZ := zx.mk (zA (zB HB.out) hb); clear qh; clear qZ; clear yI; clear yh; clear yA; clear yK; clear xY; clear zY; clear zQ; clear HB; have qh := zX; have qZ := zV; have yI := zf; have yh := zu; have yA := yZ; have yK := yT; have xY := qX; have XB := qo; have zY := qp; have zQ := qM; have HB := uZ; clear zX zV zf zu yZ yT qX qo qp qM uZ; clear hb Xn; obtain ⟨YE, YF, zX6⟩ := Kd.qA qZ.out; subst zX6) | ((with_reducible refine uy (b := .append) (xs := #[.tmp 84, .tmp 85]) rfl ?_); (try (refine qV (by rfl) ?_; dsimp only)); at_builtin; refine Kd.pE Kd.string (w0 := w) w.heap.size rfl (.tmp 84) (.tmp 85) 27 9 (.string ⟨#[]⟩) 16 rfl Tryz.underlying27 Q6 rfl (by decide) (by omega) zvp jO qm _ _ _ (fun k_ => some k_ ≠ (.slice YE qm.length YF : Value).ownBlock ∧ some k_ ≠ (yg : Value).ownBlock ∧ some k_ ≠ (qy : Value).ownBlock) (fun _ => False) rfl rfl ?aO ?aR (fun _ _ h => h) (fun _ h => h.elim) ?aF ?aB ?aS ?aL ?_; (case aR => repeat (first | exact (Kd.qO qZ.out).2.2 | (with_reducible refine Kd.yJ ?_ _) | (with_reducible refine Kd.yV ?_ _) | (with_reducible refine Kd.yH ?_))); (case aB => exact (zB HB.out)); (case aF => exact (fun k_ hk => ⟨Kd.fresh' (Kd.qW (zR qZ.out)) k_ hk, Kd.fresh' (Kd.qW (zR yh.out)) k_ hk, Kd.fresh' (Kd.qW (zR yK.out)) k_ hk⟩)); (case aO => exact (zR (Kd.xQ XB.out (fun _ hk => ⟨hk.1.1.2, ⟨hk.1.2, hk.2⟩⟩)))); (case aS => exact (zW (zB HB.out))); (case aL => have := zkX.out; omega); intro zvr w90 ho hb hg hat; rw [← zkJ.out] at ho; have zX := zx.mk (Kd.yN (ok := (fun k_ => some k_ ≠ (.slice YE qm.length YF : Value).ownBlock ∧ some k_ ≠ (.slice bF vD.length bG : Value).ownBlock ∧ some k_ ≠ (yg : Value).ownBlock ∧ some k_ ≠ (.slice bH kC.length bI : Value).ownBlock ∧ some k_ ≠ (qy : Value).ownBlock ∧ some k_ ≠ (.slice bL ZO.length bM : Value).ownBlock ∧ k_ ≠ zh ∧ k_ ≠ zJ)) (by (with_reducible repeat (first | apply Kd.qD | apply Kd.qF | apply Kd.qE)); exact Kd.yM qh.out (fun _ hk => ⟨⟨hk.1.1.1, ⟨hk.1.1.2.1, ⟨hk.1.1.2.2.1, ⟨hk.1.1.2.2.2.1, ⟨hk.1.1.2.2.2.2.1, ⟨hk.1.2, ⟨hk.1.1.2.2.2.2.2.1, hk.1.1.2.2.2.2.2.2⟩⟩⟩⟩⟩⟩⟩, hk.2⟩)) hg hat); have zV := zx.mk (Kd.jr (ok := (fun k_ => some k_ ≠ (yg : Value).ownBlock ∧ some k_ ≠ (qy : Value).ownBlock)) (zR qZ.out) hg hat); have zf := zx.mk (Kd.yN (ok := (fun k_ => some k_ ≠ (.slice VR xC.length VT : Value).ownBlock ∧ some k_ ≠ (.slice YE qm.length YF : Value).ownBlock ∧ some k_ ≠ (yg : Value).ownBlock ∧ some k_ ≠ (.slice bH kC.length bI : Value).ownBlock ∧ some k_ ≠ (qy : Value).ownBlock ∧ some k_ ≠ (.slice bL ZO.length bM : Value).ownBlock ∧ k_ ≠ zh ∧ k_ ≠ zJ)) (by (with_reducible repeat (first | apply Kd.qD | apply Kd.qF | apply Kd.qE)); exact Kd.yM yI.out (fun _ hk => ⟨⟨hk.1.1.1, ⟨hk.1.1.2.1, ⟨hk.1.1.2.2.1, ⟨hk.1.1.2.2.2.1, ⟨hk.1.1.2.2.2.2.1, ⟨hk.1.2, ⟨hk.1.1.2.2.2.2.2.1, hk.1.1.2.2.2.2.2.2⟩⟩⟩⟩⟩⟩⟩, hk.2⟩)) hg hat); have zu := zx.mk (Kd.jr (ok := (fun k_ => some k_ ≠ (.slice YE qm.length YF : Value).ownBlock ∧ some k_ ≠ (qy : Value).ownBlock)) (zR yh.out) hg hat); have yZ := zx.mk (Kd.yN (ok := (fun k_ => some k_ ≠ (.slice VR xC.length VT : Value).ownBlock ∧ some k_ ≠ (.slice YE qm.length YF : Value).ownBlock ∧ some k_ ≠ (.slice bF vD.length bG : Value).ownBlock ∧ some k_ ≠ (yg : Value).ownBlock ∧ some k_ ≠ (qy : Value).ownBlock ∧ some k_ ≠ (.slice bL ZO.length bM : Value).ownBlock ∧ k_ ≠ zh ∧ k_ ≠ zJ)) (by (with_reducible repeat (first | apply Kd.qD | apply Kd.qF | apply Kd.qE)); exact Kd.yM yA.out (fun _ hk => ⟨⟨hk.1.1.1, ⟨hk.1.1.2.1, ⟨hk.1.1.2.2.1, ⟨hk.1.1.2.2.2.1, ⟨hk.1.1.2.2.2.2.1, ⟨hk.1.2, ⟨hk.1.1.2.2.2.2.2.1, hk.1.1.2.2.2.2.2.2⟩⟩⟩⟩⟩⟩⟩, hk.2⟩)) hg hat); have yT := zx.mk (Kd.jr (ok := (fun k_ => some k_ ≠ (.slice YE qm.length YF : Value).ownBlock ∧ some k_ ≠ (yg : Value).ownBlock)) (zR yK.out) hg hat); have qX := zx.mk (qj (g := zh) (o := .cells #[.slice yF zD.length yG] 24 (0, 0)) (zU zY.out) hg (Kd.wW XB.out zY.out (by decide))); have qo := zx.mk (qj (g := zJ) (o := .cells #[.int .i64 0, .int .i64 12, .bool false, .bool false] 26 (0, 0)) (zU zQ.out) hg (Kd.wW XB.out zQ.out (by decide))); have qp := zx.mk (Kd.yN (ok := (fun k_ => some k_ ≠ (.slice YE qm.length YF : Value).ownBlock ∧ some k_ ≠ (yg : Value).ownBlock ∧ some k_ ≠ (.slice bH kC.length bI : Value).ownBlock ∧ some k_ ≠ (qy : Value).ownBlock ∧ k_ ≠ zh ∧ k_ ≠ zJ)) (z8 xY.out) hg hat); have qM := zx.mk (hb); have uZ := zx.mk (ho); clear qh; clear qZ; clear yI; clear yh; clear yA; clear yK; clear zY; clear zQ; clear xY; clear HB; clear XB; have qh := zX; have qZ := zV; have yI := zf; have yh := zu; have yA := yZ; have yK := yT; have zY := qX; have zQ := qo; have xY := qp; have HB := qM; have XC := uZ; clear zX zV zf zu yZ yT qX qo qp qM uZ; clear ho hb hg hat; obtain ⟨JY, JW, zX7⟩ := Kd.qA yh.out; subst zX7) | ((with_reducible refine uy (b := .append) (xs := #[.tmp 86, .tmp 87]) rfl ?_); (try (refine qV (by rfl) ?_; dsimp only)); at_builtin; refine Kd.pE Kd.string (w0 := w) w.heap.size rfl (.tmp 86) (.tmp 87) 27 9 (.string ⟨#[]⟩) 16 rfl Tryz.underlying27 Q6 rfl (by decide) (by omega) zvr jW xA _ _ _ (fun k_ => some k_ ≠ (.slice YE qm.length YF : Value).ownBlock ∧ some k_ ≠ (.slice JY xA.length JW : Value).ownBlock ∧ some k_ ≠ (qy : Value).ownBlock) (fun _ => False) rfl rfl ?aO ?aR (fun _ _ h => h) (fun _ h => h.elim) ?aF ?aB ?aS ?aL ?_; (case aR => repeat (first | exact (Kd.qO yh.out).2.2 | (with_reducible refine Kd.yJ ?_ _) | (with_reducible refine Kd.yV ?_ _) | (with_reducible refine Kd.yH ?_))); (case aB => exact (zB HB.out)); (case aF => exact (fun k_ hk => ⟨Kd.fresh' (Kd.qW (zR qZ.out)) k_ hk, Kd.fresh' (Kd.qW (zR yh.out)) k_ hk, Kd.fresh' (Kd.qW (zR yK.out)) k_ hk⟩)); (case aO => exact (zR XC.out)); (case aS => exact (zW (zB HB.out))); (case aL => have := zkV.out; omega); intro zXU w92 ho hb hg hat; rw [← zkK.out] at ho; have zX := zx.mk (Kd.yN (ok := (fun k_ => some k_ ≠ (.slice YE qm.length YF : Value).ownBlock ∧ some k_ ≠ (.slice bF vD.length bG : Value).ownBlock ∧ some k_ ≠ (.slice JY xA.length JW : Value).ownBlock ∧ some k_ ≠ (.slice bH kC.length bI : Value).ownBlock ∧ some k_ ≠ (qy : Value).ownBlock ∧ some k_ ≠ (.slice bL ZO.length bM : Value).ownBlock ∧ k_ ≠ zh ∧ k_ ≠ zJ)) (z8 qh.out) hg hat); have zV := zx.mk (Kd.jr (ok := (fun k_ => some k_ ≠ (.slice JY xA.length JW : Value).ownBlock ∧ some k_ ≠ (qy : Value).ownBlock)) (zR qZ.out) hg hat); have zf := zx.mk (Kd.yN (ok := (fun k_ => some k_ ≠ (.slice VR xC.length VT : Value).ownBlock ∧ some k_ ≠ (.slice YE qm.length YF : Value).ownBlock ∧ some k_ ≠ (.slice JY xA.length JW : Value).ownBlock ∧ some k_ ≠ (.slice bH kC.length bI : Value).ownBlock ∧ some k_ ≠ (qy : Value).ownBlock ∧ some k_ ≠ (.slice bL ZO.length bM : Value).ownBlock ∧ k_ ≠ zh ∧ k_ ≠ zJ)) (z8 yI.out) hg hat); have zu := zx.mk (Kd.jr (ok := (fun k_ => some k_ ≠ (.slice YE qm.length YF : Value).ownBlock ∧ some k_ ≠ (qy : Value).ownBlock)) (zR yh.out) hg hat); have yZ := zx.mk (Kd.yN (ok := (fun k_ => some k_ ≠ (.slice VR xC.length VT : Value).ownBlock ∧ some k_ ≠ (.slice YE qm.length YF : Value).ownBlock ∧ some k_ ≠ (.slice bF vD.length bG : Value).ownBlock ∧ some k_ ≠ (.slice JY xA.length JW : Value).ownBlock ∧ some k_ ≠ (qy : Value).ownBlock ∧ some k_ ≠ (.slice bL ZO.length bM : Value).ownBlock ∧ k_ ≠ zh ∧ k_ ≠ zJ)) (z8 yA.out) hg hat); have yT := zx.mk (Kd.jr (ok := (fun k_ => some k_ ≠ (.slice YE qm.length YF : Value).ownBlock ∧ some k_ ≠ (.slice JY xA.length JW : Value).ownBlock)) (zR yK.out) hg hat); have qX := zx.mk (qj (g := zh) (o := .cells #[.slice yF zD.length yG] 24 (0, 0)) (zU zY.out) hg (Kd.wW XC.out zY.out (by decide))); have qo := zx.mk (qj (g := zJ) (o := .cells #[.int .i64 0, .int .i64 12, .bool false, .bool false] 26 (0, 0)) (zU zQ.out) hg (Kd.wW XC.out zQ.out (by decide))); have qp := zx.mk (Kd.yN (ok := (fun k_ => some k_ ≠ (.slice YE qm.length YF : Value).ownBlock ∧ some k_ ≠ (.slice JY xA.length JW : Value).ownBlock ∧ some k_ ≠ (.slice bH kC.length bI : Value).ownBlock ∧ some k_ ≠ (qy : Value).ownBlock ∧ k_ ≠ zh ∧ k_ ≠ zJ)) (z8 xY.out) hg hat); have qM := zx.mk (hb); have uZ := zx.mk (ho); clear qh; clear qZ; clear yI; clear yh; clear yA; clear yK; clear zY; clear zQ; clear xY; clear HB; clear XC; have qh := zX; have qZ := zV; have yI := zf; have yh := zu; have yA := yZ; have yK := yT; have zY := qX; have zQ := qo; have xY := qp; have HB := qM; have XQ := uZ; clear zX zV zf zu yZ yT qX qo qp qM uZ; clear ho hb hg hat; obtain ⟨zY9, zWz, zX8⟩ := Kd.qA yK.out; subst zX8; obtain ⟨zWq, zWx, zX9⟩ := Kd.qA XQ.out; subst zX9) | (go_at_call 17; (with_reducible refine (yx.calls p8 _ _ ZM _ _ zvo false _ ?yO ?qd ?q8 ?q9 A58.out).mono ?_); (case yO => repeat (first | exact (Kd.qO yK.out).2.2 | (with_reducible refine Kd.yJ ?_ _) | (with_reducible refine Kd.yV ?_ _) | (with_reducible refine Kd.yH ?_))); (case qd => exact (Kd.qO yK.out).2.1); (case q8 => repeat (first | exact (Kd.qO XQ.out).2.2 | (with_reducible refine Kd.yJ ?_ _) | (with_reducible refine Kd.yV ?_ _) | (with_reducible refine Kd.yH ?_))); (case q9 => exact (Kd.qO XQ.out).2.1); rintro e w' ⟨rfl, ⟨nd, rfl⟩⟩))
                go_ret
                exact ⟨by first | rfl | (simp [zG, zH] <;> rfl) | (simp [*, zG, zH] <;> rfl), by repeat (first | (with_reducible first | exact HB.out | apply yj | apply zN | apply yY | refine qb ?_ VQ.out | refine qb ?_ UK.out) | exact HB.out)⟩
              ·rw [if_neg c57] at H
               exact absurd H (by simp)
             ·rw [if_neg c56] at H
              exact absurd H (by simp)
            ·replace c55 := Bool.eq_false_iff.mpr c55
             subst c55
             have H1 : (some false) = some r := by rw [if_neg (show ¬ (false = true) by decide)] at H; exact H
             clear H
             have H := H1
             clear H1
             obtain rfl := Option.some.inj H
             go_wp2_with (first | ((with_reducible refine qw (N := 75) rfl ?_); (try (refine qV (by rfl) ?_; dsimp only)); refine Kd.zqZ kE _ 53 ?hg (N' := 75) ?hd (xs := ([] : List (jR))) (inner := []) (ok := (fun k_ => some k_ ≠ (uH : Value).ownBlock ∧ some k_ ≠ (yS : Value).ownBlock ∧ some k_ ≠ (xR : Value).ownBlock ∧ some k_ ≠ (yg : Value).ownBlock ∧ some k_ ≠ (vE : Value).ownBlock ∧ some k_ ≠ (qy : Value).ownBlock ∧ k_ ≠ zh ∧ k_ ≠ zJ)) (vW := (fun k_ => some k_ ≠ (uH : Value).ownBlock ∧ some k_ ≠ (yS : Value).ownBlock ∧ some k_ ≠ (xR : Value).ownBlock ∧ some k_ ≠ (yg : Value).ownBlock ∧ some k_ ≠ (vE : Value).ownBlock ∧ some k_ ≠ (qy : Value).ownBlock ∧ k_ ≠ zh ∧ k_ ≠ zJ)) ?hr ?hp (fun _ hk => hk) ((show ∀ k_, wc.heap.size ≤ k_ → (fun k_ => some k_ ≠ (uH : Value).ownBlock ∧ some k_ ≠ (yS : Value).ownBlock ∧ some k_ ≠ (xR : Value).ownBlock ∧ some k_ ≠ (yg : Value).ownBlock ∧ some k_ ≠ (vE : Value).ownBlock ∧ some k_ ≠ (qy : Value).ownBlock ∧ k_ ≠ zh ∧ k_ ≠ zJ) k_ from fun k_ hk => ⟨Kd.fresh' (Kd.uj (z8 qh.out)) k_ hk, Kd.fresh' (Kd.qW (zR qZ.out)) k_ hk, Kd.fresh' (Kd.uj (z8 yI.out)) k_ hk, Kd.fresh' (Kd.qW (zR yh.out)) k_ hk, Kd.fresh' (Kd.uj (z8 yA.out)) k_ hk, Kd.fresh' (Kd.qW (zR yK.out)) k_ hk, Kd.xJ (g := zh) (o := .cells #[.slice yF zD.length yG] 24 (0, 0)) (zU zY.out) k_ hk, Kd.xJ (g := zJ) (o := .cells #[.int .i64 0, .int .i64 12, .bool false, .bool false] 26 (0, 0)) (zU zQ.out) k_ hk⟩) _ (Nat.le_refl _)) (Below.refl _ _) (Nat.le_refl _) (by simp) ?_; (case hd => rfl); (case hg => rfl); (case hr => first | (go_simp; done) | (go_simp; rfl)); (case hp => exact (yD.none _ _)); intro X7 w96 VU hb ZJ jd; clear ZJ jd; (first | rw [← UW.out] at VU | (simp only [Int.reduceToNat] at VU; rw [← UW.out] at VU)); have zX := zx.mk (Kd.qY (z8 qh.out) (Kd.vK VU) hb); have zV := zx.mk (Kd.yU (zR qZ.out) hb); have zf := zx.mk (Kd.qY (z8 yI.out) (Kd.vK VU) hb); have zu := zx.mk (Kd.yU (zR yh.out) hb); have yZ := zx.mk (Kd.qY (z8 yA.out) (Kd.vK VU) hb); have yT := zx.mk (Kd.yU (zR yK.out) hb); have qX := zx.mk (Kd.wH VU (zW (zB HB.out))); have qo := zx.mk (zm (g := zh) (o := .cells #[.slice yF zD.length yG] 24 (0, 0)) (zU zY.out) hb); have qp := zx.mk (zm (g := zJ) (o := .cells #[.int .i64 0, .int .i64 12, .bool false, .bool false] 26 (0, 0)) (zU zQ.out) hb); have qM := zx.mk (zA (zB HB.out) hb); clear qh; clear qZ; clear yI; clear yh; clear yA; clear yK; clear zY; clear zQ; clear HB; have qh := zX; have qZ := zV; have yI := zf; have yh := zu; have yA := yZ; have yK := yT; have ji := qX; have zY := qo; have zQ := qp; have HB := qM; clear zX zV zf zu yZ yT qX qo qp qM; clear hb VU; obtain ⟨zq6, zq7, zJz⟩ := Kd.jI qh.out; subst zJz) | ((with_reducible refine uy (b := .append) (xs := #[.tmp 75, .tmp 76]) rfl ?_); (try (refine qV (by rfl) ?_; dsimp only)); at_builtin; refine Kd.wZ kE (w0 := w) w.heap.size rfl (.tmp 75) (.tmp 76) 34 53 (.agg #[(.int .i64 0), (.int .i64 0), (.int .i64 0), (.int .i64 0), (.string ⟨#[]⟩), (.string ⟨#[]⟩), (.slice none 0 0)]) 88 rfl Tryz.underlying34 Xa rfl (by decide) (by omega) X7 Y2 xC _ _ _ (fun k_ => some k_ ≠ (yS : Value).ownBlock ∧ some k_ ≠ (xR : Value).ownBlock ∧ some k_ ≠ (yg : Value).ownBlock ∧ some k_ ≠ (vE : Value).ownBlock ∧ some k_ ≠ (qy : Value).ownBlock ∧ k_ ≠ zh ∧ k_ ≠ zJ) (fun k_ => ((fun k_ => some k_ ≠ (yS : Value).ownBlock ∧ some k_ ≠ (xR : Value).ownBlock ∧ some k_ ≠ (yg : Value).ownBlock ∧ some k_ ≠ (vE : Value).ownBlock ∧ some k_ ≠ (qy : Value).ownBlock ∧ k_ ≠ zh ∧ k_ ≠ zJ)) k_ ∧ some k_ ≠ (X7 : Value).ownBlock) rfl rfl ?aO ?aR (fun _ hk => hk) ?aF ?aB ?aS ?aL ?_; (case aR => exact (by skip; exact Kd.tT (Kd.yM (ok' := (fun k_ => ((fun k_ => some k_ ≠ (yS : Value).ownBlock ∧ some k_ ≠ (xR : Value).ownBlock ∧ some k_ ≠ (yg : Value).ownBlock ∧ some k_ ≠ (vE : Value).ownBlock ∧ some k_ ≠ (qy : Value).ownBlock ∧ k_ ≠ zh ∧ k_ ≠ zJ)) k_ ∧ some k_ ≠ (X7 : Value).ownBlock)) (qh.out) (fun k_ hk => ⟨⟨hk.1.1, ⟨hk.1.2.1, ⟨hk.1.2.2.1, ⟨hk.1.2.2.2.1, ⟨hk.1.2.2.2.2.1, ⟨hk.1.2.2.2.2.2.1, hk.1.2.2.2.2.2.2⟩⟩⟩⟩⟩⟩, hk.2⟩)))); (case aB => exact (zB HB.out)); (case aF => exact (fun k_ hk => ⟨Kd.fresh' (Kd.qW (zR qZ.out)) k_ hk, Kd.fresh' (Kd.uj (z8 yI.out)) k_ hk, Kd.fresh' (Kd.qW (zR yh.out)) k_ hk, Kd.fresh' (Kd.uj (z8 yA.out)) k_ hk, Kd.fresh' (Kd.qW (zR yK.out)) k_ hk, Kd.xJ (g := zh) (o := .cells #[.slice yF zD.length yG] 24 (0, 0)) (zU zY.out) k_ hk, Kd.xJ (g := zJ) (o := .cells #[.int .i64 0, .int .i64 12, .bool false, .bool false] 26 (0, 0)) (zU zQ.out) k_ hk⟩)); (case aO => exact (by (with_reducible repeat (first | apply Kd.qD | apply Kd.qF | apply Kd.qE)); exact Kd.yM ji.out (fun _ hk => ⟨hk.2.1, ⟨hk.2.2.1, ⟨hk.2.2.2.1, ⟨hk.2.2.2.2.1, ⟨hk.2.2.2.2.2.1, ⟨hk.2.2.2.2.2.2.1, hk.2.2.2.2.2.2.2⟩⟩⟩⟩⟩⟩))); (case aS => exact (zW (zB HB.out))); (case aL => have := zq2.out; omega); intro X8 w98 ho hb hg hat; rw [← zq3.out] at ho; have zX := zx.mk (Kd.yN (ok := (fun k_ => some k_ ≠ (yS : Value).ownBlock ∧ some k_ ≠ (xR : Value).ownBlock ∧ some k_ ≠ (yg : Value).ownBlock ∧ some k_ ≠ (vE : Value).ownBlock ∧ some k_ ≠ (qy : Value).ownBlock ∧ k_ ≠ zh ∧ k_ ≠ zJ)) (z8 qh.out) hg hat); have zV := zx.mk (Kd.jk (zR qZ.out) (Kd.jy (z8 ji.out)) (by decide) hg); have zf := zx.mk (Kd.yN (ok := (fun k_ => some k_ ≠ (.slice zq6 xC.length zq7 : Value).ownBlock ∧ some k_ ≠ (yS : Value).ownBlock ∧ some k_ ≠ (yg : Value).ownBlock ∧ some k_ ≠ (vE : Value).ownBlock ∧ some k_ ≠ (qy : Value).ownBlock ∧ k_ ≠ zh ∧ k_ ≠ zJ)) (z8 yI.out) hg hat); have zu := zx.mk (Kd.jk (zR yh.out) (Kd.jy (z8 ji.out)) (by decide) hg); have yZ := zx.mk (Kd.yN (ok := (fun k_ => some k_ ≠ (.slice zq6 xC.length zq7 : Value).ownBlock ∧ some k_ ≠ (yS : Value).ownBlock ∧ some k_ ≠ (xR : Value).ownBlock ∧ some k_ ≠ (yg : Value).ownBlock ∧ some k_ ≠ (qy : Value).ownBlock ∧ k_ ≠ zh ∧ k_ ≠ zJ)) (z8 yA.out) hg hat); have yT := zx.mk (Kd.jk (zR yK.out) (Kd.jy (z8 ji.out)) (by decide) hg); have qX := zx.mk (qj (g := zh) (o := .cells #[.slice yF zD.length yG] 24 (0, 0)) (zU zY.out) hg (Kd.YL ji.out zY.out (by decide))); have qo := zx.mk (qj (g := zJ) (o := .cells #[.int .i64 0, .int .i64 12, .bool false, .bool false] 26 (0, 0)) (zU zQ.out) hg (Kd.YL ji.out zQ.out (by decide))); have qp := zx.mk (hb); have qM := zx.mk (ho); clear qh; clear qZ; clear yI; clear yh; clear yA; clear yK; clear zY; clear zQ; clear HB; clear ji; have qh := zX; have qZ := zV; have yI := zf; have yh := zu; have yA := yZ; have yK := yT; have zY := qX; have zQ := qo; have HB := qp; have jl := qM; clear zX zV zf zu yZ yT qX qo qp qM; clear ho hb hg hat; obtain ⟨zkY, zkW, zQk⟩ := Kd.jI yI.out; subst zQk) | ((with_reducible refine uy (b := .append) (xs := #[.tmp 77, .tmp 78]) rfl ?_); (try (refine qV (by rfl) ?_; dsimp only)); at_builtin; refine Kd.wZ kE (w0 := w) w.heap.size rfl (.tmp 77) (.tmp 78) 34 53 (.agg #[(.int .i64 0), (.int .i64 0), (.int .i64 0), (.int .i64 0), (.string ⟨#[]⟩), (.string ⟨#[]⟩), (.slice none 0 0)]) 88 rfl Tryz.underlying34 Xa rfl (by decide) (by omega) X8 ZL vD _ _ _ (fun k_ => some k_ ≠ (yS : Value).ownBlock ∧ some k_ ≠ (yg : Value).ownBlock ∧ some k_ ≠ (vE : Value).ownBlock ∧ some k_ ≠ (qy : Value).ownBlock ∧ k_ ≠ zh ∧ k_ ≠ zJ) (fun k_ => ((fun k_ => some k_ ≠ (yS : Value).ownBlock ∧ some k_ ≠ (yg : Value).ownBlock ∧ some k_ ≠ (vE : Value).ownBlock ∧ some k_ ≠ (qy : Value).ownBlock ∧ k_ ≠ zh ∧ k_ ≠ zJ)) k_ ∧ some k_ ≠ (X8 : Value).ownBlock) rfl rfl ?aO ?aR (fun _ hk => hk) ?aF ?aB ?aS ?aL ?_; (case aR => exact (by skip; exact Kd.tT (Kd.yM (ok' := (fun k_ => ((fun k_ => some k_ ≠ (yS : Value).ownBlock ∧ some k_ ≠ (yg : Value).ownBlock ∧ some k_ ≠ (vE : Value).ownBlock ∧ some k_ ≠ (qy : Value).ownBlock ∧ k_ ≠ zh ∧ k_ ≠ zJ)) k_ ∧ some k_ ≠ (X8 : Value).ownBlock)) (yI.out) (fun k_ hk => ⟨⟨hk.1.2.1, ⟨hk.1.2.2.1, ⟨hk.1.2.2.2.1, ⟨hk.1.2.2.2.2.1, ⟨hk.1.2.2.2.2.2.1, hk.1.2.2.2.2.2.2⟩⟩⟩⟩⟩, hk.2⟩)))); (case aB => exact (zB HB.out)); (case aF => exact (fun k_ hk => ⟨Kd.fresh' (Kd.qW (zR qZ.out)) k_ hk, Kd.fresh' (Kd.qW (zR yh.out)) k_ hk, Kd.fresh' (Kd.uj (z8 yA.out)) k_ hk, Kd.fresh' (Kd.qW (zR yK.out)) k_ hk, Kd.xJ (g := zh) (o := .cells #[.slice yF zD.length yG] 24 (0, 0)) (zU zY.out) k_ hk, Kd.xJ (g := zJ) (o := .cells #[.int .i64 0, .int .i64 12, .bool false, .bool false] 26 (0, 0)) (zU zQ.out) k_ hk⟩)); (case aO => exact (by (with_reducible repeat (first | apply Kd.qD | apply Kd.qF | apply Kd.qE)); exact Kd.yM jl.out (fun _ hk => ⟨hk.1, ⟨hk.2.2.1, ⟨hk.2.2.2.1, ⟨hk.2.2.2.2.1, ⟨hk.2.2.2.2.2.1, hk.2.2.2.2.2.2⟩⟩⟩⟩⟩))); (case aS => exact (zW (zB HB.out))); (case aL => have := zq4.out; omega); intro zwf zWj ho hb hg hat; rw [← zq5.out] at ho; have zX := zx.mk (Kd.yN (ok := (fun k_ => some k_ ≠ (yS : Value).ownBlock ∧ some k_ ≠ (.slice zkY vD.length zkW : Value).ownBlock ∧ some k_ ≠ (yg : Value).ownBlock ∧ some k_ ≠ (vE : Value).ownBlock ∧ some k_ ≠ (qy : Value).ownBlock ∧ k_ ≠ zh ∧ k_ ≠ zJ)) (z8 qh.out) hg hat); have zV := zx.mk (Kd.jk (zR qZ.out) (Kd.jy (z8 jl.out)) (by decide) hg); have zf := zx.mk (Kd.yN (ok := (fun k_ => some k_ ≠ (.slice zq6 xC.length zq7 : Value).ownBlock ∧ some k_ ≠ (yS : Value).ownBlock ∧ some k_ ≠ (yg : Value).ownBlock ∧ some k_ ≠ (vE : Value).ownBlock ∧ some k_ ≠ (qy : Value).ownBlock ∧ k_ ≠ zh ∧ k_ ≠ zJ)) (z8 yI.out) hg hat); have zu := zx.mk (Kd.jk (zR yh.out) (Kd.jy (z8 jl.out)) (by decide) hg); have yZ := zx.mk (Kd.yN (ok := (fun k_ => some k_ ≠ (.slice zq6 xC.length zq7 : Value).ownBlock ∧ some k_ ≠ (yS : Value).ownBlock ∧ some k_ ≠ (.slice zkY vD.length zkW : Value).ownBlock ∧ some k_ ≠ (yg : Value).ownBlock ∧ some k_ ≠ (qy : Value).ownBlock ∧ k_ ≠ zh ∧ k_ ≠ zJ)) (z8 yA.out) hg hat); have yT := zx.mk (Kd.jk (zR yK.out) (Kd.jy (z8 jl.out)) (by decide) hg); have qX := zx.mk (qj (g := zh) (o := .cells #[.slice yF zD.length yG] 24 (0, 0)) (zU zY.out) hg (Kd.YL jl.out zY.out (by decide))); have qo := zx.mk (qj (g := zJ) (o := .cells #[.int .i64 0, .int .i64 12, .bool false, .bool false] 26 (0, 0)) (zU zQ.out) hg (Kd.YL jl.out zQ.out (by decide))); have qp := zx.mk (hb); have qM := zx.mk (ho); clear qh; clear qZ; clear yI; clear yh; clear yA; clear yK; clear zY; clear zQ; clear HB; clear jl; have qh := zX; have qZ := zV; have yI := zf; have yh := zu; have yA := yZ; have yK := yT; have zY := qX; have zQ := qo; have HB := qp; have xY := qM; clear zX zV zf zu yZ yT qX qo qp qM; clear ho hb hg hat; obtain ⟨zYl, zYm, zQy⟩ := Kd.jI yA.out; subst zQy; obtain ⟨zYn, zYo, zQw⟩ := Kd.jI xY.out; subst zQw) | (go_at_call 18; (with_reducible refine (zF.calls p8 _ _ kC _ _ ZO false _ ?yO ?qd ?q8 ?q9 A54.out).mono ?_); (case yO => repeat (first | exact (Kd.vT yA.out).2.2 | (with_reducible refine Kd.yJ ?_ _) | (with_reducible refine Kd.yV ?_ _) | (with_reducible refine Kd.yH ?_))); (case qd => exact (Kd.vT yA.out).2.1); (case q8 => repeat (first | exact (Kd.vT xY.out).2.2 | (with_reducible refine Kd.yJ ?_ _) | (with_reducible refine Kd.yV ?_ _) | (with_reducible refine Kd.yH ?_))); (case q9 => exact (Kd.vT xY.out).2.1); rintro e zWv ⟨rfl, hb⟩; have zX := zx.mk (Kd.vB (z8 qh.out) hb); have zV := zx.mk (Kd.yU (zR qZ.out) hb); have zf := zx.mk (Kd.vB (z8 yI.out) hb); have zu := zx.mk (Kd.yU (zR yh.out) hb); have yZ := zx.mk (Kd.vB (z8 yA.out) hb); have yT := zx.mk (Kd.yU (zR yK.out) hb); have qX := zx.mk (Kd.vB (z8 xY.out) hb); have qo := zx.mk (zm (g := zh) (o := .cells #[.slice yF zD.length yG] 24 (0, 0)) (zU zY.out) hb); have qp := zx.mk (zm (g := zJ) (o := .cells #[.int .i64 0, .int .i64 12, .bool false, .bool false] 26 (0, 0)) (zU zQ.out) hb); have qM := zx.mk (zA (zB HB.out) hb); clear qh; clear qZ; clear yI; clear yh; clear yA; clear yK; clear xY; clear zY; clear zQ; clear HB; have qh := zX; have qZ := zV; have yI := zf; have yh := zu; have yA := yZ; have yK := yT; have xY := qX; have zY := qo; have zQ := qp; have HB := qM; clear zX zV zf zu yZ yT qX qo qp qM; (try clear hb); (try clear hb2); (try clear hk); (try clear hi)))
             go_ret
             exact ⟨by first | rfl | (simp [zG, zH] <;> rfl) | (simp [*, zG, zH] <;> rfl), by repeat (first | (with_reducible first | exact HB.out | apply yj | apply zN | apply yY | refine qb ?_ VQ.out | refine qb ?_ UK.out) | exact HB.out)⟩
           ·rw [if_neg c53] at H
            exact absurd H (by simp)
          ·rw [if_neg c52] at H
           exact absurd H (by simp)
         ·rw [if_neg c51] at H
          have zQj : (ZN == 0) = false := beq_eq_false_iff_ne.mpr c51
          have zQv : (ZN != 0) = true := bne_iff_ne.mpr c51
          obtain rfl := Option.some.inj H
          go_wp2
          go_ret
          exact ⟨by first | rfl | (simp [zG, zH] <;> rfl) | (simp [*, zG, zH] <;> rfl), by repeat (first | (with_reducible first | exact HB.out | apply yj | apply zN | apply yY | refine qb ?_ VQ.out | refine qb ?_ UK.out) | exact HB.out)⟩
     ·rw [if_neg c21] at H
      exact absurd H (by simp)
    ·rw [if_neg c20] at H
     exact absurd H (by simp)
end Go.Proofs.YtggifbbiiickmaaGreatDoor.PX
namespace Go.Proofs.YtggifbbiiickmaaGreatDoor
open Go.RowKit Go.Proofs.zk.zK Go.Proofs.zk.yQ Go.Proofs.zk.yX Go.Proofs.YtggifbbiiickmaaGreatDoor.PX
set_option linter.unusedSimpArgs false
set_option linter.unusedVariables false
theorem Ut (l : List y8) (s : Int) (out : List vO) (a : Int) (n : ByteArray) : p9 l s false out a n = [] := by
 unfold p9
 split
 ·rfl
 ·rw [Bool.false_and, if_neg Bool.false_ne_true]
theorem zq8 (l : List y8) (f s : Int) (st : List vO × List ByteArray) (n : ByteArray) : kr l f s false st n = (st.1 ++ (kr l f s false ([], []) n).1, st.2 ++ (kr l f s false ([], []) n).2) := by
 unfold kr
 by_cases h : uM l f n < 0
 ·rw [if_pos h, if_pos h]; simp
 ·rw [if_neg h, if_neg h, Ut, Ut]; simp
theorem V3 (l : List y8) (f s : Int) : ∀ (ns : List ByteArray) (st : List vO × List ByteArray), ns.foldl (kr l f s false) st = (st.1 ++ (jS l f s false ns).1, st.2 ++ (jS l f s false ns).2)
 | [], st => by simp [jS]
 | n :: r, st => by
  have e : jS l f s false (n :: r) = r.foldl (kr l f s false) (kr l f s false ([], []) n) := rfl
  rw [e, List.foldl_cons, V3 l f s r, V3 l f s r (kr l f s false ([], []) n), zq8 l f s st n]
  simp
theorem zvs (l : List y8) (f s : Int) (x y : List ByteArray) : jS l f s false (x ++ y) = ((jS l f s false x).1 ++ (jS l f s false y).1, (jS l f s false x).2 ++ (jS l f s false y).2) := by
 have e : jS l f s false (x ++ y) = y.foldl (kr l f s false) (jS l f s false x) := by unfold jS; rw [List.foldl_append]
 rw [e, V3]
theorem tF (l : List y8) (f : Int) (x : List ByteArray) : Yp l f false x [] = x := by
 unfold Yp
 rw [if_neg Bool.false_ne_true]
 have : aI [] = id := by funext c; rfl
 rw [this, List.map_id]
theorem Xo (l : List y8) (x : List ByteArray) (hl : 0 < l.length) (hx : x.length ≤ 2000) : YS l 0 12 x [] = ((l.any fun y => !vY y) || x.any pW) := by
 rw [Vj]
 have e1 : jN l.length 0 12 = false := by
  unfold jN
  rw [decide_eq_false (by omega : ¬ (0 : Int) < 0), decide_eq_false (by omega : ¬ (l.length : Int) ≤ 0), decide_eq_false (by omega : ¬ (12 : Int) < 1), decide_eq_false (by omega : ¬ (1000 : Int) < 12)]; rfl
 rw [e1, decide_eq_false (by omega : ¬ 2000 < x.length), decide_eq_false (by simp : ¬ 100 < ([] : List ko).length)]
 simp
theorem zx9 (l : List y8) (f s : Int) (za : Bool) (ns : List ByteArray) (hf0 : 0 ≤ f) (hf1 : f < (l.length : Int)) : ∀ b ∈ (jS l f s za ns).1, b.f6 = [] := fun b hb => by
 obtain ⟨i, hi, rfl⟩ := List.getElem_of_mem hb
 rcases (zx1 l f s za ns hf0 hf1).1 i hi with ⟨b, a, n, h1, h2⟩ | ⟨y, b, b', a, n, n', h0, h1, _⟩
 ·rw [List.getElem?_eq_getElem hi] at h1
  rw [Option.some.inj h1, h2.2.2.2]; rfl
 ·rw [List.getElem?_eq_getElem hi] at h1
  rw [Option.some.inj h1]; rfl
theorem zk4 (l : List y8) (x y : List ByteArray) (hl : l.length ≤ 2000000000000) (hM : ∀ z ∈ l, okM z) (hx : x.length ≤ 1000000000000000) (hy : y.length ≤ 1000000000000000) : Ev (fun k => zZ.f k l x y) true := by
 obtain ⟨b, hb, hbf⟩ := zvm l hl hM
 refine Ev.congr (fun k => by rw [zZ.f]) (Ev.bind hb ?_)
 have zka : Ev (fun k => zZ.j0 k x y true l) true := Ev.step (fun k => by rw [zZ.j0]) (qc rfl (uo sG (Ev.now _)))
 cases b with
 | true => exact qc rfl zka
 | false =>
 obtain ⟨h10, hok⟩ := hbf rfl
 refine jP Bool.false_ne_true ?_
 have hw : wrap64 ((x.length : Int) + (y.length : Int)) = (x.length : Int) + (y.length : Int) := ZG (by omega) (by omega)
 rw [hw]
 by_cases hxy : (x.length : Int) + (y.length : Int) > 300
 ·rw [decide_eq_true hxy]; exact zka
 ·rw [decide_eq_false hxy]
  have hF := zZ5 l (by omega)
  have hFo := zy9 l hok
  have hFl : (YU ++ l).length ≤ 1000000000 := by rw [List.length_append, PV]; omega
  have hFp : 0 < (YU ++ l).length := by rw [List.length_append, PV]; omega
  generalize YU ++ l = F at hF hFo hFl hFp
  have hf0 : (0 : Int) ≤ 0 := Int.le_refl _
  have hf1 : (0 : Int) < (F.length : Int) := by omega
  have b1 := PK F 0 12 false false x [] hFo hFl (by omega) (Nat.zero_le _)
  have b2 := PK F 0 12 false false y [] hFo hFl (by omega) (Nat.zero_le _)
  have b3 := PK F 0 12 false false (x ++ y) [] hFo hFl (by rw [List.length_append]; omega) (Nat.zero_le _)
  have r1 := Xo F x hFp (by omega)
  have r2 := Xo F y hFp (by omega)
  have r3 := Xo F (x ++ y) hFp (by rw [List.length_append]; omega)
  rw [List.any_append] at r3
  unfold JF at b1 b2 b3
  rw [r1] at b1
  rw [r2] at b2
  rw [r3] at b3
  rw [tF] at b1 b2 b3
  rw [zvs] at b3
  have l1 := sH F 0 12 false x
  have l2 := sH F 0 12 false y
  have s1 := zx9 F 0 12 false x hf0 hf1
  have s2 := zx9 F 0 12 false y hf0 hf1
  generalize jS F 0 12 false x = R1 at b1 b3 l1 s1
  generalize jS F 0 12 false y = R2 at b2 b3 l2 s2
  generalize (F.any fun y => !vY y) = V at b1 b2 b3
  generalize x.any pW = cx at b1 b3
  generalize y.any pW = cy at b2 b3
  have hsame := zx5 (R1.1 ++ R2.1) (by rw [List.length_append]; omega) (fun b hb => by
   rcases List.mem_append.1 hb with h | h
   ·rw [s1 b h]; exact Nat.zero_le _
   ·rw [s2 b h]; exact Nat.zero_le _)
  have hlist := zx6 (R1.2 ++ R2.2) (by rw [List.length_append]; omega)
  have g1 : ([] : List ByteArray).length + x.length < 8796093022208 := by simp; omega
  have g2 : x.length + y.length < 8796093022208 := by omega
  have zq9 : ∀ (a : List vO) (b : List ByteArray) (c : List vO) (d : List ByteArray), Ev (fun k => zZ.j1 k a b c d [] [] 1 true) true := fun a b c d => Ev.step (fun k => by rw [zZ.j1]) (qc rfl (jP (by decide) (uo sG (Ev.now _))))
  cases V with
  | true =>
   rw [Bool.true_or, if_pos rfl] at b1 b2 b3
   refine Ev.step (fun k => by rw [zZ.j0]) (jP Bool.false_ne_true (uo hF (uo b1 (uo hF (uo b2 (uo hF (Z5 (qc g1 (Z5 ?_)))))))))
   rw [List.nil_append]
   refine qc g2 (uo b3 ?_)
   exact jP (by decide) (zq9 _ _ _ _)
  | false =>
  cases cx with
  | true =>
   rw [Bool.true_or, Bool.or_true, if_pos rfl] at b3
   rw [Bool.or_true, if_pos rfl] at b1
   refine Ev.step (fun k => by rw [zZ.j0]) (jP Bool.false_ne_true (uo hF (uo b1 (uo hF (uo b2 (uo hF (Z5 (qc g1 (Z5 ?_)))))))))
   rw [List.nil_append]
   refine qc g2 (uo b3 ?_)
   exact jP (by decide) (zq9 _ _ _ _)
  | false =>
  rw [Bool.or_false, if_neg Bool.false_ne_true] at b1
  cases cy with
  | true =>
   rw [Bool.or_true, Bool.or_true, if_pos rfl] at b3
   rw [Bool.or_true, if_pos rfl] at b2
   refine Ev.step (fun k => by rw [zZ.j0]) (jP Bool.false_ne_true (uo hF (uo b1 (uo hF (uo b2 (uo hF (Z5 (qc g1 (Z5 ?_)))))))))
   rw [List.nil_append]
   refine qc g2 (uo b3 ?_)
   exact qc rfl (zq9 _ _ _ _)
  | false =>
   rw [Bool.or_false, Bool.or_false, if_neg Bool.false_ne_true] at b3
   rw [Bool.or_false, if_neg Bool.false_ne_true] at b2
   have g3 : ([] : List vO).length + R1.1.length < 1599289640401 := by simp; omega
   have g4 : R1.1.length + R2.1.length < 1599289640401 := by omega
   have g5 : ([] : List ByteArray).length + R1.2.length < 8796093022208 := by simp; omega
   have g6 : R1.2.length + R2.2.length < 8796093022208 := by omega
   have last : Ev (fun k => zZ.j1 k R1.1 R1.2 R2.1 R2.2 (R1.1 ++ R2.1) (R1.2 ++ R2.2) 0 false) true := by
    refine Ev.step (fun k => by rw [zZ.j1]) ?_
    refine jP Bool.false_ne_true (qc rfl ?_)
    refine Z5 (qc g3 (Z5 ?_))
    rw [List.nil_append]
    refine qc g4 (Ev.bind hsame (qc rfl ?_))
    refine Z5 (qc g5 (Z5 ?_))
    rw [List.nil_append]
    exact qc g6 (Ev.bind hlist (qc rfl (uo sG (Ev.now _))))
   refine Ev.step (fun k => by rw [zZ.j0]) (jP Bool.false_ne_true (uo hF (uo b1 (uo hF (uo b2 (uo hF (Z5 (qc g1 (Z5 ?_)))))))))
   rw [List.nil_append]
   refine qc g2 (uo b3 ?_)
   exact qc rfl last
end Go.Proofs.YtggifbbiiickmaaGreatDoor
namespace Go.Proofs.YtggifbbiiickmaaGreatDoor
open Go.ChangeShapes Go.WideShapes Go.RowKit Go.Deep Go.Proofs.zk.zK
section
variable {H : Type} {enc : TypeId × Value → H} {P : Program} {w : World} {sp : Nat → Bool} {held : Bool} {α : Type}
theorem zjz [Inhabited α] (d : Kd α) {t e : TypeId} (Good : α → DataW H → Prop) {r : Reach} {b0 : Nat} {v : Value} {d0 : DataW H} {ps : List MemPlace} (ht : P.underlying t = some (.slice e)) (hc : P.cellsOf e = d.sz)
  (dec : ∀ n cs x, DataW.trod enc P w 0 sp held n e cs = some x → ∃ y : α, d.K w y cs ∧ Good y x.1)
  (hval : Value.okWide P w r b0 t v) (h : DataW.Trod enc P w 0 sp held t v d0 ps) :
  ∃ A c l, v = .slice A l.length c ∧ l.length ≤ c ∧ Kd.C d w A l.length l ∧ (l = [] ∨ ∃ elems spare, d0 = .slice elems spare ∧ elems.length = l.length ∧ ∀ x ∈ l, ∃ D ∈ elems, Good x D) := by
 obtain ⟨a0, zxz, cap0, rfl⟩ := okWide_slice ht hval
 obtain ⟨fuel, hf⟩ := h
 rcases open_slice ht hf with ⟨hcs, _⟩ | ⟨a, len, cap, m, n, D, Pl, hcs, _, hl, hm, hmm, hx, hel⟩
 ·simp [Value.cells] at hcs
  obtain ⟨rfl, rfl, rfl⟩ := hcs
  exact ⟨none, 0, [], rfl, Nat.le_refl _, ⟨rfl, by simp, fun h => by simp at h⟩, .inl rfl⟩
 ·simp [Value.cells] at hcs
  obtain ⟨rfl, rfl, rfl⟩ := hcs
  have hlm : zxz ≤ m := by rw [hmm]; split <;> omega
  obtain ⟨F, hF⟩ := choose_lt (α := α) (p := fun i y => ∃ cs', w.cells? 0 (a.add (i * d.sz)) d.sz = some cs' ∧ d.K w y cs' ∧ Good y (D i)) (n := m) (fun i hi => by
   obtain ⟨cs', h1, h2⟩ := hel i hi
   rw [hc] at h1
   obtain ⟨y, hy, hg⟩ := dec _ _ _ h2
   exact ⟨y, cs', h1, hy, hg⟩)
  refine ⟨some a, cap0, (List.range zxz).map F, by simp, by simpa using hl, ⟨rfl, ?_, fun _ => ⟨a, rfl, fun j p hj => ?_⟩⟩, .inr ⟨_, _, (Prod.mk.inj hx).1, by simp, fun x hx => ?_⟩⟩
  ·have : maxLen = 9223372036854775807 := rfl
   simp; omega
  ·have hj2 : j < zxz := by
    rcases Nat.lt_or_ge j zxz with h1 | h1
    ·exact h1
    ·rw [List.getElem?_eq_none (by simpa using h1)] at hj; cases hj
   rw [List.getElem?_map, List.getElem?_range hj2] at hj
   cases hj
   obtain ⟨cs', h1, h2, _⟩ := hF j (by omega)
   obtain ⟨_, h3, h4⟩ := World.cells?_some h1
   refine ⟨cs', h3, h2, fun i u hu => ?_⟩
   have hi : i < d.sz := by
    rw [← h3]
    rcases Nat.lt_or_ge i cs'.length with h1 | h1
    ·exact h1
    ·rw [List.getElem?_eq_none h1] at hu; cases hu
   have := h4 i hi
   rw [Go.Deep.add_add] at this
   rw [this, hu]
  ·obtain ⟨i, hi, rfl⟩ := List.mem_map.1 hx
   have hi2 := List.mem_range.1 hi
   obtain ⟨_, _, _, hg⟩ := hF i (by omega)
   exact ⟨D i, List.mem_map.2 ⟨i, hi, rfl⟩, hg⟩
end
theorem QO {H : Type} {P : Program} {e : TypeId} : ∀ {elems : List (DataW H)} {D : DataW H}, D ∈ elems → ∀ n ∈ D.weights P e, n ∈ DataW.weightsAll P e elems
 | d0 :: r, D, h, n, hn => by
  simp only [DataW.weightsAll, List.mem_append]
  rcases List.mem_cons.1 h with rfl | h
  ·exact .inl hn
  ·exact .inr (QO h n hn)
end Go.Proofs.YtggifbbiiickmaaGreatDoor
namespace Go.Proofs.YtggifbbiiickmaaGreatDoor
open Go.ChangeShapes Go.WideShapes Go.RowKit Go.Deep Go.Proofs.zk.zK Go.Proofs.YtggifbbiiickmaaGreatDoor.PX
section
variable {H : Type} {enc : TypeId × Value → H} {w : World} {sp : Nat → Bool} {held : Bool}
theorem Ja {α : Type} [Inhabited α] (d : Kd α) {P : Program} {t e : TypeId} {fuel : Nat} {cs : List Value} {x : DataW H × List MemPlace} (ht : P.underlying t = some (.slice e)) (hc : P.cellsOf e = d.sz)
  (dec : ∀ n cs x, DataW.trod enc P w 0 sp held n e cs = some x → ∃ y : α, d.K w y cs) (h : DataW.trod enc P w 0 sp held fuel t cs = some x) :
  ∃ A c l, cs = [.slice A l.length c] ∧ l.length ≤ c ∧ Kd.C d w A l.length l ∧ (l.length = 0 ∨ ∃ elems spare, x.1 = .slice elems spare ∧ elems.length = l.length) := by
 rcases open_slice ht h with ⟨hcs, _⟩ | ⟨a, len, cap, m, n, D, Pl, hcs, _, hl, hm, hmm, hx, hel⟩
 ·exact ⟨none, 0, [], hcs, Nat.le_refl _, ⟨rfl, by simp, fun h => by simp at h⟩, .inl rfl⟩
 ·have hlm : len ≤ m := by rw [hmm]; split <;> omega
  obtain ⟨F, hF⟩ := choose_lt (α := α) (p := fun i y => ∃ cs', w.cells? 0 (a.add (i * d.sz)) d.sz = some cs' ∧ d.K w y cs') (n := m) (fun i hi => by
   obtain ⟨cs', h1, h2⟩ := hel i hi
   rw [hc] at h1
   obtain ⟨y, hy⟩ := dec _ _ _ h2
   exact ⟨y, cs', h1, hy⟩)
  refine ⟨some a, cap, (List.range len).map F, by simp [hcs], by simpa using hl, ⟨rfl, ?_, fun _ => ⟨a, rfl, fun j p hj => ?_⟩⟩, .inr ⟨_, _, by rw [hx], by simp⟩⟩
  ·have : maxLen = 9223372036854775807 := rfl
   simp; omega
  ·have hj2 : j < len := by
    rcases Nat.lt_or_ge j len with h1 | h1
    ·exact h1
    ·rw [List.getElem?_eq_none (by simpa using h1)] at hj; cases hj
   rw [List.getElem?_map, List.getElem?_range hj2] at hj
   cases hj
   obtain ⟨cs', h1, h2⟩ := hF j (by omega)
   obtain ⟨_, h3, h4⟩ := World.cells?_some h1
   refine ⟨cs', h3, h2, fun i u hu => ?_⟩
   have hi : i < d.sz := by
    rw [← h3]
    rcases Nat.lt_or_ge i cs'.length with h1 | h1
    ·exact h1
    ·rw [List.getElem?_eq_none h1] at hu; cases hu
   have := h4 i hi
   rw [Go.Deep.add_add] at this
   rw [this, hu]
set_option maxRecDepth 100000 in
theorem zJq (n : Nat) (cs : List Value) (x : DataW H × List MemPlace) (h : DataW.trod enc Tryz.prog w 0 sp held n 105 cs = some x) : ∃ y : yB, xB.K w y cs := by
 obtain ⟨xs, k, hk, hxy, hcl, hxl, hf⟩ := DataW.trod_struct Tryz.underlying105 h
 have c0 : Tryz.prog.cellsOf 105 = 2 := by kernel_rfl
 have c3 : Tryz.prog.cellsOf 3 = 1 := by kernel_rfl
 have c9 : Tryz.prog.cellsOf 9 = 1 := by kernel_rfl
 rw [c0] at hcl
 match xs, hxl, cs, hcl with
 | [y0, y1], _, [v0, v1], _ =>
  have g0 := hf 0 _ rfl
  have g1 := hf 1 _ rfl
  simp [c3, c9] at g0 g1
  obtain ⟨n0, e0, _⟩ := DataW.trod_string Tryz.underlying9 g0
  obtain ⟨n1, e1, _⟩ := DataW.trod_int Tryz.underlying3 g1
  cases e0; cases e1
  exact ⟨⟨n0, n1⟩, zkp w ⟨n0, n1⟩⟩
set_option maxRecDepth 100000 in
theorem zJx (n : Nat) (cs : List Value) (x : DataW H × List MemPlace) (h : DataW.trod enc Tryz.prog w 0 sp held n 108 cs = some x) : ∃ y : qJ, uV.K w y cs := by
 obtain ⟨xs, k, hk, hxy, hcl, hxl, hf⟩ := DataW.trod_struct Tryz.underlying108 h
 have c0 : Tryz.prog.cellsOf 108 = 3 := by kernel_rfl
 have c9 : Tryz.prog.cellsOf 9 = 1 := by kernel_rfl
 rw [c0] at hcl
 match xs, hxl, cs, hcl with
 | [y0, y1, y2], _, [v0, v1, v2], _ =>
  have g0 := hf 0 _ rfl
  have g1 := hf 1 _ rfl
  have g2 := hf 2 _ rfl
  simp [c9] at g0 g1 g2
  obtain ⟨n0, e0, _⟩ := DataW.trod_string Tryz.underlying9 g0
  obtain ⟨n1, e1, _⟩ := DataW.trod_string Tryz.underlying9 g1
  obtain ⟨n2, e2, _⟩ := DataW.trod_string Tryz.underlying9 g2
  cases e0; cases e1; cases e2
  exact ⟨⟨n0, n1, n2⟩, zkr w ⟨n0, n1, n2⟩⟩
set_option maxRecDepth 100000 in
theorem zJj (n : Nat) (cs : List Value) (x : DataW H × List MemPlace) (h : DataW.trod enc Tryz.prog w 0 sp held n 111 cs = some x) : ∃ y : qB, ug.K w y cs := by
 obtain ⟨xs, k, hk, hxy, hcl, hxl, hf⟩ := DataW.trod_struct Tryz.underlying111 h
 have c0 : Tryz.prog.cellsOf 111 = 3 := by kernel_rfl
 have c3 : Tryz.prog.cellsOf 3 = 1 := by kernel_rfl
 have c9 : Tryz.prog.cellsOf 9 = 1 := by kernel_rfl
 rw [c0] at hcl
 match xs, hxl, cs, hcl with
 | [y0, y1, y2], _, [v0, v1, v2], _ =>
  have g0 := hf 0 _ rfl
  have g1 := hf 1 _ rfl
  have g2 := hf 2 _ rfl
  simp [c3, c9] at g0 g1 g2
  obtain ⟨n0, e0, _⟩ := DataW.trod_string Tryz.underlying9 g0
  obtain ⟨n1, e1, _⟩ := DataW.trod_string Tryz.underlying9 g1
  obtain ⟨n2, e2, _⟩ := DataW.trod_int Tryz.underlying3 g2
  cases e0; cases e1; cases e2
  exact ⟨⟨n0, n1, n2⟩, zks w ⟨n0, n1, n2⟩⟩
end
end Go.Proofs.YtggifbbiiickmaaGreatDoor
namespace Go.Proofs.YtggifbbiiickmaaGreatDoor
open Go.ChangeShapes Go.WideShapes Go.RowKit Go.Deep Go.Proofs.zk.zK Go.Proofs.YtggifbbiiickmaaGreatDoor.PX
set_option linter.unusedSimpArgs false
set_option linter.unusedVariables false
section
variable {H : Type} {enc : TypeId × Value → H} {w : World} {sp : Nat → Bool} {held : Bool}
def zxq (y : uR) (D : DataW H) : Prop := ∃ x0 x1 x2 x3 x4 x5, D = .agg [x0, x1, x2, x3, x4, x5] ∧
 (y.f3.length = 0 ∨ ∃ e s, x3 = .slice e s ∧ e.length = y.f3.length) ∧ (y.f4.length = 0 ∨ ∃ e s, x4 = .slice e s ∧ e.length = y.f4.length) ∧ (y.f5.length = 0 ∨ ∃ e s, x5 = .slice e s ∧ e.length = y.f5.length)
set_option maxRecDepth 100000 in
theorem zJv (n : Nat) (cs : List Value) (x : DataW H × List MemPlace) (h : DataW.trod enc Tryz.prog w 0 sp held n 60 cs = some x) : ∃ y : uR, jY.K w y cs ∧ zxq y x.1 := by
 obtain ⟨xs, k, hk, hxy, hcl, hxl, hf⟩ := DataW.trod_struct Tryz.underlying60 h
 have c0 : Tryz.prog.cellsOf 60 = 6 := by kernel_rfl
 have c3 : Tryz.prog.cellsOf 3 = 1 := by kernel_rfl
 have c9 : Tryz.prog.cellsOf 9 = 1 := by kernel_rfl
 have c4 : Tryz.prog.cellsOf 4 = 1 := by kernel_rfl
 have cG : Tryz.prog.cellsOf 56 = 1 := by kernel_rfl
 have cL : Tryz.prog.cellsOf 57 = 1 := by kernel_rfl
 have cK : Tryz.prog.cellsOf 58 = 1 := by kernel_rfl
 rw [c0] at hcl
 match xs, hxl, cs, hcl with
 | [y0, y1, y2, y3, y4, y5], _, [v0, v1, v2, v3, v4, v5], _ =>
  have g0 := hf 0 _ rfl
  have g1 := hf 1 _ rfl
  have g2 := hf 2 _ rfl
  have g3 := hf 3 _ rfl
  have g4 := hf 4 _ rfl
  have g5 := hf 5 _ rfl
  simp [c3, c9, c4, cG, cL, cK] at g0 g1 g2 g3 g4 g5
  obtain ⟨n0, e0, _⟩ := DataW.trod_string Tryz.underlying9 g0
  obtain ⟨n1, e1, _⟩ := DataW.trod_bool Tryz.underlying4 g1
  obtain ⟨n2, e2, _⟩ := DataW.trod_int Tryz.underlying3 g2
  obtain ⟨A3, c3', l3, e3, q3, r3, s3⟩ := Ja xB Tryz.underlying56 (by kernel_rfl) zJq g3
  obtain ⟨A4, c4', l4, e4, q4, r4, s4⟩ := Ja uV Tryz.underlying57 (by kernel_rfl) zJx g4
  obtain ⟨A5, c5', l5, e5, q5, r5, s5⟩ := Ja ug Tryz.underlying58 (by kernel_rfl) zJj g5
  cases e0; cases e1; cases e2; cases e3; cases e4; cases e5
  refine ⟨⟨n0, n1, n2, l3, l4, l5⟩, zyW w ⟨n0, n1, n2, l3, l4, l5⟩ q3 r3 q4 r4 q5 r5, y0.1, y1.1, y2.1, y3.1, y4.1, y5.1, (Prod.mk.inj hxy).1, s3, s4, s5⟩
theorem zvt {x0 x1 x2 x3 x4 x5 x : DataW H} (hw : ∀ n ∈ DataW.weights Tryz.prog 60 (.agg [x0, x1, x2, x3, x4, x5] : DataW H), n ≤ reachBytes) {i m : Nat} {t e : TypeId} (hf : [9, 4, 3, 56, 57, 58][i]? = some t) (hD : [x0, x1, x2, x3, x4, x5][i]? = some x) (hu : Tryz.prog.underlying t = some (.slice e)) (hb : 1 ≤ Tryz.prog.bytesOf e) (hm : m = 0 ∨ ∃ el s, x = .slice el s ∧ el.length = m) : m ≤ 140737488355328 := by
 rcases hm with rfl | ⟨el, s, rfl, rfl⟩
 ·exact Nat.zero_le _
 ·have e0 : DataW.weights Tryz.prog 60 (.agg [x0, x1, x2, x3, x4, x5] : DataW H) = DataW.weightsEach Tryz.prog [9, 4, 3, 56, 57, 58] [x0, x1, x2, x3, x4, x5] := by
   simp only [DataW.weights, Tryz.underlying60]
   rfl
  have h1 := hw ((el.length + s.length) * Tryz.prog.bytesOf e) (by
   rw [e0]
   exact DataW.weights_mem_each hf hD _ (by simp [DataW.weights, hu]))
  have h2 : el.length + s.length ≤ (el.length + s.length) * Tryz.prog.bytesOf e := Nat.le_mul_of_pos_right _ hb
  have hB := reachBytes_lt
  omega
theorem zvu {y : uR} {D : DataW H} (h : zxq y D) (hw : ∀ n ∈ D.weights Tryz.prog 60, n ≤ reachBytes) : okM y := by
 obtain ⟨x0, x1, x2, x3, x4, x5, rfl, h3, h4, h5⟩ := h
 exact ⟨zvt hw (i := 3) rfl rfl Tryz.underlying56 (of_decide_eq_true (by kernel_rfl)) h3, zvt hw (i := 4) rfl rfl Tryz.underlying57 (of_decide_eq_true (by kernel_rfl)) h4, zvt hw (i := 5) rfl rfl Tryz.underlying58 (of_decide_eq_true (by kernel_rfl)) h5⟩
theorem zjq {α : Type} [Inhabited α] (d : Kd α) {P : Program} {t e : TypeId} (Good : α → DataW H → Prop) {fuel : Nat} {cs : List Value} {x : DataW H × List MemPlace} (ht : P.underlying t = some (.slice e)) (hc : P.cellsOf e = d.sz)
  (dec : ∀ n cs x, DataW.trod enc P w 0 sp held n e cs = some x → ∃ y : α, d.K w y cs ∧ Good y x.1) (h : DataW.trod enc P w 0 sp held fuel t cs = some x) :
  ∃ A c l, cs = [.slice A l.length c] ∧ l.length ≤ c ∧ Kd.C d w A l.length l ∧ (l = [] ∨ ∃ elems spare, x.1 = .slice elems spare ∧ elems.length = l.length ∧ ∀ y ∈ l, ∃ D ∈ elems, Good y D) := by
 rcases open_slice ht h with ⟨hcs, _⟩ | ⟨a, len, cap, m, n, D, Pl, hcs, _, hl, hm, hmm, hx, hel⟩
 ·exact ⟨none, 0, [], hcs, Nat.le_refl _, ⟨rfl, by simp, fun h => by simp at h⟩, .inl rfl⟩
 ·have hlm : len ≤ m := by rw [hmm]; split <;> omega
  obtain ⟨F, hF⟩ := choose_lt (α := α) (p := fun i y => ∃ cs', w.cells? 0 (a.add (i * d.sz)) d.sz = some cs' ∧ d.K w y cs' ∧ Good y (D i)) (n := m) (fun i hi => by
   obtain ⟨cs', h1, h2⟩ := hel i hi
   rw [hc] at h1
   obtain ⟨y, hy, hg⟩ := dec _ _ _ h2
   exact ⟨y, cs', h1, hy, hg⟩)
  refine ⟨some a, cap, (List.range len).map F, by simp [hcs], by simpa using hl, ⟨rfl, ?_, fun _ => ⟨a, rfl, fun j p hj => ?_⟩⟩, .inr ⟨_, _, by rw [hx], by simp, fun y hy => ?_⟩⟩
  ·have : maxLen = 9223372036854775807 := rfl
   simp; omega
  ·have hj2 : j < len := by
    rcases Nat.lt_or_ge j len with h1 | h1
    ·exact h1
    ·rw [List.getElem?_eq_none (by simpa using h1)] at hj; cases hj
   rw [List.getElem?_map, List.getElem?_range hj2] at hj
   cases hj
   obtain ⟨cs', h1, h2, _⟩ := hF j (by omega)
   obtain ⟨_, h3, h4⟩ := World.cells?_some h1
   refine ⟨cs', h3, h2, fun i u hu => ?_⟩
   have hi : i < d.sz := by
    rw [← h3]
    rcases Nat.lt_or_ge i cs'.length with h1 | h1
    ·exact h1
    ·rw [List.getElem?_eq_none h1] at hu; cases hu
   have := h4 i hi
   rw [Go.Deep.add_add] at this
   rw [this, hu]
  ·obtain ⟨i, hi, rfl⟩ := List.mem_map.1 hy
   have hi2 := List.mem_range.1 hi
   obtain ⟨_, _, _, hg⟩ := hF i (by omega)
   exact ⟨D i, List.mem_map.2 ⟨i, hi, rfl⟩, hg⟩
instance : Inhabited uR := ⟨z60⟩
set_option maxRecDepth 100000 in
theorem zjx {r : Reach} {b0 : Nat} {v : Value} {d0 : DataW H} {ps : List MemPlace} {ts : List TypeId} {ds : List (DataW H)} {j : Nat} (hwt : (DataW.weightsEach Tryz.prog ts ds).all (· ≤ reachBytes) = true) (ht : ts[j]? = some 24) (hd : ds[j]? = some d0)
  (hval : Value.okWide Tryz.prog w r b0 24 v) (h : DataW.Trod enc Tryz.prog w 0 sp held 24 v d0 ps) :
  ∃ A c l, v = .agg #[.slice A l.length c] ∧ l.length ≤ c ∧ Kd.C jY w A l.length l ∧ (∀ x ∈ l, okM x) ∧ l.length ≤ 2000000000000 := by
 obtain ⟨cs, rfl, hsz⟩ := okWide_struct Tryz.underlying24 hval
 obtain ⟨fuel, hf0⟩ := h
 obtain ⟨xs, k, hk, hxy, hcl, hxl, hf⟩ := DataW.trod_struct Tryz.underlying24 hf0
 have c50 : Tryz.prog.cellsOf 24 = 1 := by kernel_rfl
 have cG : Tryz.prog.cellsOf 22 = 1 := by kernel_rfl
 have hcs : (Value.agg cs).cells.toList = cs.toList := by simp [Value.cells]
 rw [hcs] at hf hcl
 rw [c50] at hcl
 have hcc : cs = ⟨cs.toList⟩ := rfl
 generalize cs.toList = L at hf hcl hcc
 subst hcc
 match xs, hxl, L, hcl with
 | [y0], _, [v0], _ =>
  have f0 := hf 0 _ rfl
  simp [cG] at f0
  obtain ⟨A, c, l, e0, q0, r0, g0⟩ := zjq jY zxq Tryz.underlying22 (by kernel_rfl) zJv f0
  cases e0
  have hd0 : d0 = .agg [y0.1] := (Prod.mk.inj hxy).1
  subst hd0
  have e0 : DataW.weights Tryz.prog 24 (.agg [y0.1] : DataW H) = DataW.weightsEach Tryz.prog [22] [y0.1] := by
   simp only [DataW.weights, Tryz.underlying24]
   rfl
  have hall : ∀ n ∈ DataW.weights Tryz.prog 22 y0.1, n ≤ reachBytes := fun n hn => by
   have h1 : n ∈ DataW.weights Tryz.prog 24 (.agg [y0.1] : DataW H) := by
    rw [e0]
    exact DataW.weights_mem_each (j := 0) rfl rfl n hn
   have := List.all_eq_true.1 hwt _ (DataW.weights_mem_each ht hd n h1)
   simpa using this
  rcases g0 with rfl | ⟨elems, spare, hx, hlen, hg⟩
  ·exact ⟨A, c, [], rfl, q0, r0, fun x hx => absurd hx (List.not_mem_nil), Nat.zero_le _⟩
  ·rw [hx] at hall
   refine ⟨A, c, l, rfl, q0, r0, fun y hy => ?_, ?_⟩
   ·obtain ⟨D, hD, hGd⟩ := hg y hy
    refine zvu hGd (fun n hn => hall n ?_)
    simp only [DataW.weights, Tryz.underlying22, List.mem_cons, List.mem_append]
    exact .inr (.inl (QO hD n hn))
   ·have h1 := hall ((elems.length + spare.length) * Tryz.prog.bytesOf 60) (by simp [DataW.weights, Tryz.underlying22])
    have hB := reachBytes_lt
    have hby : Tryz.prog.bytesOf 60 = 104 := by kernel_rfl
    rw [hby] at h1
    omega
set_option maxRecDepth 100000 in
theorem KZ {r : Reach} {b0 : Nat} {v : Value} {d0 : DataW H} {ps : List MemPlace} {ts : List TypeId} {ds : List (DataW H)} {j : Nat} (hwt : (DataW.weightsEach Tryz.prog ts ds).all (· ≤ reachBytes) = true) (ht : ts[j]? = some 27) (hd : ds[j]? = some d0)
  (hval : Value.okWide Tryz.prog w r b0 27 v) (h : DataW.Trod enc Tryz.prog w 0 sp held 27 v d0 ps) :
  ∃ A c l, v = .slice A l.length c ∧ l.length ≤ c ∧ Kd.C Kd.string w A l.length l ∧ l.length ≤ 1000000000000000 := by
 obtain ⟨A, c, l, e0, q0, r0, g0⟩ := zjz Kd.string (fun _ _ => True) Tryz.underlying27 (by kernel_rfl) (fun n cs x hx => by
  obtain ⟨s, e, _⟩ := DataW.trod_string Tryz.underlying9 hx
  exact ⟨s, e, trivial⟩) hval h
 refine ⟨A, c, l, e0, q0, r0, ?_⟩
 rcases g0 with rfl | ⟨elems, spare, rfl, hlen, _⟩
 ·exact Nat.zero_le _
 ·have h1 := List.all_eq_true.1 hwt _ (DataW.weights_mem_each ht hd ((elems.length + spare.length) * Tryz.prog.bytesOf 9) (by simp [DataW.weights, Tryz.underlying27]))
  have h2 : (elems.length + spare.length) * Tryz.prog.bytesOf 9 ≤ reachBytes := by simpa using h1
  have hB := reachBytes_lt
  have hby : Tryz.prog.bytesOf 9 = 16 := by kernel_rfl
  rw [hby] at h2
  omega
end
end Go.Proofs.YtggifbbiiickmaaGreatDoor
namespace Go.Proofs.YtggifbbiiickmaaGreatDoor
open Go.RowKit Go.ChangeShapes Go.WideShapes Go.Proofs.zk.zK
theorem VY {P : Program} {w : World} {l : List (String × DataW Unit)} {n nm : String} {d : DataW Unit} {g : Nat} {t : TypeId} {ms : Array (String × TypeId)} (h : laidMet P l w) (hm : (n, .iface nm d) ∈ l)
  (hg : P.globalNamed n = some g) (ht : (P.globals[g]?).map (·.type) = some t) (hu : P.underlying t = some (.interface ms)) : ∃ tp p, w.var? P n = some #[.iface tp p] := by
 obtain ⟨g', t', cs, fuel, p, e1, e2, e3, e4⟩ := Lib.laidMet.reads h hm
 obtain rfl : g' = g := Option.some.inj (e1.symm.trans hg)
 obtain rfl : t' = t := Option.some.inj (e2.symm.trans ht)
 cases fuel with
 | zero => simp [DataW.trod] at e4
 | succ k =>
  unfold DataW.trod at e4
  rw [hu] at e4
  obtain ⟨cl⟩ := cs
  rw [e3]
  match cl, e4 with
  | [], e4 => simp at e4
  | [v], e4 =>
   cases v <;> simp at e4
   exact ⟨_, _, rfl⟩
  | _ :: _ :: _, e4 => simp at e4
theorem zQZ {W : World} {l : List (String × DataW Unit)} {ds : DataW Unit} {dr : DataW Unit} {n1 n2 : String} (h : laidMet Tryz.prog l W) (hsh : W.ShapedOpen Tryz.prog) (h1 : ("internal/strconv.uint64pow10", Lib.tabData .u64 Lib.pow10Tab) ∈ l) (h2 : ("strconv.ErrSyntax", .iface n1 ds) ∈ l) (h3 : ("strconv.ErrRange", .iface n2 dr) ∈ l) (h4 : ("strings.asciiSpace", Lib.tabData .u8 Lib.asciiSpaceTab) ∈ l) : GW W := by
 have htab : Lib.TabIs Tryz.prog W "internal/strconv.uint64pow10" .u64 Lib.pow10Tab := VJ (g := 7) (t := 270) (e := 214) (n := 20) (by kernel_rfl) (by kernel_rfl) Tryz.underlying270 Tryz.underlying214 (by kernel_rfl) (by kernel_rfl) h h1
 have zJk : Lib.TabIs Tryz.prog W "strings.asciiSpace" .u8 Lib.asciiSpaceTab := VJ (g := 0) (t := 169) (e := 5) (n := 256) (by kernel_rfl) (by kernel_rfl) Tryz.underlying169 Tryz.underlying5 (by kernel_rfl) (by kernel_rfl) h h4
 refine ⟨htab, VY (g := 3) h h2 (by kernel_rfl) (t := 133) (by kernel_rfl) Tryz.underlying133, VY (g := 4) h h3 (by kernel_rfl) (t := 133) (by kernel_rfl) Tryz.underlying133, zJk,
  cell_of_shapedOpen_int (t := 3) (zero := #[.int .i64 0]) hsh (of_decide_eq_true (by kernel_rfl)) (by kernel_rfl) rfl (by kernel_rfl) (by kernel_rfl) Tryz.underlying3, ?_⟩
 obtain ⟨o, _, h4, _⟩ := hsh.2 11 (of_decide_eq_true (by kernel_rfl)) (of_decide_eq_true (by kernel_rfl))
 rcases Nat.lt_or_ge 11 W.heap.size with h5 | h5
 ·omega
 ·rw [Array.getElem?_eq_none h5] at h4; cases h4
end Go.Proofs.YtggifbbiiickmaaGreatDoor
