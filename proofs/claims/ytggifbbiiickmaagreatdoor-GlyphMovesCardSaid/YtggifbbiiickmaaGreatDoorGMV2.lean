/-
  Texts that lean on one another, laid in one file. No condition.
-/
import Derived.Test.YtggifbbiiickmaaGreatDoorGMV1
import Derived.StillTailTactics
import Derived.StillTactics
import Derived.Deep.RegionHeld3
import Derived.Shelf.SlicesQ.IndexFunc
import Derived.RangeFuncRecord
import Derived.Laws.EntriesVeiled
import Derived.Sort.Walk0
import Derived.WalkKit
import Derived.WalkSpells
import Derived.WalkLawsBesides
import Derived.Deep.QuietTactic
import Derived.BigQuiet
import Derived.RangeFuncBox
import Derived.Deep.DeepCutAuto
import Derived.RangeFuncNested
import Derived.RangeFuncBound
import Derived.RangeFuncCalls
import Derived.RangeFuncLeaves
import Derived.OwnWalkIn
import Derived.TacticsInMore
import Derived.LoopNIn
import Derived.LoopIn
import Derived.WideLaws
import Derived.Maps.Own
import Derived.Maps.OwnOps
import Derived.Maps.Views
import Derived.Maps.StringElems
import Derived.StringKeys
namespace Go.Proofs.YtggifbbiiickmaaGreatDoor
open Go.RowKit Go.Shelf Go.Proofs.zk.zm Go.Proofs.zk.yc Go.Proofs.YtggifbbiiickmaaGreatDoor.PX
def pF (c:Nat → Nat → Int) (n:Nat):Bool:=(List.range (n - 1)).all fun i=>decide (c i (i + 1) < 0)
theorem QB {c:Nat → Nat → Int} {n:Nat} (h:∀ i,i + 1 < n → c i (i + 1) < 0):pF c n = true:=by
 unfold pF
 rw [List.all_eq_true]
 intro i hi
 have:=List.mem_range.1 hi
 simpa using h i (by omega)
theorem QZ {c:Nat → Nat → Int} {n i:Nat} (hi:i + 1 < n) (h:¬ c i (i + 1) < 0):pF c n = false:=by
 unfold pF
 rw [List.all_eq_false]
 exact ⟨i,List.mem_range.2 (by omega),by simpa using h⟩
def YV (x y:yP):Int:=xK x.f0 y.f0
def P7 (a b:Int):Int:=if a = 0 then b else a
def cmpL (x y:qx):Int:=P7 (xK x.f0 y.f0) (xK x.f1 y.f1)
def Y5 (x y:qC):Int:=P7 (xK x.f0 y.f0) (xK x.f1 y.f1)
set_option maxRecDepth 100000 in
theorem zqO (x y:yP) (w:World) :
  Calls Tryz.prog 90 #[.agg #[.string x.f0,.int .i64 x.f1],.agg #[.string y.f0,.int .i64 y.f1]] w fun e w'=>e = .returned (.int .i64 (YV x y)) ∧ Below w.heap.size w w':=by
 unfold YV
 have hb0:Below w.heap.size w ((w.alloc (.cells #[.string x.f0,.int .i64 x.f1] 105)).alloc (.cells #[.string y.f0,.int .i64 y.f1] 105)):=((Below.refl _ w).alloc (Nat.le_refl _) _).alloc (by simp) _
 have hc:=Vd x.f0 y.f0 ((w.alloc (.cells #[.string x.f0,.int .i64 x.f1] 105)).alloc (.cells #[.string y.f0,.int .i64 y.f1] 105))
 generalize xK x.f0 y.f0 = r at hc ⊢
 go_enter Tryz.func90,Tryz.ntmps90
 go_wp2_with (go_at_call 91;refine hc.mono ?_;rintro e w2 ⟨rfl,hb2⟩)
 go_ret
 exact ⟨rfl,hb0.trans (hb2.mono (by simp;omega))⟩
def zy0 (l:List yP) (w:World) (x:Value) (wr:World):Prop :=
 ∃ k:Nat,x = .int .i64 k ∧ 1 ≤ k ∧ k ≤ l.length + 1 ∧ (∀ i,i + 1 < k → i + 1 < l.length → YV (qX l (i:Int)) (qX l ((i + 1:Nat):Int)) < 0) ∧ Below w.heap.size w wr
set_option maxRecDepth 100000 in
set_option maxHeartbeats 1000000 in
theorem zqP (A0:Option Addr) (c0:Nat) (l:List yP) (w:World) (hr:Kd.C xG w A0 l.length l) (hl:l.length ≤ 1000000000) :
  Calls Tryz.prog 89 #[.slice A0 l.length c0,.func (.func 90) #[] #[]] w fun e w'=>e = .returned (.bool (pF (fun i j=>YV (qX l (i:Int)) (qX l (j:Int))) l.length)) ∧ Below w.heap.size w w':=by
 generalize hV:pF (fun i j=>YV (qX l (i:Int)) (qX l (j:Int))) l.length = V
 have HV:=Lib.hid hV
 clear hV
 go_enter Tryz.func89,Tryz.ntmps89
 go_wp2
 go_loopw [5] (fun x wr=>zy0 l w x wr) (fun x _=>l.length + 1 - (intOf x).toNat)
 case atStart=>exact ⟨1,rfl,by omega,by omega,(fun i h=>by omega),Below.refl _ _⟩
 case round =>
  obtain ⟨k,rfl,hk1,hk,hA,hb⟩:=hrel
  have HA:=Lib.hid hA
  clear hA
  by_cases hlt:k < l.length
  ·obtain ⟨m,rfl⟩:∃ m,k = m + 1:=⟨k - 1,by omega⟩
   have hC:=Kd.zH hr hb
   obtain ⟨ad,e,HH0⟩:=XM hC (m:Int) (by omega) (by omega)
   obtain ⟨ad2,e2,HH1⟩:=XM hC ((m + 1:Nat):Int) (by omega) (by omega)
   cases e
   cases e2
   obtain ⟨h0,h1⟩:=HH0
   obtain ⟨h2,h3⟩:=HH1
   rw [Int.toNat_natCast] at h0 h1 h2 h3
   have hstep:∀ i,i + 1 = m + 1 → YV (qX l (i:Int)) (qX l ((i + 1:Nat):Int)) = YV (qX l (m:Int)) (qX l ((m + 1:Nat):Int)):=fun i hi=>by obtain rfl:i = m:=(by omega);rfl
   have hbad:¬ YV (qX l (m:Int)) (qX l ((m + 1:Nat):Int)) < 0 → V = false:=fun h=>by rw [← HV.out];exact QZ (i:=m) (by omega) h
   have hcm:=fun W=>zqO (qX l (m:Int)) (qX l ((m + 1:Nat):Int)) W
   generalize qX l (m:Int) = x at h0 h1 hstep hcm hbad
   generalize qX l ((m + 1:Nat):Int) = y at h2 h3 hstep hcm hbad
   generalize YV x y = r at hcm hstep hbad
   have HS:=Lib.hid hstep
   have HB:=Lib.hid hbad
   have e1:IntKind.i64.wrap (((m:Int) + 1) - 1) = (m:Int):=by rw [Int.add_sub_cancel];exact IntWalk.i64_in _ (by omega)
   have q1:(m:Int) < (l.length:Int):=by omega
   have q2:(m:Int) + 1 < (l.length:Int):=by omega
   have q3:((m:Int) + 1).toNat = m + 1:=by omega
   have q4:(0:Int) ≤ (m:Int) + 1:=by omega
   clear hC hr hstep hbad
   have e0:IntKind.i64.wrap (m:Int) = (m:Int):=IntWalk.i64_in _ (by omega)
   have q5:(0:Int) ≤ (m:Int):=by omega
   by_cases hr0:r < 0
   ·have d1:decide (0 ≤ r) = false:=by simp;omega
    have HR:=Lib.hid hr0
    clear hr0
    go_wp2_with fail
    go_region_held3 (fun W=>W.cell? (ad.add (m * 2)) = some (.string x.f0) ∧ W.cell? ⟨(ad.add (m * 2)).block,(ad.add (m * 2)).off + 1,none⟩ = some (.int .i64 x.f1) ∧ W.cell? (ad.add ((m + 1) * 2)) = some (.string y.f0) ∧ W.cell? ⟨(ad.add ((m + 1) * 2)).block,(ad.add ((m + 1) * 2)).off + 1,none⟩ = some (.int .i64 y.f1)) (first | go_keep | exact ⟨(hb2.cell (World.block_lt_of_cell? wr _ h0)).trans h0,(hb2.cell (World.block_lt_of_cell? wr _ h1)).trans h1,(hb2.cell (World.block_lt_of_cell? wr _ h2)).trans h2,(hb2.cell (World.block_lt_of_cell? wr _ h3)).trans h3⟩) ((go_at_call 90;refine (hcm _).mono ?_;rintro e w2 ⟨rfl,hb2⟩))
    clear e0 e1
    have hb3:Below w.heap.size w w2:=(hb.drew).trans (hb2.mono hb.size)
    clear hb2
    go_wp2
    refine ⟨⟨m + 1 + 1,by go_num,by omega,by omega,(fun i h1 h2=>?_),hb3⟩,by simp [intOf];omega⟩
    by_cases e:i + 1 = m + 1
    ·rw [HS.out i e];exact HR.out
    ·exact HA.out i (by omega) h2
   ·have d1:decide (0 ≤ r) = true:=by simp;omega
    have hv:V = false:=HB.out hr0
    have QC:=Lib.hid hv
    clear hr0 hv
    go_wp2_with fail
    go_region_held3 (fun W=>W.cell? (ad.add (m * 2)) = some (.string x.f0) ∧ W.cell? ⟨(ad.add (m * 2)).block,(ad.add (m * 2)).off + 1,none⟩ = some (.int .i64 x.f1) ∧ W.cell? (ad.add ((m + 1) * 2)) = some (.string y.f0) ∧ W.cell? ⟨(ad.add ((m + 1) * 2)).block,(ad.add ((m + 1) * 2)).off + 1,none⟩ = some (.int .i64 y.f1)) (first | go_keep | exact ⟨(hb2.cell (World.block_lt_of_cell? wr _ h0)).trans h0,(hb2.cell (World.block_lt_of_cell? wr _ h1)).trans h1,(hb2.cell (World.block_lt_of_cell? wr _ h2)).trans h2,(hb2.cell (World.block_lt_of_cell? wr _ h3)).trans h3⟩) ((go_at_call 90;refine (hcm _).mono ?_;rintro e w2 ⟨rfl,hb2⟩))
    clear e0 e1
    have hb3:Below w.heap.size w w2:=(hb.drew).trans (hb2.mono hb.size)
    clear hb2
    go_wp2
    go_ret
    exact ⟨by rw [QC.out];rfl,hb3⟩
  ·have hv:V = true:=by rw [← HV.out];exact QB (fun i hi=>HA.out i (by omega) hi)
   have QC:=Lib.hid hv
   have q1:decide ((k:Int) < (l.length:Int)) = false:=decide_eq_false (by omega)
   clear hv hr
   go_wp2
   go_ret
   exact ⟨by rw [QC.out];rfl,hb⟩
theorem oC {w w':World} (h:qg w w'):Below w.heap.size w w':=by
 obtain ⟨n,rfl⟩:=h
 exact ⟨rfl,rfl,rfl,Nat.le_refl _,fun _ _=>rfl⟩
theorem zkV (a b:Int):Ev (fun k=>vE.f k [a,b]) (P7 a b):=by
 unfold vE.f P7
 have e1:wrap64 (0 + 1) = 1:=by rw [ji (by omega) (by omega)];rfl
 have e2:wrap64 (1 + 1) = 2:=by rw [ji (by omega) (by omega)];rfl
 have hl:(([a,b]:List Int).length:Int) = 2:=rfl
 refine Ev.step (fun k=>by rw [vE.l0]) ?_
 rw [hl]
 refine xH (by omega) (xH (by omega) (xH (by omega) ?_))
 rw [show rd [a,b] 0 = a from rfl,e1]
 by_cases h1:a = 0
 ·refine xH h1 ?_
  rw [if_pos h1]
  refine Ev.step (fun k=>by rw [vE.l0]) ?_
  rw [hl]
  refine xH (by omega) (xH (by omega) (xH (by omega) ?_))
  rw [show rd [a,b] 1 = b from rfl,e2]
  by_cases h2:b = 0
  ·refine xH h2 ?_
   rw [h2]
   refine Ev.step (fun k=>by rw [vE.l0]) ?_
   exact Z7 (by omega) (Ev.now _)
  ·exact Z7 h2 (Ev.now _)
 ·refine Z7 h1 ?_
  rw [if_neg h1];exact Ev.now _
theorem zqR (B:Nat) (a b:Int) (w:World) (h0:w.cell? ⟨B,0,none⟩ = some (.int .i64 a)) (h1:w.cell? ⟨B,1,none⟩ = some (.int .i64 b)):Kd.C (Kd.int .i64) w (some ⟨B,0,none⟩) 2 [a,b]:=by
 have hs:(Kd.int .i64).sz = 1:=rfl
 refine ⟨rfl,by decide,fun _=>⟨_,rfl,fun j p hj=>?_⟩⟩
 rcases j with _ | _ | j
 ·cases hj
  exact ⟨[.int .i64 a],rfl,rfl,fun i u hi=>by rcases i with _ | i;cases hi;simpa [Addr.add_lit] using h0;simp at hi⟩
 ·cases hj
  exact ⟨[.int .i64 b],rfl,rfl,fun i u hi=>by rcases i with _ | i;cases hi;simpa [Addr.add_lit,hs] using h1;simp at hi⟩
 ·simp at hj
theorem zz4 (a b:Int) (B:Nat) (w:World) (h0:w.cell? ⟨B,0,none⟩ = some (.int .i64 a)) (h1:w.cell? ⟨B,1,none⟩ = some (.int .i64 b)) :
  Calls Tryz.prog 97 #[.slice (some ⟨B,0,none⟩) 2 2] w fun e w'=>e = .returned (.int .i64 (P7 a b)) ∧ Below w.heap.size w w':=by
 obtain ⟨k,hk⟩:=(zkV a b).rounds
 exact (vE.calls k (some ⟨B,0,none⟩) 2 [a,b] _ w (zqR B a b w h0 h1) (Nat.le_refl _) hk).mono fun e w' h=>⟨h.1,oC h.2⟩
theorem zZH (W:World) (a b:Value) (t:TypeId):(W.alloc (.cells #[a,b] t)).cell? ⟨W.heap.size,0,none⟩ = some a:=by simp
theorem zkK (W:World) (a b:Value) (t:TypeId):(W.alloc (.cells #[a,b] t)).cell? ⟨W.heap.size,1,none⟩ = some b:=by simp
theorem zkY (W:World) (n:Nat) (a b:Value) (t:TypeId):((W.drewN n).alloc (.cells #[a,b] t)).cell? ⟨W.heap.size,0,none⟩ = some a:=zZH (W.drewN n) a b t
theorem zkW (W:World) (n:Nat) (a b:Value) (t:TypeId):((W.drewN n).alloc (.cells #[a,b] t)).cell? ⟨W.heap.size,1,none⟩ = some b:=zkK (W.drewN n) a b t
theorem ZT {W w2:World} {n:Nat} {o:Obj} {B i:Nat} {v:Value} (h:Below ((W.drewN n).alloc o).heap.size ((W.drewN n).alloc o) w2) (hc:W.cell? ⟨B,i,none⟩ = some v):w2.cell? ⟨B,i,none⟩ = some v:=by
 have hb:Below W.heap.size W ((W.drewN n).alloc o):=Below.trans (⟨rfl,rfl,rfl,Nat.le_refl _,fun _ _=>rfl⟩:Below W.heap.size W (W.drewN n)) ((Below.refl _ (W.drewN n)).alloc (Nat.le_refl _) o)
 have hl:=World.block_lt_of_cell? W _ hc
 exact (h.cell (p:=⟨B,i,none⟩) (Nat.lt_of_lt_of_le hl hb.size)).trans ((hb.cell (p:=⟨B,i,none⟩) hl).trans hc)
theorem Wn {W w2:World} {n:Nat} {o:Obj} (h:Below ((W.drewN n).alloc o).heap.size ((W.drewN n).alloc o) w2):Below W.heap.size W w2:=by
 have hb:Below W.heap.size W ((W.drewN n).alloc o):=Below.trans (⟨rfl,rfl,rfl,Nat.le_refl _,fun _ _=>rfl⟩:Below W.heap.size W (W.drewN n)) ((Below.refl _ (W.drewN n)).alloc (Nat.le_refl _) o)
 exact hb.trans (h.mono hb.size)
set_option maxRecDepth 100000 in
set_option maxHeartbeats 1000000 in
theorem zqS (x y:qx) (w:World) :
  Calls Tryz.prog 96 #[.agg #[.string x.f0,.string x.f1,.string x.f2],.agg #[.string y.f0,.string y.f1,.string y.f2]] w fun e w'=>e = .returned (.int .i64 (cmpL x y)) ∧ Below w.heap.size w w':=by
 unfold cmpL
 have hb0:Below w.heap.size w ((w.alloc (.cells #[.string x.f0,.string x.f1,.string x.f2] 108)).alloc (.cells #[.string y.f0,.string y.f1,.string y.f2] 108)):=((Below.refl _ w).alloc (Nat.le_refl _) _).alloc (by simp) _
 have hz:((w.alloc (.cells #[.string x.f0,.string x.f1,.string x.f2] 108)).alloc (.cells #[.string y.f0,.string y.f1,.string y.f2] 108)).heap.size = w.heap.size + 2:=by simp
 have c0:((w.alloc (.cells #[.string x.f0,.string x.f1,.string x.f2] 108)).alloc (.cells #[.string y.f0,.string y.f1,.string y.f2] 108)).cell? ⟨w.heap.size,0,none⟩ = some (.string x.f0):=by simp
 have c1:((w.alloc (.cells #[.string x.f0,.string x.f1,.string x.f2] 108)).alloc (.cells #[.string y.f0,.string y.f1,.string y.f2] 108)).cell? ⟨w.heap.size,1,none⟩ = some (.string x.f1):=by simp
 have c2:((w.alloc (.cells #[.string x.f0,.string x.f1,.string x.f2] 108)).alloc (.cells #[.string y.f0,.string y.f1,.string y.f2] 108)).cell? ⟨w.heap.size + 1,0,none⟩ = some (.string y.f0):=by simp
 have c3:((w.alloc (.cells #[.string x.f0,.string x.f1,.string x.f2] 108)).alloc (.cells #[.string y.f0,.string y.f1,.string y.f2] 108)).cell? ⟨w.heap.size + 1,1,none⟩ = some (.string y.f1):=by simp
 have hc1:=fun W=>xA.calls x.f0 y.f0 _ W (ZR x.f0 y.f0)
 have hc2:=fun W=>xA.calls x.f1 y.f1 _ W (ZR x.f1 y.f1)
 generalize xK x.f0 y.f0 = r1 at hc1 ⊢
 generalize xK x.f1 y.f1 = r2 at hc2 ⊢
 have hor:=fun B W h0 h1=>zz4 r1 r2 B W h0 h1
 generalize P7 r1 r2 = R at hor ⊢
 go_enter Tryz.func96,Tryz.ntmps96
 go_wp2_with fail
 generalize ((w.alloc (.cells #[.string x.f0,.string x.f1,.string x.f2] 108)).alloc (.cells #[.string y.f0,.string y.f1,.string y.f2] 108)) = W0 at hb0 hz c0 c1 c2 c3 ⊢
 have hz1:=Nat.le_of_eq hz
 have hz2:=Nat.le_of_eq hz.symm
 clear hz
 go_region_held3 (fun W=>W.cell? ⟨w.heap.size,0,none⟩ = some (.string x.f0) ∧ W.cell? ⟨w.heap.size,1,none⟩ = some (.string x.f1) ∧ W.cell? ⟨w.heap.size + 1,0,none⟩ = some (.string y.f0) ∧ W.cell? ⟨w.heap.size + 1,1,none⟩ = some (.string y.f1))
  (first | go_keep | exact ⟨ZT hb2 c0,ZT hb2 c1,ZT hb2 c2,ZT hb2 c3⟩)
  (first | (go_at_call 91;((with_reducible refine (hc1 _).mono ?_);rintro e w2 ⟨rfl,nd,rfl⟩)) | (go_at_call 91;((with_reducible refine (hc2 _).mono ?_);rintro e w2 ⟨rfl,nd,rfl⟩)) | (go_at_call 97;((refine (hor _ _ (zkY _ _ _ _ _) (zkW _ _ _ _ _)).mono ?_);rintro e w2 ⟨rfl,hb2⟩)))
 all_goals
  have hb3:=hb0.trans ((Wn hb2).mono hb0.size)
  clear hb2 c0 c1 c2 c3
  go_wp2
  go_ret
  exact ⟨rfl,hb3⟩
set_option maxRecDepth 100000 in
set_option maxHeartbeats 1000000 in
theorem zqT (x y:qC) (w:World) :
  Calls Tryz.prog 101 #[.agg #[.string x.f0,.string x.f1,.int .i64 x.f2],.agg #[.string y.f0,.string y.f1,.int .i64 y.f2]] w fun e w'=>e = .returned (.int .i64 (Y5 x y)) ∧ Below w.heap.size w w':=by
 unfold Y5
 have hb0:Below w.heap.size w ((w.alloc (.cells #[.string x.f0,.string x.f1,.int .i64 x.f2] 111)).alloc (.cells #[.string y.f0,.string y.f1,.int .i64 y.f2] 111)):=((Below.refl _ w).alloc (Nat.le_refl _) _).alloc (by simp) _
 have hz:((w.alloc (.cells #[.string x.f0,.string x.f1,.int .i64 x.f2] 111)).alloc (.cells #[.string y.f0,.string y.f1,.int .i64 y.f2] 111)).heap.size = w.heap.size + 2:=by simp
 have c0:((w.alloc (.cells #[.string x.f0,.string x.f1,.int .i64 x.f2] 111)).alloc (.cells #[.string y.f0,.string y.f1,.int .i64 y.f2] 111)).cell? ⟨w.heap.size,0,none⟩ = some (.string x.f0):=by simp
 have c1:((w.alloc (.cells #[.string x.f0,.string x.f1,.int .i64 x.f2] 111)).alloc (.cells #[.string y.f0,.string y.f1,.int .i64 y.f2] 111)).cell? ⟨w.heap.size,1,none⟩ = some (.string x.f1):=by simp
 have c2:((w.alloc (.cells #[.string x.f0,.string x.f1,.int .i64 x.f2] 111)).alloc (.cells #[.string y.f0,.string y.f1,.int .i64 y.f2] 111)).cell? ⟨w.heap.size + 1,0,none⟩ = some (.string y.f0):=by simp
 have c3:((w.alloc (.cells #[.string x.f0,.string x.f1,.int .i64 x.f2] 111)).alloc (.cells #[.string y.f0,.string y.f1,.int .i64 y.f2] 111)).cell? ⟨w.heap.size + 1,1,none⟩ = some (.string y.f1):=by simp
 have hc1:=fun W=>xA.calls x.f0 y.f0 _ W (ZR x.f0 y.f0)
 have hc2:=fun W=>xA.calls x.f1 y.f1 _ W (ZR x.f1 y.f1)
 generalize xK x.f0 y.f0 = r1 at hc1 ⊢
 generalize xK x.f1 y.f1 = r2 at hc2 ⊢
 have hor:=fun B W h0 h1=>zz4 r1 r2 B W h0 h1
 generalize P7 r1 r2 = R at hor ⊢
 go_enter Tryz.func101,Tryz.ntmps101
 go_wp2_with fail
 generalize ((w.alloc (.cells #[.string x.f0,.string x.f1,.int .i64 x.f2] 111)).alloc (.cells #[.string y.f0,.string y.f1,.int .i64 y.f2] 111)) = W0 at hb0 hz c0 c1 c2 c3 ⊢
 have hz1:=Nat.le_of_eq hz
 have hz2:=Nat.le_of_eq hz.symm
 clear hz
 go_region_held3 (fun W=>W.cell? ⟨w.heap.size,0,none⟩ = some (.string x.f0) ∧ W.cell? ⟨w.heap.size,1,none⟩ = some (.string x.f1) ∧ W.cell? ⟨w.heap.size + 1,0,none⟩ = some (.string y.f0) ∧ W.cell? ⟨w.heap.size + 1,1,none⟩ = some (.string y.f1))
  (first | go_keep | exact ⟨ZT hb2 c0,ZT hb2 c1,ZT hb2 c2,ZT hb2 c3⟩)
  (first | (go_at_call 91;((with_reducible refine (hc1 _).mono ?_);rintro e w2 ⟨rfl,nd,rfl⟩)) | (go_at_call 91;((with_reducible refine (hc2 _).mono ?_);rintro e w2 ⟨rfl,nd,rfl⟩)) | (go_at_call 97;((refine (hor _ _ (zkY _ _ _ _ _) (zkW _ _ _ _ _)).mono ?_);rintro e w2 ⟨rfl,hb2⟩)))
 all_goals
  have hb3:=hb0.trans ((Wn hb2).mono hb0.size)
  clear hb2 c0 c1 c2 c3
  go_wp2
  go_ret
  exact ⟨rfl,hb3⟩
def zy1 (l:List qx) (w:World) (x:Value) (wr:World):Prop :=
 ∃ k:Nat,x = .int .i64 k ∧ 1 ≤ k ∧ k ≤ l.length + 1 ∧ (∀ i,i + 1 < k → i + 1 < l.length → cmpL (xO l (i:Int)) (xO l ((i + 1:Nat):Int)) < 0) ∧ Below w.heap.size w wr
set_option maxRecDepth 100000 in
set_option maxHeartbeats 1000000 in
theorem zqU (A0:Option Addr) (c0:Nat) (l:List qx) (w:World) (hr:Kd.C uQ w A0 l.length l) (hl:l.length ≤ 1000000000) :
  Calls Tryz.prog 95 #[.slice A0 l.length c0,.func (.func 96) #[] #[]] w fun e w'=>e = .returned (.bool (pF (fun i j=>cmpL (xO l (i:Int)) (xO l (j:Int))) l.length)) ∧ Below w.heap.size w w':=by
 generalize hV:pF (fun i j=>cmpL (xO l (i:Int)) (xO l (j:Int))) l.length = V
 have HV:=Lib.hid hV
 clear hV
 go_enter Tryz.func95,Tryz.ntmps95
 go_wp2
 go_loopw [5] (fun x wr=>zy1 l w x wr) (fun x _=>l.length + 1 - (intOf x).toNat)
 case atStart=>exact ⟨1,rfl,by omega,by omega,(fun i h=>by omega),Below.refl _ _⟩
 case round =>
  obtain ⟨k,rfl,hk1,hk,hA,hb⟩:=hrel
  have HA:=Lib.hid hA
  clear hA
  by_cases hlt:k < l.length
  ·obtain ⟨m,rfl⟩:∃ m,k = m + 1:=⟨k - 1,by omega⟩
   have hC:=Kd.zH hr hb
   obtain ⟨ad,e,HH0⟩:=JK hC (m:Int) (by omega) (by omega)
   obtain ⟨ad2,e2,HH1⟩:=JK hC ((m + 1:Nat):Int) (by omega) (by omega)
   cases e
   cases e2
   obtain ⟨h0,h1,h2⟩:=HH0
   obtain ⟨h3,h4,h5⟩:=HH1
   rw [Int.toNat_natCast] at h0 h1 h2 h3 h4 h5
   have hstep:∀ i,i + 1 = m + 1 → cmpL (xO l (i:Int)) (xO l ((i + 1:Nat):Int)) = cmpL (xO l (m:Int)) (xO l ((m + 1:Nat):Int)):=fun i hi=>by obtain rfl:i = m:=(by omega);rfl
   have hbad:¬ cmpL (xO l (m:Int)) (xO l ((m + 1:Nat):Int)) < 0 → V = false:=fun h=>by rw [← HV.out];exact QZ (i:=m) (by omega) h
   have hcm:=fun W=>zqS (xO l (m:Int)) (xO l ((m + 1:Nat):Int)) W
   generalize xO l (m:Int) = x at h0 h1 h2 hstep hcm hbad
   generalize xO l ((m + 1:Nat):Int) = y at h3 h4 h5 hstep hcm hbad
   generalize cmpL x y = r at hcm hstep hbad
   have HS:=Lib.hid hstep
   have HB:=Lib.hid hbad
   have e1:IntKind.i64.wrap (((m:Int) + 1) - 1) = (m:Int):=by rw [Int.add_sub_cancel];exact IntWalk.i64_in _ (by omega)
   have q1:(m:Int) < (l.length:Int):=by omega
   have q2:(m:Int) + 1 < (l.length:Int):=by omega
   have q3:((m:Int) + 1).toNat = m + 1:=by omega
   have q4:(0:Int) ≤ (m:Int) + 1:=by omega
   clear hC hr hstep hbad
   have e0:IntKind.i64.wrap (m:Int) = (m:Int):=IntWalk.i64_in _ (by omega)
   have q5:(0:Int) ≤ (m:Int):=by omega
   by_cases hr0:r < 0
   ·have d1:decide (0 ≤ r) = false:=by simp;omega
    have HR:=Lib.hid hr0
    clear hr0
    go_wp2_with fail
    go_region_held3 (fun W=>W.cell? (ad.add (m * 3)) = some (.string x.f0) ∧ W.cell? ⟨(ad.add (m * 3)).block,(ad.add (m * 3)).off + 1,none⟩ = some (.string x.f1) ∧ W.cell? ⟨(ad.add (m * 3)).block,(ad.add (m * 3)).off + 2,none⟩ = some (.string x.f2) ∧ W.cell? (ad.add ((m + 1) * 3)) = some (.string y.f0) ∧ W.cell? ⟨(ad.add ((m + 1) * 3)).block,(ad.add ((m + 1) * 3)).off + 1,none⟩ = some (.string y.f1) ∧ W.cell? ⟨(ad.add ((m + 1) * 3)).block,(ad.add ((m + 1) * 3)).off + 2,none⟩ = some (.string y.f2)) (first | go_keep | exact ⟨(hb2.cell (World.block_lt_of_cell? wr _ h0)).trans h0,(hb2.cell (World.block_lt_of_cell? wr _ h1)).trans h1,(hb2.cell (World.block_lt_of_cell? wr _ h2)).trans h2,(hb2.cell (World.block_lt_of_cell? wr _ h3)).trans h3,(hb2.cell (World.block_lt_of_cell? wr _ h4)).trans h4,(hb2.cell (World.block_lt_of_cell? wr _ h5)).trans h5⟩) ((go_at_call 96;refine (hcm _).mono ?_;rintro e w2 ⟨rfl,hb2⟩))
    clear e0 e1
    have hb3:Below w.heap.size w w2:=(hb.drew).trans (hb2.mono hb.size)
    clear hb2
    go_wp2
    refine ⟨⟨m + 1 + 1,by go_num,by omega,by omega,(fun i h1 h2=>?_),hb3⟩,by simp [intOf];omega⟩
    by_cases e:i + 1 = m + 1
    ·rw [HS.out i e];exact HR.out
    ·exact HA.out i (by omega) h2
   ·have d1:decide (0 ≤ r) = true:=by simp;omega
    have hv:V = false:=HB.out hr0
    have QC:=Lib.hid hv
    clear hr0 hv
    go_wp2_with fail
    go_region_held3 (fun W=>W.cell? (ad.add (m * 3)) = some (.string x.f0) ∧ W.cell? ⟨(ad.add (m * 3)).block,(ad.add (m * 3)).off + 1,none⟩ = some (.string x.f1) ∧ W.cell? ⟨(ad.add (m * 3)).block,(ad.add (m * 3)).off + 2,none⟩ = some (.string x.f2) ∧ W.cell? (ad.add ((m + 1) * 3)) = some (.string y.f0) ∧ W.cell? ⟨(ad.add ((m + 1) * 3)).block,(ad.add ((m + 1) * 3)).off + 1,none⟩ = some (.string y.f1) ∧ W.cell? ⟨(ad.add ((m + 1) * 3)).block,(ad.add ((m + 1) * 3)).off + 2,none⟩ = some (.string y.f2)) (first | go_keep | exact ⟨(hb2.cell (World.block_lt_of_cell? wr _ h0)).trans h0,(hb2.cell (World.block_lt_of_cell? wr _ h1)).trans h1,(hb2.cell (World.block_lt_of_cell? wr _ h2)).trans h2,(hb2.cell (World.block_lt_of_cell? wr _ h3)).trans h3,(hb2.cell (World.block_lt_of_cell? wr _ h4)).trans h4,(hb2.cell (World.block_lt_of_cell? wr _ h5)).trans h5⟩) ((go_at_call 96;refine (hcm _).mono ?_;rintro e w2 ⟨rfl,hb2⟩))
    clear e0 e1
    have hb3:Below w.heap.size w w2:=(hb.drew).trans (hb2.mono hb.size)
    clear hb2
    go_wp2
    go_ret
    exact ⟨by rw [QC.out];rfl,hb3⟩
  ·have hv:V = true:=by rw [← HV.out];exact QB (fun i hi=>HA.out i (by omega) hi)
   have QC:=Lib.hid hv
   have q1:decide ((k:Int) < (l.length:Int)) = false:=decide_eq_false (by omega)
   clear hv hr
   go_wp2
   go_ret
   exact ⟨by rw [QC.out];rfl,hb⟩
def zy2 (l:List qC) (w:World) (x:Value) (wr:World):Prop :=
 ∃ k:Nat,x = .int .i64 k ∧ 1 ≤ k ∧ k ≤ l.length + 1 ∧ (∀ i,i + 1 < k → i + 1 < l.length → Y5 (xP l (i:Int)) (xP l ((i + 1:Nat):Int)) < 0) ∧ Below w.heap.size w wr
set_option maxRecDepth 100000 in
set_option maxHeartbeats 1000000 in
theorem zq0 (A0:Option Addr) (c0:Nat) (l:List qC) (w:World) (hr:Kd.C uo w A0 l.length l) (hl:l.length ≤ 1000000000) :
  Calls Tryz.prog 100 #[.slice A0 l.length c0,.func (.func 101) #[] #[]] w fun e w'=>e = .returned (.bool (pF (fun i j=>Y5 (xP l (i:Int)) (xP l (j:Int))) l.length)) ∧ Below w.heap.size w w':=by
 generalize hV:pF (fun i j=>Y5 (xP l (i:Int)) (xP l (j:Int))) l.length = V
 have HV:=Lib.hid hV
 clear hV
 go_enter Tryz.func100,Tryz.ntmps100
 go_wp2
 go_loopw [5] (fun x wr=>zy2 l w x wr) (fun x _=>l.length + 1 - (intOf x).toNat)
 case atStart=>exact ⟨1,rfl,by omega,by omega,(fun i h=>by omega),Below.refl _ _⟩
 case round =>
  obtain ⟨k,rfl,hk1,hk,hA,hb⟩:=hrel
  have HA:=Lib.hid hA
  clear hA
  by_cases hlt:k < l.length
  ·obtain ⟨m,rfl⟩:∃ m,k = m + 1:=⟨k - 1,by omega⟩
   have hC:=Kd.zH hr hb
   obtain ⟨ad,e,HH0⟩:=JY hC (m:Int) (by omega) (by omega)
   obtain ⟨ad2,e2,HH1⟩:=JY hC ((m + 1:Nat):Int) (by omega) (by omega)
   cases e
   cases e2
   obtain ⟨h0,h1,h2⟩:=HH0
   obtain ⟨h3,h4,h5⟩:=HH1
   rw [Int.toNat_natCast] at h0 h1 h2 h3 h4 h5
   have hstep:∀ i,i + 1 = m + 1 → Y5 (xP l (i:Int)) (xP l ((i + 1:Nat):Int)) = Y5 (xP l (m:Int)) (xP l ((m + 1:Nat):Int)):=fun i hi=>by obtain rfl:i = m:=(by omega);rfl
   have hbad:¬ Y5 (xP l (m:Int)) (xP l ((m + 1:Nat):Int)) < 0 → V = false:=fun h=>by rw [← HV.out];exact QZ (i:=m) (by omega) h
   have hcm:=fun W=>zqT (xP l (m:Int)) (xP l ((m + 1:Nat):Int)) W
   generalize xP l (m:Int) = x at h0 h1 h2 hstep hcm hbad
   generalize xP l ((m + 1:Nat):Int) = y at h3 h4 h5 hstep hcm hbad
   generalize Y5 x y = r at hcm hstep hbad
   have HS:=Lib.hid hstep
   have HB:=Lib.hid hbad
   have e1:IntKind.i64.wrap (((m:Int) + 1) - 1) = (m:Int):=by rw [Int.add_sub_cancel];exact IntWalk.i64_in _ (by omega)
   have q1:(m:Int) < (l.length:Int):=by omega
   have q2:(m:Int) + 1 < (l.length:Int):=by omega
   have q3:((m:Int) + 1).toNat = m + 1:=by omega
   have q4:(0:Int) ≤ (m:Int) + 1:=by omega
   clear hC hr hstep hbad
   have e0:IntKind.i64.wrap (m:Int) = (m:Int):=IntWalk.i64_in _ (by omega)
   have q5:(0:Int) ≤ (m:Int):=by omega
   by_cases hr0:r < 0
   ·have d1:decide (0 ≤ r) = false:=by simp;omega
    have HR:=Lib.hid hr0
    clear hr0
    go_wp2_with fail
    go_region_held3 (fun W=>W.cell? (ad.add (m * 3)) = some (.string x.f0) ∧ W.cell? ⟨(ad.add (m * 3)).block,(ad.add (m * 3)).off + 1,none⟩ = some (.string x.f1) ∧ W.cell? ⟨(ad.add (m * 3)).block,(ad.add (m * 3)).off + 2,none⟩ = some (.int .i64 x.f2) ∧ W.cell? (ad.add ((m + 1) * 3)) = some (.string y.f0) ∧ W.cell? ⟨(ad.add ((m + 1) * 3)).block,(ad.add ((m + 1) * 3)).off + 1,none⟩ = some (.string y.f1) ∧ W.cell? ⟨(ad.add ((m + 1) * 3)).block,(ad.add ((m + 1) * 3)).off + 2,none⟩ = some (.int .i64 y.f2)) (first | go_keep | exact ⟨(hb2.cell (World.block_lt_of_cell? wr _ h0)).trans h0,(hb2.cell (World.block_lt_of_cell? wr _ h1)).trans h1,(hb2.cell (World.block_lt_of_cell? wr _ h2)).trans h2,(hb2.cell (World.block_lt_of_cell? wr _ h3)).trans h3,(hb2.cell (World.block_lt_of_cell? wr _ h4)).trans h4,(hb2.cell (World.block_lt_of_cell? wr _ h5)).trans h5⟩) ((go_at_call 101;refine (hcm _).mono ?_;rintro e w2 ⟨rfl,hb2⟩))
    clear e0 e1
    have hb3:Below w.heap.size w w2:=(hb.drew).trans (hb2.mono hb.size)
    clear hb2
    go_wp2
    refine ⟨⟨m + 1 + 1,by go_num,by omega,by omega,(fun i h1 h2=>?_),hb3⟩,by simp [intOf];omega⟩
    by_cases e:i + 1 = m + 1
    ·rw [HS.out i e];exact HR.out
    ·exact HA.out i (by omega) h2
   ·have d1:decide (0 ≤ r) = true:=by simp;omega
    have hv:V = false:=HB.out hr0
    have QC:=Lib.hid hv
    clear hr0 hv
    go_wp2_with fail
    go_region_held3 (fun W=>W.cell? (ad.add (m * 3)) = some (.string x.f0) ∧ W.cell? ⟨(ad.add (m * 3)).block,(ad.add (m * 3)).off + 1,none⟩ = some (.string x.f1) ∧ W.cell? ⟨(ad.add (m * 3)).block,(ad.add (m * 3)).off + 2,none⟩ = some (.int .i64 x.f2) ∧ W.cell? (ad.add ((m + 1) * 3)) = some (.string y.f0) ∧ W.cell? ⟨(ad.add ((m + 1) * 3)).block,(ad.add ((m + 1) * 3)).off + 1,none⟩ = some (.string y.f1) ∧ W.cell? ⟨(ad.add ((m + 1) * 3)).block,(ad.add ((m + 1) * 3)).off + 2,none⟩ = some (.int .i64 y.f2)) (first | go_keep | exact ⟨(hb2.cell (World.block_lt_of_cell? wr _ h0)).trans h0,(hb2.cell (World.block_lt_of_cell? wr _ h1)).trans h1,(hb2.cell (World.block_lt_of_cell? wr _ h2)).trans h2,(hb2.cell (World.block_lt_of_cell? wr _ h3)).trans h3,(hb2.cell (World.block_lt_of_cell? wr _ h4)).trans h4,(hb2.cell (World.block_lt_of_cell? wr _ h5)).trans h5⟩) ((go_at_call 101;refine (hcm _).mono ?_;rintro e w2 ⟨rfl,hb2⟩))
    clear e0 e1
    have hb3:Below w.heap.size w w2:=(hb.drew).trans (hb2.mono hb.size)
    clear hb2
    go_wp2
    go_ret
    exact ⟨by rw [QC.out];rfl,hb3⟩
  ·have hv:V = true:=by rw [← HV.out];exact QB (fun i hi=>HA.out i (by omega) hi)
   have QC:=Lib.hid hv
   have q1:decide ((k:Int) < (l.length:Int)) = false:=decide_eq_false (by omega)
   clear hv hr
   go_wp2
   go_ret
   exact ⟨by rw [QC.out];rfl,hb⟩
end Go.Proofs.YtggifbbiiickmaaGreatDoor
namespace Go.Proofs.YtggifbbiiickmaaGreatDoor.PX
open Go.RowKit Go.Proofs.zk.zm Go.Proofs.zk.yK Go.Proofs.zk.yc
attribute [local go_sem] uf ug jW jc vL vM uh um   -- for this text's walks alone
set_option linter.unusedVariables false
set_option linter.unusedSimpArgs false
def jk.l0:Nat → List ByteArray → Int → Int → ByteArray → Bool → Int → List (yP) → List (qx) → List (qC) → Option (Bool)
 | 0,_,_,_,_,_,_,_,_,_=>none
 | k + 1,x9,x10,x11,nA,nC,nD,nE,nG,nH=>if x11 < x10 then (if 0 ≤ x11 then (if x11 < (x9.length:Int) then ((uG.f nA nC nD nE nG nH (ZI ByteArray.empty x9 x11)).bind fun zy3=>(if zy3.2 = true then (jk.l0 k x9 x10 (wrap64 (x11 + 1)) nA nC nD nE nG nH) else (some false))) else (none)) else (none)) else (some true)
def jk.f (k:Nat) (zi:ByteArray) (zY:Bool) (zQ:Int) (zS:List (yP)) (yh:List (qx)) (yt:List (qC)) (l1:List ByteArray):Option (Bool):=jk.l0 k l1 (l1.length:Int) 0 zi zY zQ zS yh yt
set_option maxHeartbeats 8000000 in
set_option maxRecDepth 100000 in
theorem jk.calls (k:Nat) (zi:ByteArray) (zY:Bool) (zQ:Int) (qc:Option Addr) (qd:Nat) (zS:List (yP)) (qm:Option Addr) (qo:Nat) (yh:List (qx)) (qp:Option Addr) (qA:Nat) (yt:List (qC)) (A1:Option Addr) (c1:Nat) (l1:List ByteArray) (r:Bool) (w:World) (jU:Kd.C xG w qc zS.length zS) (p8:zS.length ≤ qd) (p9:Kd.C uQ w qm yh.length yh) (Zz:yh.length ≤ qo) (Zq:Kd.C uo w qp yt.length yt) (Zx:yt.length ≤ qA) (hr1:Kd.C Kd.string w A1 l1.length l1) (hc1:l1.length ≤ c1) (hG:GW w) (h:jk.f k zi zY zQ zS yh yt l1 = some r) :
  Calls Tryz.prog 94 #[.agg #[.string zi,.bool zY,.int .i64 zQ,.slice qc zS.length qd,.slice qm yh.length qo,.slice qp yt.length qA],.slice A1 l1.length c1] w fun e w'=>e = .returned (.bool r) ∧ Below w.heap.size w w':=by
 have zq1:=Tryz.underlying60
 have HG:=zx.mk hG
 clear hG
 have pq:=zx.mk jU
 have Zj:=zx.mk p8
 clear jU p8
 have Zv:=zx.mk p9
 have Zk:=zx.mk Zz
 clear p9 Zz
 have Zy:=zx.mk Zq
 have Zw:=zx.mk Zx
 clear Zq Zx
 have HR1:=zx.mk hr1
 have HC1:=zx.mk hc1
 clear hr1 hc1
 have HB:=zx.mk (Below.refl w.heap.size w)
 have H:(jk.l0 k l1 (l1.length:Int) 0 zi zY zQ zS yh yt) = some r:=h
 clear h
 have H':=zx.mk H
 clear H
 go_enter Tryz.func94,Tryz.ntmps94
 go_wp2_with (first | ((with_reducible refine y9 (N:=2) rfl ?_);refine qQ ?hg (N:=2) ?hd (cs:=#[.string zi,.bool zY,.int .i64 zQ,.slice qc zS.length qd,.slice qm yh.length qo,.slice qp yt.length qA]) (t:=60) ?hr ?_;(case hd=>rfl);(case hg=>rfl);(case hr=>first | (go_simp;done) | (go_simp;rfl));intro kG hg w3 qj hb;have zJ:=zx.mk (zn (zB HB.out) hb);have za:=zx.mk (qj);have zh:=zx.mk ((by rw [hg];exact (zf (zB HB.out)):w.heap.size ≤ kG));have zo:=zx.mk ((by rw [hg];exact (zf (zB HB.out)):w.heap.size ≤ kG));clear HB;have HB:=zJ;have vZ:=za;have zKK:=zh;have zjs:=zo;clear zJ za zh zo;clear hb qj hg))
 go_loopg [11] k (fun kq v11 w'=>∃ (jJ:Int),v11 = .int .i64 jJ ∧ zx (jk.l0 kq l1 (l1.length:Int) jJ zi zY zQ zS yh yt = some r) ∧ zx (kq ≤ k) ∧ zx (w'.heap[kG]? = some (.cells #[.string zi,.bool zY,.int .i64 zQ,(.slice qc zS.length qd),(.slice qm yh.length qo),(.slice qp yt.length qA)] 60 (0,0))) ∧ zx (Below w.heap.size w w'))
 case atStart=>exact ⟨(0),(by first | rfl | (simp;done) | (simp [*];done)),H',⟨Nat.le_refl _⟩,⟨yL vZ.out⟩,⟨zB HB.out⟩⟩
 case round =>
  clear H'
  try clear c1
  obtain ⟨jJ,rfl,HA,XY,vZ,HB⟩:=hrel
  cases gk with
  | zero=>exact absurd HA.out (by simp [jk.l0])
  | succ k1 =>
   have H:=HA.out
   clear HA
   simp only [jk.l0] at H
   by_cases c4:jJ < (l1.length:Int)
   ·rw [if_pos c4] at H
    have Xr:decide (jJ < (l1.length:Int)) = true:=decide_eq_true c4
    clear c4
    by_cases c5:0 ≤ jJ
    ·rw [if_pos c5] at H
     have Vt:decide (0 ≤ jJ) = true:=decide_eq_true c5
     clear c5
     by_cases c6:jJ < (l1.length:Int)
     ·rw [if_pos c6] at H
      have Xt:decide (jJ < (l1.length:Int)) = true:=decide_eq_true c6
      clear c6
      replace H:=Option.bind_eq_some_iff.mp H
      obtain ⟨⟨zka,zkb⟩,Wo,H⟩:=H
      replace H:(if zkb = true then (jk.l0 k1 l1 (l1.length:Int) (wrap64 (jJ + 1)) zi zY zQ zS yh yt) else (some false)) = some r:=H
      have A7:=zx.mk Wo
      clear Wo
      by_cases c8:zkb = true
      ·subst c8
       have H1:(jk.l0 k1 l1 (l1.length:Int) (wrap64 (jJ + 1)) zi zY zQ zS yh yt) = some r:=by rw [if_pos rfl] at H;exact H
       clear H
       have H:=H1
       clear H1
       have H':=zx.mk H
       clear H
       have VB:0 ≤ (jJ:Int):=of_decide_eq_true kR
       have VD:jJ < (l1.length:Int):=of_decide_eq_true kR
       obtain ⟨zy4,zq2,YK⟩:=Kd.YA HR1.out jJ VB VD
       cases zq2
       replace YK:=(HB.out.cell (World.block_lt_of_cell? w _ YK)).trans YK
       replace VB:=eq_true VB
       replace VD:=eq_true VD
       have zkc:wr.cell? ⟨kG,0,none⟩ = some (.string zi):=ze vZ 0
       have zkd:wr.cell? ⟨kG,1,none⟩ = some (.bool zY):=ze vZ 1
       have zke:wr.cell? ⟨kG,2,none⟩ = some (.int .i64 zQ):=ze vZ 2
       have zkf:wr.cell? ⟨kG,3,none⟩ = some (.slice qc zS.length qd):=ze vZ 3
       have zkg:wr.cell? ⟨kG,4,none⟩ = some (.slice qm yh.length qo):=ze vZ 4
       have zkh:wr.cell? ⟨kG,5,none⟩ = some (.slice qp yt.length qA):=ze vZ 5
       have zki:=zy vZ.out 0
       have zkl:=zy vZ.out 1
       have zkm:=zy vZ.out 2
       have zkn:=zy vZ.out 3
       have zko:=zy vZ.out 4
       have zkp:=zy vZ.out 5
       go_wp2_with (first | ((with_reducible refine yu (f:=64) rfl ?_);refine jq (some 18) Tryz.func64 #[.agg #[.string zi,.bool zY,.int .i64 zQ,.slice qc zS.length qd,.slice qm yh.length qo,.slice qp yt.length qA],.string (ZI ByteArray.empty l1 jJ)] ?_;(with_reducible refine (uG.calls zi zY zQ _ _ zS _ _ yh _ _ yt (ZI ByteArray.empty l1 jJ) zka true _ ?yX ?qy ?qw ?qZ ?qh ?qO ?qP A7.out).mono ?_);(case yX=>exact q8 (Kd.zH pq.out HB.out));(case qy=>exact Zj.out);(case qw=>exact q8 (Kd.zH Zv.out HB.out));(case qZ=>exact Zk.out);(case qh=>exact q8 (Kd.zH Zy.out HB.out));(case qO=>exact Zw.out);(case qP=>exact GW.under HG.out (zB HB.out));rintro e YD ⟨rfl,hb⟩;refine ⟨_,rfl,?_⟩;have zJ:=zx.mk (zW (g:=kG) (o:=.cells #[.string zi,.bool zY,.int .i64 zQ,.slice qc zS.length qd,.slice qm yh.length qo,.slice qp yt.length qA] 60 (0,0)) (yL vZ.out) hb);have za:=zx.mk (zn (zB HB.out) hb);clear vZ;clear HB;have vZ:=zJ;have HB:=za;clear zJ za;(try clear hb);(try clear hi)))
       go_roundg k1
       case measure=>have:=XY.out;omega
       case rel=>exact ⟨(wrap64 (jJ + 1)),(by first | rfl | (simp;done) | (simp [*];done)),H',⟨by have:=XY.out;omega⟩,⟨yL vZ.out⟩,⟨zB HB.out⟩⟩
      ·replace c8:=Bool.eq_false_iff.mpr c8
       subst c8
       have H1:(some false) = some r:=by rw [if_neg (show ¬ (false = true) by decide)] at H;exact H
       clear H
       have H:=H1
       clear H1
       obtain rfl:=Option.some.inj H
       have VB:0 ≤ (jJ:Int):=of_decide_eq_true kR
       have VD:jJ < (l1.length:Int):=of_decide_eq_true kR
       obtain ⟨zy4,zq2,YK⟩:=Kd.YA HR1.out jJ VB VD
       cases zq2
       replace YK:=(HB.out.cell (World.block_lt_of_cell? w _ YK)).trans YK
       replace VB:=eq_true VB
       replace VD:=eq_true VD
       have zvb:wr.cell? ⟨kG,0,none⟩ = some (.string zi):=ze vZ 0
       have zvc:wr.cell? ⟨kG,1,none⟩ = some (.bool zY):=ze vZ 1
       have zvd:wr.cell? ⟨kG,2,none⟩ = some (.int .i64 zQ):=ze vZ 2
       have zve:wr.cell? ⟨kG,3,none⟩ = some (.slice qc zS.length qd):=ze vZ 3
       have zvf:wr.cell? ⟨kG,4,none⟩ = some (.slice qm yh.length qo):=ze vZ 4
       have zvg:wr.cell? ⟨kG,5,none⟩ = some (.slice qp yt.length qA):=ze vZ 5
       have zvh:=zy vZ.out 0
       have zvi:=zy vZ.out 1
       have zvl:=zy vZ.out 2
       have zvm:=zy vZ.out 3
       have zvn:=zy vZ.out 4
       have zvo:=zy vZ.out 5
       go_wp2_with (first | ((with_reducible refine yu (f:=64) rfl ?_);refine jq (some 18) Tryz.func64 #[.agg #[.string zi,.bool zY,.int .i64 zQ,.slice qc zS.length qd,.slice qm yh.length qo,.slice qp yt.length qA],.string (ZI ByteArray.empty l1 jJ)] ?_;(with_reducible refine (uG.calls zi zY zQ _ _ zS _ _ yh _ _ yt (ZI ByteArray.empty l1 jJ) zka false _ ?yX ?qy ?qw ?qZ ?qh ?qO ?qP A7.out).mono ?_);(case yX=>exact q8 (Kd.zH pq.out HB.out));(case qy=>exact Zj.out);(case qw=>exact q8 (Kd.zH Zv.out HB.out));(case qZ=>exact Zk.out);(case qh=>exact q8 (Kd.zH Zy.out HB.out));(case qO=>exact Zw.out);(case qP=>exact GW.under HG.out (zB HB.out));rintro e nI ⟨rfl,hb⟩;refine ⟨_,rfl,?_⟩;have zJ:=zx.mk (zW (g:=kG) (o:=.cells #[.string zi,.bool zY,.int .i64 zQ,.slice qc zS.length qd,.slice qm yh.length qo,.slice qp yt.length qA] 60 (0,0)) (yL vZ.out) hb);have za:=zx.mk (zn (zB HB.out) hb);clear vZ;clear HB;have vZ:=zJ;have HB:=za;clear zJ za;(try clear hb);(try clear hi)))
       go_ret
       exact ⟨by first | rfl | (simp [yw,yZ] <;> rfl) | (simp [*,yw,yZ] <;> rfl),by repeat (first | (with_reducible first | exact HB.out | apply yI | apply yg | apply yj | refine qB ?_ zjs.out) | exact HB.out)⟩
     ·rw [if_neg c6] at H
      exact absurd H (by simp)
    ·rw [if_neg c5] at H
     exact absurd H (by simp)
   ·rw [if_neg c4] at H
    have Xr:decide (jJ < (l1.length:Int)) = false:=decide_eq_false c4
    clear c4
    obtain rfl:=Option.some.inj H
    go_wp2
    go_ret
    exact ⟨by first | rfl | (simp [yw,yZ] <;> rfl) | (simp [*,yw,yZ] <;> rfl),by repeat (first | (with_reducible first | exact HB.out | apply yI | apply yg | apply yj | refine qB ?_ zjs.out) | exact HB.out)⟩
end Go.Proofs.YtggifbbiiickmaaGreatDoor.PX
namespace Go.Proofs.YtggifbbiiickmaaGreatDoor
open Go.RowKit Go.Shelf Go.Proofs.zk.zm Go.Proofs.zk.yc Go.Proofs.YtggifbbiiickmaaGreatDoor.PX
instance:Inhabited yP:=⟨z105⟩
instance:Inhabited qx:=⟨zqD⟩
instance:Inhabited qC:=⟨zqE⟩
def jP (x:yP):List Value:=[.string x.f0,.int .i64 x.f1]
def P8 (x:qx):List Value:=[.string x.f0,.string x.f1,.string x.f2]
def P9 (x:qC):List Value:=[.string x.f0,.string x.f1,.int .i64 x.f2]
theorem VE {α:Type} [Inhabited α] (d:Kd α) (enc:α → List Value) (hopen:∀ (w:World) (x:α) (c:List Value),d.K w x c → c = enc x) (hne:∀ x,enc x ≠ []) {w:World} {A:Option Addr} {l:List α} (h:Kd.C d w A l.length l) (h0:l ≠ []) :
  ∃ b off,A = some ⟨b,off,none⟩ ∧ b < w.heap.size ∧ ∀ j,j < l.length → ∀ i v,(enc l[j]!)[i]? = some v → w.cell? ⟨b,off + j * d.sz + i,none⟩ = some v:=by
 have hl:0 < l.length:=List.length_pos_iff.2 h0
 obtain ⟨_,_,h3⟩:=h
 obtain ⟨ad,rfl,hc⟩:=h3 hl
 obtain ⟨b,off,spot⟩:=ad
 have hcell:∀ j,j < l.length → ∀ i v,(enc l[j]!)[i]? = some v → w.cell? ((⟨b,off,spot⟩:Addr).add (j * d.sz + i)) = some v:=by
  intro j hj i v hv
  obtain ⟨c,_,hK,hcc⟩:=hc j l[j] (List.getElem?_eq_getElem hj)
  have e:=hopen w _ c hK
  rw [getElem!_pos l j hj,← e] at hv
  exact hcc i v hv
 obtain ⟨v,hv⟩:∃ v,(enc l[0]!)[0]? = some v:=by
  cases he:enc l[0]! with
  | nil=>exact absurd he (hne _)
  | cons v r=>exact ⟨v,rfl⟩
 have hc0:=hcell 0 hl 0 v hv
 have hspot:spot = none:=by simpa [Addr.add] using World.cell?_spot hc0
 subst hspot
 refine ⟨b,off,rfl,?_,fun j hj i v hv=>?_⟩
 ·have:=World.block_lt_of_cell? w _ hc0
  simpa [Addr.add] using this
 ·have:=hcell j hj i v hv
  rwa [Addr.add_lit,← Nat.add_assoc] at this
set_option maxRecDepth 100000 in
theorem zz5 (A0:Option Addr) (c0:Nat) (fv:Value) (w:World):Calls Tryz.prog 130 #[.slice A0 0 c0,fv] w fun e w'=>e = .returned (.int .i64 (-1)) ∧ Below w.heap.size w w':=by
 go_enter Tryz.func130,Tryz.ntmps130
 go_wp2
 go_loop [8] (fun i=>i = .int .i64 0) (fun _=>0)
 case atStart=>rfl
 case round =>
  obtain rfl:=hrel
  go_wp2
  go_ret
  exact ⟨rfl,Below.refl _ _⟩
set_option maxRecDepth 100000 in
theorem bq (A0:Option Addr) (c0:Nat) (l:List yP) (w:World) (hr:Kd.C xG w A0 l.length l) (hl:l.length ≤ 1000000000) (p:yP → Bool) (g:Nat) (lb:Array Value) (eg:∀ args w,(callFunc g args).run Tryz.prog w = .ok (.enter g args) w)
  (hp:PredBelow Tryz.prog g lb (fun x=>.agg (jP x).toArray) p w) :
  Calls Tryz.prog 86 #[.slice A0 l.length c0,.func (.func g) #[] lb] w fun e w'=>e = .returned (.bool (l.any p)) ∧ Below w.heap.size w w':=by
 by_cases h0:l = []
 ·subst h0
  have h:=zz5 A0 c0 (.func (.func g) #[] lb) w
  go_enter Tryz.func86,Tryz.ntmps86
  go_wp2_with (go_at_call 130;refine h.mono ?_;rintro e w1 ⟨rfl,hb⟩)
  go_ret
  exact ⟨rfl,hb⟩
 ·obtain ⟨b,off,rfl,hb,hc⟩:=VE xG jP (fun w x c h=>Wd h) (fun x=>by simp [jP]) hr h0
  have:=AnyQ.slices_ContainsFunc Tryz.hasG 2 Tryz.isAgg105 Tryz.sizeOf105 jP (fun _=>rfl) p g lb eg b off l.length c0 l w hp (Nat.le_refl _) (by omega) hb hc
  rw [List.take_length] at this
  exact this
set_option maxRecDepth 100000 in
theorem zz6 (A0:Option Addr) (c0:Nat) (fv:Value) (w:World):Calls Tryz.prog 133 #[.slice A0 0 c0,fv] w fun e w'=>e = .returned (.int .i64 (-1)) ∧ Below w.heap.size w w':=by
 go_enter Tryz.func133,Tryz.ntmps133
 go_wp2
 go_loop [8] (fun i=>i = .int .i64 0) (fun _=>0)
 case atStart=>rfl
 case round =>
  obtain rfl:=hrel
  go_wp2
  go_ret
  exact ⟨rfl,Below.refl _ _⟩
set_option maxRecDepth 100000 in
theorem zq3 (A0:Option Addr) (c0:Nat) (l:List qx) (w:World) (hr:Kd.C uQ w A0 l.length l) (hl:l.length ≤ 1000000000) (p:qx → Bool) (g:Nat) (lb:Array Value) (eg:∀ args w,(callFunc g args).run Tryz.prog w = .ok (.enter g args) w)
  (hp:PredBelow Tryz.prog g lb (fun x=>.agg (P8 x).toArray) p w) :
  Calls Tryz.prog 92 #[.slice A0 l.length c0,.func (.func g) #[] lb] w fun e w'=>e = .returned (.bool (l.any p)) ∧ Below w.heap.size w w':=by
 by_cases h0:l = []
 ·subst h0
  have h:=zz6 A0 c0 (.func (.func g) #[] lb) w
  go_enter Tryz.func92,Tryz.ntmps92
  go_wp2_with (go_at_call 133;refine h.mono ?_;rintro e w1 ⟨rfl,hb⟩)
  go_ret
  exact ⟨rfl,hb⟩
 ·obtain ⟨b,off,rfl,hb,hc⟩:=VE uQ P8 (fun w x c h=>Wh h) (fun x=>by simp [P8]) hr h0
  have:=AnyQ.slices_ContainsFunc Tryz.hasL 3 Tryz.isAgg108 Tryz.sizeOf108 P8 (fun _=>rfl) p g lb eg b off l.length c0 l w hp (Nat.le_refl _) (by omega) hb hc
  rw [List.take_length] at this
  exact this
set_option maxRecDepth 100000 in
theorem zz7 (A0:Option Addr) (c0:Nat) (fv:Value) (w:World):Calls Tryz.prog 134 #[.slice A0 0 c0,fv] w fun e w'=>e = .returned (.int .i64 (-1)) ∧ Below w.heap.size w w':=by
 go_enter Tryz.func134,Tryz.ntmps134
 go_wp2
 go_loop [8] (fun i=>i = .int .i64 0) (fun _=>0)
 case atStart=>rfl
 case round =>
  obtain rfl:=hrel
  go_wp2
  go_ret
  exact ⟨rfl,Below.refl _ _⟩
set_option maxRecDepth 100000 in
theorem zq4 (A0:Option Addr) (c0:Nat) (l:List qC) (w:World) (hr:Kd.C uo w A0 l.length l) (hl:l.length ≤ 1000000000) (p:qC → Bool) (g:Nat) (lb:Array Value) (eg:∀ args w,(callFunc g args).run Tryz.prog w = .ok (.enter g args) w)
  (hp:PredBelow Tryz.prog g lb (fun x=>.agg (P9 x).toArray) p w) :
  Calls Tryz.prog 99 #[.slice A0 l.length c0,.func (.func g) #[] lb] w fun e w'=>e = .returned (.bool (l.any p)) ∧ Below w.heap.size w w':=by
 by_cases h0:l = []
 ·subst h0
  have h:=zz7 A0 c0 (.func (.func g) #[] lb) w
  go_enter Tryz.func99,Tryz.ntmps99
  go_wp2_with (go_at_call 134;refine h.mono ?_;rintro e w1 ⟨rfl,hb⟩)
  go_ret
  exact ⟨rfl,hb⟩
 ·obtain ⟨b,off,rfl,hb,hc⟩:=VE uo P9 (fun w x c h=>Wi h) (fun x=>by simp [P9]) hr h0
  have:=AnyQ.slices_ContainsFunc Tryz.hasK 3 Tryz.isAgg111 Tryz.sizeOf111 P9 (fun _=>rfl) p g lb eg b off l.length c0 l w hp (Nat.le_refl _) (by omega) hb hc
  rw [List.take_length] at this
  exact this
def YP (n:Int):Bool:=decide (n < 0) || decide (3000 < n)
set_option maxRecDepth 100000 in
theorem bZ (n:Int) (w:World):Calls Tryz.prog 84 #[.int .i64 n] w fun e w'=>e = .returned (.bool (YP n)) ∧ w' = w:=by
 unfold YP
 by_cases h1:n < 0
 ·have d1:decide (n < 0) = true:=decide_eq_true h1
  rw [d1];clear h1
  go_enter Tryz.func84,Tryz.ntmps84
  go_wp2
  go_ret
  exact ⟨rfl,rfl⟩
 ·have d1:decide (n < 0) = false:=decide_eq_false h1
  rw [d1];clear h1
  cases hd:decide (3000 < n) with
  | true =>
   go_enter Tryz.func84,Tryz.ntmps84
   go_wp2
   go_ret
   exact ⟨rfl,rfl⟩
  | false =>
   go_enter Tryz.func84,Tryz.ntmps84
   go_wp2
   go_ret
   exact ⟨rfl,rfl⟩
def Jb (x:yP):Bool:=!Ym x.f0.data.toList || YP x.f1
set_option maxRecDepth 100000 in
theorem zq5 (B:Nat) (w:World) (hB:w.cell? ⟨B,0,none⟩ = some (.func (.func 84) #[] #[])) :
  PredBelow Tryz.prog 87 #[.pointer (some ⟨B,0,none⟩)] (fun x=>.agg (jP x).toArray) Jb w:=fun W x hb=>by
 have hl:=World.block_lt_of_cell? w _ hB
 have hc:W.cell? ⟨B,0,none⟩ = some (.func (.func 84) #[] #[]):=(hb.cell hl).trans hB
 have hlW:B < W.heap.size:=Nat.lt_of_lt_of_le hl hb.size
 show Calls Tryz.prog 87 #[.agg #[.string x.f0,.int .i64 x.f1],.pointer (some ⟨B,0,none⟩)] W _
 have hb0:Below w.heap.size w (W.alloc (.cells #[.string x.f0,.int .i64 x.f1] 105)):=hb.alloc hb.size _
 have hbW:Below W.heap.size W (W.alloc (.cells #[.string x.f0,.int .i64 x.f1] 105)):=(Below.refl _ W).alloc (Nat.le_refl _) _
 have hn:=zz0 x.f0 (W.alloc (.cells #[.string x.f0,.int .i64 x.f1] 105))
 have hw:=fun W=>bZ x.f1 W
 have hv:Jb x = (!Ym x.f0.data.toList || YP x.f1):=rfl
 rw [hv]
 clear hv hb
 generalize Ym x.f0.data.toList = b1 at hn ⊢
 generalize YP x.f1 = b2 at hw ⊢
 cases b1 with
 | false =>
  go_enter Tryz.func87,Tryz.ntmps87
  go_wp2_with (go_at_call 88;refine hn.mono ?_;rintro e w1 ⟨rfl,hb1⟩)
  go_ret
  exact ⟨rfl,hb0.trans (hb1.mono hb0.size)⟩
 | true =>
  go_enter Tryz.func87,Tryz.ntmps87
  go_wp2_with (first | (go_at_call 88;refine hn.mono ?_;rintro e w1 ⟨rfl,hb1⟩;have hc1:=(hb1.cell (p:=⟨B,0,none⟩) (by simp;omega)).trans ((hbW.cell (p:=⟨B,0,none⟩) hlW).trans hc);have k1:=(hb1.cell (p:=⟨W.heap.size,1,none⟩) (by simp)).trans (zkK W (.string x.f0) (.int .i64 x.f1) _)) | (go_at_call 84;refine (hw _).mono ?_;rintro e w2 ⟨rfl,rfl⟩))
  go_ret
  exact ⟨by first | rfl | (cases b2 <;> rfl),hb0.trans (hb1.mono hb0.size)⟩
def VF (l:List yP) (ns:List ByteArray):Bool:=ns.all fun n=>(pU l n).2
theorem zy5 (a:ByteArray) (b:Bool) (c:Int) (l3:List yP) (l4:List qx) (l5:List qC) (h3:l3.length ≤ 1000000000) (ns:List ByteArray) (hn:ns.length ≤ 1000):∀ (d i:Nat),i + d = ns.length →
  Ev (fun k=>jk.l0 k ns (ns.length:Int) (i:Int) a b c l3 l4 l5) (VF l3 (ns.drop i)):=by
 intro d
 induction d with
 | zero =>
  intro i h
  rw [List.drop_eq_nil_of_le (by omega)]
  refine Ev.step (fun k=>by rw [jk.l0]) ?_
  exact Z7 (by omega) (Ev.now _)
 | succ d ih =>
  intro i h
  have hi:i < ns.length:=by omega
  have e2:wrap64 ((i:Int) + 1) = ((i + 1:Nat):Int):=by rw [ji (by omega) (by omega)];rfl
  have hg:ZI ByteArray.empty ns (i:Int) = ns[i]:=by rw [zqI,List.getD_eq_getElem?_getD,List.getElem?_eq_getElem hi];rfl
  have hd:ns.drop i = ns[i] :: ns.drop (i + 1):=List.drop_eq_getElem_cons hi
  refine Ev.step (fun k=>by rw [jk.l0]) ?_
  refine xH (by omega) (xH (by omega) (xH (by omega) ?_))
  rw [hg,e2]
  refine Yl (y:=pU l3 ns[i]) (by unfold uG.f;rw [if_pos h3]) ?_
  rw [hd]
  show Ev _ ((pU l3 ns[i]).2 && VF l3 (ns.drop (i + 1)))
  cases hb:(pU l3 ns[i]).2 with
  | true=>exact xH rfl (ih (i + 1) (by omega))
  | false=>exact Z7 (by simp) (Ev.now _)
theorem nL (a:ByteArray) (b:Bool) (c:Int) (A3:Option Addr) (c3:Nat) (l3:List yP) (A4:Option Addr) (c4:Nat) (l4:List qx) (A5:Option Addr) (c5:Nat) (l5:List qC) (A:Option Addr) (cn:Nat) (ns:List ByteArray) (w:World)
  (h3:Kd.C xG w A3 l3.length l3) (g3:l3.length ≤ c3) (h4:Kd.C uQ w A4 l4.length l4) (g4:l4.length ≤ c4) (h5:Kd.C uo w A5 l5.length l5) (g5:l5.length ≤ c5) (hn:Kd.C Kd.string w A ns.length ns) (gn:ns.length ≤ cn) (hG:GW w) (hl3:l3.length ≤ 1000000000) (hln:ns.length ≤ 1000) :
  Calls Tryz.prog 94 #[.agg #[.string a,.bool b,.int .i64 c,.slice A3 l3.length c3,.slice A4 l4.length c4,.slice A5 l5.length c5],.slice A ns.length cn] w fun e w'=>e = .returned (.bool (VF l3 ns)) ∧ Below w.heap.size w w':=by
 obtain ⟨k,hk⟩:=(zy5 a b c l3 l4 l5 hl3 ns hln ns.length 0 (by omega)).rounds
 exact jk.calls k a b c A3 c3 l3 A4 c4 l4 A5 c5 l5 A cn ns _ w h3 g3 h4 g4 h5 g5 hn gn hG hk
structure wR (w:World) (B:Nat) (a:ByteArray) (b:Bool) (c:Int) (A3:Option Addr) (c3:Nat) (l3:List yP) (A4:Option Addr) (c4:Nat) (l4:List qx) (A5:Option Addr) (c5:Nat) (l5:List qC):Prop where
 blk:w.heap[B]? = some (.cells #[.string a,.bool b,.int .i64 c,.slice A3 l3.length c3,.slice A4 l4.length c4,.slice A5 l5.length c5] 60 (0,0))
 h3:Kd.C xG w A3 l3.length l3
 h4:Kd.C uQ w A4 l4.length l4
 h5:Kd.C uo w A5 l5.length l5
 gw:GW w
theorem wR.below {w w':World} {B:Nat} {a:ByteArray} {b:Bool} {c:Int} {A3:Option Addr} {c3:Nat} {l3:List yP} {A4:Option Addr} {c4:Nat} {l4:List qx} {A5:Option Addr} {c5:Nat} {l5:List qC}
  (h:wR w B a b c A3 c3 l3 A4 c4 l4 A5 c5 l5) (hb:Below w.heap.size w w'):wR w' B a b c A3 c3 l3 A4 c4 l4 A5 c5 l5 :=
 ⟨(hb.block B (Array.getElem?_eq_some_iff.1 h.blk).1).trans h.blk,Kd.zH h.h3 hb,Kd.zH h.h4 hb,Kd.zH h.h5 hb,h.gw.under hb⟩
theorem y7 {w:World} {B:Nat} {cs:Array Value} {t:TypeId} (h:w.heap[B]? = some (.cells cs t (0,0))) (i:Nat) (v:Value) (hv:cs[i]? = some v):w.cell? ⟨B,i,none⟩ = some v:=by
 simp only [World.cell?,h]
 exact hv
end Go.Proofs.YtggifbbiiickmaaGreatDoor
namespace Go.Proofs.YtggifbbiiickmaaGreatDoor
open Go.RowKit Go.Shelf Go.Proofs.zk.zm Go.Proofs.zk.yc Go.Proofs.YtggifbbiiickmaaGreatDoor.PX
set_option linter.unusedSimpArgs false
set_option linter.unusedVariables false
theorem nM {w:World} {g:Nat} {ns:List ByteArray} {t:TypeId} (h:w.heap[g]? = some (.cells (ns.map Value.string).toArray t (0,0))) (hn:ns.length ≤ 1000):Kd.C Kd.string w (some ⟨g,0,none⟩) ns.length ns:=by
 refine ⟨rfl,by omega,fun _=>⟨_,rfl,fun j p hj=>⟨[.string p],rfl,rfl,fun i u hi=>?_⟩⟩⟩
 rcases i with _ | i
 ·cases hi
  have hs:Kd.string.sz = 1:=rfl
  rw [Addr.add_lit,hs]
  refine y7 h _ _ ?_
  simp [hj]
 ·simp at hi
def bQ (l3:List yP) (x:qx):Bool:=!VF l3 [x.f0,x.f1,x.f2]
def VG (l3:List yP) (x:qC):Bool:=decide (x.f2 = 0) || (decide (x.f2 < -500) || (decide (500 < x.f2) || !VF l3 [x.f0,x.f1]))
set_option maxRecDepth 100000 in
set_option maxHeartbeats 1000000 in
theorem zq6 (B:Nat) (a:ByteArray) (b:Bool) (c:Int) (A3:Option Addr) (c3:Nat) (l3:List yP) (A4:Option Addr) (c4:Nat) (l4:List qx) (A5:Option Addr) (c5:Nat) (l5:List qC) (g3:l3.length ≤ c3) (g4:l4.length ≤ c4) (g5:l5.length ≤ c5) (hl3:l3.length ≤ 1000000000) (w:World) (hF:wR w B a b c A3 c3 l3 A4 c4 l4 A5 c5 l5) :
  PredBelow Tryz.prog 93 #[.pointer (some ⟨B,0,none⟩)] (fun x=>.agg (P8 x).toArray) (bQ l3) w:=fun W x hb=>by
 have hl:=(Array.getElem?_eq_some_iff.1 hF.blk).1
 have ZU:=hF.below hb
 have hlW:B < W.heap.size:=Nat.lt_of_lt_of_le hl hb.size
 show Calls Tryz.prog 93 #[.agg #[.string x.f0,.string x.f1,.string x.f2],.pointer (some ⟨B,0,none⟩)] W _
 have hbW:Below W.heap.size W ((W.alloc (.cells #[.string x.f0,.string x.f1,.string x.f2] 108)).alloc (.cells #[.string x.f0,.string x.f1,.string x.f2] 9)):=((Below.refl _ W).alloc (Nat.le_refl _) _).alloc (by simp) _
 have hF2:=ZU.below hbW
 have hblk:((W.alloc (.cells #[.string x.f0,.string x.f1,.string x.f2] 108)).alloc (.cells #[.string x.f0,.string x.f1,.string x.f2] 9)).heap[W.heap.size + 1]? = some (.cells (([x.f0,x.f1,x.f2].map Value.string).toArray) 9 (0,0)):=by
  have:=World.alloc_heap_new (W.alloc (.cells #[.string x.f0,.string x.f1,.string x.f2] 108)) (.cells #[.string x.f0,.string x.f1,.string x.f2] 9)
  rwa [World.size_alloc] at this
 have ha:=nL a b c A3 c3 l3 A4 c4 l4 A5 c5 l5 _ 3 [x.f0,x.f1,x.f2] _ hF2.h3 g3 hF2.h4 g4 hF2.h5 g5 (nM hblk (by simp)) (by simp) hF2.gw hl3 (by simp)
 have k0:=y7 ZU.blk 0 _ rfl
 have k1:=y7 ZU.blk 1 _ rfl
 have k2:=y7 ZU.blk 2 _ rfl
 have k3:=y7 ZU.blk 3 _ rfl
 have k4:=y7 ZU.blk 4 _ rfl
 have k5:=y7 ZU.blk 5 _ rfl
 have hend:=hb.trans (hbW.mono hb.size)
 unfold bQ
 generalize VF l3 [x.f0,x.f1,x.f2] = r at ha ⊢
 clear hF ZU hF2 hblk hb g3 g4 g5
 go_enter Tryz.func93,Tryz.ntmps93
 go_wp2_with (go_at_call 94;refine ha.mono ?_;rintro e w1 ⟨rfl,hb1⟩)
 go_ret
 exact ⟨rfl,hend.trans (hb1.mono hend.size)⟩
set_option maxRecDepth 100000 in
set_option maxHeartbeats 1000000 in
theorem zq7 (B:Nat) (a:ByteArray) (b:Bool) (c:Int) (A3:Option Addr) (c3:Nat) (l3:List yP) (A4:Option Addr) (c4:Nat) (l4:List qx) (A5:Option Addr) (c5:Nat) (l5:List qC) (g3:l3.length ≤ c3) (g4:l4.length ≤ c4) (g5:l5.length ≤ c5) (hl3:l3.length ≤ 1000000000) (w:World) (hF:wR w B a b c A3 c3 l3 A4 c4 l4 A5 c5 l5) :
  PredBelow Tryz.prog 98 #[.pointer (some ⟨B,0,none⟩)] (fun x=>.agg (P9 x).toArray) (VG l3) w:=fun W x hb=>by
 have hl:=(Array.getElem?_eq_some_iff.1 hF.blk).1
 have ZU:=hF.below hb
 have hlW:B < W.heap.size:=Nat.lt_of_lt_of_le hl hb.size
 show Calls Tryz.prog 98 #[.agg #[.string x.f0,.string x.f1,.int .i64 x.f2],.pointer (some ⟨B,0,none⟩)] W _
 have hb1:Below w.heap.size w (W.alloc (.cells #[.string x.f0,.string x.f1,.int .i64 x.f2] 111)):=hb.alloc hb.size _
 unfold VG
 by_cases q0:x.f2 = 0
 ·have d0:(x.f2 == 0) = true:=beq_iff_eq.2 q0
  rw [decide_eq_true q0]
  clear q0 hF ZU
  go_enter Tryz.func98,Tryz.ntmps98
  go_wp2
  go_ret
  exact ⟨rfl,hb1⟩
 ·have d0:(x.f2 == 0) = false:=beq_eq_false_iff_ne.2 q0
  rw [decide_eq_false q0,Bool.false_or]
  clear q0
  by_cases q1:x.f2 < -500
  ·have d1:decide (x.f2 < -500) = true:=decide_eq_true q1
   rw [d1]
   clear q1 hF ZU
   go_enter Tryz.func98,Tryz.ntmps98
   go_wp2
   go_ret
   exact ⟨rfl,hb1⟩
  ·have d1:decide (x.f2 < -500) = false:=decide_eq_false q1
   rw [d1,Bool.false_or]
   clear q1
   by_cases q2:500 < x.f2
   ·have d2:decide (500 < x.f2) = true:=decide_eq_true q2
    rw [d2]
    clear q2 hF ZU
    go_enter Tryz.func98,Tryz.ntmps98
    go_wp2
    go_ret
    exact ⟨rfl,hb1⟩
   ·have d2:decide (500 < x.f2) = false:=decide_eq_false q2
    rw [d2,Bool.false_or]
    clear q2
    have hbW:Below W.heap.size W ((W.alloc (.cells #[.string x.f0,.string x.f1,.int .i64 x.f2] 111)).alloc (.cells #[.string x.f0,.string x.f1] 9)):=((Below.refl _ W).alloc (Nat.le_refl _) _).alloc (by simp) _
    have hF2:=ZU.below hbW
    have hblk:((W.alloc (.cells #[.string x.f0,.string x.f1,.int .i64 x.f2] 111)).alloc (.cells #[.string x.f0,.string x.f1] 9)).heap[W.heap.size + 1]? = some (.cells (([x.f0,x.f1].map Value.string).toArray) 9 (0,0)):=by
     have:=World.alloc_heap_new (W.alloc (.cells #[.string x.f0,.string x.f1,.int .i64 x.f2] 111)) (.cells #[.string x.f0,.string x.f1] 9)
     rwa [World.size_alloc] at this
    have ha:=nL a b c A3 c3 l3 A4 c4 l4 A5 c5 l5 _ 2 [x.f0,x.f1] _ hF2.h3 g3 hF2.h4 g4 hF2.h5 g5 (nM hblk (by simp)) (by simp) hF2.gw hl3 (by simp)
    have k0:=y7 ZU.blk 0 _ rfl
    have k1:=y7 ZU.blk 1 _ rfl
    have k2:=y7 ZU.blk 2 _ rfl
    have k3:=y7 ZU.blk 3 _ rfl
    have k4:=y7 ZU.blk 4 _ rfl
    have k5:=y7 ZU.blk 5 _ rfl
    have hend:=hb.trans (hbW.mono hb.size)
    generalize VF l3 [x.f0,x.f1] = r at ha ⊢
    clear hF ZU hF2 hblk hb g3 g4 g5
    go_enter Tryz.func98,Tryz.ntmps98
    go_wp2_with (go_at_call 94;refine ha.mono ?_;rintro e w1 ⟨rfl,hb1⟩)
    go_ret
    exact ⟨rfl,hend.trans (hb1.mono hend.size)⟩
def xk (a:ByteArray) (c:Int) (l3:List yP) (l4:List qx) (l5:List qC):Bool :=
 if (!Ui a.data.toList || (YP c || (decide (400 < l3.length) || (decide (50 < l4.length) || decide (500 < l5.length))))) = true then false
 else if (l3.any Jb || !pF (fun i j=>YV (qX l3 (i:Int)) (qX l3 (j:Int))) l3.length) = true then false
 else if (l4.any (bQ l3) || !pF (fun i j=>cmpL (xO l4 (i:Int)) (xO l4 (j:Int))) l4.length) = true then false
 else !l5.any (VG l3) && pF (fun i j=>Y5 (xP l5 (i:Int)) (xP l5 (j:Int))) l5.length
set_option maxRecDepth 100000 in
set_option maxHeartbeats 4000000 in
theorem zz8 (a:ByteArray) (b:Bool) (c:Int) (A3:Option Addr) (c3:Nat) (l3:List yP) (A4:Option Addr) (c4:Nat) (l4:List qx) (A5:Option Addr) (c5:Nat) (l5:List qC) (g3:l3.length ≤ c3) (g4:l4.length ≤ c4) (g5:l5.length ≤ c5) (hl3:l3.length ≤ 1000000000) (hl4:l4.length ≤ 1000000000) (hl5:l5.length ≤ 1000000000) (w:World) (h3:Kd.C xG w A3 l3.length l3) (h4:Kd.C uQ w A4 l4.length l4) (h5:Kd.C uo w A5 l5.length l5) (hG:GW w) :
  Calls Tryz.prog 39 #[.agg #[.string a,.bool b,.int .i64 c,.slice A3 l3.length c3,.slice A4 l4.length c4,.slice A5 l5.length c5]] w fun e w'=>e = .returned (.bool (xk a c l3 l4 l5)) ∧ Below w.heap.size w w':=by
 have hw1:Below w.heap.size w ((w.alloc (.cells #[.string a,.bool b,.int .i64 c,.slice A3 l3.length c3,.slice A4 l4.length c4,.slice A5 l5.length c5] 60)).alloc (.cells #[.func (.func 84) #[] #[]] 138)):=((Below.refl _ w).alloc (Nat.le_refl _) _).alloc (by simp) _
 have hblk:((w.alloc (.cells #[.string a,.bool b,.int .i64 c,.slice A3 l3.length c3,.slice A4 l4.length c4,.slice A5 l5.length c5] 60)).alloc (.cells #[.func (.func 84) #[] #[]] 138)).heap[w.heap.size]? = some (.cells #[.string a,.bool b,.int .i64 c,.slice A3 l3.length c3,.slice A4 l4.length c4,.slice A5 l5.length c5] 60 (0,0)) :=
  (Below.heap_alloc _ _ _ (by simp)).trans (World.alloc_heap_new w _)
 have Y6:((w.alloc (.cells #[.string a,.bool b,.int .i64 c,.slice A3 l3.length c3,.slice A4 l4.length c4,.slice A5 l5.length c5] 60)).alloc (.cells #[.func (.func 84) #[] #[]] 138)).heap[w.heap.size + 1]? = some (.cells #[.func (.func 84) #[] #[]] 138 (0,0)):=by
  have:=World.alloc_heap_new (w.alloc (.cells #[.string a,.bool b,.int .i64 c,.slice A3 l3.length c3,.slice A4 l4.length c4,.slice A5 l5.length c5] 60)) (.cells #[.func (.func 84) #[] #[]] 138)
  rwa [World.size_alloc] at this
 have hF:wR ((w.alloc (.cells #[.string a,.bool b,.int .i64 c,.slice A3 l3.length c3,.slice A4 l4.length c4,.slice A5 l5.length c5] 60)).alloc (.cells #[.func (.func 84) #[] #[]] 138)) w.heap.size a b c A3 c3 l3 A4 c4 l4 A5 c5 l5:=⟨hblk,Kd.zH h3 hw1,Kd.zH h4 hw1,Kd.zH h5 hw1,hG.under hw1⟩
 have hfn:=PZ a ((w.alloc (.cells #[.string a,.bool b,.int .i64 c,.slice A3 l3.length c3,.slice A4 l4.length c4,.slice A5 l5.length c5] 60)).alloc (.cells #[.func (.func 84) #[] #[]] 138))
 have hwd:=fun W=>bZ c W
 have hhG:=fun W (hF:wR W w.heap.size a b c A3 c3 l3 A4 c4 l4 A5 c5 l5) (hB:W.cell? ⟨w.heap.size + 1,0,none⟩ = some (.func (.func 84) #[] #[]))=>bq A3 c3 l3 W hF.h3 hl3 Jb 87 #[.pointer (some ⟨w.heap.size + 1,0,none⟩)] (enters_of Tryz.func87 (by kernel_rfl) rfl) (zq5 _ W hB)
 have haG:=fun W (hF:wR W w.heap.size a b c A3 c3 l3 A4 c4 l4 A5 c5 l5)=>zqP A3 c3 l3 W hF.h3 hl3
 have hhL:=fun W (hF:wR W w.heap.size a b c A3 c3 l3 A4 c4 l4 A5 c5 l5)=>zq3 A4 c4 l4 W hF.h4 hl4 (bQ l3) 93 #[.pointer (some ⟨w.heap.size,0,none⟩)] (enters_of Tryz.func93 (by kernel_rfl) rfl) (zq6 _ a b c A3 c3 l3 A4 c4 l4 A5 c5 l5 g3 g4 g5 hl3 W hF)
 have haL:=fun W (hF:wR W w.heap.size a b c A3 c3 l3 A4 c4 l4 A5 c5 l5)=>zqU A4 c4 l4 W hF.h4 hl4
 have hhK:=fun W (hF:wR W w.heap.size a b c A3 c3 l3 A4 c4 l4 A5 c5 l5)=>zq4 A5 c5 l5 W hF.h5 hl5 (VG l3) 98 #[.pointer (some ⟨w.heap.size,0,none⟩)] (enters_of Tryz.func98 (by kernel_rfl) rfl) (zq7 _ a b c A3 c3 l3 A4 c4 l4 A5 c5 l5 g3 g4 g5 hl3 W hF)
 have haK:=fun W (hF:wR W w.heap.size a b c A3 c3 l3 A4 c4 l4 A5 c5 l5)=>zq0 A5 c5 l5 W hF.h5 hl5
 generalize hR:xk a c l3 l4 l5 = R
 have HR:=Lib.hid hR
 unfold xk at hR
 generalize Ui a.data.toList = b1 at hfn hR
 generalize YP c = b2 at hwd hR
 generalize l3.any Jb = b6 at hhG hR
 generalize pF (fun i j=>YV (qX l3 (i:Int)) (qX l3 (j:Int))) l3.length = b7 at haG hR
 generalize l4.any (bQ l3) = b8 at hhL hR
 generalize pF (fun i j=>cmpL (xO l4 (i:Int)) (xO l4 (j:Int))) l4.length = b9 at haL hR
 generalize l5.any (VG l3) = b10 at hhK hR
 generalize pF (fun i j=>Y5 (xP l5 (i:Int)) (xP l5 (j:Int))) l5.length = b11 at haK hR
 clear g3 g4 g5 h3 h4 h5 hG HR
 go_enter Tryz.func39,Tryz.ntmps39
 have HF0:=Lib.hid hF
 have K0:=Lib.hid (y7 Y6 0 _ rfl)
 have HW0:=Lib.hid hw1
 have c0:=y7 hblk 0 _ rfl
 have c2:=y7 hblk 2 _ rfl
 have XW:=y7 hblk 3 _ rfl
 have Xa:=y7 hblk 4 _ rfl
 have Xb:=y7 hblk 5 _ rfl
 clear hF hblk Y6 hw1
 go_wp2_with fail
 generalize ((w.alloc (.cells #[.string a,.bool b,.int .i64 c,.slice A3 l3.length c3,.slice A4 l4.length c4,.slice A5 l5.length c5] 60)).alloc (.cells #[.func (.func 84) #[] #[]] 138)) = W0 at hfn HF0 K0 HW0 c0 c2 XW Xa Xb ⊢
 refine hfn.mono ?_;rintro e W1 ⟨rfl,hb1⟩
 clear hfn c0 c2 XW Xa Xb
 have nN:=Lib.hid (HF0.out.below hb1)
 have K1:=Lib.hid ((hb1.cell (World.block_lt_of_cell? _ _ K0.out)).trans K0.out)
 have HW1:=Lib.hid (HW0.out.trans (hb1.mono HW0.out.size))
 clear hb1
 have c2:=y7 nN.out.blk 2 _ rfl
 have XW:=y7 nN.out.blk 3 _ rfl
 have Xa:=y7 nN.out.blk 4 _ rfl
 have Xb:=y7 nN.out.blk 5 _ rfl
 have cb:=K1.out
 cases b1 with
 | false =>
  obtain rfl:false = R:=by simpa using hR
  clear hR
  go_wp2_with fail
  go_ret
  exact ⟨rfl,HW1.out⟩
 | true =>
  go_wp2_with fail
  refine (hwd _).mono ?_;rintro e W1x ⟨rfl,hx⟩;subst hx
  cases b2 with
  | false =>
   by_cases q3:400 < l3.length
   ·have dq3:decide ((400:Int) < (l3.length:Int)) = true:=decide_eq_true (by omega)
    rw [decide_eq_true q3] at hR
    clear q3
    obtain rfl:false = R:=by simpa using hR
    clear hR
    go_wp2_with fail
    go_ret
    exact ⟨rfl,HW1.out⟩
   ·have dq3:decide ((400:Int) < (l3.length:Int)) = false:=decide_eq_false (by omega)
    rw [decide_eq_false q3] at hR
    clear q3
    by_cases q4:50 < l4.length
    ·have dq4:decide ((50:Int) < (l4.length:Int)) = true:=decide_eq_true (by omega)
     rw [decide_eq_true q4] at hR
     clear q4
     obtain rfl:false = R:=by simpa using hR
     clear hR
     go_wp2_with fail
     go_ret
     exact ⟨rfl,HW1.out⟩
    ·have dq4:decide ((50:Int) < (l4.length:Int)) = false:=decide_eq_false (by omega)
     rw [decide_eq_false q4] at hR
     clear q4
     by_cases q5:500 < l5.length
     ·have dq5:decide ((500:Int) < (l5.length:Int)) = true:=decide_eq_true (by omega)
      rw [decide_eq_true q5] at hR
      clear q5
      obtain rfl:false = R:=by simpa using hR
      clear hR
      go_wp2_with fail
      go_ret
      exact ⟨rfl,HW1.out⟩
     ·have dq5:decide ((500:Int) < (l5.length:Int)) = false:=decide_eq_false (by omega)
      rw [decide_eq_false q5] at hR
      clear q5
      simp only [Bool.not_true,Bool.or_self,Bool.false_eq_true,if_false,Bool.or_false] at hR
      go_wp2_with fail
      refine (hhG _ nN.out K1.out).mono ?_;rintro e W2 ⟨rfl,hb2⟩
      clear c2 XW Xa Xb cb
      have Uo:=Lib.hid (nN.out.below hb2)
      have K2:=Lib.hid ((hb2.cell (World.block_lt_of_cell? _ _ K1.out)).trans K1.out)
      have HW2:=Lib.hid (HW1.out.trans (hb2.mono HW1.out.size))
      clear hb2
      have c2:=y7 Uo.out.blk 2 _ rfl
      have XW:=y7 Uo.out.blk 3 _ rfl
      have Xa:=y7 Uo.out.blk 4 _ rfl
      have Xb:=y7 Uo.out.blk 5 _ rfl
      have cb:=K2.out
      cases b6 with
      | false =>
       go_wp2_with fail
       refine (haG _ Uo.out).mono ?_;rintro e W3 ⟨rfl,hb3⟩
       clear c2 XW Xa Xb cb
       have nO:=Lib.hid (Uo.out.below hb3)
       have K3:=Lib.hid ((hb3.cell (World.block_lt_of_cell? _ _ K2.out)).trans K2.out)
       have HW3:=Lib.hid (HW2.out.trans (hb3.mono HW2.out.size))
       clear hb3
       have c2:=y7 nO.out.blk 2 _ rfl
       have XW:=y7 nO.out.blk 3 _ rfl
       have Xa:=y7 nO.out.blk 4 _ rfl
       have Xb:=y7 nO.out.blk 5 _ rfl
       have cb:=K3.out
       cases b7 with
       | false =>
        obtain rfl:false = R:=by simpa using hR
        clear hR
        go_wp2_with fail
        go_ret
        exact ⟨rfl,HW3.out⟩
       | true =>
        go_wp2_with fail
        refine (hhL _ nO.out).mono ?_;rintro e W4 ⟨rfl,hb4⟩
        clear c2 XW Xa Xb cb
        have nP:=Lib.hid (nO.out.below hb4)
        have K4:=Lib.hid ((hb4.cell (World.block_lt_of_cell? _ _ K3.out)).trans K3.out)
        have HW4:=Lib.hid (HW3.out.trans (hb4.mono HW3.out.size))
        clear hb4
        have c2:=y7 nP.out.blk 2 _ rfl
        have XW:=y7 nP.out.blk 3 _ rfl
        have Xa:=y7 nP.out.blk 4 _ rfl
        have Xb:=y7 nP.out.blk 5 _ rfl
        have cb:=K4.out
        cases b8 with
        | false =>
         go_wp2_with fail
         refine (haL _ nP.out).mono ?_;rintro e W5 ⟨rfl,hb5⟩
         clear c2 XW Xa Xb cb
         have nR:=Lib.hid (nP.out.below hb5)
         have K5:=Lib.hid ((hb5.cell (World.block_lt_of_cell? _ _ K4.out)).trans K4.out)
         have Ur:=Lib.hid (HW4.out.trans (hb5.mono HW4.out.size))
         clear hb5
         have c2:=y7 nR.out.blk 2 _ rfl
         have XW:=y7 nR.out.blk 3 _ rfl
         have Xa:=y7 nR.out.blk 4 _ rfl
         have Xb:=y7 nR.out.blk 5 _ rfl
         have cb:=K5.out
         cases b9 with
         | false =>
          obtain rfl:false = R:=by simpa using hR
          clear hR
          go_wp2_with fail
          go_ret
          exact ⟨rfl,Ur.out⟩
         | true =>
          go_wp2_with fail
          refine (hhK _ nR.out).mono ?_;rintro e W6 ⟨rfl,hb6⟩
          clear c2 XW Xa Xb cb
          have nS:=Lib.hid (nR.out.below hb6)
          have K6:=Lib.hid ((hb6.cell (World.block_lt_of_cell? _ _ K5.out)).trans K5.out)
          have QD:=Lib.hid (Ur.out.trans (hb6.mono Ur.out.size))
          clear hb6
          have c2:=y7 nS.out.blk 2 _ rfl
          have XW:=y7 nS.out.blk 3 _ rfl
          have Xa:=y7 nS.out.blk 4 _ rfl
          have Xb:=y7 nS.out.blk 5 _ rfl
          have cb:=K6.out
          cases b10 with
          | false =>
           go_wp2_with fail
           refine (haK _ nS.out).mono ?_;rintro e W7 ⟨rfl,hb7⟩
           clear c2 XW Xa Xb cb
           have HF7:=Lib.hid (nS.out.below hb7)
           have K7:=Lib.hid ((hb7.cell (World.block_lt_of_cell? _ _ K6.out)).trans K6.out)
           have HW7:=Lib.hid (QD.out.trans (hb7.mono QD.out.size))
           clear hb7
           obtain rfl:b11 = R:=by simpa using hR
           clear hR
           go_wp2_with fail
           go_ret
           exact ⟨rfl,HW7.out⟩
          | true =>
           obtain rfl:false = R:=by simpa using hR
           clear hR
           go_wp2_with fail
           go_ret
           exact ⟨rfl,QD.out⟩
        | true =>
         obtain rfl:false = R:=by simpa using hR
         clear hR
         go_wp2_with fail
         go_ret
         exact ⟨rfl,HW4.out⟩
      | true =>
       obtain rfl:false = R:=by simpa using hR
       clear hR
       go_wp2_with fail
       go_ret
       exact ⟨rfl,HW2.out⟩
  | true =>
   obtain rfl:false = R:=by simpa using hR
   clear hR
   go_wp2_with fail
   go_ret
   exact ⟨rfl,HW1.out⟩
def uX.f (zi:ByteArray) (_:Bool) (zQ:Int) (zS:List yP) (yh:List qx) (yt:List qC):Option Bool:=if zS.length ≤ 1000000000 ∧ yh.length ≤ 1000000000 ∧ yt.length ≤ 1000000000 then some (xk zi zQ zS yh yt) else none
theorem uX.calls (zi:ByteArray) (zY:Bool) (zQ:Int) (qc:Option Addr) (qd:Nat) (zS:List yP) (qm:Option Addr) (qo:Nat) (yh:List qx) (qp:Option Addr) (qA:Nat) (yt:List qC) (r:Bool) (w:World) (jU:Kd.C xG w qc zS.length zS) (p8:zS.length ≤ qd) (p9:Kd.C uQ w qm yh.length yh) (Zz:yh.length ≤ qo) (Zq:Kd.C uo w qp yt.length yt) (Zx:yt.length ≤ qA) (hG:GW w) (h:uX.f zi zY zQ zS yh yt = some r) :
  Calls Tryz.prog 39 #[.agg #[.string zi,.bool zY,.int .i64 zQ,.slice qc zS.length qd,.slice qm yh.length qo,.slice qp yt.length qA]] w fun e w'=>e = .returned (.bool r) ∧ Below w.heap.size w w':=by
 unfold uX.f at h
 split at h
 ·rename_i hl
  obtain rfl:=Option.some.inj h
  exact zz8 zi zY zQ qc qd zS qm qo yh qp qA yt p8 Zz Zx hl.1 hl.2.1 hl.2.2 w jU p9 Zq hG
 ·cases h
end Go.Proofs.YtggifbbiiickmaaGreatDoor
namespace Go.Proofs.YtggifbbiiickmaaGreatDoor
open Go.RowKit Go.Proofs.zk.zm Go.Proofs.zk.yc Go.Proofs.YtggifbbiiickmaaGreatDoor.PX
set_option linter.unusedSimpArgs false
set_option linter.unusedVariables false
theorem bX (a b:ByteArray):Op.bytesLess a.toList b.toList = true ↔ a.toList < b.toList:=by rw [Go.Proofs.bytesLess_eq];exact decide_eq_true_iff
theorem VH {a b:ByteArray}:xK a b < 0 ↔ a.toList < b.toList:=by
 rw [← bX]
 unfold xK
 by_cases h1:Op.bytesLess a.toList b.toList = true
 ·simp [h1]
 ·by_cases h2:Op.bytesLess b.toList a.toList = true <;> simp [h1,h2]
theorem Vf {a b:ByteArray}:a.toList = b.toList ↔ a = b:=by
 constructor
 ·intro h
  rw [Lib.toList_data,Lib.toList_data] at h
  exact ByteArray.ext (Array.toList_inj.1 h)
 ·rintro rfl
  rfl
theorem Wp (a:ByteArray):xK a a = 0:=by
 unfold xK
 have h:¬ Op.bytesLess a.toList a.toList = true:=by rw [bX];exact List.lt_irrefl _
 rw [if_neg h,if_neg h]
theorem zz9 {a b:ByteArray}:xK a b = 0 ↔ a = b:=by
 constructor
 ·intro h
  unfold xK at h
  by_cases h1:Op.bytesLess a.toList b.toList = true
  ·rw [if_pos h1] at h;cases h
  ·rw [if_neg h1] at h
   by_cases h2:Op.bytesLess b.toList a.toList = true
   ·rw [if_pos h2] at h;cases h
   ·rw [bX] at h1 h2
    exact Vf.1 (List.le_antisymm (List.not_lt.1 h2) (List.not_lt.1 h1))
 ·rintro rfl
  exact Wp a
theorem VI (l:List yP) (i:Nat) (h:i < l.length):qX l (i:Int) = l[i]:=by simp [qX,List.getD_eq_getElem?_getD,h]
def Asc (l:List yP):Prop:=∀ (i j:Nat) (hi:i < l.length) (hj:j < l.length),i < j → l[i].f0.toList < l[j].f0.toList
theorem zkr {l:List yP} (h:pF (fun i j=>YV (qX l (i:Int)) (qX l (j:Int))) l.length = true):Asc l:=by
 have h1:∀ (i:Nat) (hi:i + 1 < l.length),l[i].f0.toList < l[i + 1].f0.toList:=by
  intro i hi
  have h2:=List.all_eq_true.1 h i (List.mem_range.2 (by omega))
  rw [decide_eq_true_iff] at h2
  have h2:YV (qX l (i:Int)) (qX l ((i + 1:Nat):Int)) < 0:=h2
  rw [VI l i (by omega),VI l (i + 1) hi] at h2
  exact VH.1 h2
 have h3:∀ (d i:Nat) (hi:i + d + 1 < l.length),l[i].f0.toList < l[i + d + 1].f0.toList:=by
  intro d
  induction d with
  | zero=>intro i hi;exact h1 i hi
  | succ d ih=>intro i hi;exact List.lt_trans (ih i (by omega)) (h1 (i + d + 1) hi)
 intro i j hi hj hij
 have h4:=h3 (j - i - 1) i (by omega)
 have e:i + (j - i - 1) + 1 = j:=by omega
 simpa only [e] using h4
theorem zq8 (l:List yP) (n:ByteArray) (ha:Asc l) (i j:Nat) (hij:i ≤ j) (hj:j ≤ l.length) (h1:∀ (m:Nat) (hm:m < l.length),m < i → l[m].f0.toList < n.toList) (h2:∀ (m:Nat) (hm:m < l.length),j ≤ m → ¬ l[m].f0.toList < n.toList) :
  (∀ (m:Nat) (hm:m < l.length),m < YC l n i j → l[m].f0.toList < n.toList) ∧ (∀ (m:Nat) (hm:m < l.length),YC l n i j ≤ m → ¬ l[m].f0.toList < n.toList):=by
 fun_induction YC l n i j with
 | case1 i j hlt hc ih =>
  have hm:(i + j) / 2 < l.length:=by omega
  rw [VI l _ hm,VH] at hc
  refine ih (by omega) hj (fun m hml Va=>?_) h2
  by_cases he:m = (i + j) / 2
  ·subst he;exact hc
  ·exact List.lt_trans (ha m _ hml hm (by omega)) hc
 | case2 i j hlt hc ih =>
  have hm:(i + j) / 2 < l.length:=by omega
  rw [VI l _ hm,VH] at hc
  refine ih (by omega) (by omega) h1 (fun m hml Va hlt'=>?_)
  by_cases he:m = (i + j) / 2
  ·subst he;exact hc hlt'
  ·exact hc (List.lt_trans (ha _ m hm hml (by omega)) hlt')
 | case3 i j hlt =>
  obtain rfl:i = j:=by omega
  exact ⟨h1,h2⟩
theorem zvp (l:List yP) (ha:Asc l) (m:Nat) (hm:m < l.length):pU l l[m].f0 = ((m:Int),true):=by
 obtain ⟨h1,h2⟩:=zq8 l l[m].f0 ha 0 l.length (Nat.zero_le _) (Nat.le_refl _) (fun m _ h=>absurd h (Nat.not_lt_zero _)) (fun m hm h=>absurd hm (by omega))
 have e:YC l l[m].f0 0 l.length = m:=by
  rcases Nat.lt_trichotomy (YC l l[m].f0 0 l.length) m with h | h | h
  ·exact absurd (ha _ m (by omega) hm h) (h2 _ (by omega) (Nat.le_refl _))
  ·exact h
  ·exact absurd (h1 m hm h) (List.lt_irrefl _)
 unfold pU
 simp only [e,decide_eq_true hm,Bool.true_and,VI l m hm]
 rw [Wp]
 rfl
theorem zvr (l:List yP) (n:ByteArray) (h:∀ x ∈ l,x.f0 ≠ n):(pU l n).2 = false:=by
 unfold pU
 simp only
 by_cases hi:YC l n 0 l.length < l.length
 ·rw [VI l _ hi]
  have:¬ xK l[YC l n 0 l.length].f0 n = 0:=fun e=>h _ (List.getElem_mem hi) (zz9.1 e)
  rw [decide_eq_false this,Bool.and_false]
 ·rw [decide_eq_false hi,Bool.false_and]
end Go.Proofs.YtggifbbiiickmaaGreatDoor
namespace Go.Proofs.YtggifbbiiickmaaGreatDoor
open Go.RowKit Go.Shelf Go.Proofs.zk.zm Go.Proofs.zk.yK Go.Proofs.zk.yc Go.Proofs.YtggifbbiiickmaaGreatDoor.PX
set_option linter.unusedSimpArgs false
set_option linter.unusedVariables false
set_option maxRecDepth 100000 in
theorem zqz (B:Nat) (n:ByteArray) (w:World) (hB:w.cell? ⟨B,0,none⟩ = some (.string n)) :
  PredBelow Tryz.prog 160 #[.pointer (some ⟨B,0,none⟩)] (fun x=>.agg (jP x).toArray) (fun x:yP=>x.f0.toList == n.toList) w:=fun W x hb=>by
 have hl:=World.block_lt_of_cell? w _ hB
 have hlW:B < W.heap.size:=Nat.lt_of_lt_of_le hl hb.size
 have hc:(W.alloc (.cells #[.string x.f0,.int .i64 x.f1] 105)).cell? ⟨B,0,none⟩ = some (.string n):=(World.cell?_alloc_lt _ _ _ hlW).trans ((hb.cell hl).trans hB)
 have hb0:Below w.heap.size w (W.alloc (.cells #[.string x.f0,.int .i64 x.f1] 105)):=hb.alloc hb.size _
 show Calls Tryz.prog 160 #[.agg #[.string x.f0,.int .i64 x.f1],.pointer (some ⟨B,0,none⟩)] W _
 clear hb hB hl
 go_enter Tryz.func160,Tryz.ntmps160
 go_wp2
 go_ret
 exact ⟨by first | rfl | (simp;done),hb0⟩
def Xu (l:List yP) (n:ByteArray):Bool:=l.any fun x=>x.f0.toList == n.toList
def ZM.f (_:ByteArray) (_:Bool) (_:Int) (zS:List yP) (_:List qx) (_:List qC) (a1:ByteArray):Option Bool:=if zS.length ≤ 1000000000 then some (Xu zS a1) else none
theorem ZM.calls (zi:ByteArray) (zY:Bool) (zQ:Int) (qc:Option Addr) (qd:Nat) (zS:List yP) (qm:Option Addr) (qo:Nat) (yh:List qx) (qp:Option Addr) (qA:Nat) (yt:List qC) (a1:ByteArray) (r:Bool) (w:World) (jU:Kd.C xG w qc zS.length zS) (_:zS.length ≤ qd) (_:Kd.C uQ w qm yh.length yh) (_:yh.length ≤ qo) (_:Kd.C uo w qp yt.length yt) (_:yt.length ≤ qA) (_:GW w) (h:ZM.f zi zY zQ zS yh yt a1 = some r) :
  Calls Tryz.prog 135 #[.agg #[.string zi,.bool zY,.int .i64 zQ,.slice qc zS.length qd,.slice qm yh.length qo,.slice qp yt.length qA],.string a1] w fun e w'=>e = .returned (.bool r) ∧ Below w.heap.size w w':=by
 unfold ZM.f at h
 split at h
 ·rename_i hl
  obtain rfl:=Option.some.inj h
  have hb0:Below w.heap.size w ((w.alloc (.cells #[.string zi,.bool zY,.int .i64 zQ,.slice qc zS.length qd,.slice qm yh.length qo,.slice qp yt.length qA] 60)).alloc (.cells #[.string a1] 9)):=((Below.refl _ w).alloc (Nat.le_refl _) _).alloc (by simp) _
  have hcell:((w.alloc (.cells #[.string zi,.bool zY,.int .i64 zQ,.slice qc zS.length qd,.slice qm yh.length qo,.slice qp yt.length qA] 60)).alloc (.cells #[.string a1] 9)).cell? ⟨w.heap.size + 1,0,none⟩ = some (.string a1):=by simp
  have hs:=bq qc qd zS _ (Kd.zH jU hb0) hl (fun x=>x.f0.toList == a1.toList) 160 #[.pointer (some ⟨w.heap.size + 1,0,none⟩)] (kF Tryz.func160 (by kernel_rfl) rfl) (zqz (w.heap.size + 1) a1 _ hcell)
  unfold Xu
  generalize (zS.any fun x=>x.f0.toList == a1.toList) = R at hs ⊢
  clear hcell jU hl h
  go_enter Tryz.func135,Tryz.ntmps135
  go_wp2_with fail
  refine hs.mono ?_;rintro e w2 ⟨rfl,hb2⟩
  go_wp2
  go_ret
  exact ⟨rfl,hb0.trans (hb2.mono hb0.size)⟩
 ·cases h
end Go.Proofs.YtggifbbiiickmaaGreatDoor
namespace Go.Proofs.YtggifbbiiickmaaGreatDoor.PX
open Go.RowKit Go.Proofs.zk.zm Go.Proofs.zk.yK Go.Proofs.zk.yc
attribute [local go_sem] uf ug jW jc vL vM uh um   -- for this text's walks alone
set_option linter.unusedVariables false
set_option linter.unusedSimpArgs false
def uH.f (zi:ByteArray) (zY:Bool) (zQ:Int) (zS:List (yP)) (yh:List (qx)) (yt:List (qC)) (a1:Int):Option (Bool):=if a1 ≥ 1 then (if a1 ≤ 1000 then ((uX.f zi zY zQ zS yh yt).bind fun Jc=>(some Jc)) else (some false)) else (some false)
set_option maxHeartbeats 8000000 in
set_option maxRecDepth 100000 in
theorem uH.calls (zi:ByteArray) (zY:Bool) (zQ:Int) (qc:Option Addr) (qd:Nat) (zS:List (yP)) (qm:Option Addr) (qo:Nat) (yh:List (qx)) (qp:Option Addr) (qA:Nat) (yt:List (qC)) (a1:Int) (r:Bool) (w:World) (jU:Kd.C xG w qc zS.length zS) (p8:zS.length ≤ qd) (p9:Kd.C uQ w qm yh.length yh) (Zz:yh.length ≤ qo) (Zq:Kd.C uo w qp yt.length yt) (Zx:yt.length ≤ qA) (hG:GW w) (h:uH.f zi zY zQ zS yh yt a1 = some r) :
  Calls Tryz.prog 62 #[.agg #[.string zi,.bool zY,.int .i64 zQ,.slice qc zS.length qd,.slice qm yh.length qo,.slice qp yt.length qA],.int .i64 a1] w fun e w'=>e = .returned (.bool r) ∧ Below w.heap.size w w':=by
 have zq1:=Tryz.underlying60
 have HG:=zx.mk hG
 clear hG
 have pq:=zx.mk jU
 have Zj:=zx.mk p8
 clear jU p8
 have Zv:=zx.mk p9
 have Zk:=zx.mk Zz
 clear p9 Zz
 have Zy:=zx.mk Zq
 have Zw:=zx.mk Zx
 clear Zq Zx
 have HB:=zx.mk (Below.refl w.heap.size w)
 have H:(if a1 ≥ 1 then (if a1 ≤ 1000 then ((uX.f zi zY zQ zS yh yt).bind fun Jc=>(some Jc)) else (some false)) else (some false)) = some r:=h
 clear h
 by_cases c3:a1 ≥ 1
 ·rw [if_pos c3] at H
  have Xp:decide (1 ≤ a1) = true:=decide_eq_true c3
  clear c3
  by_cases c4:a1 ≤ 1000
  ·rw [if_pos c4] at H
   have Xr:decide (a1 ≤ 1000) = true:=decide_eq_true c4
   clear c4
   replace H:=Option.bind_eq_some_iff.mp H
   obtain ⟨Jc,A50,H⟩:=H
   replace H:(some Jc) = some r:=H
   have A5:=zx.mk A50
   clear A50
   obtain rfl:=Option.some.inj H
   go_enter Tryz.func62,Tryz.ntmps62
   go_wp2_with (first | ((with_reducible refine y9 (N:=2) rfl ?_);refine qQ ?hg (N:=2) ?hd (cs:=#[.string zi,.bool zY,.int .i64 zQ,.slice qc zS.length qd,.slice qm yh.length qo,.slice qp yt.length qA]) (t:=60) ?hr ?_;(case hd=>rfl);(case hg=>rfl);(case hr=>first | (go_simp;done) | (go_simp;rfl));intro wM hg w6 qj hb;have zJ:=zx.mk (zn (zB HB.out) hb);have za:=zx.mk (qj);have zh:=zx.mk ((by rw [hg];exact (zf (zB HB.out)):w.heap.size ≤ wM));have zo:=zx.mk ((by rw [hg];exact (zf (zB HB.out)):w.heap.size ≤ wM));clear HB;have HB:=zJ;have kH:=za;have zjt:=zh;have Us:=zo;clear zJ za zh zo;clear hb qj hg;have zks:w6.cell? ⟨wM,0,none⟩ = some (.string zi):=ze kH 0;have zkt:w6.cell? ⟨wM,1,none⟩ = some (.bool zY):=ze kH 1;have zku:w6.cell? ⟨wM,2,none⟩ = some (.int .i64 zQ):=ze kH 2;have zkA:w6.cell? ⟨wM,3,none⟩ = some (.slice qc zS.length qd):=ze kH 3;have zkB:w6.cell? ⟨wM,4,none⟩ = some (.slice qm yh.length qo):=ze kH 4;have zkC:w6.cell? ⟨wM,5,none⟩ = some (.slice qp yt.length qA):=ze kH 5;have zkD:=zy kH.out 0;have zkE:=zy kH.out 1;have zkF:=zy kH.out 2;have zkG:=zy kH.out 3;have zkH:=zy kH.out 4;have zkI:=zy kH.out 5) | (go_at_call 39;(with_reducible refine (uX.calls zi zY zQ _ _ zS _ _ yh _ _ yt Jc _ ?yX ?qy ?qw ?qZ ?qh ?qO ?qP A5.out).mono ?_);(case yX=>exact q8 (Kd.zH pq.out HB.out));(case qy=>exact Zj.out);(case qw=>exact q8 (Kd.zH Zv.out HB.out));(case qZ=>exact Zk.out);(case qh=>exact q8 (Kd.zH Zy.out HB.out));(case qO=>exact Zw.out);(case qP=>exact GW.under HG.out (zB HB.out));rintro e w8 ⟨rfl,hb⟩;have zJ:=zx.mk (zW (g:=wM) (o:=.cells #[.string zi,.bool zY,.int .i64 zQ,.slice qc zS.length qd,.slice qm yh.length qo,.slice qp yt.length qA] 60 (0,0)) (yL kH.out) hb);have za:=zx.mk (zn (zB HB.out) hb);clear kH;clear HB;have kH:=zJ;have HB:=za;clear zJ za;(try clear hb);(try clear hi)))
   go_ret
   exact ⟨by first | rfl | (simp [yw,yZ] <;> rfl) | (simp [*,yw,yZ] <;> rfl),by repeat (first | (with_reducible first | exact HB.out | apply yI | apply yg | apply yj | refine qB ?_ Us.out) | exact HB.out)⟩
  ·rw [if_neg c4] at H
   have Xr:decide (a1 ≤ 1000) = false:=decide_eq_false c4
   clear c4
   obtain rfl:=Option.some.inj H
   go_enter Tryz.func62,Tryz.ntmps62
   go_wp2_with (first | ((with_reducible refine y9 (N:=2) rfl ?_);refine qQ ?hg (N:=2) ?hd (cs:=#[.string zi,.bool zY,.int .i64 zQ,.slice qc zS.length qd,.slice qm yh.length qo,.slice qp yt.length qA]) (t:=60) ?hr ?_;(case hd=>rfl);(case hg=>rfl);(case hr=>first | (go_simp;done) | (go_simp;rfl));intro wM hg w9 qj hb;have zJ:=zx.mk (zn (zB HB.out) hb);have za:=zx.mk (qj);have zh:=zx.mk ((by rw [hg];exact (zf (zB HB.out)):w.heap.size ≤ wM));have zo:=zx.mk ((by rw [hg];exact (zf (zB HB.out)):w.heap.size ≤ wM));clear HB;have HB:=zJ;have kH:=za;have zjt:=zh;have Us:=zo;clear zJ za zh zo;clear hb qj hg))
   go_ret
   exact ⟨by first | rfl | (simp [yw,yZ] <;> rfl) | (simp [*,yw,yZ] <;> rfl),by repeat (first | (with_reducible first | exact HB.out | apply yI | apply yg | apply yj | refine qB ?_ Us.out) | exact HB.out)⟩
 ·rw [if_neg c3] at H
  have Xp:decide (1 ≤ a1) = false:=decide_eq_false c3
  clear c3
  obtain rfl:=Option.some.inj H
  go_enter Tryz.func62,Tryz.ntmps62
  go_wp2_with (first | ((with_reducible refine y9 (N:=2) rfl ?_);refine qQ ?hg (N:=2) ?hd (cs:=#[.string zi,.bool zY,.int .i64 zQ,.slice qc zS.length qd,.slice qm yh.length qo,.slice qp yt.length qA]) (t:=60) ?hr ?_;(case hd=>rfl);(case hg=>rfl);(case hr=>first | (go_simp;done) | (go_simp;rfl));intro wM hg YD qj hb;have zJ:=zx.mk (zn (zB HB.out) hb);have za:=zx.mk (qj);have zh:=zx.mk ((by rw [hg];exact (zf (zB HB.out)):w.heap.size ≤ wM));have zo:=zx.mk ((by rw [hg];exact (zf (zB HB.out)):w.heap.size ≤ wM));clear HB;have HB:=zJ;have kH:=za;have zjt:=zh;have Us:=zo;clear zJ za zh zo;clear hb qj hg))
  go_ret
  exact ⟨by first | rfl | (simp [yw,yZ] <;> rfl) | (simp [*,yw,yZ] <;> rfl),by repeat (first | (with_reducible first | exact HB.out | apply yI | apply yg | apply yj | refine qB ?_ Us.out) | exact HB.out)⟩
def ZQ.f (a0:Int) (a1:Int):Option (Int):=if a0 < 0 then (if a1 = 0 then (none) else (some (wrap64 (-(wrap64 (Int.tdiv (wrap64 ((wrap64 ((wrap64 (-a0)) + a1)) - 1)) a1)))))) else (if a1 = 0 then (none) else (some (wrap64 (Int.tdiv a0 a1))))
set_option maxHeartbeats 8000000 in
set_option maxRecDepth 100000 in
theorem ZQ.calls (a0:Int) (a1:Int) (r:Int) (w:World) (h:ZQ.f a0 a1 = some r) :
  Calls Tryz.prog 117 #[.int .i64 a0,.int .i64 a1] w fun e w'=>e = .returned (.int .i64 r) ∧ qg w w':=by
 have H:(if a0 < 0 then (if a1 = 0 then (none) else (some (wrap64 (-(wrap64 (Int.tdiv (wrap64 ((wrap64 ((wrap64 (-a0)) + a1)) - 1)) a1)))))) else (if a1 = 0 then (none) else (some (wrap64 (Int.tdiv a0 a1))))) = some r:=h
 clear h
 by_cases c3:a0 < 0
 ·rw [if_pos c3] at H
  have Xp:decide (a0 < 0) = true:=decide_eq_true c3
  clear c3
  by_cases c4:a1 = 0
  ·rw [if_pos c4] at H
   exact absurd H (by simp)
  ·rw [if_neg c4] at H
   have Xr:(a1 == 0) = false:=beq_eq_false_iff_ne.mpr c4
   have zq9:(a1 != 0) = true:=bne_iff_ne.mpr c4
   obtain rfl:=Option.some.inj H
   go_enter Tryz.func117,Tryz.ntmps117
   go_wp2
   go_ret
   exact ⟨by first | rfl | (simp;done) | (simp [*];done),by repeat (first | exact qg.refl _ | apply qg.step)⟩
 ·rw [if_neg c3] at H
  have Xp:decide (a0 < 0) = false:=decide_eq_false c3
  clear c3
  by_cases c5:a1 = 0
  ·rw [if_pos c5] at H
   exact absurd H (by simp)
  ·rw [if_neg c5] at H
   have Vt:(a1 == 0) = false:=beq_eq_false_iff_ne.mpr c5
   have P6:(a1 != 0) = true:=bne_iff_ne.mpr c5
   obtain rfl:=Option.some.inj H
   go_enter Tryz.func117,Tryz.ntmps117
   go_wp2
   go_ret
   exact ⟨by first | rfl | (simp;done) | (simp [*];done),by repeat (first | exact qg.refl _ | apply qg.step)⟩
def xR.f (a0:Int) (a1:Int):Option (Int):=(ZQ.f (wrap64 ((wrap64 (10 * a1)) * a0)) 1000).bind fun Jd=>(some Jd)
set_option maxHeartbeats 8000000 in
set_option maxRecDepth 100000 in
theorem xR.calls (a0:Int) (a1:Int) (r:Int) (w:World) (h:xR.f a0 a1 = some r) :
  Calls Tryz.prog 63 #[.int .i64 a0,.int .i64 a1] w fun e w'=>e = .returned (.int .i64 r) ∧ qg w w':=by
 have H:((ZQ.f (wrap64 ((wrap64 (10 * a1)) * a0)) 1000).bind fun Jd=>(some Jd)) = some r:=h
 clear h
 replace H:=Option.bind_eq_some_iff.mp H
 obtain ⟨Jd,QA,H⟩:=H
 replace H:(some Jd) = some r:=H
 have A3:=zx.mk QA
 clear QA
 obtain rfl:=Option.some.inj H
 go_enter Tryz.func63,Tryz.ntmps63
 go_wp2_with (first | ((with_reducible refine yu (f:=117) rfl ?_);refine jq (some 9) Tryz.func117 #[.int .i64 (wrap64 ((wrap64 (10 * a1)) * a0)),.int .i64 1000] ?_;(with_reducible refine (ZQ.calls (wrap64 ((wrap64 (10 * a1)) * a0)) 1000 Jd _ A3.out).mono ?_);rintro e w' ⟨rfl,⟨nd,rfl⟩⟩;refine ⟨_,rfl,?_⟩))
 go_ret
 exact ⟨by first | rfl | (simp;done) | (simp [*];done),by repeat (first | exact qg.refl _ | apply qg.step)⟩
end Go.Proofs.YtggifbbiiickmaaGreatDoor.PX
namespace Go.Proofs.YtggifbbiiickmaaGreatDoor.PX
open Go.RowKit Go.Proofs.zk.zm Go.Proofs.zk.yK Go.Proofs.zk.yc
attribute [local go_sem] uf ug jW jc vL vM uh um   -- for this text's walks alone
set_option linter.unusedVariables false
set_option linter.unusedSimpArgs false
def ZX.f (zi:ByteArray) (zY:Bool) (zQ:Int) (zS:List (yP)) (yh:List (qx)) (yt:List (qC)) (a1:ByteArray) (a2:Int):Option (Int × Int):=(uH.f zi zY zQ zS yh yt a2).bind fun Je=>(if Je = true then ((uG.f zi zY zQ zS yh yt a1).bind fun j6=>(if j6.2 = true then (if 0 ≤ j6.1 then (if j6.1 < (zS.length:Int) then ((xR.f ((qX zS j6.1).f1) a2).bind fun Z8=>(some (Z8,0))) else (none)) else (none)) else (some (0,3)))) else (some (0,1)))
set_option maxHeartbeats 8000000 in
set_option maxRecDepth 100000 in
theorem ZX.calls (zi:ByteArray) (zY:Bool) (zQ:Int) (qc:Option Addr) (qd:Nat) (zS:List (yP)) (qm:Option Addr) (qo:Nat) (yh:List (qx)) (qp:Option Addr) (qA:Nat) (yt:List (qC)) (a1:ByteArray) (a2:Int) (r1:Int) (r2:Int) (w:World) (jU:Kd.C xG w qc zS.length zS) (p8:zS.length ≤ qd) (p9:Kd.C uQ w qm yh.length yh) (Zz:yh.length ≤ qo) (Zq:Kd.C uo w qp yt.length yt) (Zx:yt.length ≤ qA) (hG:GW w) (h:ZX.f zi zY zQ zS yh yt a1 a2 = some (r1,r2)) :
  Calls Tryz.prog 22 #[.agg #[.string zi,.bool zY,.int .i64 zQ,.slice qc zS.length qd,.slice qm yh.length qo,.slice qp yt.length qA],.string a1,.int .i64 a2] w fun e w'=>e = .returned (.tuple #[.int .i64 r1,.int .i64 r2]) ∧ Below w.heap.size w w':=by
 have zq1:=Tryz.underlying60
 have HG:=zx.mk hG
 clear hG
 have pq:=zx.mk jU
 have Zj:=zx.mk p8
 clear jU p8
 have Zv:=zx.mk p9
 have Zk:=zx.mk Zz
 clear p9 Zz
 have Zy:=zx.mk Zq
 have Zw:=zx.mk Zx
 clear Zq Zx
 have HB:=zx.mk (Below.refl w.heap.size w)
 have H:((uH.f zi zY zQ zS yh yt a2).bind fun Je=>(if Je = true then ((uG.f zi zY zQ zS yh yt a1).bind fun j6=>(if j6.2 = true then (if 0 ≤ j6.1 then (if j6.1 < (zS.length:Int) then ((xR.f ((qX zS j6.1).f1) a2).bind fun Z8=>(some (Z8,0))) else (none)) else (none)) else (some (0,3)))) else (some (0,1)))) = some (r1,r2):=h
 clear h
 replace H:=Option.bind_eq_some_iff.mp H
 obtain ⟨Je,A40,H⟩:=H
 replace H:(if Je = true then ((uG.f zi zY zQ zS yh yt a1).bind fun j6=>(if j6.2 = true then (if 0 ≤ j6.1 then (if j6.1 < (zS.length:Int) then ((xR.f ((qX zS j6.1).f1) a2).bind fun Z8=>(some (Z8,0))) else (none)) else (none)) else (some (0,3)))) else (some (0,1))) = some (r1,r2):=H
 have A4:=zx.mk A40
 clear A40
 by_cases c5:Je = true
 ·subst c5
  have H1:((uG.f zi zY zQ zS yh yt a1).bind fun j6=>(if j6.2 = true then (if 0 ≤ j6.1 then (if j6.1 < (zS.length:Int) then ((xR.f ((qX zS j6.1).f1) a2).bind fun Z8=>(some (Z8,0))) else (none)) else (none)) else (some (0,3)))) = some (r1,r2):=by rw [if_pos rfl] at H;exact H
  clear H
  have H:=H1
  clear H1
  replace H:=Option.bind_eq_some_iff.mp H
  obtain ⟨⟨pG,zkL⟩,A60,H⟩:=H
  replace H:(if zkL = true then (if 0 ≤ pG then (if pG < (zS.length:Int) then ((xR.f ((qX zS pG).f1) a2).bind fun Z8=>(some (Z8,0))) else (none)) else (none)) else (some (0,3))) = some (r1,r2):=H
  have A6:=zx.mk A60
  clear A60
  by_cases c7:zkL = true
  ·subst c7
   have H1:(if 0 ≤ pG then (if pG < (zS.length:Int) then ((xR.f ((qX zS pG).f1) a2).bind fun Z8=>(some (Z8,0))) else (none)) else (none)) = some (r1,r2):=by rw [if_pos rfl] at H;exact H
   clear H
   have H:=H1
   clear H1
   by_cases c8:0 ≤ pG
   ·rw [if_pos c8] at H
    have JW:decide (0 ≤ pG) = true:=decide_eq_true c8
    clear c8
    by_cases c9:pG < (zS.length:Int)
    ·rw [if_pos c9] at H
     have Ja:decide (pG < (zS.length:Int)) = true:=decide_eq_true c9
     clear c9
     replace H:=Option.bind_eq_some_iff.mp H
     obtain ⟨Z8,zkM,H⟩:=H
     replace H:(some (Z8,0)) = some (r1,r2):=H
     have A10:=zx.mk zkM
     clear zkM
     simp only [Option.some.injEq,Prod.mk.injEq] at H
     obtain ⟨rfl,rfl⟩:=H
     go_enter Tryz.func22,Tryz.ntmps22
     go_wp2_with (first | ((with_reducible refine y9 (N:=3) rfl ?_);refine qQ ?hg (N:=3) ?hd (cs:=#[.string zi,.bool zY,.int .i64 zQ,.slice qc zS.length qd,.slice qm yh.length qo,.slice qp yt.length qA]) (t:=60) ?hr ?_;(case hd=>rfl);(case hg=>rfl);(case hr=>first | (go_simp;done) | (go_simp;rfl));intro qI hg Ut qj hb;have zJ:=zx.mk (zn (zB HB.out) hb);have za:=zx.mk (qj);have zh:=zx.mk ((by rw [hg];exact (zf (zB HB.out)):w.heap.size ≤ qI));have zo:=zx.mk ((by rw [hg];exact (zf (zB HB.out)):w.heap.size ≤ qI));clear HB;have HB:=zJ;have yB:=za;have zju:=zh;have Uu:=zo;clear zJ za zh zo;clear hb qj hg;have zX1:Ut.cell? ⟨qI,0,none⟩ = some (.string zi):=ze yB 0;have zX2:Ut.cell? ⟨qI,1,none⟩ = some (.bool zY):=ze yB 1;have zX3:Ut.cell? ⟨qI,2,none⟩ = some (.int .i64 zQ):=ze yB 2;have zX4:Ut.cell? ⟨qI,3,none⟩ = some (.slice qc zS.length qd):=ze yB 3;have zX5:Ut.cell? ⟨qI,4,none⟩ = some (.slice qm yh.length qo):=ze yB 4;have zX6:Ut.cell? ⟨qI,5,none⟩ = some (.slice qp yt.length qA):=ze yB 5;have zX7:=zy yB.out 0;have zX8:=zy yB.out 1;have zX9:=zy yB.out 2;have zJz:=zy yB.out 3;have zJq:=zy yB.out 4;have zJx:=zy yB.out 5) | ((with_reducible refine yu (f:=62) rfl ?_);refine jq (some 12) Tryz.func62 #[.agg #[.string zi,.bool zY,.int .i64 zQ,.slice qc zS.length qd,.slice qm yh.length qo,.slice qp yt.length qA],.int .i64 a2] ?_;(with_reducible refine (uH.calls zi zY zQ _ _ zS _ _ yh _ _ yt a2 true _ ?yX ?qy ?qw ?qZ ?qh ?qO ?qP A4.out).mono ?_);(case yX=>exact q8 (Kd.zH pq.out HB.out));(case qy=>exact Zj.out);(case qw=>exact q8 (Kd.zH Zv.out HB.out));(case qZ=>exact Zk.out);(case qh=>exact q8 (Kd.zH Zy.out HB.out));(case qO=>exact Zw.out);(case qP=>exact GW.under HG.out (zB HB.out));rintro e bJ ⟨rfl,hb⟩;refine ⟨_,rfl,?_⟩;have zJ:=zx.mk (zW (g:=qI) (o:=.cells #[.string zi,.bool zY,.int .i64 zQ,.slice qc zS.length qd,.slice qm yh.length qo,.slice qp yt.length qA] 60 (0,0)) (yL yB.out) hb);have za:=zx.mk (zn (zB HB.out) hb);clear yB;clear HB;have yB:=zJ;have HB:=za;clear zJ za;(try clear hb);have Jf:bJ.cell? ⟨qI,0,none⟩ = some (.string zi):=ze yB 0;have Jg:bJ.cell? ⟨qI,1,none⟩ = some (.bool zY):=ze yB 1;have Jh:bJ.cell? ⟨qI,2,none⟩ = some (.int .i64 zQ):=ze yB 2;have Ji:bJ.cell? ⟨qI,3,none⟩ = some (.slice qc zS.length qd):=ze yB 3;have Jl:bJ.cell? ⟨qI,4,none⟩ = some (.slice qm yh.length qo):=ze yB 4;have Jm:bJ.cell? ⟨qI,5,none⟩ = some (.slice qp yt.length qA):=ze yB 5;have Jo:=zy yB.out 0;have Jp:=zy yB.out 1;have Jr:=zy yB.out 2;have Js:=zy yB.out 3;have Jt:=zy yB.out 4;have Ju:=zy yB.out 5) | ((with_reducible refine yu (f:=64) rfl ?_);refine jq (some 17) Tryz.func64 #[.agg #[.string zi,.bool zY,.int .i64 zQ,.slice qc zS.length qd,.slice qm yh.length qo,.slice qp yt.length qA],.string a1] ?_;(with_reducible refine (uG.calls zi zY zQ _ _ zS _ _ yh _ _ yt a1 pG true _ ?yX ?qy ?qw ?qZ ?qh ?qO ?qP A6.out).mono ?_);(case yX=>exact q8 (Kd.zH pq.out HB.out));(case qy=>exact Zj.out);(case qw=>exact q8 (Kd.zH Zv.out HB.out));(case qZ=>exact Zk.out);(case qh=>exact q8 (Kd.zH Zy.out HB.out));(case qO=>exact Zw.out);(case qP=>exact GW.under HG.out (zB HB.out));rintro e Y7 ⟨rfl,hb⟩;refine ⟨_,rfl,?_⟩;have zJ:=zx.mk (zW (g:=qI) (o:=.cells #[.string zi,.bool zY,.int .i64 zQ,.slice qc zS.length qd,.slice qm yh.length qo,.slice qp yt.length qA] 60 (0,0)) (yL yB.out) hb);have za:=zx.mk (zn (zB HB.out) hb);clear yB;clear HB;have yB:=zJ;have HB:=za;clear zJ za;(try clear hb);have JA:Y7.cell? ⟨qI,0,none⟩ = some (.string zi):=ze yB 0;have JB:Y7.cell? ⟨qI,1,none⟩ = some (.bool zY):=ze yB 1;have JC:Y7.cell? ⟨qI,2,none⟩ = some (.int .i64 zQ):=ze yB 2;have JD:Y7.cell? ⟨qI,3,none⟩ = some (.slice qc zS.length qd):=ze yB 3;have JE:Y7.cell? ⟨qI,4,none⟩ = some (.slice qm yh.length qo):=ze yB 4;have JF:Y7.cell? ⟨qI,5,none⟩ = some (.slice qp yt.length qA):=ze yB 5;have JG:=zy yB.out 0;have JH:=zy yB.out 1;have JI:=zy yB.out 2;have JL:=zy yB.out 3;have JM:=zy yB.out 4;have JN:=zy yB.out 5;have zxz:0 ≤ (pG:Int):=of_decide_eq_true kR;have zxq:pG < (zS.length:Int):=of_decide_eq_true kR;obtain ⟨zKY,zZI,JO,JR⟩:=XM pq.out pG zxz zxq;cases zZI;replace JO:=(HB.out.cell (World.block_lt_of_cell? w _ JO)).trans JO;replace JR:=(HB.out.cell (World.block_lt_of_cell? w _ JR)).trans JR;replace zxz:=eq_true zxz;replace zxq:=eq_true zxq) | ((with_reducible refine yu (f:=63) rfl ?_);refine jq (some 29) Tryz.func63 #[.int .i64 ((qX zS pG).f1),.int .i64 a2] ?_;(with_reducible refine (xR.calls ((qX zS pG).f1) a2 Z8 _ A10.out).mono ?_);rintro e w' ⟨rfl,⟨nd,rfl⟩⟩;refine ⟨_,rfl,?_⟩))
     go_ret2
     exact ⟨by first | rfl | (simp [yw,yZ] <;> rfl) | (simp [*,yw,yZ] <;> rfl),by repeat (first | (with_reducible first | exact HB.out | apply yI | apply yg | apply yj | refine qB ?_ Uu.out) | exact HB.out)⟩
    ·rw [if_neg c9] at H
     exact absurd H (by simp)
   ·rw [if_neg c8] at H
    exact absurd H (by simp)
  ·replace c7:=Bool.eq_false_iff.mpr c7
   subst c7
   have H1:(some (0,3)) = some (r1,r2):=by rw [if_neg (show ¬ (false = true) by decide)] at H;exact H
   clear H
   have H:=H1
   clear H1
   simp only [Option.some.injEq,Prod.mk.injEq] at H
   obtain ⟨rfl,rfl⟩:=H
   go_enter Tryz.func22,Tryz.ntmps22
   go_wp2_with (first | ((with_reducible refine y9 (N:=3) rfl ?_);refine qQ ?hg (N:=3) ?hd (cs:=#[.string zi,.bool zY,.int .i64 zQ,.slice qc zS.length qd,.slice qm yh.length qo,.slice qp yt.length qA]) (t:=60) ?hr ?_;(case hd=>rfl);(case hg=>rfl);(case hr=>first | (go_simp;done) | (go_simp;rfl));intro qI hg Vg qj hb;have zJ:=zx.mk (zn (zB HB.out) hb);have za:=zx.mk (qj);have zh:=zx.mk ((by rw [hg];exact (zf (zB HB.out)):w.heap.size ≤ qI));have zo:=zx.mk ((by rw [hg];exact (zf (zB HB.out)):w.heap.size ≤ qI));clear HB;have HB:=zJ;have yB:=za;have zju:=zh;have Uu:=zo;clear zJ za zh zo;clear hb qj hg;have zJj:Vg.cell? ⟨qI,0,none⟩ = some (.string zi):=ze yB 0;have zJv:Vg.cell? ⟨qI,1,none⟩ = some (.bool zY):=ze yB 1;have zJk:Vg.cell? ⟨qI,2,none⟩ = some (.int .i64 zQ):=ze yB 2;have zJy:Vg.cell? ⟨qI,3,none⟩ = some (.slice qc zS.length qd):=ze yB 3;have zJw:Vg.cell? ⟨qI,4,none⟩ = some (.slice qm yh.length qo):=ze yB 4;have zJZ:Vg.cell? ⟨qI,5,none⟩ = some (.slice qp yt.length qA):=ze yB 5;have zJQ:=zy yB.out 0;have zJX:=zy yB.out 1;have zJJ:=zy yB.out 2;have zJV:=zy yB.out 3;have zJK:=zy yB.out 4;have zJY:=zy yB.out 5) | ((with_reducible refine yu (f:=62) rfl ?_);refine jq (some 12) Tryz.func62 #[.agg #[.string zi,.bool zY,.int .i64 zQ,.slice qc zS.length qd,.slice qm yh.length qo,.slice qp yt.length qA],.int .i64 a2] ?_;(with_reducible refine (uH.calls zi zY zQ _ _ zS _ _ yh _ _ yt a2 true _ ?yX ?qy ?qw ?qZ ?qh ?qO ?qP A4.out).mono ?_);(case yX=>exact q8 (Kd.zH pq.out HB.out));(case qy=>exact Zj.out);(case qw=>exact q8 (Kd.zH Zv.out HB.out));(case qZ=>exact Zk.out);(case qh=>exact q8 (Kd.zH Zy.out HB.out));(case qO=>exact Zw.out);(case qP=>exact GW.under HG.out (zB HB.out));rintro e Ws ⟨rfl,hb⟩;refine ⟨_,rfl,?_⟩;have zJ:=zx.mk (zW (g:=qI) (o:=.cells #[.string zi,.bool zY,.int .i64 zQ,.slice qc zS.length qd,.slice qm yh.length qo,.slice qp yt.length qA] 60 (0,0)) (yL yB.out) hb);have za:=zx.mk (zn (zB HB.out) hb);clear yB;clear HB;have yB:=zJ;have HB:=za;clear zJ za;(try clear hb);have JU:Ws.cell? ⟨qI,0,none⟩ = some (.string zi):=ze yB 0;have J2:Ws.cell? ⟨qI,1,none⟩ = some (.bool zY):=ze yB 1;have J3:Ws.cell? ⟨qI,2,none⟩ = some (.int .i64 zQ):=ze yB 2;have J4:Ws.cell? ⟨qI,3,none⟩ = some (.slice qc zS.length qd):=ze yB 3;have J5:Ws.cell? ⟨qI,4,none⟩ = some (.slice qm yh.length qo):=ze yB 4;have J6:Ws.cell? ⟨qI,5,none⟩ = some (.slice qp yt.length qA):=ze yB 5;have J7:=zy yB.out 0;have J8:=zy yB.out 1;have J9:=zy yB.out 2;have Kz:=zy yB.out 3;have Kq:=zy yB.out 4;have Kj:=zy yB.out 5) | ((with_reducible refine yu (f:=64) rfl ?_);refine jq (some 17) Tryz.func64 #[.agg #[.string zi,.bool zY,.int .i64 zQ,.slice qc zS.length qd,.slice qm yh.length qo,.slice qp yt.length qA],.string a1] ?_;(with_reducible refine (uG.calls zi zY zQ _ _ zS _ _ yh _ _ yt a1 pG false _ ?yX ?qy ?qw ?qZ ?qh ?qO ?qP A6.out).mono ?_);(case yX=>exact q8 (Kd.zH pq.out HB.out));(case qy=>exact Zj.out);(case qw=>exact q8 (Kd.zH Zv.out HB.out));(case qZ=>exact Zk.out);(case qh=>exact q8 (Kd.zH Zy.out HB.out));(case qO=>exact Zw.out);(case qP=>exact GW.under HG.out (zB HB.out));rintro e w21 ⟨rfl,hb⟩;refine ⟨_,rfl,?_⟩;have zJ:=zx.mk (zW (g:=qI) (o:=.cells #[.string zi,.bool zY,.int .i64 zQ,.slice qc zS.length qd,.slice qm yh.length qo,.slice qp yt.length qA] 60 (0,0)) (yL yB.out) hb);have za:=zx.mk (zn (zB HB.out) hb);clear yB;clear HB;have yB:=zJ;have HB:=za;clear zJ za;(try clear hb);(try clear hi)))
   go_ret2
   exact ⟨by first | rfl | (simp [yw,yZ] <;> rfl) | (simp [*,yw,yZ] <;> rfl),by repeat (first | (with_reducible first | exact HB.out | apply yI | apply yg | apply yj | refine qB ?_ Uu.out) | exact HB.out)⟩
 ·replace c5:=Bool.eq_false_iff.mpr c5
  subst c5
  have H1:(some (0,1)) = some (r1,r2):=by rw [if_neg (show ¬ (false = true) by decide)] at H;exact H
  clear H
  have H:=H1
  clear H1
  simp only [Option.some.injEq,Prod.mk.injEq] at H
  obtain ⟨rfl,rfl⟩:=H
  go_enter Tryz.func22,Tryz.ntmps22
  go_wp2_with (first | ((with_reducible refine y9 (N:=3) rfl ?_);refine qQ ?hg (N:=3) ?hd (cs:=#[.string zi,.bool zY,.int .i64 zQ,.slice qc zS.length qd,.slice qm yh.length qo,.slice qp yt.length qA]) (t:=60) ?hr ?_;(case hd=>rfl);(case hg=>rfl);(case hr=>first | (go_simp;done) | (go_simp;rfl));intro qI hg bV qj hb;have zJ:=zx.mk (zn (zB HB.out) hb);have za:=zx.mk (qj);have zh:=zx.mk ((by rw [hg];exact (zf (zB HB.out)):w.heap.size ≤ qI));have zo:=zx.mk ((by rw [hg];exact (zf (zB HB.out)):w.heap.size ≤ qI));clear HB;have HB:=zJ;have yB:=za;have zju:=zh;have Uu:=zo;clear zJ za zh zo;clear hb qj hg;have Kv:bV.cell? ⟨qI,0,none⟩ = some (.string zi):=ze yB 0;have Kk:bV.cell? ⟨qI,1,none⟩ = some (.bool zY):=ze yB 1;have Ky:bV.cell? ⟨qI,2,none⟩ = some (.int .i64 zQ):=ze yB 2;have Kw:bV.cell? ⟨qI,3,none⟩ = some (.slice qc zS.length qd):=ze yB 3;have KZ:bV.cell? ⟨qI,4,none⟩ = some (.slice qm yh.length qo):=ze yB 4;have KQ:bV.cell? ⟨qI,5,none⟩ = some (.slice qp yt.length qA):=ze yB 5;have KX:=zy yB.out 0;have KJ:=zy yB.out 1;have KV:=zy yB.out 2;have KY:=zy yB.out 3;have KW:=zy yB.out 4;have Ka:=zy yB.out 5) | ((with_reducible refine yu (f:=62) rfl ?_);refine jq (some 12) Tryz.func62 #[.agg #[.string zi,.bool zY,.int .i64 zQ,.slice qc zS.length qd,.slice qm yh.length qo,.slice qp yt.length qA],.int .i64 a2] ?_;(with_reducible refine (uH.calls zi zY zQ _ _ zS _ _ yh _ _ yt a2 false _ ?yX ?qy ?qw ?qZ ?qh ?qO ?qP A4.out).mono ?_);(case yX=>exact q8 (Kd.zH pq.out HB.out));(case qy=>exact Zj.out);(case qw=>exact q8 (Kd.zH Zv.out HB.out));(case qZ=>exact Zk.out);(case qh=>exact q8 (Kd.zH Zy.out HB.out));(case qO=>exact Zw.out);(case qP=>exact GW.under HG.out (zB HB.out));rintro e w24 ⟨rfl,hb⟩;refine ⟨_,rfl,?_⟩;have zJ:=zx.mk (zW (g:=qI) (o:=.cells #[.string zi,.bool zY,.int .i64 zQ,.slice qc zS.length qd,.slice qm yh.length qo,.slice qp yt.length qA] 60 (0,0)) (yL yB.out) hb);have za:=zx.mk (zn (zB HB.out) hb);clear yB;clear HB;have yB:=zJ;have HB:=za;clear zJ za;(try clear hb);(try clear hi)))
  go_ret2
  exact ⟨by first | rfl | (simp [yw,yZ] <;> rfl) | (simp [*,yw,yZ] <;> rfl),by repeat (first | (with_reducible first | exact HB.out | apply yI | apply yg | apply yj | refine qB ?_ Uu.out) | exact HB.out)⟩
end Go.Proofs.YtggifbbiiickmaaGreatDoor.PX
namespace Go.Proofs.YtggifbbiiickmaaGreatDoor.PX
open Go.RowKit Go.Proofs.zk.zm Go.Proofs.zk.yK Go.Proofs.zk.yc
attribute [local go_sem] uf ug jW jc vL vM uh um   -- for this text's walks alone
set_option linter.unusedVariables false
set_option linter.unusedSimpArgs false
def Z9.f (zi:ByteArray) (zY:Bool) (zQ:Int) (zS:List (yP)) (yh:List (qx)) (yt:List (qC)) (a1:Int):Option (Int × Int):=(uH.f zi zY zQ zS yh yt a1).bind fun t105=>(if t105 = true then ((xR.f zQ a1).bind fun XA=>(some (XA,0))) else (some (0,1)))
set_option maxHeartbeats 8000000 in
set_option maxRecDepth 100000 in
theorem Z9.calls (zi:ByteArray) (zY:Bool) (zQ:Int) (qc:Option Addr) (qd:Nat) (zS:List (yP)) (qm:Option Addr) (qo:Nat) (yh:List (qx)) (qp:Option Addr) (qA:Nat) (yt:List (qC)) (a1:Int) (r1:Int) (r2:Int) (w:World) (jU:Kd.C xG w qc zS.length zS) (p8:zS.length ≤ qd) (p9:Kd.C uQ w qm yh.length yh) (Zz:yh.length ≤ qo) (Zq:Kd.C uo w qp yt.length yt) (Zx:yt.length ≤ qA) (hG:GW w) (h:Z9.f zi zY zQ zS yh yt a1 = some (r1,r2)) :
  Calls Tryz.prog 68 #[.agg #[.string zi,.bool zY,.int .i64 zQ,.slice qc zS.length qd,.slice qm yh.length qo,.slice qp yt.length qA],.int .i64 a1] w fun e w'=>e = .returned (.tuple #[.int .i64 r1,.int .i64 r2]) ∧ Below w.heap.size w w':=by
 have zq1:=Tryz.underlying60
 have HG:=zx.mk hG
 clear hG
 have pq:=zx.mk jU
 have Zj:=zx.mk p8
 clear jU p8
 have Zv:=zx.mk p9
 have Zk:=zx.mk Zz
 clear p9 Zz
 have Zy:=zx.mk Zq
 have Zw:=zx.mk Zx
 clear Zq Zx
 have HB:=zx.mk (Below.refl w.heap.size w)
 have H:((uH.f zi zY zQ zS yh yt a1).bind fun t105=>(if t105 = true then ((xR.f zQ a1).bind fun XA=>(some (XA,0))) else (some (0,1)))) = some (r1,r2):=h
 clear h
 replace H:=Option.bind_eq_some_iff.mp H
 obtain ⟨t105,QA,H⟩:=H
 replace H:(if t105 = true then ((xR.f zQ a1).bind fun XA=>(some (XA,0))) else (some (0,1))) = some (r1,r2):=H
 have A3:=zx.mk QA
 clear QA
 by_cases c4:t105 = true
 ·subst c4
  have H1:((xR.f zQ a1).bind fun XA=>(some (XA,0))) = some (r1,r2):=by rw [if_pos rfl] at H;exact H
  clear H
  have H:=H1
  clear H1
  replace H:=Option.bind_eq_some_iff.mp H
  obtain ⟨XA,A50,H⟩:=H
  replace H:(some (XA,0)) = some (r1,r2):=H
  have A5:=zx.mk A50
  clear A50
  simp only [Option.some.injEq,Prod.mk.injEq] at H
  obtain ⟨rfl,rfl⟩:=H
  go_enter Tryz.func68,Tryz.ntmps68
  go_wp2_with (first | ((with_reducible refine y9 (N:=2) rfl ?_);refine qQ ?hg (N:=2) ?hd (cs:=#[.string zi,.bool zY,.int .i64 zQ,.slice qc zS.length qd,.slice qm yh.length qo,.slice qp yt.length qA]) (t:=60) ?hr ?_;(case hd=>rfl);(case hg=>rfl);(case hr=>first | (go_simp;done) | (go_simp;rfl));intro uU hg w6 qj hb;have zJ:=zx.mk (zn (zB HB.out) hb);have za:=zx.mk (qj);have zh:=zx.mk ((by rw [hg];exact (zf (zB HB.out)):w.heap.size ≤ uU));have zo:=zx.mk ((by rw [hg];exact (zf (zB HB.out)):w.heap.size ≤ uU));clear HB;have HB:=zJ;have qU:=za;have zy6:=zh;have oD:=zo;clear zJ za zh zo;clear hb qj hg;have zks:w6.cell? ⟨uU,0,none⟩ = some (.string zi):=ze qU 0;have zkt:w6.cell? ⟨uU,1,none⟩ = some (.bool zY):=ze qU 1;have zku:w6.cell? ⟨uU,2,none⟩ = some (.int .i64 zQ):=ze qU 2;have zkA:w6.cell? ⟨uU,3,none⟩ = some (.slice qc zS.length qd):=ze qU 3;have zkB:w6.cell? ⟨uU,4,none⟩ = some (.slice qm yh.length qo):=ze qU 4;have zkC:w6.cell? ⟨uU,5,none⟩ = some (.slice qp yt.length qA):=ze qU 5;have zkD:=zy qU.out 0;have zkE:=zy qU.out 1;have zkF:=zy qU.out 2;have zkG:=zy qU.out 3;have zkH:=zy qU.out 4;have zkI:=zy qU.out 5) | ((with_reducible refine yu (f:=62) rfl ?_);refine jq (some 8) Tryz.func62 #[.agg #[.string zi,.bool zY,.int .i64 zQ,.slice qc zS.length qd,.slice qm yh.length qo,.slice qp yt.length qA],.int .i64 a1] ?_;(with_reducible refine (uH.calls zi zY zQ _ _ zS _ _ yh _ _ yt a1 true _ ?yX ?qy ?qw ?qZ ?qh ?qO ?qP A3.out).mono ?_);(case yX=>exact q8 (Kd.zH pq.out HB.out));(case qy=>exact Zj.out);(case qw=>exact q8 (Kd.zH Zv.out HB.out));(case qZ=>exact Zk.out);(case qh=>exact q8 (Kd.zH Zy.out HB.out));(case qO=>exact Zw.out);(case qP=>exact GW.under HG.out (zB HB.out));rintro e w8 ⟨rfl,hb⟩;refine ⟨_,rfl,?_⟩;have zJ:=zx.mk (zW (g:=uU) (o:=.cells #[.string zi,.bool zY,.int .i64 zQ,.slice qc zS.length qd,.slice qm yh.length qo,.slice qp yt.length qA] 60 (0,0)) (yL qU.out) hb);have za:=zx.mk (zn (zB HB.out) hb);clear qU;clear HB;have qU:=zJ;have HB:=za;clear zJ za;(try clear hb);have zkc:w8.cell? ⟨uU,0,none⟩ = some (.string zi):=ze qU 0;have zkd:w8.cell? ⟨uU,1,none⟩ = some (.bool zY):=ze qU 1;have zke:w8.cell? ⟨uU,2,none⟩ = some (.int .i64 zQ):=ze qU 2;have zkf:w8.cell? ⟨uU,3,none⟩ = some (.slice qc zS.length qd):=ze qU 3;have zkg:w8.cell? ⟨uU,4,none⟩ = some (.slice qm yh.length qo):=ze qU 4;have zkh:w8.cell? ⟨uU,5,none⟩ = some (.slice qp yt.length qA):=ze qU 5;have zki:=zy qU.out 0;have zkl:=zy qU.out 1;have zkm:=zy qU.out 2;have zkn:=zy qU.out 3;have zko:=zy qU.out 4;have zkp:=zy qU.out 5) | ((with_reducible refine yu (f:=63) rfl ?_);refine jq (some 13) Tryz.func63 #[.int .i64 zQ,.int .i64 a1] ?_;(with_reducible refine (xR.calls zQ a1 XA _ A5.out).mono ?_);rintro e w' ⟨rfl,⟨nd,rfl⟩⟩;refine ⟨_,rfl,?_⟩))
  go_ret2
  exact ⟨by first | rfl | (simp [yw,yZ] <;> rfl) | (simp [*,yw,yZ] <;> rfl),by repeat (first | (with_reducible first | exact HB.out | apply yI | apply yg | apply yj | refine qB ?_ oD.out) | exact HB.out)⟩
 ·replace c4:=Bool.eq_false_iff.mpr c4
  subst c4
  have H1:(some (0,1)) = some (r1,r2):=by rw [if_neg (show ¬ (false = true) by decide)] at H;exact H
  clear H
  have H:=H1
  clear H1
  simp only [Option.some.injEq,Prod.mk.injEq] at H
  obtain ⟨rfl,rfl⟩:=H
  go_enter Tryz.func68,Tryz.ntmps68
  go_wp2_with (first | ((with_reducible refine y9 (N:=2) rfl ?_);refine qQ ?hg (N:=2) ?hd (cs:=#[.string zi,.bool zY,.int .i64 zQ,.slice qc zS.length qd,.slice qm yh.length qo,.slice qp yt.length qA]) (t:=60) ?hr ?_;(case hd=>rfl);(case hg=>rfl);(case hr=>first | (go_simp;done) | (go_simp;rfl));intro uU hg YD qj hb;have zJ:=zx.mk (zn (zB HB.out) hb);have za:=zx.mk (qj);have zh:=zx.mk ((by rw [hg];exact (zf (zB HB.out)):w.heap.size ≤ uU));have zo:=zx.mk ((by rw [hg];exact (zf (zB HB.out)):w.heap.size ≤ uU));clear HB;have HB:=zJ;have qU:=za;have zy6:=zh;have oD:=zo;clear zJ za zh zo;clear hb qj hg;have zvb:YD.cell? ⟨uU,0,none⟩ = some (.string zi):=ze qU 0;have zvc:YD.cell? ⟨uU,1,none⟩ = some (.bool zY):=ze qU 1;have zvd:YD.cell? ⟨uU,2,none⟩ = some (.int .i64 zQ):=ze qU 2;have zve:YD.cell? ⟨uU,3,none⟩ = some (.slice qc zS.length qd):=ze qU 3;have zvf:YD.cell? ⟨uU,4,none⟩ = some (.slice qm yh.length qo):=ze qU 4;have zvg:YD.cell? ⟨uU,5,none⟩ = some (.slice qp yt.length qA):=ze qU 5;have zvh:=zy qU.out 0;have zvi:=zy qU.out 1;have zvl:=zy qU.out 2;have zvm:=zy qU.out 3;have zvn:=zy qU.out 4;have zvo:=zy qU.out 5) | ((with_reducible refine yu (f:=62) rfl ?_);refine jq (some 8) Tryz.func62 #[.agg #[.string zi,.bool zY,.int .i64 zQ,.slice qc zS.length qd,.slice qm yh.length qo,.slice qp yt.length qA],.int .i64 a1] ?_;(with_reducible refine (uH.calls zi zY zQ _ _ zS _ _ yh _ _ yt a1 false _ ?yX ?qy ?qw ?qZ ?qh ?qO ?qP A3.out).mono ?_);(case yX=>exact q8 (Kd.zH pq.out HB.out));(case qy=>exact Zj.out);(case qw=>exact q8 (Kd.zH Zv.out HB.out));(case qZ=>exact Zk.out);(case qh=>exact q8 (Kd.zH Zy.out HB.out));(case qO=>exact Zw.out);(case qP=>exact GW.under HG.out (zB HB.out));rintro e nI ⟨rfl,hb⟩;refine ⟨_,rfl,?_⟩;have zJ:=zx.mk (zW (g:=uU) (o:=.cells #[.string zi,.bool zY,.int .i64 zQ,.slice qc zS.length qd,.slice qm yh.length qo,.slice qp yt.length qA] 60 (0,0)) (yL qU.out) hb);have za:=zx.mk (zn (zB HB.out) hb);clear qU;clear HB;have qU:=zJ;have HB:=za;clear zJ za;(try clear hb);(try clear hi)))
  go_ret2
  exact ⟨by first | rfl | (simp [yw,yZ] <;> rfl) | (simp [*,yw,yZ] <;> rfl),by repeat (first | (with_reducible first | exact HB.out | apply yI | apply yg | apply yj | refine qB ?_ oD.out) | exact HB.out)⟩
end Go.Proofs.YtggifbbiiickmaaGreatDoor.PX
namespace Go.Proofs.YtggifbbiiickmaaGreatDoor
open Go.RowKit Go.Shelf Go.Proofs.zk.zm Go.Proofs.zk.yK Go.Proofs.zk.yc Go.Proofs.YtggifbbiiickmaaGreatDoor.PX
set_option linter.unusedSimpArgs false
set_option linter.unusedVariables false
theorem zqq {a:ByteArray} {c:Int} {l3:List yP} {l4:List qx} {l5:List qC} (h:xk a c l3 l4 l5 = true):l3.length ≤ 400 ∧ l4.length ≤ 50 ∧ l5.length ≤ 500:=by
 unfold xk at h
 split at h
 ·cases h
 ·rename_i q1
  simp only [Bool.or_eq_true,not_or,decide_eq_true_eq] at q1
  omega
theorem zqx {a:ByteArray} {c:Int} {l3:List yP} {l4:List qx} {l5:List qC} (h:xk a c l3 l4 l5 = true):Asc l3:=by
 unfold xk at h
 split at h
 ·cases h
 ·split at h
  ·cases h
  ·rename_i q2
   simp only [Bool.or_eq_true,not_or,Bool.not_eq_true,Bool.not_eq_false'] at q2
   exact zkr q2.2
theorem oF {a:ByteArray} {c:Int} {l3:List yP} {l4:List qx} {l5:List qC} (h:xk a c l3 l4 l5 = true):∀ x ∈ l3,0 ≤ x.f1 ∧ x.f1 ≤ 3000:=by
 unfold xk at h
 split at h
 ·cases h
 ·split at h
  ·cases h
  ·rename_i q2
   intro x hx
   simp only [Bool.or_eq_true,not_or,Bool.not_eq_true,Bool.not_eq_false'] at q2
   have h1:=List.any_eq_false.1 q2.1 x hx
   unfold Jb YP at h1
   simp only [Bool.or_eq_true,not_or,decide_eq_true_eq] at h1
   omega
def bK (s n:Int):Int:=10 * (s * n) / 1000
theorem zqj (s n:Int) (hs:1 ≤ s) (hs1:s ≤ 1000) (h0:-3000 ≤ n) (h1:n ≤ 3000):-3000000 ≤ s * n ∧ s * n ≤ 3000000:=by
 have a1:=Int.mul_le_mul_of_nonneg_left h1 (by omega:(0:Int) ≤ s)
 have a2:=Int.mul_le_mul_of_nonneg_left h0 (by omega:(0:Int) ≤ s)
 omega
theorem bY (n s:Int) (hs:1 ≤ s) (hs1:s ≤ 1000) (h0:-3000 ≤ n) (h1:n ≤ 3000):xR.f n s = some (bK s n):=by
 have hr:=zqj s n hs hs1 h0 h1
 have e:10 * s * n = 10 * (s * n):=Int.mul_assoc _ _ _
 unfold xR.f bK
 rw [ji (x:=10 * s) (by omega) (by omega),e]
 generalize s * n = p at hr
 rw [ji (x:=10 * p) (by omega) (by omega)]
 unfold ZQ.f
 by_cases hp:10 * p < 0
 ·rw [if_pos hp,if_neg (by omega),ji (x:=-(10 * p)) (by omega) (by omega),ji (x:=-(10 * p) + 1000) (by omega) (by omega),ji (x:=-(10 * p) + 1000 - 1) (by omega) (by omega),Int.tdiv_eq_ediv_of_nonneg (by omega),ji (x:=(-(10 * p) + 1000 - 1) / 1000) (by omega) (by omega),ji (by omega) (by omega)]
  simp only [Option.bind_some]
  congr 1
  omega
 ·rw [if_neg hp,if_neg (by omega),Int.tdiv_eq_ediv_of_nonneg (by omega),ji (by omega) (by omega)]
  rfl
def wN (s:Int) (V:Bool):Bool:=decide (1 ≤ s) && (decide (s ≤ 1000) && V)
def bW (V:Bool) (c s:Int):Int × Int:=if wN s V = true then (bK s c,0) else (0,1)
def UA (V:Bool) (l:List yP) (n:ByteArray) (s:Int):Int × Int:=if wN s V = true then (match l.find? (fun x=>decide (x.f0 = n)) with | some x=>(bK s x.f1,0) | none=>(0,3)) else (0,1)
def UC (V:Bool) (l:List qC) (n m:ByteArray) (s:Int):Int × Int:=if wN s V = true then ((match l.find? (fun x=>decide (x.f0 = n) && decide (x.f1 = m)) with | some x=>bK s x.f2 | none=>0),0) else (0,1)
def Vy (V:Bool) (l:List qx) (n m:ByteArray):ByteArray × Bool:=if V = true then (match l.find? (fun x=>decide (x.f0 = n) && decide (x.f1 = m)) with | some x=>(x.f2,true) | none=>((⟨#[]⟩:ByteArray),false)) else ((⟨#[]⟩:ByteArray),false)
theorem bf (a:ByteArray) (b:Bool) (c:Int) (l3:List yP) (l4:List qx) (l5:List qC) (s:Int) (h3:l3.length ≤ 1000000000) (h4:l4.length ≤ 1000000000) (h5:l5.length ≤ 1000000000):uH.f a b c l3 l4 l5 s = some (wN s (xk a c l3 l4 l5)):=by
 unfold uH.f wN uX.f
 by_cases h1:s ≥ 1
 ·rw [if_pos h1,decide_eq_true h1]
  by_cases h2:s ≤ 1000
  ·rw [if_pos h2,decide_eq_true h2,if_pos ⟨h3,h4,h5⟩];rfl
  ·rw [if_neg h2,decide_eq_false h2];rfl
 ·rw [if_neg h1,decide_eq_false h1];rfl
theorem VL {s:Int} {V:Bool} (h:wN s V = true):1 ≤ s ∧ s ≤ 1000 ∧ V = true:=by
 unfold wN at h
 simp only [Bool.and_eq_true,decide_eq_true_eq] at h
 exact h
theorem UD {a:ByteArray} {c:Int} {l3:List yP} {l4:List qx} {l5:List qC} (h:xk a c l3 l4 l5 = true):(0 ≤ c ∧ c ≤ 3000) ∧ ∀ x ∈ l5,-500 ≤ x.f2 ∧ x.f2 ≤ 500:=by
 unfold xk at h
 split at h
 ·cases h
 ·rename_i q1
  split at h
  ·cases h
  ·split at h
   ·cases h
   ·simp only [Bool.or_eq_true,not_or,decide_eq_true_eq,YP] at q1
    rw [Bool.and_eq_true] at h
    refine ⟨by omega,fun x hx=>?_⟩
    have h2:l5.any (VG l3) = false:=by simpa using h.1
    have h1:=List.any_eq_false.1 h2 x hx
    unfold VG at h1
    simp only [Bool.or_eq_true,not_or,decide_eq_true_eq] at h1
    omega
theorem zkN (a:ByteArray) (b:Bool) (c:Int) (l3:List yP) (l4:List qx) (l5:List qC) (s:Int) (h3:l3.length ≤ 1000000000) (h4:l4.length ≤ 1000000000) (h5:l5.length ≤ 1000000000):Z9.f a b c l3 l4 l5 s = some (bW (xk a c l3 l4 l5) c s):=by
 unfold Z9.f bW
 rw [bf a b c l3 l4 l5 s h3 h4 h5]
 simp only [Option.bind_some]
 by_cases h:wN s (xk a c l3 l4 l5) = true
 ·obtain ⟨p,q,hv⟩:=VL h
  have hc:=(UD hv).1
  rw [if_pos h,if_pos h,bY c s p q (by omega) (by omega)];rfl
 ·rw [if_neg h,if_neg h]
theorem zqv (a:ByteArray) (b:Bool) (c:Int) (l3:List yP) (l4:List qx) (l5:List qC) (n:ByteArray) (s:Int) (h3:l3.length ≤ 1000000000) (h4:l4.length ≤ 1000000000) (h5:l5.length ≤ 1000000000):ZX.f a b c l3 l4 l5 n s = some (UA (xk a c l3 l4 l5) l3 n s):=by
 unfold ZX.f UA
 rw [bf a b c l3 l4 l5 s h3 h4 h5]
 simp only [Option.bind_some]
 by_cases h:wN s (xk a c l3 l4 l5) = true
 ·obtain ⟨p,q,hv⟩:=VL h
  rw [if_pos h,if_pos h]
  unfold uG.f
  rw [if_pos h3]
  simp only [Option.bind_some]
  cases hf:l3.find? (fun x=>decide (x.f0 = n)) with
  | none =>
   rw [List.find?_eq_none] at hf
   rw [zvr l3 n (fun x hx e=>hf x hx (decide_eq_true e)),if_neg (by simp)]
  | some x =>
   have hx:=List.mem_of_find?_eq_some hf
   have he:x.f0 = n:=by have:=List.find?_some hf;simpa using this
   obtain ⟨m,hm,rfl⟩:=List.getElem_of_mem hx
   subst he
   have hw:=oF hv _ hx
   rw [zvp l3 (zqx hv) m hm]
   simp only [if_true]
   rw [if_pos (by omega),if_pos (by omega),VI l3 m hm,bY _ s p q (by omega) (by omega)];rfl
 ·rw [if_neg h,if_neg h]
theorem QX {x y:ByteArray}:x.toList = y.toList ↔ x = y:=Vf
end Go.Proofs.YtggifbbiiickmaaGreatDoor
namespace Go.Proofs.YtggifbbiiickmaaGreatDoor
open Go.RowKit Go.Proofs.zk.zm Go.Proofs.zk.yc Go.Proofs.YtggifbbiiickmaaGreatDoor.PX
set_option linter.unusedSimpArgs false
set_option linter.unusedVariables false
abbrev yM:=kV
abbrev vH:=vJ
abbrev kZ:=uj
def qK (x:yM):Bool:=xk x.f0 x.f2 x.f3 x.f4 x.f5
def ZN (x:yM) (n:ByteArray):Bool:=Xu x.f3 n
def fjoin (x:yM) (n m:ByteArray):ByteArray × Bool:=Vy (qK x) x.f4 n m
def ZA (x:yM) (n m:ByteArray) (s:Int):Int × Int:=UC (qK x) x.f5 n m s
def jB (x:yM) (n:ByteArray) (s:Int):Int × Int:=UA (qK x) x.f3 n s
def YW (x:yM) (s:Int):Int × Int:=bW (qK x) x.f2 s
def qY (l:List yM) (i:Int):yM:=vG l i
def ZB (n:ByteArray):List yM → Nat → Int
 | [],_=>-1
 | x :: r,i=>if x.f1 && ZN x n then (i:Int) else ZB n r (i + 1)
def vT (l:List yM) (f:Int) (n:ByteArray):Int:=if ZN (qY l f) n then f else ZB n l 0
def XB (Xc:Int):vH:=⟨2,Xc,0,0,⟨#[]⟩,⟨#[]⟩,[]⟩
def YH (w f s:Int) (n:ByteArray):vH:=⟨0,w,f,s,n,⟨#[]⟩,[]⟩
def pQ (l:List yM) (s:Int) (zu:Bool) (out:List vH) (a:Int) (n:ByteArray):List vH :=
 match out.getLast? with
 | none=>[]
 | some b=>if zu && decide (b.f2 = a) then (if (ZA (qY l a) b.f4 n s).1 = 0 then [] else [XB (ZA (qY l a) b.f4 n s).1]) else []
def jC (l:List yM) (f s:Int) (zu:Bool) (st:List vH × List ByteArray) (n:ByteArray):List vH × List ByteArray :=
 if vT l f n < 0 then (st.1,st.2 ++ [n])
 else (st.1 ++ pQ l s zu st.1 (vT l f n) n ++ [YH (jB (qY l (vT l f n)) n s).1 (vT l f n) s n],st.2)
def Yz (J:ByteArray → ByteArray → ByteArray × Bool) (c:ByteArray):List ByteArray → ByteArray × List ByteArray
 | []=>(c,[])
 | d :: r=>if (J c d).2 then Yz J (J c d).1 r else (c,d :: r)
theorem nT (J:ByteArray → ByteArray → ByteArray × Bool):∀ (r:List ByteArray) (c:ByteArray),(Yz J c r).2.length ≤ r.length
 | [],_=>Nat.le_refl _
 | d :: r,c=>by
  unfold Yz
  split
  ·exact Nat.le_succ_of_le (nT J r _)
  ·exact Nat.le_refl _
def XT (J:ByteArray → ByteArray → ByteArray × Bool):List ByteArray → List ByteArray
 | []=>[]
 | c :: r=>(Yz J c r).1 :: XT J (Yz J c r).2
termination_by l=>l.length
decreasing_by have:=nT J r c;simp;omega
def nU (pairs:List kZ) (c:ByteArray):ByteArray:=match pairs.find? (fun p=>decide (p.f0 = c)) with | some p=>p.f1 | none=>c
def jy (l:List yM) (f s:Int) (zu:Bool) (ns:List ByteArray):List vH × List ByteArray:=ns.foldl (jC l f s zu) ([],[])
def Yq (l:List yM) (f:Int) (yV:Bool) (chars:List ByteArray) (pairs:List kZ):List ByteArray :=
 if yV then XT (fjoin (qY l f)) (chars.map (nU pairs)) else chars.map (nU pairs)
def wT (s:ByteArray):Bool:=!Ym s.data.toList
def QJ (p:kZ):Bool:=wT p.f0 || wT p.f1
def Ya (l:List yM) (f s:Int) (chars:List ByteArray) (pairs:List kZ):Bool :=
 l.any (fun x=>!qK x) || (decide (f < 0) || decide ((l.length:Int) ≤ f) || decide (s < 1) || decide (1000 < s)) || (decide (2000 < chars.length) || decide (100 < pairs.length)) || chars.any wT || pairs.any QJ
def UE (l:List yM) (f s:Int) (yV zu:Bool) (chars:List ByteArray) (pairs:List kZ):List vH × List ByteArray × Int :=
 if Ya l f s chars pairs then ([],[],1)
 else ((jy l f s zu (Yq l f yV chars pairs)).1,(jy l f s zu (Yq l f yV chars pairs)).2,0)
end Go.Proofs.YtggifbbiiickmaaGreatDoor
namespace Go.Proofs.YtggifbbiiickmaaGreatDoor
open Go.RowKit Go.Proofs.zk.zm
set_option linter.unusedSimpArgs false
set_option linter.unusedVariables false
def kK {α:Type} (p:α → Bool):List α → Nat → Int
 | [],_=>-1
 | x :: r,i=>if p x then (i:Int) else kK p r (i + 1)
theorem Xd {α:Type} (p:α → Bool) (x:α) (r:List α) (i:Nat):kK p (x :: r) i = if p x then (i:Int) else kK p r (i + 1):=rfl
theorem QV {α:Type} (p:α → Bool):∀ (l:List α) (i:Nat),decide (0 ≤ kK p l i) = l.any p
 | [],_=>rfl
 | x :: r,i=>by
  unfold kK
  rw [List.any_cons]
  by_cases h:p x = true
  ·rw [if_pos h,h,Bool.true_or];exact decide_eq_true (by omega)
  ·rw [if_neg h,QV p r]
   simp only [Bool.not_eq_true] at h
   rw [h,Bool.false_or]
end Go.Proofs.YtggifbbiiickmaaGreatDoor
namespace Go.Proofs.YtggifbbiiickmaaGreatDoor
open Go.RowKit Go.Proofs.zk.zm Go.Proofs.zk.yK Go.Proofs.zk.yc Go.Proofs.YtggifbbiiickmaaGreatDoor.PX
set_option linter.unusedSimpArgs false
set_option linter.unusedVariables false
set_option maxRecDepth 100000 in
set_option maxHeartbeats 4000000 in
theorem bg (A0:Option Addr) (c0:Nat) (l:List kV) (w:World) (hr:Kd.C jh w A0 l.length l) (hl:l.length ≤ 1000000000) (p:kV → Bool) (g:Nat) (lb:Array Value) (eg:∀ args w,(callFunc g args).run Tryz.prog w = .ok (.enter g args) w)
  (hp:∀ (W:World) (x:kV) (A3:Option Addr) (c3:Nat) (A4:Option Addr) (c4:Nat) (A5:Option Addr) (c5:Nat),x ∈ l → Below w.heap.size w W → Kd.C xG W A3 x.f3.length x.f3 → x.f3.length ≤ c3 → Kd.C uQ W A4 x.f4.length x.f4 → x.f4.length ≤ c4 → Kd.C uo W A5 x.f5.length x.f5 → x.f5.length ≤ c5 → Calls Tryz.prog g (#[.agg #[.string x.f0,.bool x.f1,.int .i64 x.f2,.slice A3 x.f3.length c3,.slice A4 x.f4.length c4,.slice A5 x.f5.length c5]] ++ lb) W fun e w'=>e = .returned (.bool (p x)) ∧ Below w.heap.size w w') :
  Calls Tryz.prog 83 #[.slice A0 l.length c0,.func (.func g) #[] lb] w fun e w'=>e = .returned (.int .i64 (kK p l 0)) ∧ Below w.heap.size w w':=by
 have H:=zx.mk hr
 have HP:=zx.mk hp
 clear hr hp
 generalize hR:kK p l 0 = R
 have HR:=zx.mk hR
 clear hR
 go_enter Tryz.func83,Tryz.ntmps83
 go_wp2
 go_loopw [8] (fun i W=>∃ k:Nat,k ≤ l.length ∧ i = .int .i64 (k:Int) ∧ zx (kK p l 0 = kK p (l.drop k) k) ∧ zx (Below w.heap.size w W)) (fun i _=>l.length - (intOf i).toNat)
 case atStart=>exact ⟨0,Nat.zero_le _,rfl,⟨by rw [List.drop_zero]⟩,⟨Below.refl _ _⟩⟩
 case round =>
  obtain ⟨k,hk,rfl,HI,HB⟩:=hrel
  by_cases hlt:k < l.length
  ·obtain ⟨ad,A3,c3,A4,c4,A5,c5,e,x0,x1,x2,x3,x4,x5,g3,q3,g4,q4,g5,q5⟩:=XO (Kd.zH H.out HB.out) (k:Int) (by omega) (by omega)
   cases e
   have e:vG l (k:Int) = l[k]:=by simp [vG,List.getD_eq_getElem?_getD,hlt]
   rw [Int.toNat_natCast] at x0 x1 x2 x3 x4 x5
   rw [e] at x0 x1 x2 x3 x4 x5 g3 q3 g4 q4 g5 q5
   clear e
   have hi:=HI.out
   rw [List.drop_eq_getElem_cons hlt,Xd] at hi
   have hm:l[k] ∈ l:=List.getElem_mem hlt
   generalize l[k] = x at x0 x1 x2 x3 x4 x5 g3 q3 g4 q4 g5 q5 hi hm
   have hcall:=HP.out wr x A3 c3 A4 c4 A5 c5 hm HB.out q3 g3 q4 g4 q5 g5
   clear hm q3 g3 q4 g4 q5 g5
   cases hq:p x with
   | true =>
    rw [hq] at hcall
    rw [if_pos hq] at hi
    have HI2:=zx.mk (HR.out.symm.trans hi)
    clear hi hq HI
    go_wp2_with fail
    refine hcall.mono ?_;rintro e w' ⟨rfl,hb'⟩
    go_wp2_with fail
    go_ret
    exact ⟨by rw [HI2.out];rfl,hb'⟩
   | false =>
    rw [hq] at hcall
    rw [if_neg (by rw [hq];exact Bool.false_ne_true)] at hi
    have HI2:=zx.mk hi
    clear hi hq HI
    go_wp2_with fail
    refine hcall.mono ?_;rintro e w' ⟨rfl,hb'⟩
    go_wp2_with fail
    go_roundw
    case rel=>exact ⟨k + 1,by omega,by first | rfl | go_num,HI2,⟨hb'⟩⟩
    case measure=>simp [intOf];omega
  ·obtain rfl:k = l.length:=by omega
   have hi:=HI.out
   rw [List.drop_eq_nil_of_le (Nat.le_refl _)] at hi
   have HI2:=zx.mk (HR.out.symm.trans hi)
   clear hi HI
   go_wp2
   go_ret
   exact ⟨by rw [HI2.out];rfl,HB.out⟩
set_option maxRecDepth 100000 in
theorem VN (A0:Option Addr) (c0:Nat) (l:List kV) (w:World) (hr:Kd.C jh w A0 l.length l) (hl:l.length ≤ 1000000000) (p:kV → Bool) (g:Nat) (lb:Array Value) (eg:∀ args w,(callFunc g args).run Tryz.prog w = .ok (.enter g args) w)
  (hp:∀ (W:World) (x:kV) (A3:Option Addr) (c3:Nat) (A4:Option Addr) (c4:Nat) (A5:Option Addr) (c5:Nat),x ∈ l → Below w.heap.size w W → Kd.C xG W A3 x.f3.length x.f3 → x.f3.length ≤ c3 → Kd.C uQ W A4 x.f4.length x.f4 → x.f4.length ≤ c4 → Kd.C uo W A5 x.f5.length x.f5 → x.f5.length ≤ c5 → Calls Tryz.prog g (#[.agg #[.string x.f0,.bool x.f1,.int .i64 x.f2,.slice A3 x.f3.length c3,.slice A4 x.f4.length c4,.slice A5 x.f5.length c5]] ++ lb) W fun e w'=>e = .returned (.bool (p x)) ∧ Below w.heap.size w w') :
  Calls Tryz.prog 37 #[.slice A0 l.length c0,.func (.func g) #[] lb] w fun e w'=>e = .returned (.bool (l.any p)) ∧ Below w.heap.size w w':=by
 have h:=bg A0 c0 l w hr hl p g lb eg hp
 have e:=QV p l 0
 generalize kK p l 0 = i at h e
 generalize l.any p = b at e ⊢
 subst e
 clear hp hr
 go_enter Tryz.func37,Tryz.ntmps37
 go_wp2_with (go_at_call 83;refine h.mono ?_;rintro e w1 ⟨rfl,hb⟩)
 go_ret
 exact ⟨rfl,hb⟩
end Go.Proofs.YtggifbbiiickmaaGreatDoor
namespace Go.Proofs.YtggifbbiiickmaaGreatDoor
open Go.RowKit Go.Proofs.zk.zm Go.Proofs.zk.yK Go.Proofs.zk.yc
set_option linter.unusedSimpArgs false
set_option linter.unusedVariables false
namespace RW
section
variable {P:Program} {ops:Array Oper} {Q:Exit → Act → World → Prop} {md:Region.Mode} {S:World → Prop} {ds:List Nat} {T:Bool × List (List Nat × List Nat)} {oi:Oper} {v:Value} {fuel:Nat} {l:Array Bool} {a a':Act} {w:World}
theorem rP (i:Nat) (N:Option Tmp) (HT:zx (xJ md ops = T)) (h:yA P md ops Q S ds fuel (l.setIfInBounds i true) a' w)
  (hi:ops[i]? = some oi:=by exact rfl) (hN:oi.dst = N:=by exact rfl) (hc:PG T l.toList (l.setIfInBounds i true).toList i = true:=by kernel_rfl) (hQ:∀ c a w,Q (.panic c) (a.put oi.dst v) w → Q (.panic c) a w:=by exact fun _ _ _ h=>h)
  (hg:Region.wanted oi (yielded ops a.tmps) = true:=by rfl) (hy:∀ w,(execOp a.eval oi).run P w = .ok (.value v) w:=by intro w';go_simp;with_reducible rfl) (ha:a.put N v = a':=by simp only [Act.put,List.setIfInBounds_toArray,List.set_cons_zero,List.set_cons_succ,vO,vP];rfl) :
  yA P md ops Q S ds (fuel + 1) l a w:=q9 _ hi hN (qE HT.out hc) hQ (Or.inl ⟨hg,hy⟩) ha h
theorem rU (i:Nat) (N:Option Tmp) (HT:zx (xJ md ops = T)) (h:yA P md ops Q S ds fuel (l.setIfInBounds i true) a' w)
  (hi:ops[i]? = some oi:=by exact rfl) (hN:oi.dst = N:=by exact rfl) (hc:PG T l.toList (l.setIfInBounds i true).toList i = true:=by kernel_rfl) (hQ:∀ c a w,Q (.panic c) (a.put oi.dst undef) w → Q (.panic c) a w:=by exact fun _ _ _ h=>h)
  (hg:Region.wanted oi (yielded ops a.tmps) = false:=by rfl) (ha:a.put N undef = a':=by simp only [Act.put,List.setIfInBounds_toArray,List.set_cons_zero,List.set_cons_succ,vO,vP];rfl) :
  yA P md ops Q S ds (fuel + 1) l a w:=q9 _ hi hN (qE HT.out hc) hQ (Or.inr ⟨hg,rfl⟩) ha h
theorem rT {B:List Nat} (i:Nat) (N:Option Tmp) (HT:zx (xJ md ops = T)) (HW:zx (vv T.2 B = true)) (hS:S w) (h:yA P md ops Q S ds fuel (l.setIfInBounds i true) a' w)
  (hi:ops[i]? = some oi:=by exact rfl) (hN:oi.dst = N:=by exact rfl) (hc:PY T B ds l.toList (l.setIfInBounds i true).toList i = true:=by kernel_rfl) (hQ:∀ c a w,Q (.panic c) (a.put oi.dst v) w → Q (.panic c) a w:=by exact fun _ _ _ h=>h)
  (hg:Region.wanted oi (yielded ops a.tmps) = true:=by rfl) (hy:∀ w,S w → (execOp a.eval oi).run P w = .ok (.value v) w:=by intro w' hs_;go_simp;with_reducible rfl) (ha:a.put N v = a':=by simp only [Act.put,List.setIfInBounds_toArray,List.set_cons_zero,List.set_cons_succ,vO,vP];rfl) :
  yA P md ops Q S ds (fuel + 1) l a w:=Z4 _ hi hN (YX HT.out HW.out hc) hQ (Or.inl ⟨hg,hy⟩) hS ha h
theorem rS {X:World} {B:List Nat} {n id:Nat} (HS:zx (∀ W,Below X.heap.size X W → S W)) (hT:xJ .any ops = T) (hB:vv T.2 B = true) (hm:P.follows .mixedOrders = true) (hn:ops.size = n) (hl:Array.replicate n false = l)
  (h:∀ w,zx (Below X.heap.size X w) → zx (xJ .any ops = T) → zx (vv T.2 B = true) → S w → yA P .any ops Q S [] n l a w):(Code.region id ops true).wp P Q a X :=
 uq _ hm hn hl (HS.out _ (Below.refl _ _).drew) fun hH=>h _ ⟨(Below.refl _ _).drew⟩ ⟨hT⟩ ⟨hB⟩ hH
theorem rSD {X:World} {B:List Nat} {n id:Nat} (ds:List Nat) (HS:zx (∀ W,Below X.heap.size X W → S W)) (hT:xJ .any ops = T) (hB:vv T.2 B = true) (hm:P.follows .mixedOrders = true) (hn:ops.size = n) (hl:Array.replicate n false = l)
  (h:∀ w,zx (Below X.heap.size X w) → zx (xJ .any ops = T) → zx (vv T.2 B = true) → S w → yA P .any ops Q S ds n l a w):(Code.region id ops true).wp P Q a X :=
 uq _ hm hn hl (HS.out _ (Below.refl _ _).drew) fun hH=>h _ ⟨(Below.refl _ _).drew⟩ ⟨hT⟩ ⟨hB⟩ hH
theorem rC {X:World} {f:FuncId} {fn:Func} {aps:Array Operand} {ts:Array TypeId} {args:Array Value} (i:Nat) (N:Option Tmp) (HT:zx (xJ md ops = T)) (HS:zx (∀ W,Below X.heap.size X W → S W)) (HY:zx (Below X.heap.size X w)) (hf:P.funcs[f]? = some fn)
  (hcall:Calls P f args w fun e w'=>e = .returned v ∧ Below w.heap.size w w') (h:∀ w',zx (Below X.heap.size X w') → S w' → yA P md ops Q S ds fuel (l.setIfInBounds i true) a' w') (hname:(fn.name == "runtime.NumGoroutine") = false)
  (hi:ops[i]? = some oi:=by exact rfl) (hN:oi.dst = N:=by exact rfl) (hc:(Y0 T.2 l.toList == [i] && l.toList.set i true == (l.setIfInBounds i true).toList) = true:=by kernel_rfl) (hd:i ∉ ds:=by decide) (hb:fn.body.isSome = true:=by exact rfl) (hw:Region.wanted oi (yielded ops a.tmps) = true:=by rfl)
  (hop:oi.op = .call { callee:=.value (.func f),args:=aps,argTypes:=ts }:=by exact rfl) (hargs:aps.map a.eval = args:=by (try simp only [List.map_toArray,List.map_cons,List.map_nil]);first | done | rfl) (ha:a.put N v = a':=by simp only [Act.put,List.setIfInBounds_toArray,List.set_cons_zero,List.set_cons_succ,vO,vP];rfl) :
  yA P md ops Q S ds (fuel + 1) l a w:=by
 refine Z5 _ hi hN (jX HT.out hc) hd fun K hK=>?_
 refine vI hf hname hb args hw hN hop hargs (hcall.mono ?_)
 rintro e w' ⟨rfl,hk⟩
 have h2:=HY.out.trans (hk.mono HY.out.size)
 refine ⟨_,rfl,hK.out _ _ (HS.out _ h2) fun hH=>?_⟩
 rw [ha]
 exact h _ ⟨h2⟩ hH
end
end RW
end Go.Proofs.YtggifbbiiickmaaGreatDoor
namespace Go.Proofs.YtggifbbiiickmaaGreatDoor
open Go.RowKit Go.Proofs.zk.zm Go.Proofs.zk.yK Go.Proofs.zk.yc Go.Proofs.YtggifbbiiickmaaGreatDoor.PX
set_option linter.unusedSimpArgs false
set_option linter.unusedVariables false
theorem ZJ {x:yM} (h:qK x = true):x.f3.length ≤ 400 ∧ x.f4.length ≤ 50 ∧ x.f5.length ≤ 500:=zqq h
theorem oG {l:List yM} {i:Int} (h0:0 ≤ i) (h1:i < (l.length:Int)):qY l i ∈ l:=by
 unfold qY vG
 rw [List.getD_eq_getElem?_getD,List.getElem?_eq_getElem (by omega),Option.getD_some]
 exact List.getElem_mem _
theorem wX {l:List yM} {i:Int} (hv:∀ x ∈ l,qK x = true) (h0:0 ≤ i) (h1:i < (l.length:Int)):qK (qY l i) = true:=hv _ (oG h0 h1)
theorem Wt (n:ByteArray):∀ (l:List yM) (i:Nat),ZB n l i = kK (fun x=>x.f1 && ZN x n) l i
 | [],_=>rfl
 | x :: r,i=>by
  unfold ZB
  rw [Xd,Wt n r]
theorem bn (n:ByteArray):∀ (l:List yM) (i:Nat),ZB n l i = -1 ∨ (0 ≤ ZB n l i ∧ ZB n l i < ((i + l.length:Nat):Int))
 | [],_=>Or.inl rfl
 | x :: r,i=>by
  unfold ZB
  by_cases h:(x.f1 && ZN x n) = true
  ·rw [if_pos h];right;simp only [List.length_cons];omega
  ·rw [if_neg h]
   rcases bn n r (i + 1) with h1 | h1
   ·exact Or.inl h1
   ·right;simp only [List.length_cons];omega
theorem VO {l:List yM} {f:Int} (n:ByteArray) (h0:0 ≤ f) (h1:f < (l.length:Int)):vT l f n = -1 ∨ (0 ≤ vT l f n ∧ vT l f n < (l.length:Int)):=by
 unfold vT
 split
 ·exact Or.inr ⟨h0,h1⟩
 ·have:=bn n l 0
  simpa using this
set_option maxRecDepth 100000 in
set_option maxHeartbeats 4000000 in
theorem zxx (B:Nat) (n:ByteArray) (x:yM) (A3:Option Addr) (c3:Nat) (A4:Option Addr) (c4:Nat) (A5:Option Addr) (c5:Nat) (W:World) (hG:GW W) (hx:qK x = true) (hB:W.cell? ⟨B,0,none⟩ = some (.string n))
  (q3:Kd.C xG W A3 x.f3.length x.f3) (g3:x.f3.length ≤ c3) (q4:Kd.C uQ W A4 x.f4.length x.f4) (g4:x.f4.length ≤ c4) (q5:Kd.C uo W A5 x.f5.length x.f5) (g5:x.f5.length ≤ c5) :
  Calls Tryz.prog 136 #[.agg #[.string x.f0,.bool x.f1,.int .i64 x.f2,.slice A3 x.f3.length c3,.slice A4 x.f4.length c4,.slice A5 x.f5.length c5],.pointer (some ⟨B,0,none⟩)] W fun e w'=>e = .returned (.bool (x.f1 && ZN x n)) ∧ Below W.heap.size W w':=by
 have hl:=World.block_lt_of_cell? W _ hB
 have hb0:Below W.heap.size W (W.alloc (.cells #[.string x.f0,.bool x.f1,.int .i64 x.f2,.slice A3 x.f3.length c3,.slice A4 x.f4.length c4,.slice A5 x.f5.length c5] 60)):=(Below.refl _ W).alloc (Nat.le_refl _) _
 have hc:(W.alloc (.cells #[.string x.f0,.bool x.f1,.int .i64 x.f2,.slice A3 x.f3.length c3,.slice A4 x.f4.length c4,.slice A5 x.f5.length c5] 60)).cell? ⟨B,0,none⟩ = some (.string n):=(World.cell?_alloc_lt _ _ _ hl).trans hB
 have hz:=ZJ hx
 have hh:=ZM.calls x.f0 x.f1 x.f2 A3 c3 x.f3 A4 c4 x.f4 A5 c5 x.f5 n (Xu x.f3 n) _ (Kd.zH q3 hb0) g3 (Kd.zH q4 hb0) g4 (Kd.zH q5 hb0) g5 (hG.under hb0) (by unfold ZM.f;rw [if_pos (by omega)])
 unfold ZN
 generalize Xu x.f3 n = b at hh ⊢
 cases hs:x.f1 with
 | false =>
  rw [hs] at hc hb0
  clear hh hz hx q3 q4 q5
  go_enter Tryz.func136,Tryz.ntmps136
  go_wp2
  go_ret
  exact ⟨rfl,hb0⟩
 | true =>
  rw [hs] at hc hb0 hh
  clear hz hx q3 q4 q5
  go_enter Tryz.func136,Tryz.ntmps136
  go_wp2_with (go_at_call 135;refine hh.mono ?_;rintro e w2 ⟨rfl,hb2⟩)
  go_ret
  exact ⟨by cases b <;> rfl,hb0.trans (hb2.mono hb0.size)⟩
def home.T1:Bool × List (List Nat × List Nat):=(true,[([],[]),([0],[0]),([1],[1]),([2],[2]),([],[]),([4],[4]),([5],[5]),([6],[6]),([7],[7]),([3,8],[3,8]),([9],[9]),([],[]),([10,11],[10,11])])
def home.B1:List Nat:=[0,1,3,7,0,16,48,112,240,511,1023,0,4095]
theorem home.Yb:xJ .any (opsOf Tryz.f105 1) = home.T1:=by kernel_rfl
theorem home.ZV:vv home.T1.2 home.B1 = true:=by kernel_rfl
set_option maxRecDepth 100000 in
set_option maxHeartbeats 8000000 in
theorem bA (w0:World) (g:Nat) (Af:Option Addr) (cf:Nat) (l:List yM) (f s:Int) (yV zu:Bool) (vo vl:Value) (n:ByteArray) (w:World) (hG:GW w0) (hC:Kd.C jh w0 Af l.length l) (hl:l.length ≤ 1000000000) (hf0:0 ≤ f) (hf1:f < (l.length:Int)) (hv:∀ x ∈ l,qK x = true) (hw:Below w0.heap.size w0 w)
  (hS:w.heap[g]? = some (.cells #[.slice Af l.length cf,.int .i64 f,.int .i64 s,.bool yV,.bool zu,vo,vl] 90 (0,0))) :
  Calls Tryz.prog 105 #[.pointer (some ⟨g,0,none⟩),.string n] w fun e w'=>e = .returned (.int .i64 (vT l f n)) ∧ Below w.heap.size w w':=by
 obtain ⟨w1,hw1⟩:∃ w1,w.alloc (.cells #[.string n] 9) = w1:=⟨_,rfl⟩
 have hb1:Below w.heap.size w w1:=by rw [← hw1];exact (Below.refl _ w).alloc (Nat.le_refl _) _
 have hS1:=zW hS hb1
 have hN:w1.cell? ⟨w.heap.size,0,none⟩ = some (.string n):=by rw [← hw1];simp
 have hwb:Below w0.heap.size w0 w1:=hw.trans (hb1.mono hw.size)
 have hC1:=Kd.zH hC hwb
 have hG1:GW w1:=hG.under hwb
 obtain ⟨ad,A3,c3,A4,c4,A5,c5,e,x0,x1,x2,x3,x4,x5,g3,q3,g4,q4,g5,q5⟩:=XO hC1 f hf0 (by omega)
 subst e
 have hx:=wX hv hf0 hf1
 have hz:=ZJ hx
 have hhome:vT l f n = if Xu (qY l f).f3 n then f else kK (fun x=>x.f1 && ZN x n) l 0:=by unfold vT;rw [Wt];rfl
 have e:vG l f = qY l f:=rfl
 rw [e] at x0 x1 x2 x3 x4 x5 g3 q3 g4 q4 g5 q5
 clear e
 generalize qY l f = x at x0 x1 x2 x3 x4 x5 g3 q3 g4 q4 g5 q5 hx hz hhome
 have hh:∀ W,Below w1.heap.size w1 W → Calls Tryz.prog 135 #[.agg #[.string x.f0,.bool x.f1,.int .i64 x.f2,.slice A3 x.f3.length c3,.slice A4 x.f4.length c4,.slice A5 x.f5.length c5],.string n] W fun e w'=>e = .returned (.bool (Xu x.f3 n)) ∧ Below W.heap.size W w':=fun W hb =>
  ZM.calls x.f0 x.f1 x.f2 A3 c3 x.f3 A4 c4 x.f4 A5 c5 x.f5 n (Xu x.f3 n) _ (Kd.zH q3 hb) g3 (Kd.zH q4 hb) g4 (Kd.zH q5 hb) g5 (hG1.under hb) (by unfold ZM.f;rw [if_pos (by omega)])
 have HH:=zx.mk hh
 have hi:∀ W,Below w1.heap.size w1 W → Calls Tryz.prog 83 #[.slice (some ad) l.length cf,.func (.func 136) #[] #[.pointer (some ⟨w.heap.size,0,none⟩)]] W fun e w'=>e = .returned (.int .i64 (kK (fun x=>x.f1 && ZN x n) l 0)) ∧ Below W.heap.size W w':=fun W hb =>
  (bg (some ad) cf l W (Kd.zH hC1 hb) hl (fun x=>x.f1 && ZN x n) 136 #[.pointer (some ⟨w.heap.size,0,none⟩)] (kF Tryz.func136 (by kernel_rfl) rfl)
   (fun V y A3 c3 A4 c4 A5 c5 hm hV p3 g3 p4 g4 p5 g5=>by
    have hb2:=hb.trans (hV.mono hb.size)
    have hlt:=World.block_lt_of_cell? w1 _ hN
    exact (zxx w.heap.size n y A3 c3 A4 c4 A5 c5 V (hG1.under hb2) (hv y hm) ((hb2.cell (p:=⟨w.heap.size,0,none⟩) hlt).trans hN) p3 g3 p4 g4 p5 g5).mono fun e w' ⟨h1,h2⟩=>⟨h1,hV.trans (h2.mono hV.size)⟩))
 have HI:=zx.mk hi
 have hs0:w1.cell? ⟨g,0,none⟩ = some (.slice (some ad) l.length cf):=(zK hS1 0).trans rfl
 have hs1:w1.cell? ⟨g,1,none⟩ = some (.int .i64 f):=(zK hS1 1).trans rfl
 have HS:=zx.mk (fun (W:World) (h:Below w1.heap.size w1 W)=>(show W.cell? ⟨g,0,none⟩ = some (.slice (some ad) l.length cf) ∧ W.cell? ⟨g,1,none⟩ = some (.int .i64 f) ∧ W.cell? ⟨w.heap.size,0,none⟩ = some (.string n) ∧ W.cell? (ad.add (f.toNat * 6)) = some (.string x.f0) ∧ W.cell? ⟨(ad.add (f.toNat * 6)).block,(ad.add (f.toNat * 6)).off + 1,none⟩ = some (.bool x.f1) ∧ W.cell? ⟨(ad.add (f.toNat * 6)).block,(ad.add (f.toNat * 6)).off + 2,none⟩ = some (.int .i64 x.f2) ∧ W.cell? ⟨(ad.add (f.toNat * 6)).block,(ad.add (f.toNat * 6)).off + 3,none⟩ = some (.slice A3 x.f3.length c3) ∧ W.cell? ⟨(ad.add (f.toNat * 6)).block,(ad.add (f.toNat * 6)).off + 4,none⟩ = some (.slice A4 x.f4.length c4) ∧ W.cell? ⟨(ad.add (f.toNat * 6)).block,(ad.add (f.toNat * 6)).off + 5,none⟩ = some (.slice A5 x.f5.length c5) from
  ⟨(h.cell (World.block_lt_of_cell? w1 _ hs0)).trans hs0,(h.cell (World.block_lt_of_cell? w1 _ hs1)).trans hs1,(h.cell (World.block_lt_of_cell? w1 _ hN)).trans hN,(h.cell (World.block_lt_of_cell? w1 _ x0)).trans x0,(h.cell (World.block_lt_of_cell? w1 _ x1)).trans x1,(h.cell (World.block_lt_of_cell? w1 _ x2)).trans x2,(h.cell (World.block_lt_of_cell? w1 _ x3)).trans x3,(h.cell (World.block_lt_of_cell? w1 _ x4)).trans x4,(h.cell (World.block_lt_of_cell? w1 _ x5)).trans x5⟩))
 generalize hR:vT l f n = R at hhome
 have HR:=zx.mk hhome
 have HB1:=zx.mk hb1
 clear hhome hh hi hS hS1 hN hC hC1 hG hG1 hw hwb hs0 hs1 x0 x1 x2 x3 x4 x5 q3 q4 q5 hv hx hR hz hb1
 go_enter Tryz.func105,Tryz.ntmps105
 go_wp2_with fail
 clear hw1
 cases hb:Xu x.f3 n with
 | true =>
  rw [hb,if_pos rfl] at HR
  rw [hb] at HH
  refine RW.rS (n:=13) HS home.Yb home.ZV (by kernel_rfl) rfl rfl (fun w2 H0 T U h=>?_)
  refine RW.rP 0 (some 5) T ?_
  refine RW.rP 1 (some 6) T ?_
  refine RW.rP 2 (some 7) T ?_
  refine RW.rT 3 (some 8) T U h ?_
  refine RW.rP 4 (some 9) T ?_
  refine RW.rP 5 (some 10) T ?_
  refine RW.rP 6 (some 11) T ?_
  refine RW.rP 7 (some 12) T ?_
  refine RW.rT 8 (some 13) T U h ?_
  refine RW.rP 9 (some 14) T ?_
  refine RW.rT 10 (some 15) T U h ?_
  refine RW.rT 11 (some 16) T U h ?_
  clear h
  refine RW.rC 12 (some 17) T HS H0 Tryz.func135 (HH.out _ H0.out) (fun w3 H3 h=>?_) (by kernel_rfl)
  refine xD (qb T.out (by kernel_rfl)) ?_
  obtain ⟨h1,h2,h3,h4⟩:=h
  go_wp2_with fail
  go_ret
  exact ⟨by rw [HR.out];rfl,HB1.out.trans (H3.out.mono HB1.out.size)⟩
 | false =>
  rw [hb,if_neg Bool.false_ne_true] at HR
  rw [hb] at HH
  refine RW.rS (n:=13) HS home.Yb home.ZV (by kernel_rfl) rfl rfl (fun w2 H0 T U h=>?_)
  refine RW.rP 0 (some 5) T ?_
  refine RW.rP 1 (some 6) T ?_
  refine RW.rP 2 (some 7) T ?_
  refine RW.rT 3 (some 8) T U h ?_
  refine RW.rP 4 (some 9) T ?_
  refine RW.rP 5 (some 10) T ?_
  refine RW.rP 6 (some 11) T ?_
  refine RW.rP 7 (some 12) T ?_
  refine RW.rT 8 (some 13) T U h ?_
  refine RW.rP 9 (some 14) T ?_
  refine RW.rT 10 (some 15) T U h ?_
  refine RW.rT 11 (some 16) T U h ?_
  clear h
  refine RW.rC 12 (some 17) T HS H0 Tryz.func135 (HH.out _ H0.out) (fun w3 H3 h=>?_) (by kernel_rfl)
  refine xD (qb T.out (by kernel_rfl)) ?_
  obtain ⟨h1,h2,h3,h4⟩:=h
  clear h2 h4
  go_wp2_with fail
  refine (HI.out _ H3.out).mono ?_;rintro e w4 ⟨rfl,hb4⟩
  go_wp2_with fail
  go_ret
  exact ⟨by rw [HR.out];rfl,HB1.out.trans ((H3.out.trans (hb4.mono H3.out.size)).mono HB1.out.size)⟩
end Go.Proofs.YtggifbbiiickmaaGreatDoor
namespace Go.Proofs.YtggifbbiiickmaaGreatDoor
open Go.RowKit Go.Proofs.zk.zm Go.Proofs.zk.yK Go.Proofs.zk.yc Go.Proofs.YtggifbbiiickmaaGreatDoor.PX
set_option linter.unusedSimpArgs false
set_option linter.unusedVariables false
def vk (base B:Nat) (w w':World):Prop:=Below 0 w w' ∧ (∀ (k:Nat) (o:Obj),w.heap[k]? = some o → o.isCells = false → w'.heap[k]? = some o) ∧ ∀ k:Nat,k < base → k ≠ B → w'.heap[k]? = w.heap[k]?
theorem vk.refl (base B:Nat) (w:World):vk base B w w:=⟨Below.refl _ _,fun _ _ h _=>h,fun _ _ _=>rfl⟩
theorem vk.trans {base B:Nat} {a b c:World} (h:vk base B a b) (k:vk base B b c):vk base B a c :=
 ⟨h.1.trans k.1,fun i o hi ho=>k.2.1 i o (h.2.1 i o hi ho) ho,fun i hi hb=>(k.2.2 i hi hb).trans (h.2.2 i hi hb)⟩
theorem vk.below {base B:Nat} {a b:World} (h:Below a.heap.size a b) (hb:base ≤ a.heap.size):vk base B a b :=
 ⟨h.mono (Nat.zero_le _),fun k o hk _=>(h.block k (Array.getElem?_eq_some_iff.1 hk).1).trans hk,fun k hk _=>h.block k (by omega)⟩
theorem vk.set {base B:Nat} {w:World} {cs:Array Value} {t:TypeId} {z:Nat × Nat} (h:w.heap[B]? = some (.cells cs t z)) (j:Nat) (u:Value):vk base B w (w.setCell ⟨B,j,none⟩ u):=by
 refine ⟨(Below.refl _ _).setCell (p:=⟨B,j,none⟩) (Nat.zero_le _) u,fun k o hk ho=>?_,fun k _ hb=>Below.heap_setCell w ⟨B,j,none⟩ u k hb⟩
 by_cases e:k = B
 ·subst e;rw [h] at hk;cases hk;cases ho
 ·rw [Below.heap_setCell w ⟨B,j,none⟩ u k e];exact hk
theorem vk.grown {base B:Nat} {a b:World} {v:Value} {e:TypeId} {size n:Nat} {xs:List Value} (ho:a.ownsRow base e size v n xs) (h:a.grownBy b v.ownBlock) (hb:base ≤ a.heap.size):vk base B a b:=by
 refine ⟨⟨h.os,h.tape,h.output,h.size,fun k hk=>absurd hk (Nat.not_lt_zero _)⟩,fun k o hk hc=>?_,fun k hk _=>h.block k (by omega) (fun e=>?_)⟩
 ·have hlt:=(Array.getElem?_eq_some_iff.1 hk).1
  rw [h.block k hlt (fun e=>?_)]
  ·exact hk
  ·obtain ⟨cells,hcc⟩:=Yu ho k e.symm
   rw [hcc] at hk;cases hk;cases hc
 ·have:=ZG ho k e.symm
  omega
theorem Vh {base B n₀:Nat} {W W':World} (h:vk base B W W') (hn:n₀ ≤ B) (hn2:n₀ ≤ base):Below n₀ W W':=⟨h.1.os,h.1.tape,h.1.output,h.1.size,fun k hk=>h.2.2 k (by omega) (by omega)⟩
theorem zvs {W W':World} {row:Option Nat} {k:Nat} {cs:Array Value} {t:TypeId} (h:W.heap[k]? = some (.cells cs t (0,0))) (hg:W.grownBy W' row) (hr:∀ r,row = some r → ∃ o:Obj,W.heap[r]? = some o ∧ o.isCells = false):W'.heap[k]? = some (.cells cs t (0,0)) :=
 kX h hg (fun e=>by obtain ⟨o,ho,hn⟩:=hr k e.symm;rw [h] at ho;cases ho;cases hn)
theorem rz {α:Type} {d:Kd α} {e base:Nat} {W W':World} {row:Option Nat} {v:Value} {xs:List α} (h:d.R e W base (fun _=>True) v xs) (hg:W.grownBy W' row) (hr:∀ r,row = some r → ∃ o:Obj,W.heap[r]? = some o ∧ o.isCells = false):d.R e W' base (fun _=>True) v xs :=
 Kd.vX (Kd.Vq (Kd.wS h) hg (fun k hk e=>by
  obtain ⟨_,_,_,q,hq,cells,hc⟩:=hk
  obtain ⟨o,ho,hn⟩:=hr k e.symm
  rw [hc] at ho;cases ho;cases hn)) (fun _ _=>trivial)
end Go.Proofs.YtggifbbiiickmaaGreatDoor
namespace Go.Proofs.YtggifbbiiickmaaGreatDoor
open Go.RowKit Go.Proofs.zk.zm Go.Proofs.zk.yK Go.Proofs.zk.yc Go.Proofs.YtggifbbiiickmaaGreatDoor.PX
set_option linter.unusedSimpArgs false
set_option linter.unusedVariables false
set_option maxRecDepth 100000 in
set_option maxHeartbeats 4000000 in
theorem mP (a:ByteArray) (b:Bool) (c:Int) (A3:Option Addr) (c3:Nat) (l3:List yP) (A4:Option Addr) (c4:Nat) (l4:List qx) (A5:Option Addr) (c5:Nat) (l5:List qC) (na nb:ByteArray) (s:Int) (w:World) (hG:GW w) (h3:Kd.C xG w A3 l3.length l3) (g3:l3.length ≤ c3) (h4:Kd.C uQ w A4 l4.length l4) (g4:l4.length ≤ c4) (h5:Kd.C uo w A5 l5.length l5) (g5:l5.length ≤ c5) (z3:l3.length ≤ 1000000000) (z4:l4.length ≤ 1000000000) (z5:l5.length ≤ 1000000000) :
  Calls Tryz.prog 21 #[.agg #[.string a,.bool b,.int .i64 c,.slice A3 l3.length c3,.slice A4 l4.length c4,.slice A5 l5.length c5],.string na,.string nb,.int .i64 s] w fun e w'=>e = .returned (.tuple #[.int .i64 (UC (xk a c l3 l4 l5) l5 na nb s).1,.int .i64 (UC (xk a c l3 l4 l5) l5 na nb s).2]) ∧ Below w.heap.size w w':=by
 have hb0:Below w.heap.size w (w.alloc (.cells #[.string a,.bool b,.int .i64 c,.slice A3 l3.length c3,.slice A4 l4.length c4,.slice A5 l5.length c5] 60)):=(Below.refl _ w).alloc (Nat.le_refl _) _
 have hbf:=uN w (.cells #[.string a,.bool b,.int .i64 c,.slice A3 l3.length c3,.slice A4 l4.length c4,.slice A5 l5.length c5] 60)
 have hfair:=uH.calls a b c A3 c3 l3 A4 c4 l4 A5 c5 l5 s (wN s (xk a c l3 l4 l5)) (w.alloc (.cells #[.string a,.bool b,.int .i64 c,.slice A3 l3.length c3,.slice A4 l4.length c4,.slice A5 l5.length c5] 60)) (Kd.zH h3 hb0) g3 (Kd.zH h4 hb0) g4 (Kd.zH h5 hb0) g5 (hG.under hb0) (bf a b c l3 l4 l5 s z3 z4 z5)
 have hval:UC (xk a c l3 l4 l5) l5 na nb s = (if wN s (xk a c l3 l4 l5) = true then ((match l5.find? (fun x=>decide (x.f0 = na) && decide (x.f1 = nb)) with | some x=>bK s x.f2 | none=>0),0) else (0,1)):=rfl
 have hk:wN s (xk a c l3 l4 l5) = true → (1 ≤ s ∧ s ≤ 1000) ∧ ∀ x ∈ l5,-500 ≤ x.f2 ∧ x.f2 ≤ 500:=fun h=>by
  obtain ⟨p,q,hv⟩:=VL h
  exact ⟨⟨p,q⟩,(UD hv).2⟩
 generalize UC (xk a c l3 l4 l5) l5 na nb s = R at hval ⊢
 cases Y6:wN s (xk a c l3 l4 l5) with
 | false =>
  rw [Y6,if_neg (by simp)] at hval
  rw [Y6] at hfair
  subst hval
  clear h3 h4 h5 hk
  go_enter Tryz.func21,Tryz.ntmps21
  go_wp2_with fail
  refine hfair.mono ?_;rintro e w1 ⟨rfl,hb1⟩
  go_wp2
  go_ret2
  exact ⟨rfl,hb0.trans (hb1.mono hb0.size)⟩
 | true =>
 rw [Y6,if_pos rfl] at hval
 rw [Y6] at hfair
 obtain ⟨⟨s1,s2⟩,hkn⟩:=hk Y6
 have Yc:=zx.mk hval
 have HK:=zx.mk hkn
 have H5:=zx.mk h5
 clear h3 h4 h5 hk hval hkn
 go_enter Tryz.func21,Tryz.ntmps21
 go_wp2_with fail
 refine hfair.mono ?_;rintro e w1 ⟨rfl,hb1⟩
 have HB0:=zx.mk (hb0.trans (hb1.mono hb0.size))
 have hc5:w1.cell? ⟨w.heap.size,5,none⟩ = some (.slice A5 l5.length c5):=(zK (zW hbf hb1) 5).trans rfl
 clear hbf hb1 hfair
 go_wp2_with fail
 clear hc5
 go_loopw [19] (fun y W=>∃ i:Nat,y = .int .i64 (i:Int) ∧ i ≤ l5.length ∧ zx (l5.find? (fun x=>decide (x.f0 = na) && decide (x.f1 = nb)) = (l5.drop i).find? (fun x=>decide (x.f0 = na) && decide (x.f1 = nb))) ∧ zx (Below w.heap.size w W)) (fun y _=>l5.length - (intOf y).toNat)
 case atStart=>exact ⟨0,rfl,Nat.zero_le _,⟨by rw [List.drop_zero]⟩,HB0⟩
 case round =>
  clear HB0
  obtain ⟨i,rfl,hi,HX,HB⟩:=hrel
  by_cases hlt:i < l5.length
  ·obtain ⟨ad,e,x0,x1,x2⟩:=JY (Kd.zH H5.out HB.out) (i:Int) (by omega) (by omega)
   cases e
   have e:xP l5 (i:Int) = l5[i]:=by simp [xP,List.getD_eq_getElem?_getD,hlt]
   rw [Int.toNat_natCast,e] at x0 x1 x2
   clear e
   have hx:=HX.out
   rw [List.drop_eq_getElem_cons hlt,List.find?_cons] at hx
   have hm:l5[i] ∈ l5:=List.getElem_mem hlt
   generalize l5[i] = x at x0 x1 x2 hx hm
   have q1:(i:Int) < (l5.length:Int):=by omega
   have q0:(0:Int) ≤ (i:Int):=by omega
   have q3:((i:Int)).toNat = i:=Int.toNat_natCast i
   have hbX:Below wr.heap.size wr (wr.alloc (.cells #[.string x.f0,.string x.f1,.int .i64 x.f2] 111)):=(Below.refl _ wr).alloc (Nat.le_refl _) _
   have hb2:=HB.out.trans (hbX.mono HB.out.size)
   by_cases t0:x.f0 = na
   case neg =>
    have d0:(x.f0.toList == na.toList) = false:=beq_eq_false_iff_ne.2 (fun e=>t0 (QX.1 e))
    rw [decide_eq_false t0,Bool.false_and] at hx
    have bB:=zx.mk hx
    clear hx
    clear hm t0
    go_wp2
    go_roundw
    case rel=>exact ⟨i + 1,by first | rfl | (simp;done) | go_num,by omega,bB,⟨hb2⟩⟩
    case measure=>simp [intOf];omega
   have d0:(x.f0.toList == na.toList) = true:=beq_iff_eq.2 (QX.2 t0)
   by_cases t1:x.f1 = nb
   case neg =>
    have d1:(x.f1.toList == nb.toList) = false:=beq_eq_false_iff_ne.2 (fun e=>t1 (QX.1 e))
    rw [decide_eq_false t1,Bool.and_false] at hx
    have bB:=zx.mk hx
    clear hx t1
    clear hm t0
    go_wp2
    go_roundw
    case rel=>exact ⟨i + 1,by first | rfl | (simp;done) | go_num,by omega,bB,⟨hb2⟩⟩
    case measure=>simp [intOf];omega
   case pos =>
    have d1:(x.f1.toList == nb.toList) = true:=beq_iff_eq.2 (QX.2 t1)
    rw [decide_eq_true t0,decide_eq_true t1] at hx
    simp only [Bool.and_true] at hx
    rw [hx] at Yc
    have hR:=Yc.out
    subst hR
    have hsc:=fun W=>xR.calls x.f2 s (bK s x.f2) W (bY x.f2 s s1 s2 (by have:=HK.out x hm;omega) (by have:=HK.out x hm;omega))
    clear hx Yc hm t0 t1
    go_wp2_with fail
    refine (hsc _).mono ?_;rintro e w3 ⟨rfl,⟨nd,rfl⟩⟩
    go_wp2
    go_ret2
    exact ⟨rfl,yg hb2 nd⟩
  ·obtain rfl:i = l5.length:=by omega
   have q1:decide ((l5.length:Int) < (l5.length:Int)) = false:=decide_eq_false (by omega)
   have hx:=HX.out
   rw [List.drop_eq_nil_of_le (Nat.le_refl _),List.find?_nil] at hx
   rw [hx] at Yc
   have hR:=Yc.out
   subst hR
   clear hx Yc
   go_wp2
   go_ret2
   exact ⟨rfl,HB.out⟩
set_option maxRecDepth 100000 in
set_option maxHeartbeats 4000000 in
theorem zxj (a:ByteArray) (b:Bool) (c:Int) (A3:Option Addr) (c3:Nat) (l3:List yP) (A4:Option Addr) (c4:Nat) (l4:List qx) (A5:Option Addr) (c5:Nat) (l5:List qC) (na nb:ByteArray) (w:World) (hG:GW w) (h3:Kd.C xG w A3 l3.length l3) (g3:l3.length ≤ c3) (h4:Kd.C uQ w A4 l4.length l4) (g4:l4.length ≤ c4) (h5:Kd.C uo w A5 l5.length l5) (g5:l5.length ≤ c5) (z3:l3.length ≤ 1000000000) (z4:l4.length ≤ 1000000000) (z5:l5.length ≤ 1000000000) :
  Calls Tryz.prog 45 #[.agg #[.string a,.bool b,.int .i64 c,.slice A3 l3.length c3,.slice A4 l4.length c4,.slice A5 l5.length c5],.string na,.string nb] w fun e w'=>e = .returned (.tuple #[.string (Vy (xk a c l3 l4 l5) l4 na nb).1,.bool (Vy (xk a c l3 l4 l5) l4 na nb).2]) ∧ Below w.heap.size w w':=by
 have hb0:Below w.heap.size w (w.alloc (.cells #[.string a,.bool b,.int .i64 c,.slice A3 l3.length c3,.slice A4 l4.length c4,.slice A5 l5.length c5] 60)):=(Below.refl _ w).alloc (Nat.le_refl _) _
 have hbf:=uN w (.cells #[.string a,.bool b,.int .i64 c,.slice A3 l3.length c3,.slice A4 l4.length c4,.slice A5 l5.length c5] 60)
 have hvalid:=uX.calls a b c A3 c3 l3 A4 c4 l4 A5 c5 l5 (xk a c l3 l4 l5) (w.alloc (.cells #[.string a,.bool b,.int .i64 c,.slice A3 l3.length c3,.slice A4 l4.length c4,.slice A5 l5.length c5] 60)) (Kd.zH h3 hb0) g3 (Kd.zH h4 hb0) g4 (Kd.zH h5 hb0) g5 (hG.under hb0) (by unfold uX.f;rw [if_pos ⟨z3,z4,z5⟩])
 have hval:Vy (xk a c l3 l4 l5) l4 na nb = (if xk a c l3 l4 l5 = true then (match l4.find? (fun x=>decide (x.f0 = na) && decide (x.f1 = nb)) with | some x=>(x.f2,true) | none=>((⟨#[]⟩:ByteArray),false)) else ((⟨#[]⟩:ByteArray),false)):=rfl
 generalize Vy (xk a c l3 l4 l5) l4 na nb = R at hval ⊢
 by_cases h0:l4.length = 0
 ·have e:l4 = []:=List.eq_nil_of_length_eq_zero h0
  have hR:R = ((⟨#[]⟩:ByteArray),false):=by rw [hval,e];split <;> rfl
  subst hR
  have d0:((l4.length:Int) == 0) = true:=beq_iff_eq.2 (by omega)
  have d1:decide ((l4.length:Int) = 0) = true:=decide_eq_true (by omega)
  clear h3 h4 h5 hval hvalid e h0
  go_enter Tryz.func45,Tryz.ntmps45
  go_wp2
  go_ret2
  exact ⟨rfl,hb0⟩
 have d0:((l4.length:Int) == 0) = false:=beq_eq_false_iff_ne.2 (by omega)
 have d1:decide ((l4.length:Int) = 0) = false:=decide_eq_false (by omega)
 clear h0
 cases Y6:xk a c l3 l4 l5 with
 | false =>
  rw [Y6,if_neg (by simp)] at hval
  rw [Y6] at hvalid
  subst hval
  clear h3 h4 h5
  go_enter Tryz.func45,Tryz.ntmps45
  go_wp2_with fail
  refine hvalid.mono ?_;rintro e w1 ⟨rfl,hb1⟩
  go_wp2
  go_ret2
  exact ⟨rfl,hb0.trans (hb1.mono hb0.size)⟩
 | true =>
 rw [Y6,if_pos rfl] at hval
 rw [Y6] at hvalid
 have Yc:=zx.mk hval
 have H4:=zx.mk h4
 clear h3 h4 h5 hval
 go_enter Tryz.func45,Tryz.ntmps45
 go_wp2_with fail
 refine hvalid.mono ?_;rintro e w1 ⟨rfl,hb1⟩
 have HB0:=zx.mk (hb0.trans (hb1.mono hb0.size))
 have hc4:w1.cell? ⟨w.heap.size,4,none⟩ = some (.slice A4 l4.length c4):=(zK (zW hbf hb1) 4).trans rfl
 clear hbf hb1 hvalid
 go_wp2_with fail
 clear hc4 d0 d1
 go_loopw [22] (fun y W=>∃ i:Nat,y = .int .i64 (i:Int) ∧ i ≤ l4.length ∧ zx (l4.find? (fun x=>decide (x.f0 = na) && decide (x.f1 = nb)) = (l4.drop i).find? (fun x=>decide (x.f0 = na) && decide (x.f1 = nb))) ∧ zx (Below w.heap.size w W)) (fun y _=>l4.length - (intOf y).toNat)
 case atStart=>exact ⟨0,rfl,Nat.zero_le _,⟨by rw [List.drop_zero]⟩,HB0⟩
 case round =>
  clear HB0
  obtain ⟨i,rfl,hi,HX,HB⟩:=hrel
  by_cases hlt:i < l4.length
  ·obtain ⟨ad,e,x0,x1,x2⟩:=JK (Kd.zH H4.out HB.out) (i:Int) (by omega) (by omega)
   cases e
   have e:xO l4 (i:Int) = l4[i]:=by simp [xO,List.getD_eq_getElem?_getD,hlt]
   rw [Int.toNat_natCast,e] at x0 x1 x2
   clear e
   have hx:=HX.out
   rw [List.drop_eq_getElem_cons hlt,List.find?_cons] at hx
   have hm:l4[i] ∈ l4:=List.getElem_mem hlt
   generalize l4[i] = x at x0 x1 x2 hx hm
   have q1:(i:Int) < (l4.length:Int):=by omega
   have q0:(0:Int) ≤ (i:Int):=by omega
   have q3:((i:Int)).toNat = i:=Int.toNat_natCast i
   have hbX:Below wr.heap.size wr (wr.alloc (.cells #[.string x.f0,.string x.f1,.string x.f2] 108)):=(Below.refl _ wr).alloc (Nat.le_refl _) _
   have hb2:=HB.out.trans (hbX.mono HB.out.size)
   by_cases t0:x.f0 = na
   case neg =>
    have d0:(x.f0.toList == na.toList) = false:=beq_eq_false_iff_ne.2 (fun e=>t0 (QX.1 e))
    rw [decide_eq_false t0,Bool.false_and] at hx
    have bB:=zx.mk hx
    clear hx
    clear hm t0
    go_wp2
    go_roundw
    case rel=>exact ⟨i + 1,by first | rfl | (simp;done) | go_num,by omega,bB,⟨hb2⟩⟩
    case measure=>simp [intOf];omega
   have d0:(x.f0.toList == na.toList) = true:=beq_iff_eq.2 (QX.2 t0)
   by_cases t1:x.f1 = nb
   case neg =>
    have d1:(x.f1.toList == nb.toList) = false:=beq_eq_false_iff_ne.2 (fun e=>t1 (QX.1 e))
    rw [decide_eq_false t1,Bool.and_false] at hx
    have bB:=zx.mk hx
    clear hx t1
    clear hm t0
    go_wp2
    go_roundw
    case rel=>exact ⟨i + 1,by first | rfl | (simp;done) | go_num,by omega,bB,⟨hb2⟩⟩
    case measure=>simp [intOf];omega
   case pos =>
    have d1:(x.f1.toList == nb.toList) = true:=beq_iff_eq.2 (QX.2 t1)
    rw [decide_eq_true t0,decide_eq_true t1] at hx
    simp only [Bool.and_true] at hx
    rw [hx] at Yc
    have hR:=Yc.out
    subst hR
    clear hx Yc hm t0 t1
    go_wp2
    go_ret2
    exact ⟨rfl,hb2⟩
  ·obtain rfl:i = l4.length:=by omega
   have q1:decide ((l4.length:Int) < (l4.length:Int)) = false:=decide_eq_false (by omega)
   have hx:=HX.out
   rw [List.drop_eq_nil_of_le (Nat.le_refl _),List.find?_nil] at hx
   rw [hx] at Yc
   have hR:=Yc.out
   subst hR
   clear hx Yc
   go_wp2
   go_ret2
   exact ⟨rfl,HB.out⟩
end Go.Proofs.YtggifbbiiickmaaGreatDoor
namespace Go.Proofs.YtggifbbiiickmaaGreatDoor
open Go.RowKit Go.Proofs.zk.zm Go.Proofs.zk.yK Go.Proofs.zk.yc Go.Proofs.YtggifbbiiickmaaGreatDoor.PX
set_option linter.unusedSimpArgs false
set_option linter.unusedVariables false
def Xe (base g:Nat) (W:World) (Af:Option Addr) (cf:Nat) (l:List yM) (f s:Int) (yV zu:Bool) (vo vl:Value) (st:List vH × List ByteArray):Prop :=
 W.heap[g]? = some (.cells #[.slice Af l.length cf,.int .i64 f,.int .i64 s,.bool yV,.bool zu,vo,vl] 90 (0,0)) ∧ Kd.R (Kd.bare xS) 53 W base (fun _=>True) vo st.1 ∧ Kd.R Kd.string 9 W base (fun _=>True) vl st.2
def Yn (base g:Nat) (W:World) (Af:Option Addr) (cf:Nat) (l:List yM) (f s:Int) (yV zu:Bool) (st:List vH × List ByteArray):Prop:=∃ vo vl,Xe base g W Af cf l f s yV zu vo vl st
section
variable {base g:Nat} {W:World} {Af:Option Addr} {cf:Nat} {l:List yM} {f s:Int} {yV zu:Bool} {vo vl:Value} {st:List vH × List ByteArray}
theorem Xe.below {W':World} (h:Xe base g W Af cf l f s yV zu vo vl st) (hb:Below W.heap.size W W'):Xe base g W' Af cf l f s yV zu vo vl st:=⟨zW h.1 hb,Kd.yO h.2.1 hb,Kd.yO h.2.2 hb⟩
theorem rZ {α β:Type} {d:Kd α} {e:TypeId} {dx:Kd β} {ex:TypeId} {W W':World} {v vx:Value} {xs:List α} {ys:List β} (h:d.R e W base (fun _=>True) v xs) (hx:dx.R ex W base (fun _=>True) vx ys) (hg:W.grownBy W' vx.ownBlock) (hE:∀ q,q ∈ e :: d.E → q ≠ ex):d.R e W' base (fun _=>True) v xs:=by
 obtain ⟨inn,hown⟩:=Kd.Qk hx
 exact Kd.vX (Kd.Vq (Kd.vX (Kd.wS h) (ok':=fun k=>some k ≠ vx.ownBlock) (fun k hk e=>by
  obtain ⟨_,_,_,p,hp,cs,hc⟩:=hk
  obtain ⟨cs',hc'⟩:=Yu hown k e.symm
  rw [hc] at hc'
  injection hc' with hc'
  injection hc' with _ hc'
  exact absurd hc' (hE p hp))) hg (fun k hk=>hk)) (ok':=fun _=>True) (fun _ _=>trivial)
theorem zkO (x:Int) (W:World) (b:Nat) (ok:Nat → Prop):(Kd.bare xS).M W b ok (XB x) [.int .i64 2,.int .i64 x,.int .i64 0,.int .i64 0,.string ⟨#[]⟩,.string ⟨#[]⟩,.slice none 0 0]:=XP _ _ (fun _=>False) (XB x) (Kd.jM _ _ _ _ _)
theorem zkP (x f s:Int) (n:ByteArray) (W:World) (b:Nat) (ok:Nat → Prop):(Kd.bare xS).M W b ok (YH x f s n) [.int .i64 0,.int .i64 x,.int .i64 f,.int .i64 s,.string n,.string ⟨#[]⟩,.slice none 0 0]:=XP _ _ (fun _=>False) (YH x f s n) (Kd.jM _ _ _ _ _)
theorem rQ {W1 W2:World} {Ao:Option Addr} {co:Nat} {out:List vH} (h:Xe base g W Af cf l f s yV zu vo vl st) (hW:Below W.heap.size W W1) (hg:W1.grownBy W2 vo.ownBlock) (ho:Kd.R (Kd.bare xS) 53 W2 base (fun _=>True) (.slice Ao out.length co) out) (hb:base ≤ W.heap.size) :
  Yn base g (W2.setCell ⟨g,5,none⟩ (.slice Ao out.length co)) Af cf l f s yV zu (out,st.2) ∧ vk base g W (W2.setCell ⟨g,5,none⟩ (.slice Ao out.length co)) ∧ W2.cell? ⟨g,5,none⟩ = some vo ∧ W2.frozen? ⟨g,5,none⟩ = false ∧ W2.heap[g]? = some (.cells #[.slice Af l.length cf,.int .i64 f,.int .i64 s,.bool yV,.bool zu,vo,vl] 90 (0,0)):=by
 obtain ⟨h0,hO,hL⟩:=h.below hW
 have hb1:=Nat.le_trans hb hW.size
 have B2:=kX h0 hg (Kd.Qr hO h0 (by decide))
 obtain ⟨inn,hown⟩:=Kd.Qk hO
 have L2:=rZ hL hO hg (by decide)
 refine ⟨⟨_,vl,y8 (cs':=#[.slice Af l.length cf,.int .i64 f,.int .i64 s,.bool yV,.bool zu,.slice Ao out.length co,vl]) B2 5 (.slice Ao out.length co) rfl,Kd.pO ho B2 (by decide) 5 _,Kd.pO L2 B2 (by decide) 5 _⟩,
  ((vk.below (B:=g) hW hb).trans (vk.grown (B:=g) hown hg hb1)).trans (vk.set B2 5 _),(zK B2 5).trans rfl,zy B2 5,B2⟩
theorem zxv {W1 W2:World} {Ao:Option Addr} {co:Nat} {lost:List ByteArray} (h:Xe base g W Af cf l f s yV zu vo vl st) (hW:Below W.heap.size W W1) (hg:W1.grownBy W2 vl.ownBlock) (ho:Kd.R Kd.string 9 W2 base (fun _=>True) (.slice Ao lost.length co) lost) (hb:base ≤ W.heap.size) :
  Yn base g (W2.setCell ⟨g,6,none⟩ (.slice Ao lost.length co)) Af cf l f s yV zu (st.1,lost) ∧ vk base g W (W2.setCell ⟨g,6,none⟩ (.slice Ao lost.length co)) ∧ W2.cell? ⟨g,6,none⟩ = some vl ∧ W2.frozen? ⟨g,6,none⟩ = false ∧ W2.heap[g]? = some (.cells #[.slice Af l.length cf,.int .i64 f,.int .i64 s,.bool yV,.bool zu,vo,vl] 90 (0,0)):=by
 obtain ⟨h0,hO,hL⟩:=h.below hW
 have hb1:=Nat.le_trans hb hW.size
 have B2:=kX h0 hg (Kd.Qr hL h0 (by decide))
 obtain ⟨inn,hown⟩:=Kd.Qk hL
 have L2:=rZ hO hL hg (by decide)
 refine ⟨⟨vo,_,y8 (cs':=#[.slice Af l.length cf,.int .i64 f,.int .i64 s,.bool yV,.bool zu,vo,.slice Ao lost.length co]) B2 6 (.slice Ao lost.length co) rfl,Kd.pO L2 B2 (by decide) 6 _,Kd.pO ho B2 (by decide) 6 _⟩,
  ((vk.below (B:=g) hW hb).trans (vk.grown (B:=g) hown hg hb1)).trans (vk.set B2 6 _),(zK B2 6).trans rfl,zy B2 6,B2⟩
end
def put.T5:Bool × List (List Nat × List Nat):=(true,[([],[]),([0],[0]),([1],[1]),([2],[2]),([],[]),([3,4],[3,4]),([5],[5]),([],[]),([7],[7]),([8],[8]),([9],[9]),([],[]),([11],[11]),([10,12],[10,12]),([13],[13]),([14],[14]),([],[]),([],[]),([17],[17]),([18],[18]),([19],[19]),([20],[20]),([6,15,16,21],[6,15,16,21]),([22],[22]),([23],[23]),([23],[23]),([24,22,0,1,2,3,4,5,6,7,8,9,10,11,12,13,14,15,16,17,18,19,20,21,22,23,24],[24]),([25,26,0,1,2,3,4,5,6,7,8,9,10,11,12,13,14,15,16,17,18,19,20,21,22,23,24,25,26],[25])])
def put.B5:List Nat:=[0,1,3,7,0,31,63,0,128,384,896,0,2048,8064,16256,32640,0,0,131072,393216,917504,1966080,4194303,8388607,16777215,16777215,33554431,134217727]
theorem put.QK:xJ .any (opsOf Tryz.f46 5) = put.T5:=by kernel_rfl
theorem put.QY:vv put.T5.2 put.B5 = true:=by kernel_rfl
def put.T8:Bool × List (List Nat × List Nat):=(true,[([],[]),([0],[0]),([1],[1]),([2],[2]),([],[]),([3,4],[3,4]),([5],[5]),([],[]),([],[]),([8],[8]),([9],[9]),([10],[10]),([11],[11]),([6,7,12],[6,7,12]),([13],[13]),([14],[14]),([14],[14]),([15,13,0,1,2,3,4,5,6,7,8,9,10,11,12,13,14,15],[15]),([16,17,0,1,2,3,4,5,6,7,8,9,10,11,12,13,14,15,16,17],[16])])
def put.B8:List Nat:=[0,1,3,7,0,31,63,0,0,256,768,1792,3840,8191,16383,32767,32767,65535,262143]
theorem put.zZL:xJ .any (opsOf Tryz.f46 8) = put.T8:=by kernel_rfl
theorem put.zy7:vv put.T8.2 put.B8 = true:=by kernel_rfl
def put.T9:Bool × List (List Nat × List Nat):=(true,[([],[]),([],[]),([1],[1]),([2],[2]),([3],[3]),([],[]),([],[]),([],[]),([7],[7]),([8],[8]),([9],[9]),([10],[10]),([],[]),([5,6,11,12],[5,6,11,12]),([13],[13]),([4,14],[4,14]),([0,0,1,2,3,4,5,6,7,8,9,10,11,12,13,14,15],[0]),([16,0,1,2,3,4,5,6,7,8,9,10,11,12,13,14,15],[16]),([17,15,15,0,1,2,3,4,5,6,7,8,9,10,11,12,13,14,15],[15,17])])
def put.B9:List Nat:=[0,0,2,6,14,0,0,0,128,384,896,1920,0,8160,16352,32766,65535,131071,262143]
theorem put.QE:xJ .any (opsOf Tryz.f46 9) = put.T9:=by kernel_rfl
theorem put.Xf:vv put.T9.2 put.B9 = true:=by kernel_rfl
set_option maxRecDepth 100000 in
set_option maxHeartbeats 8000000 in
theorem zkR (w0:World) (base g:Nat) (Af:Option Addr) (cf:Nat) (l:List yM) (f s:Int) (yV zu:Bool) (st:List vH × List ByteArray) (n:ByteArray) (w:World) (hG:GW w0) (hC:Kd.C jh w0 Af l.length l) (hl:l.length ≤ 1000000000) (hf0:0 ≤ f) (hf1:f < (l.length:Int)) (hv:∀ x ∈ l,qK x = true) (hgb:g < base) (hb:base ≤ w.heap.size) (hg0:w0.heap.size ≤ g) (hw:Below w0.heap.size w0 w) (hlo:st.1.length ≤ 1000000) (hll:st.2.length ≤ 1000000) (vo vl:Value) (hS:Xe base g w Af cf l f s yV zu vo vl st) (ha:vT l f n < 0) :
  Calls Tryz.prog 46 #[.pointer (some ⟨g,0,none⟩),.string n] w fun e w'=>(∃ v,e = .returned v) ∧ Yn base g w' Af cf l f s yV zu (st.1,st.2 ++ [n]) ∧ vk base g w w':=by
 have hhome:=bA w0 g Af cf l f s yV zu vo vl n w hG hC hl hf0 hf1 hv hw hS.1
 generalize vT l f n = a at hhome ha
 have d0:decide (a < 0) = true:=decide_eq_true ha
 have HS:=zx.mk hS
 clear hS hv hC hG hw
 go_enter Tryz.func46,Tryz.ntmps46
 go_wp2_with (first | (go_at_call 105;refine hhome.mono ?_;rintro e w1 ⟨rfl,hb1⟩;have S1:=HS.out.below hb1;have k6:w1.cell? ⟨g,6,none⟩ = some vl:=(zK S1.1 6).trans rfl;have Vi:=zx.mk S1;have HB1:=zx.mk hb1;clear S1 hb1) | ((with_reducible refine pE (b:=.append) (xs:=#[.tmp 19,.tmp 21]) rfl ?_);at_builtin;refine Kd.Vp Kd.string (w0:=w1) base rfl (.tmp 19) (.tmp 21) 27 9 (.string ⟨#[]⟩) 16 rfl Tryz.underlying27 zjm rfl (by decide) (by omega) vl st.2 n [.string n] (fun _=>True) (fun _=>False) rfl rfl ?aP (fun _ hk=>hk.elim) ?aF ?aO ?aB ?aS ?aL ?_;(case aP=>exact rfl);(case aF=>exact fun _ _=>trivial);(case aO=>exact Vi.out.2.2);(case aB=>exact Below.refl _ _);(case aS=>exact Nat.le_trans hb HB1.out.size);(case aL=>omega);intro v1 w2 ho hbw hg hat;obtain ⟨Ao,co,rfl⟩:=Kd.qD ho;have hp:=zxv Vi.out (Below.refl _ _) hg ho (Nat.le_trans hb HB1.out.size);obtain ⟨p1,p2,k7,z7,B7⟩:=hp;have P1:=zx.mk p1;have P2:=zx.mk p2;clear p1 p2 B7 ho hbw hg hat k6;generalize hnn:(st.2 ++ [n]).length = nn at P1 P2 ⊢))
 refine bodyPost_ret (results_none rfl _ _ _) rfl ?_
 exact ⟨⟨_,rfl⟩,P1.out,(vk.below HB1.out hb).trans P2.out⟩
set_option maxRecDepth 100000 in
set_option maxHeartbeats 16000000 in
theorem zvt (w0:World) (base g:Nat) (Af:Option Addr) (cf:Nat) (l:List yM) (f s:Int) (yV zu:Bool) (st:List vH × List ByteArray) (n:ByteArray) (w:World) (hG:GW w0) (hC:Kd.C jh w0 Af l.length l) (hl:l.length ≤ 1000000000) (hf0:0 ≤ f) (hf1:f < (l.length:Int)) (hv:∀ x ∈ l,qK x = true) (hgb:g < base) (hb:base ≤ w.heap.size) (hg0:w0.heap.size ≤ g) (hw:Below w0.heap.size w0 w) (hlo:st.1.length ≤ 1000000) (hll:st.2.length ≤ 1000000) (vo vl:Value) (hS:Xe base g w Af cf l f s yV zu vo vl st) (ha:0 ≤ vT l f n) (hs0:1 ≤ s) (hs1:s ≤ 1000) :
  Calls Tryz.prog 46 #[.pointer (some ⟨g,0,none⟩),.string n] w fun e w'=>(∃ v,e = .returned v) ∧ Yn base g w' Af cf l f s yV zu (st.1 ++ pQ l s zu st.1 (vT l f n) n ++ [YH (jB (qY l (vT l f n)) n s).1 (vT l f n) s n],st.2) ∧ vk base g w w':=by
 have hhome:=bA w0 g Af cf l f s yV zu vo vl n w hG hC hl hf0 hf1 hv hw hS.1
 have hlt:=VO n hf0 hf1
 generalize vT l f n = a at hhome ha hlt ⊢
 have ha1:a < (l.length:Int):=by omega
 have d0:decide (a < 0) = false:=decide_eq_false (by omega)
 clear hlt
 have hx:=wX hv ha ha1
 have hz:=ZJ hx
 obtain ⟨ad,A3,c3,A4,c4,A5,c5,e,x0,x1,x2,x3,x4,x5,g3,q3,g4,q4,g5,q5⟩:=XO hC a ha (by omega)
 subst e
 have e:vG l a = qY l a:=rfl
 rw [e] at x0 x1 x2 x3 x4 x5 g3 q3 g4 q4 g5 q5
 clear e
 have hnil:st.1 = [] → pQ l s zu st.1 a n = []:=fun h=>by unfold pQ;rw [h];rfl
 have hlast:∀ b,st.1.getLast? = some b → pQ l s zu st.1 a n = if zu && decide (b.f2 = a) then (if (ZA (qY l a) b.f4 n s).1 = 0 then [] else [XB (ZA (qY l a) b.f4 n s).1]) else []:=fun b h=>by unfold pQ;rw [h]
 generalize pQ l s zu st.1 a n = kb at hnil hlast ⊢
 generalize qY l a = x at x0 x1 x2 x3 x4 x5 g3 q3 g4 q4 g5 q5 hx hz hlast ⊢
 obtain ⟨Ao,co,evo⟩:=Kd.qD hS.2.1
 subst evo
 obtain ⟨cb,hcb⟩:∃ cb:Bool,cb = (match st.1.getLast? with | none=>false | some b=>zu && decide (b.f2 = a)):=⟨_,rfl⟩
 have zjA:∀ (m:ByteArray) (W:World),Below w0.heap.size w0 W → Calls Tryz.prog 21 #[.agg #[.string x.f0,.bool x.f1,.int .i64 x.f2,.slice A3 x.f3.length c3,.slice A4 x.f4.length c4,.slice A5 x.f5.length c5],.string m,.string n,.int .i64 s] W fun e w'=>e = .returned (.tuple #[.int .i64 (ZA x m n s).1,.int .i64 (ZA x m n s).2]) ∧ Below W.heap.size W w':=fun m W h =>
  mP x.f0 x.f1 x.f2 A3 c3 x.f3 A4 c4 x.f4 A5 c5 x.f5 m n s W (hG.under h) (Kd.zH q3 h) g3 (Kd.zH q4 h) g4 (Kd.zH q5 h) g5 (by omega) (by omega) (by omega)
 have hwide:∀ (W:World),Below w0.heap.size w0 W → Calls Tryz.prog 22 #[.agg #[.string x.f0,.bool x.f1,.int .i64 x.f2,.slice A3 x.f3.length c3,.slice A4 x.f4.length c4,.slice A5 x.f5.length c5],.string n,.int .i64 s] W fun e w'=>e = .returned (.tuple #[.int .i64 (jB x n s).1,.int .i64 (jB x n s).2]) ∧ Below W.heap.size W w':=fun W h =>
  ZX.calls x.f0 x.f1 x.f2 A3 c3 x.f3 A4 c4 x.f4 A5 c5 x.f5 n s _ _ W (Kd.zH q3 h) g3 (Kd.zH q4 h) g4 (Kd.zH q5 h) g5 (hG.under h) (zqv x.f0 x.f1 x.f2 x.f3 x.f4 x.f5 n s (by omega) (by omega) (by omega))
 have zjB:∀ (W:World),Below w0.heap.size w0 W → W.cell? (ad.add (a.toNat * 6)) = some (.string x.f0) ∧ W.cell? ⟨(ad.add (a.toNat * 6)).block,(ad.add (a.toNat * 6)).off + 1,none⟩ = some (.bool x.f1) ∧ W.cell? ⟨(ad.add (a.toNat * 6)).block,(ad.add (a.toNat * 6)).off + 2,none⟩ = some (.int .i64 x.f2) ∧ W.cell? ⟨(ad.add (a.toNat * 6)).block,(ad.add (a.toNat * 6)).off + 3,none⟩ = some (.slice A3 x.f3.length c3) ∧ W.cell? ⟨(ad.add (a.toNat * 6)).block,(ad.add (a.toNat * 6)).off + 4,none⟩ = some (.slice A4 x.f4.length c4) ∧ W.cell? ⟨(ad.add (a.toNat * 6)).block,(ad.add (a.toNat * 6)).off + 5,none⟩ = some (.slice A5 x.f5.length c5):=fun W h=>⟨(h.cell (World.block_lt_of_cell? w0 _ x0)).trans x0,(h.cell (World.block_lt_of_cell? w0 _ x1)).trans x1,(h.cell (World.block_lt_of_cell? w0 _ x2)).trans x2,(h.cell (World.block_lt_of_cell? w0 _ x3)).trans x3,(h.cell (World.block_lt_of_cell? w0 _ x4)).trans x4,(h.cell (World.block_lt_of_cell? w0 _ x5)).trans x5⟩
 have HKN:=zx.mk zjA
 have HWD:=zx.mk hwide
 have HFT:=zx.mk zjB
 have HNL:=zx.mk hnil
 have HLS:=zx.mk hlast
 have HS:=zx.mk hS
 have HW:=zx.mk hw
 have HHO:=zx.mk hhome
 have HCB:=zx.mk hcb
 clear hcb zjA hwide zjB hnil hlast hS hw x0 x1 x2 x3 x4 x5 q3 q4 q5 g3 g4 g5 hx hz hv hC hG hhome
 go_enter Tryz.func46,Tryz.ntmps46
 go_upto_region 4 with (go_at_call 105;refine HHO.out.mono ?_;rintro e w1 ⟨rfl,hb1⟩;have S1:=HS.out.below hb1;have k5:w1.cell? ⟨g,5,none⟩ = some (.slice Ao st.1.length co):=(zK S1.1 5).trans rfl;have k4:w1.cell? ⟨g,4,none⟩ = some (.bool zu):=(zK S1.1 4).trans rfl;have Vi:=zx.mk S1;have HB1:=zx.mk hb1;clear hb1 S1)
 have HW1:=zx.mk (HW.out.trans (HB1.out.mono HW.out.size))
 have hb1:base ≤ w1.heap.size:=Nat.le_trans hb HB1.out.size
 go_cut [51] (fun s51 wx=>s51 = .bool cb ∧ w1 = wx)
 case first =>
  cases kQ:st.1.getLast? with
  | none =>
   have hn0:st.1 = []:=List.getLast?_eq_none_iff.1 kQ
   have hz0:st.1.length = 0:=by rw [hn0];rfl
   have hcb:=HCB.out
   rw [kQ] at hcb
   subst hcb
   have i0:decide (0 < (st.1.length:Int)) = false:=decide_eq_false (by omega)
   have i00:decide (0 < st.1.length) = false:=decide_eq_false (by omega)
   clear hz0 hn0 kQ
   go_wp2_with fail
   go_meet
   exact ⟨rfl,rfl⟩
  | some b =>
   have hpos:0 < st.1.length:=by
    rcases Nat.eq_zero_or_pos st.1.length with h | h
    ·rw [List.eq_nil_of_length_eq_zero h] at kQ;cases kQ
    ·exact h
   have hget:st.1[st.1.length - 1]? = some b:=by rw [← List.getLast?_eq_getElem?];exact kQ
   obtain ⟨_,gO,CO⟩:=Kd.qW Vi.out.2.1
   obtain ⟨bd,A6,c6,e,y0,y1,y2,y3,y4,y5,y6,_,_⟩:=Y3 (show Kd.C xS _ _ _ _ from CO) ((st.1.length:Int) - 1) (by omega) (by omega)
   subst e
   have e1:((st.1.length:Int) - 1).toNat = st.1.length - 1:=by omega
   have e2:zI st.1 ((st.1.length:Int) - 1) = b:=by unfold zI;rw [e1,List.getD_eq_getElem?_getD,hget];rfl
   rw [e2] at y2
   rw [e1] at y2
   have hcb:=HCB.out
   rw [kQ] at hcb
   dsimp only at hcb
   clear y0 y1 y3 y4 y5 y6 e2 CO gO hget kQ e1
   have i0:decide (0 < (st.1.length:Int)) = true:=decide_eq_true (by omega)
   have i1:(0:Int) ≤ (st.1.length:Int) - 1:=by omega
   have i11:(1:Int) ≤ (st.1.length:Int):=by omega
   have i2:(st.1.length:Int) - 1 < (st.1.length:Int):=by omega
   have i3:wrap64 ((st.1.length:Int) - 1) = (st.1.length:Int) - 1:=ji (by omega) (by omega)
   have zxk:=zx.mk hcb
   clear hcb
   cases zu with
   | false =>
    clear y2
    go_wp2_with fail
    go_meet
    exact ⟨by rw [zxk.out];rfl,rfl⟩
   | true =>
    by_cases hba:b.f2 = a
    case neg =>
     have i4:(b.f2 == a) = false:=beq_eq_false_iff_ne.2 hba
     have i5:decide (b.f2 = a) = false:=decide_eq_false hba
     have HC2:=zx.mk (show cb = false by rw [zxk.out,i5];rfl)
     clear hba
     go_wp2_with fail
     go_meet
     exact ⟨by rw [HC2.out],rfl⟩
    case pos =>
     have i4:(b.f2 == a) = true:=beq_iff_eq.2 hba
     have i5:decide (b.f2 = a) = true:=decide_eq_true hba
     have HC2:=zx.mk (show cb = true by rw [zxk.out,i5];rfl)
     clear hba
     go_wp2_with fail
     go_meet
     exact ⟨by rw [HC2.out],rfl⟩
 case rest =>
 obtain ⟨rfl,rfl⟩:=hcut
 clear k5 k4
 go_upto_if 51 with (fail)
 go_cut [5] (fun _ wx=>zx (Yn base g wx (some ad) cf l f s yV zu (st.1 ++ kb,st.2)) ∧ zx (vk base g w wx))
 case first =>
  cases cb with
  | false =>
   have hkb:kb = []:=by
    have hcb:=HCB.out
    cases kQ:st.1.getLast? with
    | none=>exact HNL.out (List.getLast?_eq_none_iff.1 kQ)
    | some b =>
     rw [kQ] at hcb
     dsimp only at hcb
     rw [HLS.out b kQ,← hcb];rfl
   subst hkb
   go_wp2_with fail
   go_meet
   exact ⟨⟨_,vl,by rw [List.append_nil];exact Vi.out⟩,⟨vk.below HB1.out hb⟩⟩
  | true =>
   obtain ⟨b,kQ⟩:∃ b,st.1.getLast? = some b:=by
    have hcb:=HCB.out
    cases kQ:st.1.getLast? with
    | none=>rw [kQ] at hcb;cases hcb
    | some b=>exact ⟨b,rfl⟩
   have hcb:=HCB.out
   rw [kQ] at hcb
   dsimp only at hcb
   have hkb:kb = if (ZA x b.f4 n s).1 = 0 then [] else [XB (ZA x b.f4 n s).1]:=by rw [HLS.out b kQ,← hcb];rfl
   have hpos:0 < st.1.length:=by
    rcases Nat.eq_zero_or_pos st.1.length with h | h
    ·rw [List.eq_nil_of_length_eq_zero h] at kQ;cases kQ
    ·exact h
   have hget:st.1[st.1.length - 1]? = some b:=by rw [← List.getLast?_eq_getElem?];exact kQ
   obtain ⟨_,gO,CO⟩:=Kd.qW Vi.out.2.1
   obtain ⟨bd,A6,c6,e,y0,y1,y2,y3,y4,y5,y6,_,_⟩:=Y3 (show Kd.C xS _ _ _ _ from CO) ((st.1.length:Int) - 1) (by omega) (by omega)
   subst e
   have e1:((st.1.length:Int) - 1).toNat = st.1.length - 1:=by omega
   have e2:zI st.1 ((st.1.length:Int) - 1) = b:=by unfold zI;rw [e1,List.getD_eq_getElem?_getD,hget];rfl
   rw [e2] at y4
   rw [e1] at y4
   have i1:(0:Int) ≤ (st.1.length:Int) - 1:=by omega
   have i11:(1:Int) ≤ (st.1.length:Int):=by omega
   have i2:(st.1.length:Int) - 1 < (st.1.length:Int):=by omega
   have i3:wrap64 ((st.1.length:Int) - 1) = (st.1.length:Int) - 1:=ji (by omega) (by omega)
   have zkS:=zx.mk (HKN.out b.f4)
   generalize ZA x b.f4 n s = kp at hkb zkS
   obtain ⟨Xc,er⟩:=kp
   have HKB:=zx.mk hkb
   have HY4:=zx.mk y4
   clear hkb y0 y1 y2 y3 y4 y5 y6 e2 CO gO hget kQ e1 hcb
   go_wp2_with fail
   have bC:w1.cell? ⟨g,0,none⟩ = some (.slice (some ad) l.length cf):=(zK Vi.out.1 0).trans rfl
   have QF:w1.cell? ⟨g,2,none⟩ = some (.int .i64 s):=(zK Vi.out.1 2).trans rfl
   have bD:w1.cell? ⟨g,5,none⟩ = some (.slice (some bd) st.1.length co):=(zK Vi.out.1 5).trans rfl
   have kb4:=HY4.out
   have Qn:=zx.mk (fun (W:World) (h:Below w1.heap.size w1 W)=>(show W.cell? ⟨g,0,none⟩ = some (.slice (some ad) l.length cf) ∧ W.cell? ⟨g,2,none⟩ = some (.int .i64 s) ∧ W.cell? ⟨g,5,none⟩ = some (.slice (some bd) st.1.length co) ∧ W.cell? ⟨(bd.add ((st.1.length - 1) * 7)).block,(bd.add ((st.1.length - 1) * 7)).off + 4,none⟩ = some (.string b.f4) ∧ (W.cell? (ad.add (a.toNat * 6)) = some (.string x.f0) ∧ W.cell? ⟨(ad.add (a.toNat * 6)).block,(ad.add (a.toNat * 6)).off + 1,none⟩ = some (.bool x.f1) ∧ W.cell? ⟨(ad.add (a.toNat * 6)).block,(ad.add (a.toNat * 6)).off + 2,none⟩ = some (.int .i64 x.f2) ∧ W.cell? ⟨(ad.add (a.toNat * 6)).block,(ad.add (a.toNat * 6)).off + 3,none⟩ = some (.slice A3 x.f3.length c3) ∧ W.cell? ⟨(ad.add (a.toNat * 6)).block,(ad.add (a.toNat * 6)).off + 4,none⟩ = some (.slice A4 x.f4.length c4) ∧ W.cell? ⟨(ad.add (a.toNat * 6)).block,(ad.add (a.toNat * 6)).off + 5,none⟩ = some (.slice A5 x.f5.length c5)) from
    ⟨(h.cell (World.block_lt_of_cell? w1 _ bC)).trans bC,(h.cell (World.block_lt_of_cell? w1 _ QF)).trans QF,(h.cell (World.block_lt_of_cell? w1 _ bD)).trans bD,(h.cell (World.block_lt_of_cell? w1 _ kb4)).trans kb4,HFT.out W (HW1.out.trans (h.mono HW1.out.size))⟩))
   clear bC QF bD kb4
   refine RW.rS (n:=28) Qn put.QK put.QY (by kernel_rfl) rfl rfl (fun w3 H0 T U h=>?_)
   refine RW.rP 0 (some 53) T ?_
   refine RW.rP 1 (some 54) T ?_
   refine RW.rP 2 (some 55) T ?_
   refine RW.rT 3 (some 56) T U h ?_
   refine RW.rP 4 (some 57) T ?_
   refine RW.rP 5 (some 58) T ?_
   refine RW.rT 6 (some 59) T U h ?_
   refine RW.rP 7 (some 60) T ?_
   refine RW.rP 8 (some 61) T ?_
   refine RW.rP 9 (some 62) T ?_
   refine RW.rT 10 (some 63) T U h ?_
   refine RW.rP 11 (some 64) T ?_
   refine RW.rP 12 (some 65) T ?_
   refine RW.rP 13 (some 66) T ?_
   refine RW.rP 14 (some 67) T ?_
   refine RW.rT 15 (some 68) T U h ?_
   refine RW.rP 16 (some 69) T ?_
   refine RW.rP 17 (some 70) T ?_
   refine RW.rP 18 (some 71) T ?_
   refine RW.rP 19 (some 72) T ?_
   refine RW.rP 20 (some 73) T ?_
   refine RW.rT 21 (some 74) T U h ?_
   clear h
   refine RW.rC 22 (some 75) T Qn H0 Tryz.func21 (zkS.out _ (HW1.out.trans (H0.out.mono HW1.out.size))) (fun w4 H4 h=>?_) (by kernel_rfl)
   refine RW.rP 23 (some 52) T ?_
   refine RW.rP 24 (some 76) T ?_
   refine RW.rP 25 (some 77) T ?_
   refine RW.rP 26 (some 6) T ?_
   refine RW.rP 27 (some 7) T ?_
   refine xD (qb T.out (by kernel_rfl)) ?_
   clear h
   have S4:=Vi.out.below H4.out
   have hb4:=Nat.le_trans hb1 H4.out.size
   have LK4:=zx.mk ((vk.below (B:=g) HB1.out hb).trans (vk.below (B:=g) H4.out hb1))
   have UF:=zx.mk S4
   have k5:w4.cell? ⟨g,5,none⟩ = some (.slice (some bd) st.1.length co):=(zK S4.1 5).trans rfl
   clear S4
   by_cases h0:Xc = 0
   ·subst h0
    have hkb:kb = []:=by rw [HKB.out];rfl
    subst hkb
    go_wp2_with fail
    go_meet
    exact ⟨⟨_,vl,by rw [List.append_nil];exact UF.out⟩,LK4⟩
   ·have hkb:kb = [XB Xc]:=by rw [HKB.out];exact if_neg h0
    subst hkb
    have j0:(Xc != 0) = true:=by simpa using h0
    have j1:(!(Xc == 0)) = true:=by simpa using h0
    have j2:(Xc == 0) = false:=by simpa using h0
    clear h0
    go_wp2_with ((with_reducible refine pE (b:=.append) (xs:=#[.tmp 84,.tmp 87]) rfl ?_);at_builtin;refine Kd.Vp (Kd.bare xS) (w0:=w4) base rfl (.tmp 84) (.tmp 87) 34 53 (.agg #[.int .i64 0,.int .i64 0,.int .i64 0,.int .i64 0,.string ⟨#[]⟩,.string ⟨#[]⟩,.slice none 0 0]) 88 rfl Tryz.underlying34 PL rfl (by decide) (by omega) (.slice (some bd) st.1.length co) st.1 (XB Xc) [.int .i64 2,.int .i64 Xc,.int .i64 0,.int .i64 0,.string ⟨#[]⟩,.string ⟨#[]⟩,.slice none 0 0] (fun _=>True) (fun _=>False) rfl rfl ?aP (fun _ hk=>hk.elim) ?aF ?aO ?aB ?aS ?aL ?_;(case aP=>exact zkO _ _ _ _);(case aF=>exact fun _ _=>trivial);(case aO=>exact UF.out.2.1);(case aB=>exact Below.refl _ _);(case aS=>exact hb4);(case aL=>omega);intro v1 w5 ho hbw hg hat;obtain ⟨Ao,co,rfl⟩:=Kd.qD ho;have hp:=rQ UF.out (Below.refl _ _) hg ho hb4;obtain ⟨p1,p2,k7,z7,B7⟩:=hp;have P1:=zx.mk p1;have P2:=zx.mk p2;clear p1 p2 B7 ho hbw hg hat k5;generalize hnn:(st.1 ++ [XB Xc]).length = nn at P1 P2 ⊢)
    go_meet
    exact ⟨P1,⟨LK4.out.trans P2.out⟩⟩
 case rest =>
  obtain ⟨HS2,HL2⟩:=hcut
  obtain ⟨vo2,vl2,S2⟩:=HS2.out
  have hkl:kb.length ≤ 1:=by
   cases kQ:st.1.getLast? with
   | none=>rw [HNL.out (List.getLast?_eq_none_iff.1 kQ)];exact Nat.zero_le _
   | some b =>
    rw [HLS.out b kQ]
    repeat' split
    all_goals first | exact Nat.zero_le _ | exact Nat.le_refl _
  have hw2:Below w0.heap.size w0 wc:=HW.out.trans (Vh HL2.out hg0 (by omega))
  have hb2:base ≤ wc.heap.size:=Nat.le_trans hb HL2.out.1.size
  have bC:wc.cell? ⟨g,0,none⟩ = some (.slice (some ad) l.length cf):=(zK S2.1 0).trans rfl
  have QF:wc.cell? ⟨g,2,none⟩ = some (.int .i64 s):=(zK S2.1 2).trans rfl
  have Qn:=zx.mk (fun (W:World) (h:Below wc.heap.size wc W)=>(show W.cell? ⟨g,0,none⟩ = some (.slice (some ad) l.length cf) ∧ W.cell? ⟨g,2,none⟩ = some (.int .i64 s) ∧ (W.cell? (ad.add (a.toNat * 6)) = some (.string x.f0) ∧ W.cell? ⟨(ad.add (a.toNat * 6)).block,(ad.add (a.toNat * 6)).off + 1,none⟩ = some (.bool x.f1) ∧ W.cell? ⟨(ad.add (a.toNat * 6)).block,(ad.add (a.toNat * 6)).off + 2,none⟩ = some (.int .i64 x.f2) ∧ W.cell? ⟨(ad.add (a.toNat * 6)).block,(ad.add (a.toNat * 6)).off + 3,none⟩ = some (.slice A3 x.f3.length c3) ∧ W.cell? ⟨(ad.add (a.toNat * 6)).block,(ad.add (a.toNat * 6)).off + 4,none⟩ = some (.slice A4 x.f4.length c4) ∧ W.cell? ⟨(ad.add (a.toNat * 6)).block,(ad.add (a.toNat * 6)).off + 5,none⟩ = some (.slice A5 x.f5.length c5)) from
   ⟨(h.cell (World.block_lt_of_cell? wc _ bC)).trans bC,(h.cell (World.block_lt_of_cell? wc _ QF)).trans QF,HFT.out W (hw2.trans (h.mono hw2.size))⟩))
  have HW2:=zx.mk hw2
  have HT2:=zx.mk S2
  clear hw2 S2 bC QF HS2
  obtain ⟨wd,hwd⟩:∃ wd,jB x n s = wd:=⟨_,rfl⟩
  rw [hwd] at HWD
  have HWE:=zx.mk hwd
  clear hwd
  obtain ⟨wv,we⟩:=wd
  go_wp2_with fail
  refine RW.rS (n:=19) Qn put.zZL put.zy7 (by kernel_rfl) rfl rfl (fun w3 H0 T U h=>?_)
  refine RW.rP 0 (some 92) T ?_
  refine RW.rP 1 (some 93) T ?_
  refine RW.rP 2 (some 94) T ?_
  refine RW.rT 3 (some 95) T U h ?_
  refine RW.rP 4 (some 96) T ?_
  refine RW.rP 5 (some 97) T ?_
  refine RW.rT 6 (some 98) T U h ?_
  refine RW.rP 7 (some 99) T ?_
  refine RW.rP 8 (some 100) T ?_
  refine RW.rP 9 (some 101) T ?_
  refine RW.rP 10 (some 102) T ?_
  refine RW.rP 11 (some 103) T ?_
  refine RW.rT 12 (some 104) T U h ?_
  clear h
  refine RW.rC 13 (some 105) T Qn H0 Tryz.func22 (HWD.out _ (HW2.out.trans (H0.out.mono HW2.out.size))) (fun w4 H4 h=>?_) (by kernel_rfl)
  refine RW.rP 14 (some 91) T ?_
  refine RW.rP 15 (some 106) T ?_
  refine RW.rP 16 (some 107) T ?_
  refine RW.rP 17 (some 8) T ?_
  refine RW.rP 18 (some 9) T ?_
  refine xD (qb T.out (by kernel_rfl)) ?_
  clear h
  have S4:=HT2.out.below H4.out
  have hb4:=Nat.le_trans hb2 H4.out.size
  have LK4:=zx.mk (HL2.out.trans (vk.below (B:=g) H4.out hb2))
  have bD:w4.cell? ⟨g,5,none⟩ = some vo2:=(zK S4.1 5).trans rfl
  have QF:w4.cell? ⟨g,2,none⟩ = some (.int .i64 s):=(zK S4.1 2).trans rfl
  have Y8:=zx.mk (fun (W:World) (h:Below w4.heap.size w4 W)=>(show W.cell? ⟨g,5,none⟩ = some vo2 ∧ W.cell? ⟨g,2,none⟩ = some (.int .i64 s) from ⟨(h.cell (World.block_lt_of_cell? w4 _ bD)).trans bD,(h.cell (World.block_lt_of_cell? w4 _ QF)).trans QF⟩))
  have UF:=zx.mk S4
  clear S4 bD QF T U
  go_wp2_with fail
  refine RW.rSD (n:=19) [18] Y8 put.QE put.Xf (by kernel_rfl) rfl rfl (fun w5 H5 T U h=>?_)
  refine RW.rP 0 (some 108) T ?_
  refine RW.rP 1 (some 109) T ?_
  refine RW.rP 2 (some 110) T ?_
  refine RW.rP 3 (some 111) T ?_
  refine RW.rT 4 (some 112) T U h ?_
  refine RW.rP 5 (some 113) T ?_
  refine RW.rP 6 (some 114) T ?_
  refine RW.rP 7 (some 115) T ?_
  refine RW.rP 8 (some 116) T ?_
  refine RW.rP 9 (some 117) T ?_
  refine RW.rP 10 (some 118) T ?_
  refine RW.rT 11 (some 119) T U h ?_
  refine RW.rP 12 (some 120) T ?_
  refine RW.rP 13 (some 121) T ?_
  have S5:=UF.out.below H5.out
  have hb5:=Nat.le_trans hb4 H5.out.size
  clear h
  refine Z5 (i:=14) (N:=some 122) #[true,true,true,true,true,true,true,true,true,true,true,true,true,true,true,false,false,false,false] rfl rfl (jX T.out (by kernel_rfl)) (by decide) (fun K hK=>?_)
  refine Pt (w1:=?_) (v:=?_) (by rfl) rfl ?_ ?_
  rotate_left 2
  ·have h:=Y8.out _ H5.out
   go_simp
   constructor
   ·rfl
   ·rfl
  refine hK.out _ _ (Y8.out _ (H5.out.alloc H5.out.size _)) (fun h=>?_)
  clear hK K h
  refine Z6 (a':=?_) ?_ ?_
  rotate_left
  ·show Act.put _ (some 122) _ = _
   simp only [Act.put,List.setIfInBounds_toArray,List.set_cons_zero,List.set_cons_succ]
   rfl
  refine Z5 (i:=15) (N:=some 123) #[true,true,true,true,true,true,true,true,true,true,true,true,true,true,true,true,false,false,false] rfl rfl (jX T.out (by kernel_rfl)) (by decide) (fun K hK=>?_)
  refine Kd.YG (Kd.bare xS) (w0:=w5) base (by rfl) (.tmp 112) (.tmp 122) 34 53 (.agg #[.int .i64 0,.int .i64 0,.int .i64 0,.int .i64 0,.string ⟨#[]⟩,.string ⟨#[]⟩,.slice none 0 0]) 88 rfl Tryz.underlying34 PL rfl (by decide) (by omega) vo2 (st.1 ++ kb) (YH wv a s n) [.int .i64 0,.int .i64 wv,.int .i64 a,.int .i64 s,.string n,.string ⟨#[]⟩,.slice none 0 0] (fun _=>True) (fun _=>False) rfl rfl ?aP (fun _ hk=>hk.elim) ?aF ?aO ?aB ?aS ?aL ?_
  (case aP=>exact zkP _ _ _ _ _ _ _)
  (case aF=>exact fun _ _=>trivial)
  (case aO=>exact S5.2.1)
  (case aB=>exact Below.refl base w5)
  (case aS=>exact hb5)
  (case aL=>rw [List.length_append];omega)
  intro v1 w6 ho hbw hg hat
  obtain ⟨Ao,co,eo⟩:=Kd.qD ho
  subst eo
  obtain ⟨p1,p2,k6,z6,B6⟩:=rQ S5 (Below.refl _ _) hg ho hb5
  have S6:w6.cell? ⟨g,5,none⟩ = some vo2 ∧ w6.cell? ⟨g,2,none⟩ = some (.int .i64 s):=⟨k6,(zK B6 2).trans rfl⟩
  have P1:=zx.mk p1
  have P2:=zx.mk ((LK4.out.trans (vk.below (B:=g) H5.out hb4)).trans p2)
  refine hK.out _ _ S6 (fun h=>?_)
  clear hK K h p1 p2 ho hbw hg hat B6 S5 S6
  generalize hnn:(st.1 ++ kb ++ [YH wv a s n]).length = nn at P1 P2 ⊢
  refine Z6 (a':=?_) ?_ ?_
  rotate_left
  ·show Act.put _ (some 123) _ = _
   simp only [Act.put,List.setIfInBounds_toArray,List.set_cons_zero,List.set_cons_succ]
   rfl
  refine RW.rP 16 (some 124) T ?_
  refine RW.rP 17 (some 125) T ?_
  refine UJ (i:=18) (N:=none) #[true,true,true,true,true,true,true,true,true,true,true,true,true,true,true,true,true,true,true] rfl rfl (jX T.out (by kernel_rfl)) (by decide) (fun K hK=>?_)
  refine Qy (w1:=?_) (by rfl) rfl ?_ ?_
  rotate_left
  ·go_simp
   rfl
  refine hK.out _ _ ?_
  clear hK K
  refine xD (qb T.out (by kernel_rfl)) ?_
  clear k6 z6
  generalize w6.setCell ⟨g,5,none⟩ (.slice Ao nn co) = w7 at P1 P2 ⊢
  go_wp2_with fail
  go_end0
  refine ⟨⟨_,rfl⟩,?_,P2.out⟩
  rw [← List.append_assoc,HWE.out]
  exact P1.out
end Go.Proofs.YtggifbbiiickmaaGreatDoor
namespace Go.Proofs.YtggifbbiiickmaaGreatDoor
open Go.RowKit
def kI {β:Type} (Bs:Nat) (J:β → World → Prop):Prop:=∀ s W u,J s W → J s (W.setCell ⟨Bs,0,none⟩ u)
theorem kI.and {β:Type} {Bs:Nat} {I I':β → World → Prop} (h:kI Bs I) (h':kI Bs I'):kI Bs (fun s W=>I s W ∧ I' s W):=fun s W u hs=>⟨h s W u hs.1,h' s W u hs.2⟩
theorem ZC {W:World} {Bs k:Nat} {o:Obj} (u:Value) (h:W.heap[k]? = some o) (hne:k ≠ Bs):(W.setCell ⟨Bs,0,none⟩ u).heap[k]? = some o:=(Below.heap_setCell W ⟨Bs,0,none⟩ u k hne).trans h
def zqk {α:Type} (F:Fence) (n:Nat) (P:Program) (g:Nat) (lb:Array Value) (encs:α → Array Value) (Bs:Nat) (Kp:World → World → Prop) (S Sp:List α → Prop) (N:Nat) (w:World):Prop :=
 ∀ (l:Nat) (J Jx:List α → World → Prop) (W:World),Below w.heap.size w W → AbidesFrom W.heap.size J → AbidesFrom W.heap.size Jx → kI Bs J → kI Bs Jx →
  (∀ pre x W1,J pre W1 → pre.length < N → YieldAt F (n - 1) P l (encs x) W1 fun e W' =>
   (e = .returned (.bool true) ∧ J (pre ++ [x]) W' ∧ Kp W1 W') ∨ (e = .returned (.bool false) ∧ Jx (pre ++ [x]) W')) →
  J [] W →
  CallsIn F n P g (#[.func (.yield l) #[] #[]] ++ lb) W fun e W'=>(∃ v,e = .returned v) ∧ ((∃ xs,S xs ∧ J xs W') ∨ (∃ pre,Sp pre ∧ Jx pre W'))
def zvu {α:Type} (B:Nat) (Kp:World → World → Prop) (I Ix:List α → World → Prop) (xs:List α) (W:World):Exit → Act → World → Prop
 | .normal,_,W'=>KeepsFrom B W W' ∧ Kp W W' ∧ I xs W'
 | .ret,_,W'=>KeepsFrom B W W' ∧ Ix xs W'
 | _,_,_=>False
variable {F:Fence} {n:Nat} {P:Program}
theorem PV {α:Type} {g:Operand} {ps:Array Tmp} {assign body:Code} {Q:Exit → Act → World → Prop} {a:Act} {w:World}
  (hro:F.round = none) (h1:1 ≤ n) {gf:Nat} {lb:Array Value} (hg:a.eval g = .func (.func gf) #[] lb) (hFg:F.fn gf) (eg:∀ args w,(callFunc gf args).run P w = .ok (.enter gf args) w)
  {encs:α → Array Value} {Bs:Nat} {Kp:World → World → Prop} {S Sp:List α → Prop} {N:Nat} (hseq:zqk F (n - 1) P gf lb encs Bs Kp S Sp N w) (bE:Bs < w.heap.size)
  (hKt:∀ {A B C:World},Kp A B → Kp B C → Kp A C) (hKb:∀ (W:World) (l:Nat) (o o':Obj),w.heap.size ≤ l → W.heap[l]? = some o → o.isCells = false → o.isWalk = false → Kp W (W.putObj l o')) (hps:∀ x,(encs x).size = ps.size)
  (I Ix:List α → World → Prop) (hI:OwnFrom w.heap.size I) (hIx:OwnFrom w.heap.size Ix) (hIb:kI Bs I) (zZM:kI Bs Ix) (h0:I [] w)
  (Ax:α → Act → World → Prop) (hAx:∀ x a',OwnFrom w.heap.size (fun (_:Unit) W=>Ax x a' W))
  (hassign:∀ (l:Nat) (pre:List α) (x:α) (W:World) (K:Act → World → Prop),I pre W → (∀ a' W',KeepsFrom w.heap.size W W' → Kp W W' → I pre W' → Ax x a' W' → K a' W') →
   assign.wpIn (F.inRound l) (n - 1 - 1) P (Exit.then K (fun _ _ _=>False)) { tmps:=(ps.zip (encs x)).foldl (fun t (p,v)=>t.setIfInBounds p v) a.tmps,defers:=[] } W)
  (hbody:∀ (l:Nat) (pre:List α) (x:α) (a':Act) (W:World),w.heap.size ≤ l → (∃ r,W.heap[l]? = some (.loop r)) → I pre W → Ax x a' W → pre.length < N → body.wpIn (F.inRound l) (n - 1 - 1) P (zvu w.heap.size Kp I Ix (pre ++ [x]) W) a' W)
  (hdone:∀ (D:Nat) (xs:List α) (W:World),w.heap.size ≤ D → S xs → I xs W → W.heap[D]? = some (.deferred (some [])) → Q .normal { a with defers:={ target:=.collected D,args:=#[] } :: a.defers } W)
  (hstop:∀ (D:Nat) (pre:List α) (W:World),w.heap.size ≤ D → Sp pre → Ix pre W → W.heap[D]? = some (.deferred (some [])) → Code.ret.wpIn F n P Q { a with defers:={ target:=.collected D,args:=#[] } :: a.defers } W) :
  (Code.rangeFunc g ps assign body).wpIn F n P Q a w:=by
 refine wpIn_rangeFunc ?_
 intro fn hfn
 rw [hro]
 obtain ⟨rec,hrec⟩:∃ rec:LoopState → Option Code → Loop,rec = fun st pe=>{ state:=st,pending:=pe,fn,tmps:=a.tmps,params:=ps,assign,body,defers:=w.heap.size }:=⟨_,rfl⟩
 obtain ⟨W1,hW1⟩:∃ W1,(w.alloc (.deferred (some []))).alloc (.loop (rec .ready none)) = W1:=⟨_,rfl⟩
 have hL1:W1.heap[w.heap.size + 1]? = some (.loop (rec .ready none)):=by
  rw [← hW1];have:=World.alloc_heap_new (w.alloc (.deferred (some []))) (.loop (rec .ready none));rwa [World.size_alloc] at this
 have hK1:W1.heap[w.heap.size]? = some (.deferred (some [])):=by
  rw [← hW1];exact (Below.heap_alloc _ _ _ (by simp)).trans (World.alloc_heap_new w _)
 have hI1:I [] W1:=by rw [← hW1];exact hI.alloc _ (hI.alloc _ h0)
 have hb1:Below w.heap.size w W1:=by
  rw [← hW1];exact ((Below.refl _ w).alloc (Nat.le_refl _) _).alloc (by simp) _
 have hz1:W1.heap.size = w.heap.size + 2:=by rw [← hW1];simp
 refine ⟨w.heap.size + 1,[{ target:=.collected w.heap.size,args:=#[] }],W1,{ target:=.fn (.func gf) lb,args:=#[.func (.yield (w.heap.size + 1)) #[] #[]] },W1,gf,
  #[.func (.yield (w.heap.size + 1)) #[] #[]] ++ lb,W1,?_,?_,?_,?_,fun _=>h1,?_⟩
 ·rw [← hW1,hrec];exact run_enterLoop_outer _ _ _ _ _
 ·simp only [resolve,hg]
  simp [go_sem]
 ·intro f' hf';simp [Target.leads] at hf';subst hf';exact hFg
 ·simp [invoke,go_sem,eg]
 ·have hnw:∀ {A B:World} {row:Option Nat},(∀ r,row = some r → W1.heap.size ≤ r ∧ ∃ o:Obj,A.heap[r]? = some o ∧ o.isWalk = true) → (∀ r,row = some r → w.heap.size ≤ r ∧ ∃ o:Obj,A.heap[r]? = some o ∧ o.isCells = false) :=
   fun hr r e=>by obtain ⟨hB,o,ho,hw⟩:=hr r e;exact ⟨by omega,o,ho,Obj.not_cells_of_walk hw⟩
  refine (hseq (w.heap.size + 1)
   (fun pre W=>I pre W ∧ W.heap[w.heap.size + 1]? = some (.loop (rec .ready none)) ∧ W.heap[w.heap.size]? = some (.deferred (some [])))
   (fun pre W=>Ix pre W ∧ W.heap[w.heap.size + 1]? = some (.loop (rec .done (some .ret))) ∧ W.heap[w.heap.size]? = some (.deferred (some [])))
   W1 hb1
   (fun s A B row hs hg' hr=>⟨hI s A B row hs.1 hg' (hnw (B:=B) hr),(grownBy_keeps hg' (fun r e=>(hr r e).2) hs.2.1 rfl).trans hs.2.1,(grownBy_keeps hg' (fun r e=>(hr r e).2) hs.2.2 rfl).trans hs.2.2⟩)
   (fun s A B row hs hg' hr=>⟨hIx s A B row hs.1 hg' (hnw (B:=B) hr),(grownBy_keeps hg' (fun r e=>(hr r e).2) hs.2.1 rfl).trans hs.2.1,(grownBy_keeps hg' (fun r e=>(hr r e).2) hs.2.2 rfl).trans hs.2.2⟩)
   (fun s A u hs=>⟨hIb s A u hs.1,ZC u hs.2.1 (by omega),ZC u hs.2.2 (by omega)⟩)
   (fun s A u hs=>⟨zZM s A u hs.1,ZC u hs.2.1 (by omega),ZC u hs.2.2 (by omega)⟩)
   ?_ ⟨hI1,hL1,hK1⟩).mono ?_
  ·rintro pre x W ⟨hi,hl,hk⟩ hlen
   have hlt:w.heap.size + 1 < W.heap.size:=(Array.getElem?_eq_some_iff.1 hl).1
   have hy:=run_yield (P:=P) (args:=encs x) hl (by rw [hrec];exact hps x)
   rw [hrec] at hy
   refine ⟨fn,_,assign,body,hy,roundIn_of_wpIn hfn (hassign _ pre x W _ hi ?_)⟩
   clear hy
   intro a' Wa hkfa hkpa hia hax
   replace hl:=hkfa.same _ _ (by omega) hl rfl
   replace hk:=hkfa.same _ _ (Nat.le_refl _) hk rfl
   replace hlt:w.heap.size + 1 < Wa.heap.size:=(Array.getElem?_eq_some_iff.1 hl).1
   refine ⟨_,run_beginRound hl (by rw [hrec]),?_⟩
   have hl2:(Wa.putObj (w.heap.size + 1) (.loop { rec .ready none with state:=.busy })).heap[w.heap.size + 1]? = some (.loop { rec .ready none with state:=.busy }):=World.putObj_heap_same hlt
   have hk2:(Wa.putObj (w.heap.size + 1) (.loop { rec .ready none with state:=.busy })).heap[w.heap.size]? = some (.deferred (some [])):=(World.putObj_heap_other (by omega)).trans hk
   have hw2:Kp Wa (Wa.putObj (w.heap.size + 1) (.loop { rec .ready none with state:=.busy })):=hKb _ _ _ _ (by omega) hl rfl rfl
   refine wpIn_mono (hbody _ pre x a' _ (by omega) ⟨_,hl2⟩ (hI.putObj _ hia (by omega) hl rfl) ((hAx x a').putObj (s:=()) _ hax (by omega) hl rfl) hlen) ?_
   have fin:∀ (jump:Option Code) (W3:World),KeepsFrom w.heap.size (Wa.putObj (w.heap.size + 1) (.loop { rec .ready none with state:=.busy })) W3 →
     (Instr.endRound (w.heap.size + 1) jump).run P W3 = .ok (.bool jump.isNone) (W3.putObj (w.heap.size + 1) (.loop (rec (if jump.isNone then .ready else .done) jump))) ∧
     W3.heap[w.heap.size + 1]? = some (.loop { rec .ready none with state:=.busy }) ∧
     (W3.putObj (w.heap.size + 1) (.loop (rec (if jump.isNone then .ready else .done) jump))).heap[w.heap.size + 1]? = some (.loop (rec (if jump.isNone then .ready else .done) jump)) ∧
     (W3.putObj (w.heap.size + 1) (.loop (rec (if jump.isNone then .ready else .done) jump))).heap[w.heap.size]? = some (.deferred (some [])):=fun jump W3 hk3=>by
    have hl3:=hk3.same _ _ (by omega) hl2 rfl
    have:=run_endRound (P:=P) jump hl3
    rw [hrec] at this ⊢
    exact ⟨this,by rw [hrec] at hl3;exact hl3,World.putObj_heap_same (Array.getElem?_eq_some_iff.1 hl3).1,(World.putObj_heap_other (by omega)).trans (hk3.same _ _ (Nat.le_refl _) hk2 rfl)⟩
   rintro e a3 W3 hp
   cases e with
   | normal =>
    obtain ⟨hk3,hkp3,hi3⟩:=hp
    obtain ⟨hr,hl3,hl4,hk4⟩:=fin none W3 hk3
    exact ⟨_,_,hr,.inl ⟨rfl,⟨hI.putObj _ hi3 (by omega) hl3 rfl,hl4,hk4⟩,hKt hkpa (hKt (hKt hw2 hkp3) (hKb _ _ _ _ (by omega) hl3 rfl rfl))⟩⟩
   | ret =>
    obtain ⟨hk3,hi3⟩:=hp
    obtain ⟨hr,hl3,hl4,hk4⟩:=fin (some .ret) W3 hk3
    exact ⟨_,_,hr,.inr ⟨rfl,hIx.putObj _ hi3 (by omega) hl3 rfl,hl4,hk4⟩⟩
   | exit id=>exact hp.elim
   | goto t=>exact hp.elim
   | panic ch=>exact hp.elim
   | outgrown=>exact hp.elim
  ·rintro e W2 ⟨⟨v,rfl⟩,(⟨xs,hS,hi,hl,hk⟩ | ⟨pre,hSp,hi,hl,hk⟩)⟩
   ·exact ⟨none,_,by have:=run_endLoop (P:=P) hl (by rw [hrec];simp);rw [hrec] at this;exact this,hdone _ xs _ (Nat.le_refl _) hS (hI.putObj _ hi (by omega) hl rfl) ((World.putObj_heap_other (by omega)).trans hk)⟩
   ·exact ⟨some .ret,_,by have:=run_endLoop (P:=P) hl (by rw [hrec];simp);rw [hrec] at this;exact this,hstop _ pre _ (Nat.le_refl _) hSp (hIx.putObj _ hi (by omega) hl rfl) ((World.putObj_heap_other (by omega)).trans hk)⟩
end Go.Proofs.YtggifbbiiickmaaGreatDoor
namespace Go.Proofs.YtggifbbiiickmaaGreatDoor
open Go.RowKit Go.Proofs.zk.zm Go.Proofs.zk.yK Go.Proofs.zk.yc Go.Proofs.YtggifbbiiickmaaGreatDoor.PX
attribute [local go_sem] Oper.semAt_some
set_option linter.unusedSimpArgs false
set_option linter.unusedVariables false
abbrev PS:={ p:uj // p.f0.size ≤ maxLen ∧ p.f1.size ≤ maxLen }
def bF:PS:=⟨z80,Nat.zero_le _,Nat.zero_le _⟩
abbrev QG:=Nat × PS
def Pf (x:QG):Array Value:=#[.int .i64 (x.1:Int),.agg #[.string x.2.1.f0,.string x.2.1.f1]]
def QH (pre:List QG):ByteArray → Option ByteArray:=pre.foldl (fun f x s=>if s = x.2.1.f0 then some x.2.1.f1 else f s) (fun _=>none)
theorem zqy (pre:List QG) (x:QG):QH (pre ++ [x]) = fun s=>if s = x.2.1.f0 then some x.2.1.f1 else QH pre s:=by
 unfold QH
 rw [List.foldl_append]
 rfl
def kT (zs:List PS):Nat → List QG
 | 0=>[]
 | k + 1=>(k,zs.getD k bF) :: kT zs k
def Zp (zs:List PS) (k:Nat):List QG:=(kT zs zs.length).take (zs.length - k)
theorem QI (zs:List PS):∀ k,(kT zs k).length = k
 | 0=>rfl
 | k + 1=>by rw [kT,List.length_cons,QI zs k]
theorem Wu (zs:List PS):∀ (n j:Nat) (h:j < n),(kT zs n)[n - 1 - j]? = some (j,zs.getD j bF)
 | 0,_,h=>absurd h (Nat.not_lt_zero _)
 | n + 1,j,h=>by
  by_cases e:j = n
  ·subst e
   rw [show j + 1 - 1 - j = 0 by omega];rfl
  ·rw [show n + 1 - 1 - j = (n - 1 - j) + 1 by omega,kT,List.getElem?_cons_succ]
   exact Wu zs n j (by omega)
theorem mR (zs:List PS) (k:Nat) (h:k < zs.length):Zp zs k = Zp zs (k + 1) ++ [(k,zs.getD k bF)]:=by
 have h1:=Wu zs zs.length k h
 unfold Zp
 rw [show zs.length - k = (zs.length - (k + 1)) + 1 by omega,List.take_add_one,show zs.length - (k + 1) = zs.length - 1 - k by omega,h1]
 rfl
theorem oH (zs:List PS):Zp zs 0 = kT zs zs.length:=by
 unfold Zp
 rw [Nat.sub_zero,List.take_of_length_le (by rw [QI];exact Nat.le_refl _)]
theorem mU (zs:List PS):Zp zs zs.length = []:=by
 unfold Zp
 rw [Nat.sub_self,List.take_zero]
theorem oI (zs:List PS) (k:Nat) (h:k ≤ zs.length):(Zp zs k).length = zs.length - k:=by
 unfold Zp
 rw [List.length_take,QI]
 omega
def Xg (n₀ Bs:Nat) (W W':World):Prop:=Below n₀ W W' ∧ W'.heap[Bs]? = W.heap[Bs]?
theorem rX {n₀ Bs:Nat} {A B C:World} (h:Xg n₀ Bs A B) (k:Xg n₀ Bs B C):Xg n₀ Bs A C:=⟨h.1.trans k.1,k.2.trans h.2⟩
theorem zvA {n₀ Bs:Nat} {w:World} (hn:n₀ ≤ w.heap.size) (hB:Bs < w.heap.size) (W:World) (l:Nat) (o o':Obj) (hl:w.heap.size ≤ l) (h:W.heap[l]? = some o) (h1:o.isCells = false) (h2:o.isWalk = false):Xg n₀ Bs W (W.putObj l o') :=
 ⟨belowK_b hn W l o o' hl h h1 h2,World.putObj_heap_other (by omega)⟩
theorem zqw {n₀ Bs:Nat} {t:TypeId} {v:Value} {W W':World} (h:Xg n₀ Bs W W') (hb:Boxed W Bs t v):Boxed W' Bs t v:=h.2.trans hb
theorem WA (zs:List PS) (s:ByteArray):∀ (k:Nat),k ≤ zs.length → ∀ g:ByteArray → Option ByteArray,(kT zs k).foldl (fun f x s=>if s = x.2.1.f0 then some x.2.1.f1 else f s) g s = match (zs.take k).find? (fun p=>decide (p.1.f0 = s)) with | some p=>some p.1.f1 | none=>g s
 | 0,_,g=>by rw [List.take_zero];rfl
 | k + 1,hk,g=>by
  have hlt:k < zs.length:=by omega
  have hg:zs.getD k bF = zs[k]:=by rw [List.getD_eq_getElem?_getD,List.getElem?_eq_getElem hlt];rfl
  rw [kT,List.foldl_cons,WA zs s k (by omega),List.take_add_one,List.getElem?_eq_getElem hlt,Option.toList_some,List.find?_append]
  cases hf:(zs.take k).find? (fun p=>decide (p.1.f0 = s)) with
  | some p=>rfl
  | none =>
   dsimp only
   rw [hg,Option.none_or,List.find?_cons]
   by_cases h:zs[k].1.f0 = s
   ·rw [if_pos h.symm,decide_eq_true h]
   ·rw [if_neg (fun e=>h e.symm),decide_eq_false h]
    rfl
theorem zxy (zs:List PS) (s:ByteArray):QH (kT zs zs.length) s = match (zs.map (·.1)).find? (fun p=>decide (p.f0 = s)) with | some p=>some p.f1 | none=>none:=by
 unfold QH
 rw [WA zs s zs.length (Nat.le_refl _),List.take_of_length_le (Nat.le_refl _),List.find?_map]
 simp only [Function.comp_def]
 cases zs.find? (fun p=>decide (p.1.f0 = s)) <;> rfl
set_option maxRecDepth 100000 in
set_option maxHeartbeats 4000000 in
theorem zxw (F:Fence) (n:Nat) (h7:F.fn 104) (hro:F.round = none) (hn:1 ≤ n) (l Bs:Nat) (A0:Option Addr) (c0:Nat) (zs:List PS) (hl:zs.length ≤ 1000000000) (w0:World) (hC:Kd.C YZ w0 A0 zs.length (zs.map (·.1))) (J Jx:List QG → World → Prop)
  (hY:∀ pre x W,J pre W → pre.length < zs.length → YieldAt F (n - 1) Tryz.prog l (Pf x) W fun e W' =>
   (e = .returned (.bool true) ∧ J (pre ++ [x]) W' ∧ Xg w0.heap.size Bs W W') ∨ (e = .returned (.bool false) ∧ Jx (pre ++ [x]) W'))
  (W:World) (hb:Below w0.heap.size w0 W) (bE:Boxed W Bs 28 (.slice A0 zs.length c0)) (h0:J [] W) :
  CallsIn F n Tryz.prog 104 #[.func (.yield l) #[] #[],.pointer (some ⟨Bs,0,none⟩)] W fun e W'=>(∃ v,e = .returned v) ∧
   ((∃ ys,ys = kT zs zs.length ∧ J ys W') ∨ (∃ pre,True ∧ Jx pre W')):=by
 have HC:=zx.mk hC
 have HY:=zx.mk hY
 have HX:=zx.mk bE
 have hx0:W.cell? ⟨Bs,0,none⟩ = some (.slice A0 zs.length c0):=bE.cell
 clear hC hY bE
 refine callsIn_of_wp Tryz.func104 rfl h7 ?_ hro
 simp only [Tryz.ntmps104,List.size_toArray,List.length_cons,List.length_nil,Nat.reduceAdd,Nat.reduceSub,Array.replicate_succ,Array.replicate_zero,List.push_toArray,List.append_toArray,List.nil_append,List.cons_append]
 gi_wp2
 gi_loopw [3] (fun i wr=>∃ k:Nat,k ≤ zs.length ∧ i = .int .i64 ((k:Int) - 1) ∧ zx (J (Zp zs k) wr) ∧ zx (Xg w0.heap.size Bs W wr)) (fun i _=>(intOf i + 1).toNat)
 case atStart=>exact ⟨zs.length,Nat.le_refl _,rfl,⟨by rw [mU];exact h0⟩,⟨Below.refl _ _,rfl⟩⟩
 case round =>
  clear hx0
  obtain ⟨k,hk,rfl,HJ,HB⟩:=hrel
  have hs:wr.cell? ⟨Bs,0,none⟩ = some (.slice A0 zs.length c0):=(zqw HB.out HX.out).cell
  by_cases hlt:1 ≤ k
  ·obtain ⟨j,rfl⟩:∃ j,k = j + 1:=⟨k - 1,by omega⟩
   have ej:(((j + 1:Nat):Int) - 1) = (j:Int):=by omega
   rw [ej]
   obtain ⟨ad,e,x0,x1⟩:=zzS (Kd.zH HC.out (hb.trans HB.out.1)) (j:Int) (by omega) (by omega)
   cases e
   rw [Int.toNat_natCast] at x0 x1
   have e:XR (zs.map (·.1)) (j:Int) = (zs.getD j bF).1:=by
    have hj:j < zs.length:=by omega
    simp [XR,List.getD_eq_getElem?_getD,hj]
   rw [e] at x0 x1
   clear e
   obtain ⟨fn,tmps,assign,body,hy,hR⟩:=HY.out _ (j,zs.getD j bF) wr HJ.out (by rw [oI zs (j + 1) hk];omega)
   unfold Pf at hy
   dsimp only at hy
   have hst:=zx.mk (mR zs j (by omega))
   generalize zs.getD j bF = x at x0 x1 hy hR hst
   have q0:(0:Int) ≤ (j:Int):=by omega
   have q1:(j:Int) < (zs.length:Int):=by omega
   have q3:((j:Int)).toNat = j:=Int.toNat_natCast j
   clear ej
   gi_wp2
   refine hR.mono ?_
   rintro e W3 (⟨rfl,hJ3,hk3⟩ | ⟨rfl,hJx3⟩)
   ·have HJ3:=zx.mk hJ3
    have HK3:=zx.mk hk3
    clear hJ3 hk3
    gi_wp2
    go_roundw
    case rel=>exact ⟨j,by omega,rfl,⟨by rw [hst.out];exact HJ3.out⟩,⟨rX HB.out HK3.out⟩⟩
    case measure=>simp [intOf]
   ·have HJ3:=zx.mk hJx3
    clear hJx3
    gi_wp2
    refine bodyPost_ret (results_none rfl _ _ _) rfl ?_
    exact ⟨⟨_,rfl⟩,.inr ⟨_,trivial,HJ3.out⟩⟩
  ·obtain rfl:k = 0:=by omega
   gi_wp2
   go_end0
   exact ⟨⟨_,rfl⟩,.inl ⟨_,rfl,by rw [← oH];exact HJ.out⟩⟩
set_option maxHeartbeats 1000000 in
theorem zvB (F:Fence) (n:Nat) (h5:F.fn 43) (hro:F.round = none) (a:Option Addr) (len cap:Nat) (w:World) :
  CallsIn F n Tryz.prog 43 #[.slice a len cap] w fun e w'=>e = .returned (.func (.func 104) #[] #[.pointer (some ⟨w.heap.size,0,none⟩)]) ∧ w' = w.alloc (.cells #[.slice a len cap] 28):=by
 refine callsIn_of_wp Tryz.func43 rfl h5 ?_ hro
 simp only [Tryz.ntmps43,List.size_toArray,List.length_cons,List.length_nil,Nat.reduceAdd,Nat.reduceSub,Array.replicate_succ,Array.replicate_zero,List.push_toArray,List.append_toArray,List.nil_append,List.cons_append]
 gi_wp2
 go_ret
 exact ⟨rfl,rfl⟩
theorem zxZ (F:Fence) (n:Nat) (h7:F.fn 104) (hro:F.round = none) (hn:1 ≤ n) (Bs:Nat) (A0:Option Addr) (c0:Nat) (zs:List PS) (hl:zs.length ≤ 1000000000) (w0 w:World) (hC:Kd.C YZ w0 A0 zs.length (zs.map (·.1))) (hw:Below w0.heap.size w0 w) (bE:Boxed w Bs 28 (.slice A0 zs.length c0)) :
  zqk F n Tryz.prog 104 #[.pointer (some ⟨Bs,0,none⟩)] Pf Bs (Xg w0.heap.size Bs) (fun ys=>ys = kT zs zs.length) (fun _=>True) zs.length w:=fun l J Jx W hW _ _ _ _ hY h0 =>
 zxw F n h7 hro hn l Bs A0 c0 zs hl w0 hC J Jx hY W (hw.trans (hW.mono hw.size)) ((hW.block Bs (Boxed.lt bE)).trans bE) h0
end Go.Proofs.YtggifbbiiickmaaGreatDoor
namespace Go.Proofs.YtggifbbiiickmaaGreatDoor
open Go.RowKit Go.Proofs.zk.zm Go.Proofs.zk.yK Go.Proofs.zk.yc Go.Proofs.YtggifbbiiickmaaGreatDoor.PX
set_option linter.unusedSimpArgs false
set_option linter.unusedVariables false
set_option maxRecDepth 100000 in
set_option maxHeartbeats 4000000 in
theorem zxQ (A0:Option Addr) (c0:Nat) (l:List ByteArray) (w:World) (hr:Kd.C Kd.string w A0 l.length l) (hl:l.length ≤ 1000000000) (p:ByteArray → Bool) (g:Nat) (lb:Array Value) (eg:∀ args w,(callFunc g args).run Tryz.prog w = .ok (.enter g args) w)
  (hp:∀ (W:World) (x:ByteArray),x ∈ l → Below w.heap.size w W → Calls Tryz.prog g (#[.string x] ++ lb) W fun e w'=>e = .returned (.bool (p x)) ∧ Below w.heap.size w w') :
  Calls Tryz.prog 102 #[.slice A0 l.length c0,.func (.func g) #[] lb] w fun e w'=>e = .returned (.int .i64 (kK p l 0)) ∧ Below w.heap.size w w':=by
 have H:=zx.mk hr
 have HP:=zx.mk hp
 clear hr hp
 generalize hR:kK p l 0 = R
 have HR:=zx.mk hR
 clear hR
 go_enter Tryz.func102,Tryz.ntmps102
 go_wp2
 go_loopw [8] (fun i W=>∃ k:Nat,k ≤ l.length ∧ i = .int .i64 (k:Int) ∧ zx (kK p l 0 = kK p (l.drop k) k) ∧ zx (Below w.heap.size w W)) (fun i _=>l.length - (intOf i).toNat)
 case atStart=>exact ⟨0,Nat.zero_le _,rfl,⟨by rw [List.drop_zero]⟩,⟨Below.refl _ _⟩⟩
 case round =>
  obtain ⟨k,hk,rfl,HI,HB⟩:=hrel
  by_cases hlt:k < l.length
  ·obtain ⟨ad,e,x0⟩:=Kd.YA (Kd.zH H.out HB.out) (k:Int) (by omega) (by omega)
   cases e
   have e:ZI ByteArray.empty l (k:Int) = l[k]:=by simp [ZI,List.getD_eq_getElem?_getD,hlt]
   rw [Int.toNat_natCast] at x0
   rw [e] at x0
   clear e
   have hi:=HI.out
   rw [List.drop_eq_getElem_cons hlt,Xd] at hi
   have hm:l[k] ∈ l:=List.getElem_mem hlt
   generalize l[k] = x at x0 hi hm
   have hcall:=HP.out wr x hm HB.out
   clear hm
   cases hq:p x with
   | true =>
    rw [hq] at hcall
    rw [if_pos hq] at hi
    have HI2:=zx.mk (HR.out.symm.trans hi)
    clear hi hq HI
    go_wp2_with fail
    refine hcall.mono ?_;rintro e w' ⟨rfl,hb'⟩
    go_wp2_with fail
    go_ret
    exact ⟨by rw [HI2.out];rfl,hb'⟩
   | false =>
    rw [hq] at hcall
    rw [if_neg (by rw [hq];exact Bool.false_ne_true)] at hi
    have HI2:=zx.mk hi
    clear hi hq HI
    go_wp2_with fail
    refine hcall.mono ?_;rintro e w' ⟨rfl,hb'⟩
    go_wp2_with fail
    go_roundw
    case rel=>exact ⟨k + 1,by omega,by first | rfl | go_num,HI2,⟨hb'⟩⟩
    case measure=>simp [intOf];omega
  ·obtain rfl:k = l.length:=by omega
   have hi:=HI.out
   rw [List.drop_eq_nil_of_le (Nat.le_refl _)] at hi
   have HI2:=zx.mk (HR.out.symm.trans hi)
   clear hi HI
   go_wp2
   go_ret
   exact ⟨by rw [HI2.out];rfl,HB.out⟩
set_option maxRecDepth 100000 in
theorem zxX (A0:Option Addr) (c0:Nat) (l:List ByteArray) (w:World) (hr:Kd.C Kd.string w A0 l.length l) (hl:l.length ≤ 1000000000) (p:ByteArray → Bool) (g:Nat) (lb:Array Value) (eg:∀ args w,(callFunc g args).run Tryz.prog w = .ok (.enter g args) w)
  (hp:∀ (W:World) (x:ByteArray),x ∈ l → Below w.heap.size w W → Calls Tryz.prog g (#[.string x] ++ lb) W fun e w'=>e = .returned (.bool (p x)) ∧ Below w.heap.size w w') :
  Calls Tryz.prog 40 #[.slice A0 l.length c0,.func (.func g) #[] lb] w fun e w'=>e = .returned (.bool (l.any p)) ∧ Below w.heap.size w w':=by
 have h:=zxQ A0 c0 l w hr hl p g lb eg hp
 have e:=QV p l 0
 generalize kK p l 0 = i at h e
 generalize l.any p = b at e ⊢
 subst e
 clear hp hr
 go_enter Tryz.func40,Tryz.ntmps40
 go_wp2_with (go_at_call 102;refine h.mono ?_;rintro e w1 ⟨rfl,hb⟩)
 go_ret
 exact ⟨rfl,hb⟩
end Go.Proofs.YtggifbbiiickmaaGreatDoor
namespace Go.Proofs.YtggifbbiiickmaaGreatDoor
open Go.RowKit Go.Proofs.zk.zm Go.Proofs.zk.yK Go.Proofs.zk.yc Go.Proofs.YtggifbbiiickmaaGreatDoor.PX
set_option linter.unusedSimpArgs false
set_option linter.unusedVariables false
set_option maxRecDepth 100000 in
set_option maxHeartbeats 4000000 in
theorem zxJ (A0:Option Addr) (c0:Nat) (l:List uj) (w:World) (hr:Kd.C YZ w A0 l.length l) (hl:l.length ≤ 1000000000) (p:uj → Bool) (g:Nat) (lb:Array Value) (eg:∀ args w,(callFunc g args).run Tryz.prog w = .ok (.enter g args) w)
  (hp:∀ (W:World) (x:uj),x ∈ l → Below w.heap.size w W → Calls Tryz.prog g (#[.agg #[.string x.f0,.string x.f1]] ++ lb) W fun e w'=>e = .returned (.bool (p x)) ∧ Below w.heap.size w w') :
  Calls Tryz.prog 103 #[.slice A0 l.length c0,.func (.func g) #[] lb] w fun e w'=>e = .returned (.int .i64 (kK p l 0)) ∧ Below w.heap.size w w':=by
 have H:=zx.mk hr
 have HP:=zx.mk hp
 clear hr hp
 generalize hR:kK p l 0 = R
 have HR:=zx.mk hR
 clear hR
 go_enter Tryz.func103,Tryz.ntmps103
 go_wp2
 go_loopw [8] (fun i W=>∃ k:Nat,k ≤ l.length ∧ i = .int .i64 (k:Int) ∧ zx (kK p l 0 = kK p (l.drop k) k) ∧ zx (Below w.heap.size w W)) (fun i _=>l.length - (intOf i).toNat)
 case atStart=>exact ⟨0,Nat.zero_le _,rfl,⟨by rw [List.drop_zero]⟩,⟨Below.refl _ _⟩⟩
 case round =>
  obtain ⟨k,hk,rfl,HI,HB⟩:=hrel
  by_cases hlt:k < l.length
  ·obtain ⟨ad,e,x0,x1⟩:=zzS (Kd.zH H.out HB.out) (k:Int) (by omega) (by omega)
   cases e
   have e:XR l (k:Int) = l[k]:=by simp [XR,List.getD_eq_getElem?_getD,hlt]
   rw [Int.toNat_natCast] at x0 x1
   rw [e] at x0 x1
   clear e
   have hi:=HI.out
   rw [List.drop_eq_getElem_cons hlt,Xd] at hi
   have hm:l[k] ∈ l:=List.getElem_mem hlt
   generalize l[k] = x at x0 x1 hi hm
   have hcall:=HP.out wr x hm HB.out
   clear hm
   cases hq:p x with
   | true =>
    rw [hq] at hcall
    rw [if_pos hq] at hi
    have HI2:=zx.mk (HR.out.symm.trans hi)
    clear hi hq HI
    go_wp2_with fail
    refine hcall.mono ?_;rintro e w' ⟨rfl,hb'⟩
    go_wp2_with fail
    go_ret
    exact ⟨by rw [HI2.out];rfl,hb'⟩
   | false =>
    rw [hq] at hcall
    rw [if_neg (by rw [hq];exact Bool.false_ne_true)] at hi
    have HI2:=zx.mk hi
    clear hi hq HI
    go_wp2_with fail
    refine hcall.mono ?_;rintro e w' ⟨rfl,hb'⟩
    go_wp2_with fail
    go_roundw
    case rel=>exact ⟨k + 1,by omega,by first | rfl | go_num,HI2,⟨hb'⟩⟩
    case measure=>simp [intOf];omega
  ·obtain rfl:k = l.length:=by omega
   have hi:=HI.out
   rw [List.drop_eq_nil_of_le (Nat.le_refl _)] at hi
   have HI2:=zx.mk (HR.out.symm.trans hi)
   clear hi HI
   go_wp2
   go_ret
   exact ⟨by rw [HI2.out];rfl,HB.out⟩
set_option maxRecDepth 100000 in
theorem zxV (A0:Option Addr) (c0:Nat) (l:List uj) (w:World) (hr:Kd.C YZ w A0 l.length l) (hl:l.length ≤ 1000000000) (p:uj → Bool) (g:Nat) (lb:Array Value) (eg:∀ args w,(callFunc g args).run Tryz.prog w = .ok (.enter g args) w)
  (hp:∀ (W:World) (x:uj),x ∈ l → Below w.heap.size w W → Calls Tryz.prog g (#[.agg #[.string x.f0,.string x.f1]] ++ lb) W fun e w'=>e = .returned (.bool (p x)) ∧ Below w.heap.size w w') :
  Calls Tryz.prog 41 #[.slice A0 l.length c0,.func (.func g) #[] lb] w fun e w'=>e = .returned (.bool (l.any p)) ∧ Below w.heap.size w w':=by
 have h:=zxJ A0 c0 l w hr hl p g lb eg hp
 have e:=QV p l 0
 generalize kK p l 0 = i at h e
 generalize l.any p = b at e ⊢
 subst e
 clear hp hr
 go_enter Tryz.func41,Tryz.ntmps41
 go_wp2_with (go_at_call 103;refine h.mono ?_;rintro e w1 ⟨rfl,hb⟩)
 go_ret
 exact ⟨rfl,hb⟩
end Go.Proofs.YtggifbbiiickmaaGreatDoor
namespace Go.Proofs.YtggifbbiiickmaaGreatDoor
open Go.RowKit Go.Shelf
theorem nk (w:World):PredAt Tryz.prog 82 #[] encR jO w:=fun W r _=>by
 unfold FnGives
 show Calls Tryz.prog 82 #[.int .i32 r] W _
 by_cases h1:r < 33
 ·have e1:jO r = true:=by unfold jO;simp [h1]
  have d1:decide ((r:Int) < 33) = true:=by simp;omega
  rw [e1];clear e1 h1
  go_enter Tryz.func82,Tryz.ntmps82
  go_wp2
  go_ret
  exact ⟨rfl,0,rfl⟩
 ·have d1:decide ((r:Int) < 33) = false:=by simp;omega
  by_cases h2:126 < r
  ·have e1:jO r = true:=by unfold jO;simp [h2]
   have d2:decide ((126:Int) < (r:Int)) = true:=by simp;omega
   rw [e1];clear e1 h1 h2
   go_enter Tryz.func82,Tryz.ntmps82
   go_wp2
   go_ret
   exact ⟨rfl,0,rfl⟩
  ·have e1:jO r = false:=by unfold jO;simp;omega
   have d2:decide ((126:Int) < (r:Int)) = false:=by simp;omega
   rw [e1];clear e1 h1 h2
   go_enter Tryz.func82,Tryz.ntmps82
   go_wp2
   go_ret
   exact ⟨rfl,0,rfl⟩
set_option maxRecDepth 100000 in
theorem oL (s:ByteArray) (w:World) :
  Calls Tryz.prog 36 #[.string s] w fun e w'=>e = .returned (.bool (Ym s.data.toList)) ∧ Below w.heap.size w w':=by
 have hl:s.data.toList.length = s.size:=Array.length_toList
 have hc:=Tryz.strings_ContainsFunc 82 #[] (enters_of Tryz.func82 (by kernel_rfl) rfl) jO s w (nk w)
 have hv:decide (0 ≤ Lib.idxFunc jO true s) = !(s.data.toList.all okB):=by
  have:=zzU s s.size 0 (by omega) (by omega)
  rw [List.drop_zero] at this
  unfold Lib.idxFunc
  cases h:s.data.toList.all okB with
  | true=>rw [h] at this;simp at this;simp;omega
  | false=>rw [h] at this;simp at this;simp [this]
 rw [hv] at hc
 unfold Ym
 rw [hl]
 generalize s.data.toList.all okB = b at hc ⊢
 clear hl hv
 by_cases h1:1 ≤ s.size
 ·have d1:decide (1 ≤ s.size) = true:=decide_eq_true h1
  have g1:decide ((1:Int) ≤ (s.size:Int)) = true:=by simp;omega
  by_cases h2:s.size ≤ 10
  ·have d2:decide (s.size ≤ 10) = true:=decide_eq_true h2
   have g2:decide ((s.size:Int) ≤ 10) = true:=by simp;omega
   rw [d1,d2]
   clear d1 d2
   cases b with
   | true =>
    go_enter Tryz.func36,Tryz.ntmps36
    go_wp2_with (go_at_call 81;refine hc.mono ?_;rintro e w1 ⟨rfl,hb1⟩)
    go_ret
    exact ⟨rfl,hb1⟩
   | false =>
    go_enter Tryz.func36,Tryz.ntmps36
    go_wp2_with (go_at_call 81;refine hc.mono ?_;rintro e w1 ⟨rfl,hb1⟩)
    go_ret
    exact ⟨rfl,hb1⟩
  ·have d2:decide (s.size ≤ 10) = false:=decide_eq_false h2
   have g2:decide ((s.size:Int) ≤ 10) = false:=by simp;omega
   rw [d1,d2]
   clear d1 d2 hc
   go_enter Tryz.func36,Tryz.ntmps36
   go_wp2
   go_ret
   exact ⟨rfl,Below.refl _ _⟩
 ·have d1:decide (1 ≤ s.size) = false:=decide_eq_false h1
  have g1:decide ((1:Int) ≤ (s.size:Int)) = false:=by simp;omega
  rw [d1]
  clear d1 hc
  go_enter Tryz.func36,Tryz.ntmps36
  go_wp2
  go_ret
  exact ⟨rfl,Below.refl _ _⟩
end Go.Proofs.YtggifbbiiickmaaGreatDoor
namespace Go.Proofs.YtggifbbiiickmaaGreatDoor.UG
open Go.Maps Go.ChangeMaps Go.WideMaps
set_option linter.unusedSimpArgs false
set_option linter.unusedVariables false
def SMap (P:Program) (k e:TypeId) (w:World) (b n:Nat) (f:ByteArray → Option ByteArray):Prop :=
 ∃ D:DataW Unit,w.ownsMap P k (plainElem P e) b n D ∧ IsMap D ∧ ∀ s:ByteArray,s.size ≤ maxLen → ∀ z,D.atKey (.string s.data.toList) z = match f s with | some v=>.lit (.string v.data.toList) | none=>z
section
variable {P:Program} {k e t:TypeId} {w:World} {b n:Nat} {f:ByteArray → Option ByteArray}
theorem SMap.kept {w':World} {row:Option Nat} (h:SMap P k e w b n f) (hg:w.grownBy w' row) (hne:some b ≠ row):SMap P k e w' b n f:=by
 obtain ⟨D,h1,h2,h3⟩:=h
 exact ⟨D,h1.kept hg hne,h2,h3⟩
theorem SMap.lt (h:SMap P k e w b n f):b < w.heap.size:=by
 obtain ⟨D,h1,_,_⟩:=h
 exact h1.lt
theorem SMap.made (w:World):SMap P k e (w.alloc (.map #[] 0)) w.heap.size 0 (fun _=>none) :=
 ⟨.map [],World.ownsMap_made w P k _,⟨_,rfl⟩,fun s _ z=>rfl⟩
theorem SMap.look (h:SMap P k e w b n f) (hk:P.underlying k = some .string) (ht:P.underlying t = some (.map k e)) (he:P.underlying e = some .string) (hz:(zeroValue e).run P w = .ok (.string ⟨#[]⟩) w) (s:ByteArray) (hs:s.size ≤ maxLen) :
  (Instr.lookup t (.map (some b)) (.string s) true).run P w = .ok (match f s with | some v=>.tuple #[.string v,.bool true] | none=>.tuple #[.string ⟨#[]⟩,.bool false]) w:=by
 obtain ⟨D,⟨es,clock,hb,F,_,rfl⟩,_,hf⟩:=h
 have hf:=hf s hs
 rcases fit_look true (string_keyed hk) ht hz hb F (keyOf_string_mk hk hs) with ⟨hrun,_,hat⟩ | ⟨e0,y,_,_,hrun,hRv,hat,_⟩
 ·rw [hrun]
  cases hv:f s with
  | none=>rfl
  | some v =>
   have h1:=(hat .nil).symm.trans (hf .nil)
   rw [hv] at h1
   cases h1
 ·rw [hrun]
  obtain ⟨s',hv',hy,_⟩:=plainElem_string_inv he hRv
  cases hv:f s with
  | none =>
   have h1:=(hat .nil).symm.trans (hf .nil)
   rw [hv,hy] at h1
   cases h1
  | some v =>
   have h1:=(hat .nil).symm.trans (hf .nil)
   rw [hv,hy] at h1
   have h2:s'.data.toList = v.data.toList:=by injection h1 with h1;injection h1
   have h3:s' = v:=by
    cases s';cases v
    congr 1
    exact Array.toList_inj.1 h2
   subst h3
   rw [hv']
   rfl
theorem SMap.put (h:SMap P k e w b n f) (hk:P.underlying k = some .string) (ht:P.underlying t = some (.map k e)) (he:P.underlying e = some .string) (hn:n < maxLen) (s v:ByteArray) (hs:s.size ≤ maxLen) (hv:v.size ≤ maxLen) :
  ∃ w',(Instr.mapUpdate t (.map (some b)) (.string s) (.string v)).run P w = .ok () w' ∧ SMap P k e w' b (n + 1) (fun x=>if x = s then some v else f x) ∧ w.grownBy w' (some b):=by
 obtain ⟨D,h1,h2,h3⟩:=h
 obtain ⟨w',hrun,hown,hg⟩:=h1.update (string_keyed hk) ht hn (keyOf_string_mk hk hs) (plainElem_string he hv)
 refine ⟨w',hrun,⟨_,hown,?_,fun x hx z=>?_⟩,hg⟩
 ·obtain ⟨es,rfl⟩:=h2
  exact ⟨_,rfl⟩
 ·by_cases hxs:x = s
  ·subst hxs
   dsimp only
   rw [if_pos rfl]
   exact atKey_put_same h2 (by trivial) _ _
  ·dsimp only
   rw [if_neg hxs,atKey_put_other (fun e=>hxs (by injection e with e;cases x;cases s;congr 1;exact Array.toList_inj.1 e)) _ _]
   exact h3 x hx z
end
end Go.Proofs.YtggifbbiiickmaaGreatDoor.UG
namespace Go.Proofs.YtggifbbiiickmaaGreatDoor
open Go.RowKit Go.Shelf Go.Proofs.zk.zm Go.Proofs.zk.yK Go.Proofs.zk.yc Go.Proofs.YtggifbbiiickmaaGreatDoor.PX Go.Proofs.YtggifbbiiickmaaGreatDoor.UG
set_option linter.unusedSimpArgs false
set_option linter.unusedVariables false
set_option maxRecDepth 100000 in
theorem Ke (s:ByteArray) (W:World):Calls Tryz.prog 35 #[.string s] W fun e w'=>e = .returned (.bool (wT s)) ∧ Below W.heap.size W w':=by
 have h:=oL s W
 unfold wT
 generalize Ym s.data.toList = b at h ⊢
 go_enter Tryz.func35,Tryz.ntmps35
 go_wp2_with (go_at_call 36;refine h.mono ?_;rintro e w1 ⟨rfl,hb⟩)
 go_ret
 exact ⟨rfl,hb⟩
set_option maxRecDepth 100000 in
theorem bG (x:yM) (A3:Option Addr) (c3:Nat) (A4:Option Addr) (c4:Nat) (A5:Option Addr) (c5:Nat) (W:World) (hG:GW W) (hz:x.f3.length ≤ 1000000000 ∧ x.f4.length ≤ 1000000000 ∧ x.f5.length ≤ 1000000000)
  (q3:Kd.C xG W A3 x.f3.length x.f3) (g3:x.f3.length ≤ c3) (q4:Kd.C uQ W A4 x.f4.length x.f4) (g4:x.f4.length ≤ c4) (q5:Kd.C uo W A5 x.f5.length x.f5) (g5:x.f5.length ≤ c5) :
  Calls Tryz.prog 38 #[.agg #[.string x.f0,.bool x.f1,.int .i64 x.f2,.slice A3 x.f3.length c3,.slice A4 x.f4.length c4,.slice A5 x.f5.length c5]] W fun e w'=>e = .returned (.bool (!qK x)) ∧ Below W.heap.size W w':=by
 have hb0:Below W.heap.size W (W.alloc (.cells #[.string x.f0,.bool x.f1,.int .i64 x.f2,.slice A3 x.f3.length c3,.slice A4 x.f4.length c4,.slice A5 x.f5.length c5] 60)):=(Below.refl _ W).alloc (Nat.le_refl _) _
 have h:=uX.calls x.f0 x.f1 x.f2 A3 c3 x.f3 A4 c4 x.f4 A5 c5 x.f5 (qK x) _ (Kd.zH q3 hb0) g3 (Kd.zH q4 hb0) g4 (Kd.zH q5 hb0) g5 (hG.under hb0) (by unfold uX.f;rw [if_pos hz];rfl)
 generalize qK x = b at h ⊢
 clear q3 q4 q5 hz
 go_enter Tryz.func38,Tryz.ntmps38
 go_wp2_with (go_at_call 39;refine h.mono ?_;rintro e w1 ⟨rfl,hb⟩)
 go_ret
 exact ⟨rfl,hb0.trans (hb.mono hb0.size)⟩
set_option maxRecDepth 100000 in
theorem zxK (B:Nat) (p:kZ) (W:World) (hB:W.cell? ⟨B,0,none⟩ = some (.func (.func 35) #[] #[])) :
  Calls Tryz.prog 42 #[.agg #[.string p.f0,.string p.f1],.pointer (some ⟨B,0,none⟩)] W fun e w'=>e = .returned (.bool (QJ p)) ∧ Below W.heap.size W w':=by
 have hl:=World.block_lt_of_cell? W _ hB
 have hb0:Below W.heap.size W (W.alloc (.cells #[.string p.f0,.string p.f1] 80)):=(Below.refl _ W).alloc (Nat.le_refl _) _
 have hc:(W.alloc (.cells #[.string p.f0,.string p.f1] 80)).cell? ⟨B,0,none⟩ = some (.func (.func 35) #[] #[]):=(World.cell?_alloc_lt _ _ _ hl).trans hB
 have h1:=Ke p.f0 (W.alloc (.cells #[.string p.f0,.string p.f1] 80))
 have h2:=fun V=>Ke p.f1 V
 unfold QJ
 generalize wT p.f0 = b1 at h1 ⊢
 generalize wT p.f1 = b2 at h2 ⊢
 cases b1 with
 | true =>
  clear h2
  go_enter Tryz.func42,Tryz.ntmps42
  go_wp2_with (go_at_call 35;refine h1.mono ?_;rintro e w1 ⟨rfl,hb1⟩)
  go_ret
  exact ⟨rfl,hb0.trans (hb1.mono hb0.size)⟩
 | false =>
  go_enter Tryz.func42,Tryz.ntmps42
  go_wp2_with fail
  refine h1.mono ?_;rintro e w1 ⟨rfl,hb1⟩
  have hc1:=(hb1.cell (p:=⟨B,0,none⟩) (by simp;omega)).trans hc
  have k1:w1.cell? ⟨W.heap.size,1,none⟩ = some (.string p.f1):=(hb1.cell (p:=⟨W.heap.size,1,none⟩) (by simp)).trans (by simp)
  clear h1 hc
  go_wp2_with fail
  refine (h2 _).mono ?_;rintro e w2 ⟨rfl,hb2⟩
  go_wp2_with fail
  go_ret
  exact ⟨by first | rfl | (cases b2 <;> rfl),hb0.trans ((hb1.trans (hb2.mono hb1.size)).mono hb0.size)⟩
def ZE (f:ByteArray → Option ByteArray) (c:ByteArray):ByteArray:=match f c with | some v=>v | none=>c
theorem zy8 (w:World):(zeroValue 9).run Tryz.prog w = .ok (.string ⟨#[]⟩) w:=by kernel_rfl
set_option maxRecDepth 100000 in
theorem UH (B m k:Nat) (f:ByteArray → Option ByteArray) (c:ByteArray) (W:World) (hc:c.size ≤ maxLen) (hB:W.cell? ⟨B,0,none⟩ = some (.map (some m))) (hm:SMap Tryz.prog 9 9 W m k f) :
  Calls Tryz.prog 44 #[.string c,.pointer (some ⟨B,0,none⟩)] W fun e w'=>e = .returned (.string (ZE f c)) ∧ W = w':=by
 have hlk:=hm.look (t:=82) Tryz.underlying9 Tryz.underlying82 Tryz.underlying9 (zy8 W) c hc
 unfold ZE
 clear hm
 cases hf:f c with
 | none =>
  rw [hf] at hlk
  clear hf
  go_enter Tryz.func44,Tryz.ntmps44
  go_wp2
  go_ret
  exact ⟨rfl,rfl⟩
 | some v =>
  rw [hf] at hlk
  clear hf
  go_enter Tryz.func44,Tryz.ntmps44
  go_wp2
  go_ret
  exact ⟨rfl,rfl⟩
end Go.Proofs.YtggifbbiiickmaaGreatDoor
namespace Go.Proofs.YtggifbbiiickmaaGreatDoor
open Go.RowKit Go.Shelf Go.Proofs.zk.zm Go.Proofs.zk.yK Go.Proofs.zk.yc Go.Proofs.YtggifbbiiickmaaGreatDoor.PX Go.Proofs.YtggifbbiiickmaaGreatDoor.UG
set_option linter.unusedSimpArgs false
set_option linter.unusedVariables false
theorem Kg (Af:Option Addr) (cf:Nat) (l:List yM) (f s:Int) (yV zu:Bool) (Ac:Option Addr) (cc:Nat) (chars:List ByteArray) (Ap:Option Addr) (cp:Nat) (pairs:List kZ) (w:World) (hG:GW w) (hC:Kd.C jh w Af l.length l) (hz:∀ x ∈ l,x.f3.length ≤ 1000000000 ∧ x.f4.length ≤ 1000000000 ∧ x.f5.length ≤ 1000000000) (hl:l.length ≤ 1000000000) (hS:Kd.C Kd.string w Ac chars.length chars) (hlc:chars.length ≤ 1000000000) (hP:Kd.C YZ w Ap pairs.length pairs) (hlp:pairs.length ≤ 1000000000) (W:World) (hb:Below w.heap.size w W):Calls Tryz.prog 37 #[.slice Af l.length cf,.func (.func 38) #[] #[]] W fun e w'=>e = .returned (.bool (l.any fun x=>!qK x)) ∧ Below W.heap.size W w' :=
 VN Af cf l W (Kd.zH hC hb) hl (fun x=>!qK x) 38 #[] (kF Tryz.func38 (by kernel_rfl) rfl) (fun V y A3 c3 A4 c4 A5 c5 hm hV p3 g3 p4 g4 p5 g5 =>
  (bG y A3 c3 A4 c4 A5 c5 V (hG.under (hb.trans (hV.mono hb.size))) (hz y hm) p3 g3 p4 g4 p5 g5).mono fun e w' ⟨h1,h2⟩=>⟨h1,hV.trans (h2.mono hV.size)⟩)
theorem Kh (Af:Option Addr) (cf:Nat) (l:List yM) (f s:Int) (yV zu:Bool) (Ac:Option Addr) (cc:Nat) (chars:List ByteArray) (Ap:Option Addr) (cp:Nat) (pairs:List kZ) (w:World) (hG:GW w) (hC:Kd.C jh w Af l.length l) (hz:∀ x ∈ l,x.f3.length ≤ 1000000000 ∧ x.f4.length ≤ 1000000000 ∧ x.f5.length ≤ 1000000000) (hl:l.length ≤ 1000000000) (hS:Kd.C Kd.string w Ac chars.length chars) (hlc:chars.length ≤ 1000000000) (hP:Kd.C YZ w Ap pairs.length pairs) (hlp:pairs.length ≤ 1000000000) (W:World) (hb:Below w.heap.size w W):Calls Tryz.prog 40 #[.slice Ac chars.length cc,.func (.func 35) #[] #[]] W fun e w'=>e = .returned (.bool (chars.any wT)) ∧ Below W.heap.size W w' :=
 zxX Ac cc chars W (Kd.zH hS hb) hlc wT 35 #[] (kF Tryz.func35 (by kernel_rfl) rfl) (fun V y hm hV=>(Ke y V).mono fun e w' ⟨h1,h2⟩=>⟨h1,hV.trans (h2.mono hV.size)⟩)
theorem Ki (Af:Option Addr) (cf:Nat) (l:List yM) (f s:Int) (yV zu:Bool) (Ac:Option Addr) (cc:Nat) (chars:List ByteArray) (Ap:Option Addr) (cp:Nat) (pairs:List kZ) (w:World) (hG:GW w) (hC:Kd.C jh w Af l.length l) (hz:∀ x ∈ l,x.f3.length ≤ 1000000000 ∧ x.f4.length ≤ 1000000000 ∧ x.f5.length ≤ 1000000000) (hl:l.length ≤ 1000000000) (hS:Kd.C Kd.string w Ac chars.length chars) (hlc:chars.length ≤ 1000000000) (hP:Kd.C YZ w Ap pairs.length pairs) (hlp:pairs.length ≤ 1000000000) (B:Nat) (W:World) (hb:Below w.heap.size w W) (hB:W.cell? ⟨B,0,none⟩ = some (.func (.func 35) #[] #[])):Calls Tryz.prog 41 #[.slice Ap pairs.length cp,.func (.func 42) #[] #[.pointer (some ⟨B,0,none⟩)]] W fun e w'=>e = .returned (.bool (pairs.any QJ)) ∧ Below W.heap.size W w' :=
 zxV Ap cp pairs W (Kd.zH hP hb) hlp QJ 42 #[.pointer (some ⟨B,0,none⟩)] (kF Tryz.func42 (by kernel_rfl) rfl) (fun V y hm hV=>(zxK B y V ((hV.cell (p:=⟨B,0,none⟩) (World.block_lt_of_cell? W _ hB)).trans hB)).mono fun e w' ⟨h1,h2⟩=>⟨h1,hV.trans (h2.mono hV.size)⟩)
def jl (n:Nat) (f s:Int):Bool:=decide (f < 0) || (decide ((n:Int) ≤ f) || (decide (s < 1) || decide (1000 < s)))
set_option maxRecDepth 100000 in
set_option maxHeartbeats 8000000 in
theorem zxY (Af:Option Addr) (cf:Nat) (l:List yM) (f s:Int) (yV zu:Bool) (Ac:Option Addr) (cc:Nat) (chars:List ByteArray) (Ap:Option Addr) (cp:Nat) (pairs:List kZ) (w:World) (hG:GW w) (hC:Kd.C jh w Af l.length l) (hz:∀ x ∈ l,x.f3.length ≤ 1000000000 ∧ x.f4.length ≤ 1000000000 ∧ x.f5.length ≤ 1000000000) (hl:l.length ≤ 1000000000) (hS:Kd.C Kd.string w Ac chars.length chars) (hlc:chars.length ≤ 1000000000) (hP:Kd.C YZ w Ap pairs.length pairs) (hlp:pairs.length ≤ 1000000000) (h1:(l.any fun x=>!qK x) = true) :
  Calls Tryz.prog 13 #[.slice Af l.length cf,.agg #[.int .i64 f,.int .i64 s,.bool yV,.bool zu],.slice Ac chars.length cc,.slice Ap pairs.length cp] w fun e w'=>e = .returned (.tuple #[.slice none 0 0,.slice none 0 0,.int .i64 1]) ∧ Below w.heap.size w w':=by
 have hF:=Kg Af cf l f s yV zu Ac cc chars Ap cp pairs w hG hC hz hl hS hlc hP hlp
 have hQ:=Kh Af cf l f s yV zu Ac cc chars Ap cp pairs w hG hC hz hl hS hlc hP hlp
 have hR:=Ki Af cf l f s yV zu Ac cc chars Ap cp pairs w hG hC hz hl hS hlc hP hlp (w.heap.size + 1)
 have hb0:Below w.heap.size w ((w.alloc (.cells #[.int .i64 f,.int .i64 s,.bool yV,.bool zu] 26)).alloc (.cells #[.func (.func 35) #[] #[]] 75)):=((Below.refl _ w).alloc (Nat.le_refl _) _).alloc (by simp) _
 have wJ:=yG (uN w (.cells #[.int .i64 f,.int .i64 s,.bool yV,.bool zu] 26)) (.cells #[.func (.func 35) #[] #[]] 75)
 have hbad:Boxed ((w.alloc (.cells #[.int .i64 f,.int .i64 s,.bool yV,.bool zu] 26)).alloc (.cells #[.func (.func 35) #[] #[]] 75)) (w.heap.size + 1) 75 (.func (.func 35) #[] #[]):=by
  have h:=Boxed.new (w.alloc (.cells #[.int .i64 f,.int .i64 s,.bool yV,.bool zu] 26)) 75 (.func (.func 35) #[] #[])
  rwa [World.size_alloc] at h
 rw [h1] at hF
 have HT1:=zx.mk wJ
 have HD1:=zx.mk hbad
 have HB1:=zx.mk hb0
 have HF:=zx.mk hF
 have HQ:=zx.mk hQ
 have HR:=zx.mk hR
 clear wJ hbad hb0 hF hQ hR hG hC hz hS hP
 go_enter Tryz.func13,Tryz.ntmps13
 go_wp2_with fail
 refine (HF.out _ HB1.out).mono ?_;rintro e w2 ⟨rfl,hb2⟩
 go_wp2_with fail
 go_ret3
 exact ⟨rfl,HB1.out.trans (hb2.mono HB1.out.size)⟩
set_option maxRecDepth 100000 in
set_option maxHeartbeats 8000000 in
theorem zxW (Af:Option Addr) (cf:Nat) (l:List yM) (f s:Int) (yV zu:Bool) (Ac:Option Addr) (cc:Nat) (chars:List ByteArray) (Ap:Option Addr) (cp:Nat) (pairs:List kZ) (w:World) (hG:GW w) (hC:Kd.C jh w Af l.length l) (hz:∀ x ∈ l,x.f3.length ≤ 1000000000 ∧ x.f4.length ≤ 1000000000 ∧ x.f5.length ≤ 1000000000) (hl:l.length ≤ 1000000000) (hS:Kd.C Kd.string w Ac chars.length chars) (hlc:chars.length ≤ 1000000000) (hP:Kd.C YZ w Ap pairs.length pairs) (hlp:pairs.length ≤ 1000000000) (h1:(l.any fun x=>!qK x) = false) (h2:jl l.length f s = true) :
  Calls Tryz.prog 13 #[.slice Af l.length cf,.agg #[.int .i64 f,.int .i64 s,.bool yV,.bool zu],.slice Ac chars.length cc,.slice Ap pairs.length cp] w fun e w'=>e = .returned (.tuple #[.slice none 0 0,.slice none 0 0,.int .i64 1]) ∧ Below w.heap.size w w':=by
 have hF:=Kg Af cf l f s yV zu Ac cc chars Ap cp pairs w hG hC hz hl hS hlc hP hlp
 have hQ:=Kh Af cf l f s yV zu Ac cc chars Ap cp pairs w hG hC hz hl hS hlc hP hlp
 have hR:=Ki Af cf l f s yV zu Ac cc chars Ap cp pairs w hG hC hz hl hS hlc hP hlp (w.heap.size + 1)
 have hb0:Below w.heap.size w ((w.alloc (.cells #[.int .i64 f,.int .i64 s,.bool yV,.bool zu] 26)).alloc (.cells #[.func (.func 35) #[] #[]] 75)):=((Below.refl _ w).alloc (Nat.le_refl _) _).alloc (by simp) _
 have wJ:=yG (uN w (.cells #[.int .i64 f,.int .i64 s,.bool yV,.bool zu] 26)) (.cells #[.func (.func 35) #[] #[]] 75)
 have hbad:Boxed ((w.alloc (.cells #[.int .i64 f,.int .i64 s,.bool yV,.bool zu] 26)).alloc (.cells #[.func (.func 35) #[] #[]] 75)) (w.heap.size + 1) 75 (.func (.func 35) #[] #[]):=by
  have h:=Boxed.new (w.alloc (.cells #[.int .i64 f,.int .i64 s,.bool yV,.bool zu] 26)) 75 (.func (.func 35) #[] #[])
  rwa [World.size_alloc] at h
 rw [h1] at hF
 have HT1:=zx.mk wJ
 have HD1:=zx.mk hbad
 have HB1:=zx.mk hb0
 have HF:=zx.mk hF
 have HQ:=zx.mk hQ
 have HR:=zx.mk hR
 clear wJ hbad hb0 hF hQ hR hG hC hz hS hP
 go_enter Tryz.func13,Tryz.ntmps13
 go_wp2_with fail
 refine (HF.out _ HB1.out).mono ?_;rintro e w2 ⟨rfl,hb2⟩
 have HT2:=zx.mk (zW HT1.out hb2)
 have HD2:=zx.mk (zW HD1.out hb2)
 have HB2:=zx.mk (HB1.out.trans (hb2.mono HB1.out.size))
 clear hb2
 have a2:w2.cell? ⟨w.heap.size,0,none⟩ = some (.int .i64 f):=(zK HT2.out 0).trans rfl
 have b2:w2.cell? ⟨w.heap.size,1,none⟩ = some (.int .i64 s):=(zK HT2.out 1).trans rfl
 have c2:w2.cell? ⟨w.heap.size + 1,0,none⟩ = some (.func (.func 35) #[] #[]):=(zK HD2.out 0).trans rfl
 by_cases g1:f < 0
 ·have d1:decide (f < 0) = true:=decide_eq_true g1
  clear h2
  go_wp2_with fail
  go_ret3
  exact ⟨rfl,HB2.out⟩
 have d1:decide (f < 0) = false:=decide_eq_false g1
 by_cases g2:(l.length:Int) ≤ f
 ·have d2:decide ((l.length:Int) ≤ f) = true:=decide_eq_true g2
  clear h2
  go_wp2_with fail
  go_ret3
  exact ⟨rfl,HB2.out⟩
 have d2:decide ((l.length:Int) ≤ f) = false:=decide_eq_false g2
 by_cases g3:s < 1
 ·have d3:decide (s < 1) = true:=decide_eq_true g3
  clear h2
  go_wp2_with fail
  go_ret3
  exact ⟨rfl,HB2.out⟩
 have d3:decide (s < 1) = false:=decide_eq_false g3
 have g4:1000 < s:=by
  unfold jl at h2
  simp only [d1,d2,d3,Bool.false_or,decide_eq_true_eq] at h2
  exact h2
 have d4:decide (1000 < s) = true:=decide_eq_true g4
 clear h2
 go_wp2_with fail
 go_ret3
 exact ⟨rfl,HB2.out⟩
set_option maxRecDepth 100000 in
set_option maxHeartbeats 8000000 in
theorem zxa (Af:Option Addr) (cf:Nat) (l:List yM) (f s:Int) (yV zu:Bool) (Ac:Option Addr) (cc:Nat) (chars:List ByteArray) (Ap:Option Addr) (cp:Nat) (pairs:List kZ) (w:World) (hG:GW w) (hC:Kd.C jh w Af l.length l) (hz:∀ x ∈ l,x.f3.length ≤ 1000000000 ∧ x.f4.length ≤ 1000000000 ∧ x.f5.length ≤ 1000000000) (hl:l.length ≤ 1000000000) (hS:Kd.C Kd.string w Ac chars.length chars) (hlc:chars.length ≤ 1000000000) (hP:Kd.C YZ w Ap pairs.length pairs) (hlp:pairs.length ≤ 1000000000) (h1:(l.any fun x=>!qK x) = false) (h2:jl l.length f s = false) (h3:2000 < chars.length ∨ 100 < pairs.length) :
  Calls Tryz.prog 13 #[.slice Af l.length cf,.agg #[.int .i64 f,.int .i64 s,.bool yV,.bool zu],.slice Ac chars.length cc,.slice Ap pairs.length cp] w fun e w'=>e = .returned (.tuple #[.slice none 0 0,.slice none 0 0,.int .i64 1]) ∧ Below w.heap.size w w':=by
 have d1:decide (f < 0) = false:=by cases h:decide (f < 0) with | false=>rfl | true=>(unfold jl at h2;rw [h,Bool.true_or] at h2;cases h2)
 have d2:decide ((l.length:Int) ≤ f) = false:=by cases h:decide ((l.length:Int) ≤ f) with | false=>rfl | true=>(unfold jl at h2;rw [h,Bool.true_or,Bool.or_true] at h2;cases h2)
 have d3:decide (s < 1) = false:=by cases h:decide (s < 1) with | false=>rfl | true=>(unfold jl at h2;rw [h,Bool.true_or,Bool.or_true,Bool.or_true] at h2;cases h2)
 have d4:decide (1000 < s) = false:=by cases h:decide (1000 < s) with | false=>rfl | true=>(unfold jl at h2;rw [h,Bool.or_true,Bool.or_true,Bool.or_true] at h2;cases h2)
 have r1:=of_decide_eq_false d1
 have r2:=of_decide_eq_false d2
 have r3:=of_decide_eq_false d3
 have r4:=of_decide_eq_false d4
 clear h2
 have hF:=Kg Af cf l f s yV zu Ac cc chars Ap cp pairs w hG hC hz hl hS hlc hP hlp
 have hQ:=Kh Af cf l f s yV zu Ac cc chars Ap cp pairs w hG hC hz hl hS hlc hP hlp
 have hR:=Ki Af cf l f s yV zu Ac cc chars Ap cp pairs w hG hC hz hl hS hlc hP hlp (w.heap.size + 1)
 have hb0:Below w.heap.size w ((w.alloc (.cells #[.int .i64 f,.int .i64 s,.bool yV,.bool zu] 26)).alloc (.cells #[.func (.func 35) #[] #[]] 75)):=((Below.refl _ w).alloc (Nat.le_refl _) _).alloc (by simp) _
 have wJ:=yG (uN w (.cells #[.int .i64 f,.int .i64 s,.bool yV,.bool zu] 26)) (.cells #[.func (.func 35) #[] #[]] 75)
 have hbad:Boxed ((w.alloc (.cells #[.int .i64 f,.int .i64 s,.bool yV,.bool zu] 26)).alloc (.cells #[.func (.func 35) #[] #[]] 75)) (w.heap.size + 1) 75 (.func (.func 35) #[] #[]):=by
  have h:=Boxed.new (w.alloc (.cells #[.int .i64 f,.int .i64 s,.bool yV,.bool zu] 26)) 75 (.func (.func 35) #[] #[])
  rwa [World.size_alloc] at h
 rw [h1] at hF
 have HT1:=zx.mk wJ
 have HD1:=zx.mk hbad
 have HB1:=zx.mk hb0
 have HF:=zx.mk hF
 have HQ:=zx.mk hQ
 have HR:=zx.mk hR
 clear wJ hbad hb0 hF hQ hR hG hC hz hS hP
 go_enter Tryz.func13,Tryz.ntmps13
 go_wp2_with fail
 refine (HF.out _ HB1.out).mono ?_;rintro e w2 ⟨rfl,hb2⟩
 have HT2:=zx.mk (zW HT1.out hb2)
 have HD2:=zx.mk (zW HD1.out hb2)
 have HB2:=zx.mk (HB1.out.trans (hb2.mono HB1.out.size))
 clear hb2
 have a2:w2.cell? ⟨w.heap.size,0,none⟩ = some (.int .i64 f):=(zK HT2.out 0).trans rfl
 have b2:w2.cell? ⟨w.heap.size,1,none⟩ = some (.int .i64 s):=(zK HT2.out 1).trans rfl
 have c2:w2.cell? ⟨w.heap.size + 1,0,none⟩ = some (.func (.func 35) #[] #[]):=(zK HD2.out 0).trans rfl
 by_cases g5:2000 < chars.length
 ·have d5:decide ((2000:Int) < (chars.length:Int)) = true:=decide_eq_true (by omega)
  have d5':decide (2000 < chars.length) = true:=decide_eq_true g5
  clear h3
  go_wp2_with fail
  go_ret3
  exact ⟨rfl,HB2.out⟩
 have d5:decide ((2000:Int) < (chars.length:Int)) = false:=decide_eq_false (by omega)
 have g6:100 < pairs.length:=by omega
 have d6:decide ((100:Int) < (pairs.length:Int)) = true:=decide_eq_true (by omega)
 clear h3
 go_wp2_with fail
 go_ret3
 exact ⟨rfl,HB2.out⟩
set_option maxRecDepth 100000 in
set_option maxHeartbeats 8000000 in
theorem zxb (Af:Option Addr) (cf:Nat) (l:List yM) (f s:Int) (yV zu:Bool) (Ac:Option Addr) (cc:Nat) (chars:List ByteArray) (Ap:Option Addr) (cp:Nat) (pairs:List kZ) (w:World) (hG:GW w) (hC:Kd.C jh w Af l.length l) (hz:∀ x ∈ l,x.f3.length ≤ 1000000000 ∧ x.f4.length ≤ 1000000000 ∧ x.f5.length ≤ 1000000000) (hl:l.length ≤ 1000000000) (hS:Kd.C Kd.string w Ac chars.length chars) (hlc:chars.length ≤ 1000000000) (hP:Kd.C YZ w Ap pairs.length pairs) (hlp:pairs.length ≤ 1000000000) (h1:(l.any fun x=>!qK x) = false) (h2:jl l.length f s = false) (h3:chars.length ≤ 2000) (h3':pairs.length ≤ 100) (h4:chars.any wT = true) :
  Calls Tryz.prog 13 #[.slice Af l.length cf,.agg #[.int .i64 f,.int .i64 s,.bool yV,.bool zu],.slice Ac chars.length cc,.slice Ap pairs.length cp] w fun e w'=>e = .returned (.tuple #[.slice none 0 0,.slice none 0 0,.int .i64 1]) ∧ Below w.heap.size w w':=by
 have d1:decide (f < 0) = false:=by cases h:decide (f < 0) with | false=>rfl | true=>(unfold jl at h2;rw [h,Bool.true_or] at h2;cases h2)
 have d2:decide ((l.length:Int) ≤ f) = false:=by cases h:decide ((l.length:Int) ≤ f) with | false=>rfl | true=>(unfold jl at h2;rw [h,Bool.true_or,Bool.or_true] at h2;cases h2)
 have d3:decide (s < 1) = false:=by cases h:decide (s < 1) with | false=>rfl | true=>(unfold jl at h2;rw [h,Bool.true_or,Bool.or_true,Bool.or_true] at h2;cases h2)
 have d4:decide (1000 < s) = false:=by cases h:decide (1000 < s) with | false=>rfl | true=>(unfold jl at h2;rw [h,Bool.or_true,Bool.or_true,Bool.or_true] at h2;cases h2)
 have r1:=of_decide_eq_false d1
 have r2:=of_decide_eq_false d2
 have r3:=of_decide_eq_false d3
 have r4:=of_decide_eq_false d4
 clear h2
 have d5:decide ((2000:Int) < (chars.length:Int)) = false:=decide_eq_false (by omega)
 have d6:decide ((100:Int) < (pairs.length:Int)) = false:=decide_eq_false (by omega)
 have hF:=Kg Af cf l f s yV zu Ac cc chars Ap cp pairs w hG hC hz hl hS hlc hP hlp
 have hQ:=Kh Af cf l f s yV zu Ac cc chars Ap cp pairs w hG hC hz hl hS hlc hP hlp
 have hR:=Ki Af cf l f s yV zu Ac cc chars Ap cp pairs w hG hC hz hl hS hlc hP hlp (w.heap.size + 1)
 have hb0:Below w.heap.size w ((w.alloc (.cells #[.int .i64 f,.int .i64 s,.bool yV,.bool zu] 26)).alloc (.cells #[.func (.func 35) #[] #[]] 75)):=((Below.refl _ w).alloc (Nat.le_refl _) _).alloc (by simp) _
 have wJ:=yG (uN w (.cells #[.int .i64 f,.int .i64 s,.bool yV,.bool zu] 26)) (.cells #[.func (.func 35) #[] #[]] 75)
 have hbad:Boxed ((w.alloc (.cells #[.int .i64 f,.int .i64 s,.bool yV,.bool zu] 26)).alloc (.cells #[.func (.func 35) #[] #[]] 75)) (w.heap.size + 1) 75 (.func (.func 35) #[] #[]):=by
  have h:=Boxed.new (w.alloc (.cells #[.int .i64 f,.int .i64 s,.bool yV,.bool zu] 26)) 75 (.func (.func 35) #[] #[])
  rwa [World.size_alloc] at h
 rw [h1] at hF
 rw [h4] at hQ
 have HT1:=zx.mk wJ
 have HD1:=zx.mk hbad
 have HB1:=zx.mk hb0
 have HF:=zx.mk hF
 have HQ:=zx.mk hQ
 have HR:=zx.mk hR
 clear wJ hbad hb0 hF hQ hR hG hC hz hS hP
 go_enter Tryz.func13,Tryz.ntmps13
 go_wp2_with fail
 refine (HF.out _ HB1.out).mono ?_;rintro e w2 ⟨rfl,hb2⟩
 have HT2:=zx.mk (zW HT1.out hb2)
 have HD2:=zx.mk (zW HD1.out hb2)
 have HB2:=zx.mk (HB1.out.trans (hb2.mono HB1.out.size))
 clear hb2
 have a2:w2.cell? ⟨w.heap.size,0,none⟩ = some (.int .i64 f):=(zK HT2.out 0).trans rfl
 have b2:w2.cell? ⟨w.heap.size,1,none⟩ = some (.int .i64 s):=(zK HT2.out 1).trans rfl
 have c2:w2.cell? ⟨w.heap.size + 1,0,none⟩ = some (.func (.func 35) #[] #[]):=(zK HD2.out 0).trans rfl
 go_wp2_with fail
 refine (HQ.out _ HB2.out).mono ?_;rintro e w3 ⟨rfl,hb3⟩
 go_wp2_with fail
 go_ret3
 exact ⟨rfl,HB2.out.trans (hb3.mono HB2.out.size)⟩
set_option maxRecDepth 100000 in
set_option maxHeartbeats 8000000 in
theorem zxc (Af:Option Addr) (cf:Nat) (l:List yM) (f s:Int) (yV zu:Bool) (Ac:Option Addr) (cc:Nat) (chars:List ByteArray) (Ap:Option Addr) (cp:Nat) (pairs:List kZ) (w:World) (hG:GW w) (hC:Kd.C jh w Af l.length l) (hz:∀ x ∈ l,x.f3.length ≤ 1000000000 ∧ x.f4.length ≤ 1000000000 ∧ x.f5.length ≤ 1000000000) (hl:l.length ≤ 1000000000) (hS:Kd.C Kd.string w Ac chars.length chars) (hlc:chars.length ≤ 1000000000) (hP:Kd.C YZ w Ap pairs.length pairs) (hlp:pairs.length ≤ 1000000000) (h1:(l.any fun x=>!qK x) = false) (h2:jl l.length f s = false) (h3:chars.length ≤ 2000) (h3':pairs.length ≤ 100) (h4:chars.any wT = false) (h5:pairs.any QJ = true) :
  Calls Tryz.prog 13 #[.slice Af l.length cf,.agg #[.int .i64 f,.int .i64 s,.bool yV,.bool zu],.slice Ac chars.length cc,.slice Ap pairs.length cp] w fun e w'=>e = .returned (.tuple #[.slice none 0 0,.slice none 0 0,.int .i64 1]) ∧ Below w.heap.size w w':=by
 have d1:decide (f < 0) = false:=by cases h:decide (f < 0) with | false=>rfl | true=>(unfold jl at h2;rw [h,Bool.true_or] at h2;cases h2)
 have d2:decide ((l.length:Int) ≤ f) = false:=by cases h:decide ((l.length:Int) ≤ f) with | false=>rfl | true=>(unfold jl at h2;rw [h,Bool.true_or,Bool.or_true] at h2;cases h2)
 have d3:decide (s < 1) = false:=by cases h:decide (s < 1) with | false=>rfl | true=>(unfold jl at h2;rw [h,Bool.true_or,Bool.or_true,Bool.or_true] at h2;cases h2)
 have d4:decide (1000 < s) = false:=by cases h:decide (1000 < s) with | false=>rfl | true=>(unfold jl at h2;rw [h,Bool.or_true,Bool.or_true,Bool.or_true] at h2;cases h2)
 have r1:=of_decide_eq_false d1
 have r2:=of_decide_eq_false d2
 have r3:=of_decide_eq_false d3
 have r4:=of_decide_eq_false d4
 clear h2
 have d5:decide ((2000:Int) < (chars.length:Int)) = false:=decide_eq_false (by omega)
 have d6:decide ((100:Int) < (pairs.length:Int)) = false:=decide_eq_false (by omega)
 have hF:=Kg Af cf l f s yV zu Ac cc chars Ap cp pairs w hG hC hz hl hS hlc hP hlp
 have hQ:=Kh Af cf l f s yV zu Ac cc chars Ap cp pairs w hG hC hz hl hS hlc hP hlp
 have hR:=Ki Af cf l f s yV zu Ac cc chars Ap cp pairs w hG hC hz hl hS hlc hP hlp (w.heap.size + 1)
 have hb0:Below w.heap.size w ((w.alloc (.cells #[.int .i64 f,.int .i64 s,.bool yV,.bool zu] 26)).alloc (.cells #[.func (.func 35) #[] #[]] 75)):=((Below.refl _ w).alloc (Nat.le_refl _) _).alloc (by simp) _
 have wJ:=yG (uN w (.cells #[.int .i64 f,.int .i64 s,.bool yV,.bool zu] 26)) (.cells #[.func (.func 35) #[] #[]] 75)
 have hbad:Boxed ((w.alloc (.cells #[.int .i64 f,.int .i64 s,.bool yV,.bool zu] 26)).alloc (.cells #[.func (.func 35) #[] #[]] 75)) (w.heap.size + 1) 75 (.func (.func 35) #[] #[]):=by
  have h:=Boxed.new (w.alloc (.cells #[.int .i64 f,.int .i64 s,.bool yV,.bool zu] 26)) 75 (.func (.func 35) #[] #[])
  rwa [World.size_alloc] at h
 rw [h1] at hF
 rw [h4] at hQ
 rw [h5] at hR
 have HT1:=zx.mk wJ
 have HD1:=zx.mk hbad
 have HB1:=zx.mk hb0
 have HF:=zx.mk hF
 have HQ:=zx.mk hQ
 have HR:=zx.mk hR
 clear wJ hbad hb0 hF hQ hR hG hC hz hS hP
 go_enter Tryz.func13,Tryz.ntmps13
 go_wp2_with fail
 refine (HF.out _ HB1.out).mono ?_;rintro e w2 ⟨rfl,hb2⟩
 have HT2:=zx.mk (zW HT1.out hb2)
 have HD2:=zx.mk (zW HD1.out hb2)
 have HB2:=zx.mk (HB1.out.trans (hb2.mono HB1.out.size))
 clear hb2
 have a2:w2.cell? ⟨w.heap.size,0,none⟩ = some (.int .i64 f):=(zK HT2.out 0).trans rfl
 have b2:w2.cell? ⟨w.heap.size,1,none⟩ = some (.int .i64 s):=(zK HT2.out 1).trans rfl
 have c2:w2.cell? ⟨w.heap.size + 1,0,none⟩ = some (.func (.func 35) #[] #[]):=(zK HD2.out 0).trans rfl
 go_wp2_with fail
 refine (HQ.out _ HB2.out).mono ?_;rintro e w3 ⟨rfl,hb3⟩
 have HT3:=zx.mk (zW HT2.out hb3)
 have HD3:=zx.mk (zW HD2.out hb3)
 have HB3:=zx.mk (HB2.out.trans (hb3.mono HB2.out.size))
 clear hb3
 have a3:w3.cell? ⟨w.heap.size,0,none⟩ = some (.int .i64 f):=(zK HT3.out 0).trans rfl
 have b3:w3.cell? ⟨w.heap.size,1,none⟩ = some (.int .i64 s):=(zK HT3.out 1).trans rfl
 have c3:w3.cell? ⟨w.heap.size + 1,0,none⟩ = some (.func (.func 35) #[] #[]):=(zK HD3.out 0).trans rfl
 go_wp2_with fail
 refine (HR.out _ HB3.out c3).mono ?_;rintro e w4 ⟨rfl,hb4⟩
 go_wp2_with fail
 go_ret3
 exact ⟨rfl,HB3.out.trans (hb4.mono HB3.out.size)⟩
theorem QW (l:List yM) (f s:Int) (chars:List ByteArray) (pairs:List kZ):Ya l f s chars pairs = ((l.any fun x=>!qK x) || jl l.length f s || (decide (2000 < chars.length) || decide (100 < pairs.length)) || chars.any wT || pairs.any QJ):=by
 unfold Ya jl
 simp only [Bool.or_assoc]
set_option maxRecDepth 100000 in
set_option maxHeartbeats 8000000 in
theorem zxd (Af:Option Addr) (cf:Nat) (l:List yM) (f s:Int) (yV zu:Bool) (Ac:Option Addr) (cc:Nat) (chars:List ByteArray) (Ap:Option Addr) (cp:Nat) (pairs:List kZ) (w:World) (hG:GW w) (hC:Kd.C jh w Af l.length l) (hz:∀ x ∈ l,x.f3.length ≤ 1000000000 ∧ x.f4.length ≤ 1000000000 ∧ x.f5.length ≤ 1000000000) (hl:l.length ≤ 1000000000) (hS:Kd.C Kd.string w Ac chars.length chars) (hlc:chars.length ≤ 1000000000) (hP:Kd.C YZ w Ap pairs.length pairs) (hlp:pairs.length ≤ 1000000000) (h:Ya l f s chars pairs = true) :
  Calls Tryz.prog 13 #[.slice Af l.length cf,.agg #[.int .i64 f,.int .i64 s,.bool yV,.bool zu],.slice Ac chars.length cc,.slice Ap pairs.length cp] w fun e w'=>e = .returned (.tuple #[.slice none 0 0,.slice none 0 0,.int .i64 1]) ∧ Below w.heap.size w w':=by
 rw [QW] at h
 cases h1:l.any fun x=>!qK x with
 | true=>exact zxY Af cf l f s yV zu Ac cc chars Ap cp pairs w hG hC hz hl hS hlc hP hlp h1
 | false =>
 cases h2:jl l.length f s with
 | true=>exact zxW Af cf l f s yV zu Ac cc chars Ap cp pairs w hG hC hz hl hS hlc hP hlp h1 h2
 | false =>
 by_cases h3:2000 < chars.length ∨ 100 < pairs.length
 ·exact zxa Af cf l f s yV zu Ac cc chars Ap cp pairs w hG hC hz hl hS hlc hP hlp h1 h2 h3
 cases h4:chars.any wT with
 | true=>exact zxb Af cf l f s yV zu Ac cc chars Ap cp pairs w hG hC hz hl hS hlc hP hlp h1 h2 (by omega) (by omega) h4
 | false =>
 rw [h1,h2,h4,decide_eq_false (by omega:¬ 2000 < chars.length),decide_eq_false (by omega:¬ 100 < pairs.length)] at h
 exact zxc Af cf l f s yV zu Ac cc chars Ap cp pairs w hG hC hz hl hS hlc hP hlp h1 h2 (by omega) (by omega) h4 (by simpa using h)
end Go.Proofs.YtggifbbiiickmaaGreatDoor
