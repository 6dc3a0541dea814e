/-
  Texts that lean on one another, laid in one file. No condition.
-/
import Derived.Test.YtggifbbiiickmaaGreatDoorGTX1
import Derived.StillTailTactics
import Derived.StillTactics
import Derived.Deep.RegionHeld3
import Derived.Shelf.SlicesQ.IndexFunc
import Derived.Deep.QuietTactic
import Derived.BigQuiet
import Derived.RangeFuncRecord
import Derived.Laws.EntriesVeiled
import Derived.Sort.Walk0
namespace Go.Proofs.YtggifbbiiickmaaGreatDoor
open Go.RowKit Go.Shelf Go.Proofs.zk.zA Go.Proofs.zk.yA Go.Proofs.YtggifbbiiickmaaGreatDoor.PX
def ZL (c:Nat → Nat → Int) (n:Nat):Bool:=(List.range (n - 1)).all fun i=>decide (c i (i + 1) < 0)
theorem oD {c:Nat → Nat → Int} {n:Nat} (h:∀ i,i + 1 < n → c i (i + 1) < 0):ZL c n = true:=by
 unfold ZL
 rw [List.all_eq_true]
 intro i hi
 have:=List.mem_range.1 hi
 simpa using h i (by omega)
theorem iR {c:Nat → Nat → Int} {n i:Nat} (hi:i + 1 < n) (h:¬ c i (i + 1) < 0):ZL c n = false:=by
 unfold ZL
 rw [List.all_eq_false]
 exact ⟨i,List.mem_range.2 (by omega),by simpa using h⟩
def Vg (x y:qo):Int:=uE x.f0 y.f0
def orV (a b:Int):Int:=if a = 0 then b else a
def cmpL (x y:xY):Int:=orV (uE x.f0 y.f0) (uE x.f1 y.f1)
def PL (x y:vk):Int:=orV (uE x.f0 y.f0) (uE x.f1 y.f1)
set_option maxRecDepth 100000 in
theorem zW9 (x y:qo) (w:World) :
  Calls Tryz.prog 90 #[.agg #[.string x.f0,.int .i64 x.f1],.agg #[.string y.f0,.int .i64 y.f1]] w fun e w'=>e = .returned (.int .i64 (Vg x y)) ∧ Below w.heap.size w w':=by
 unfold Vg
 have hb0:Below w.heap.size w ((w.alloc (.cells #[.string x.f0,.int .i64 x.f1] 105)).alloc (.cells #[.string y.f0,.int .i64 y.f1] 105)):=((Below.refl _ w).alloc (Nat.le_refl _) _).alloc (by simp) _
 have hc:=zqa x.f0 y.f0 ((w.alloc (.cells #[.string x.f0,.int .i64 x.f1] 105)).alloc (.cells #[.string y.f0,.int .i64 y.f1] 105))
 generalize uE x.f0 y.f0 = r at hc ⊢
 go_enter Tryz.func90,Tryz.ntmps90
 go_wp2_with (go_at_call 91;refine hc.mono ?_;rintro e w2 ⟨rfl,hb2⟩)
 go_ret
 exact ⟨rfl,hb0.trans (hb2.mono (by simp;omega))⟩
def zil (l:List qo) (w:World) (x:Value) (wr:World):Prop :=
 ∃ k:Nat,x = .int .i64 k ∧ 1 ≤ k ∧ k ≤ l.length + 1 ∧ (∀ i,i + 1 < k → i + 1 < l.length → Vg (qF l (i:Int)) (qF l ((i + 1:Nat):Int)) < 0) ∧ Below w.heap.size w wr
set_option maxRecDepth 100000 in
set_option maxHeartbeats 1000000 in
theorem zaz (A0:Option Addr) (c0:Nat) (l:List qo) (w:World) (hr:Kd.C jh w A0 l.length l) (hl:l.length ≤ 1000000000) :
  Calls Tryz.prog 89 #[.slice A0 l.length c0,.func (.func 90) #[] #[]] w fun e w'=>e = .returned (.bool (ZL (fun i j=>Vg (qF l (i:Int)) (qF l (j:Int))) l.length)) ∧ Below w.heap.size w w':=by
 generalize hV:ZL (fun i j=>Vg (qF l (i:Int)) (qF l (j:Int))) l.length = V
 have HV:=Lib.hid hV
 clear hV
 go_enter Tryz.func89,Tryz.ntmps89
 go_wp2
 go_loopw [5] (fun x wr=>zil l w x wr) (fun x _=>l.length + 1 - (intOf x).toNat)
 case atStart=>exact ⟨1,rfl,by omega,by omega,(fun i h=>by omega),Below.refl _ _⟩
 case round =>
  obtain ⟨k,rfl,hk1,hk,hA,hb⟩:=hrel
  have HA:=Lib.hid hA
  clear hA
  by_cases hlt:k < l.length
  ·obtain ⟨m,rfl⟩:∃ m,k = m + 1:=⟨k - 1,by omega⟩
   have hC:=Kd.zu hr hb
   obtain ⟨ad,e,HH0⟩:=Ko hC (m:Int) (by omega) (by omega)
   obtain ⟨ad2,e2,HH1⟩:=Ko hC ((m + 1:Nat):Int) (by omega) (by omega)
   cases e
   cases e2
   obtain ⟨h0,h1⟩:=HH0
   obtain ⟨h2,h3⟩:=HH1
   rw [Int.toNat_natCast] at h0 h1 h2 h3
   have hstep:∀ i,i + 1 = m + 1 → Vg (qF l (i:Int)) (qF l ((i + 1:Nat):Int)) = Vg (qF l (m:Int)) (qF l ((m + 1:Nat):Int)):=fun i hi=>by obtain rfl:i = m:=(by omega);rfl
   have hbad:¬ Vg (qF l (m:Int)) (qF l ((m + 1:Nat):Int)) < 0 → V = false:=fun h=>by rw [← HV.out];exact iR (i:=m) (by omega) h
   have hcm:=fun W=>zW9 (qF l (m:Int)) (qF l ((m + 1:Nat):Int)) W
   generalize qF l (m:Int) = x at h0 h1 hstep hcm hbad
   generalize qF l ((m + 1:Nat):Int) = y at h2 h3 hstep hcm hbad
   generalize Vg x y = r at hcm hstep hbad
   have HS:=Lib.hid hstep
   have HB:=Lib.hid hbad
   have e1:IntKind.i64.wrap (((m:Int) + 1) - 1) = (m:Int):=by rw [Int.add_sub_cancel];exact IntWalk.i64_in _ (by omega)
   have q1:(m:Int) < (l.length:Int):=by omega
   have q2:(m:Int) + 1 < (l.length:Int):=by omega
   have q3:((m:Int) + 1).toNat = m + 1:=by omega
   have q4:(0:Int) ≤ (m:Int) + 1:=by omega
   clear hC hr hstep hbad
   have e0:IntKind.i64.wrap (m:Int) = (m:Int):=IntWalk.i64_in _ (by omega)
   have q5:(0:Int) ≤ (m:Int):=by omega
   by_cases hr0:r < 0
   ·have d1:decide (0 ≤ r) = false:=by simp;omega
    have HR:=Lib.hid hr0
    clear hr0
    go_wp2_with fail
    go_region_held3 (fun W=>W.cell? (ad.add (m * 2)) = some (.string x.f0) ∧ W.cell? ⟨(ad.add (m * 2)).block,(ad.add (m * 2)).off + 1,none⟩ = some (.int .i64 x.f1) ∧ W.cell? (ad.add ((m + 1) * 2)) = some (.string y.f0) ∧ W.cell? ⟨(ad.add ((m + 1) * 2)).block,(ad.add ((m + 1) * 2)).off + 1,none⟩ = some (.int .i64 y.f1)) (first | go_keep | exact ⟨(hb2.cell (World.block_lt_of_cell? wr _ h0)).trans h0,(hb2.cell (World.block_lt_of_cell? wr _ h1)).trans h1,(hb2.cell (World.block_lt_of_cell? wr _ h2)).trans h2,(hb2.cell (World.block_lt_of_cell? wr _ h3)).trans h3⟩) ((go_at_call 90;refine (hcm _).mono ?_;rintro e w2 ⟨rfl,hb2⟩))
    clear e0 e1
    have hb3:Below w.heap.size w w2:=(hb.drew).trans (hb2.mono hb.size)
    clear hb2
    go_wp2
    refine ⟨⟨m + 1 + 1,by go_num,by omega,by omega,(fun i h1 h2=>?_),hb3⟩,by simp [intOf];omega⟩
    by_cases e:i + 1 = m + 1
    ·rw [HS.out i e];exact HR.out
    ·exact HA.out i (by omega) h2
   ·have d1:decide (0 ≤ r) = true:=by simp;omega
    have hv:V = false:=HB.out hr0
    have jO:=Lib.hid hv
    clear hr0 hv
    go_wp2_with fail
    go_region_held3 (fun W=>W.cell? (ad.add (m * 2)) = some (.string x.f0) ∧ W.cell? ⟨(ad.add (m * 2)).block,(ad.add (m * 2)).off + 1,none⟩ = some (.int .i64 x.f1) ∧ W.cell? (ad.add ((m + 1) * 2)) = some (.string y.f0) ∧ W.cell? ⟨(ad.add ((m + 1) * 2)).block,(ad.add ((m + 1) * 2)).off + 1,none⟩ = some (.int .i64 y.f1)) (first | go_keep | exact ⟨(hb2.cell (World.block_lt_of_cell? wr _ h0)).trans h0,(hb2.cell (World.block_lt_of_cell? wr _ h1)).trans h1,(hb2.cell (World.block_lt_of_cell? wr _ h2)).trans h2,(hb2.cell (World.block_lt_of_cell? wr _ h3)).trans h3⟩) ((go_at_call 90;refine (hcm _).mono ?_;rintro e w2 ⟨rfl,hb2⟩))
    clear e0 e1
    have hb3:Below w.heap.size w w2:=(hb.drew).trans (hb2.mono hb.size)
    clear hb2
    go_wp2
    go_ret
    exact ⟨by rw [jO.out];rfl,hb3⟩
  ·have hv:V = true:=by rw [← HV.out];exact oD (fun i hi=>HA.out i (by omega) hi)
   have jO:=Lib.hid hv
   have q1:decide ((k:Int) < (l.length:Int)) = false:=decide_eq_false (by omega)
   clear hv hr
   go_wp2
   go_ret
   exact ⟨by rw [jO.out];rfl,hb⟩
theorem zVl {w w':World} (h:yg w w'):Below w.heap.size w w':=by
 obtain ⟨n,rfl⟩:=h
 exact ⟨rfl,rfl,rfl,Nat.le_refl _,fun _ _=>rfl⟩
theorem zgY (a b:Int):Ev (fun k=>kg.f k [a,b]) (orV a b):=by
 unfold kg.f orV
 have e1:wrap64 (0 + 1) = 1:=by rw [kQ (by omega) (by omega)];rfl
 have e2:wrap64 (1 + 1) = 2:=by rw [kQ (by omega) (by omega)];rfl
 have hl:(([a,b]:List Int).length:Int) = 2:=rfl
 refine Ev.step (fun k=>by rw [kg.l0]) ?_
 rw [hl]
 refine yJ (by omega) (yJ (by omega) (yJ (by omega) ?_))
 rw [show rd [a,b] 0 = a from rfl,e1]
 by_cases h1:a = 0
 ·refine yJ h1 ?_
  rw [if_pos h1]
  refine Ev.step (fun k=>by rw [kg.l0]) ?_
  rw [hl]
  refine yJ (by omega) (yJ (by omega) (yJ (by omega) ?_))
  rw [show rd [a,b] 1 = b from rfl,e2]
  by_cases h2:b = 0
  ·refine yJ h2 ?_
   rw [h2]
   refine Ev.step (fun k=>by rw [kg.l0]) ?_
   exact xW (by omega) (Ev.now _)
  ·exact xW h2 (Ev.now _)
 ·refine xW h1 ?_
  rw [if_neg h1];exact Ev.now _
theorem zaq (B:Nat) (a b:Int) (w:World) (h0:w.cell? ⟨B,0,none⟩ = some (.int .i64 a)) (h1:w.cell? ⟨B,1,none⟩ = some (.int .i64 b)):Kd.C (Kd.int .i64) w (some ⟨B,0,none⟩) 2 [a,b]:=by
 have hs:(Kd.int .i64).sz = 1:=rfl
 refine ⟨rfl,by decide,fun _=>⟨_,rfl,fun j p hj=>?_⟩⟩
 rcases j with _ | _ | j
 ·cases hj
  exact ⟨[.int .i64 a],rfl,rfl,fun i u hi=>by rcases i with _ | i;cases hi;simpa [Addr.add_lit] using h0;simp at hi⟩
 ·cases hj
  exact ⟨[.int .i64 b],rfl,rfl,fun i u hi=>by rcases i with _ | i;cases hi;simpa [Addr.add_lit,hs] using h1;simp at hi⟩
 ·simp at hj
theorem zYp (a b:Int) (B:Nat) (w:World) (h0:w.cell? ⟨B,0,none⟩ = some (.int .i64 a)) (h1:w.cell? ⟨B,1,none⟩ = some (.int .i64 b)) :
  Calls Tryz.prog 97 #[.slice (some ⟨B,0,none⟩) 2 2] w fun e w'=>e = .returned (.int .i64 (orV a b)) ∧ Below w.heap.size w w':=by
 obtain ⟨k,hk⟩:=(zgY a b).rounds
 exact (kg.calls k (some ⟨B,0,none⟩) 2 [a,b] _ w (zaq B a b w h0 h1) (Nat.le_refl _) hk).mono fun e w' h=>⟨h.1,zVl h.2⟩
theorem znb (W:World) (a b:Value) (t:TypeId):(W.alloc (.cells #[a,b] t)).cell? ⟨W.heap.size,0,none⟩ = some a:=by simp
theorem zgW (W:World) (a b:Value) (t:TypeId):(W.alloc (.cells #[a,b] t)).cell? ⟨W.heap.size,1,none⟩ = some b:=by simp
theorem zga (W:World) (n:Nat) (a b:Value) (t:TypeId):((W.drewN n).alloc (.cells #[a,b] t)).cell? ⟨W.heap.size,0,none⟩ = some a:=znb (W.drewN n) a b t
theorem zgb (W:World) (n:Nat) (a b:Value) (t:TypeId):((W.drewN n).alloc (.cells #[a,b] t)).cell? ⟨W.heap.size,1,none⟩ = some b:=zgW (W.drewN n) a b t
theorem VA {W w2:World} {n:Nat} {o:Obj} {B i:Nat} {v:Value} (h:Below ((W.drewN n).alloc o).heap.size ((W.drewN n).alloc o) w2) (hc:W.cell? ⟨B,i,none⟩ = some v):w2.cell? ⟨B,i,none⟩ = some v:=by
 have hb:Below W.heap.size W ((W.drewN n).alloc o):=Below.trans (⟨rfl,rfl,rfl,Nat.le_refl _,fun _ _=>rfl⟩:Below W.heap.size W (W.drewN n)) ((Below.refl _ (W.drewN n)).alloc (Nat.le_refl _) o)
 have hl:=World.block_lt_of_cell? W _ hc
 exact (h.cell (p:=⟨B,i,none⟩) (Nat.lt_of_lt_of_le hl hb.size)).trans ((hb.cell (p:=⟨B,i,none⟩) hl).trans hc)
theorem zka {W w2:World} {n:Nat} {o:Obj} (h:Below ((W.drewN n).alloc o).heap.size ((W.drewN n).alloc o) w2):Below W.heap.size W w2:=by
 have hb:Below W.heap.size W ((W.drewN n).alloc o):=Below.trans (⟨rfl,rfl,rfl,Nat.le_refl _,fun _ _=>rfl⟩:Below W.heap.size W (W.drewN n)) ((Below.refl _ (W.drewN n)).alloc (Nat.le_refl _) o)
 exact hb.trans (h.mono hb.size)
set_option maxRecDepth 100000 in
set_option maxHeartbeats 1000000 in
theorem zax (x y:xY) (w:World) :
  Calls Tryz.prog 96 #[.agg #[.string x.f0,.string x.f1,.string x.f2],.agg #[.string y.f0,.string y.f1,.string y.f2]] w fun e w'=>e = .returned (.int .i64 (cmpL x y)) ∧ Below w.heap.size w w':=by
 unfold cmpL
 have hb0:Below w.heap.size w ((w.alloc (.cells #[.string x.f0,.string x.f1,.string x.f2] 108)).alloc (.cells #[.string y.f0,.string y.f1,.string y.f2] 108)):=((Below.refl _ w).alloc (Nat.le_refl _) _).alloc (by simp) _
 have hz:((w.alloc (.cells #[.string x.f0,.string x.f1,.string x.f2] 108)).alloc (.cells #[.string y.f0,.string y.f1,.string y.f2] 108)).heap.size = w.heap.size + 2:=by simp
 have c0:((w.alloc (.cells #[.string x.f0,.string x.f1,.string x.f2] 108)).alloc (.cells #[.string y.f0,.string y.f1,.string y.f2] 108)).cell? ⟨w.heap.size,0,none⟩ = some (.string x.f0):=by simp
 have c1:((w.alloc (.cells #[.string x.f0,.string x.f1,.string x.f2] 108)).alloc (.cells #[.string y.f0,.string y.f1,.string y.f2] 108)).cell? ⟨w.heap.size,1,none⟩ = some (.string x.f1):=by simp
 have c2:((w.alloc (.cells #[.string x.f0,.string x.f1,.string x.f2] 108)).alloc (.cells #[.string y.f0,.string y.f1,.string y.f2] 108)).cell? ⟨w.heap.size + 1,0,none⟩ = some (.string y.f0):=by simp
 have c3:((w.alloc (.cells #[.string x.f0,.string x.f1,.string x.f2] 108)).alloc (.cells #[.string y.f0,.string y.f1,.string y.f2] 108)).cell? ⟨w.heap.size + 1,1,none⟩ = some (.string y.f1):=by simp
 have hc1:=fun W=>jK.calls x.f0 y.f0 _ W (Vu x.f0 y.f0)
 have hc2:=fun W=>jK.calls x.f1 y.f1 _ W (Vu x.f1 y.f1)
 generalize uE x.f0 y.f0 = r1 at hc1 ⊢
 generalize uE x.f1 y.f1 = r2 at hc2 ⊢
 have hor:=fun B W h0 h1=>zYp r1 r2 B W h0 h1
 generalize orV r1 r2 = R at hor ⊢
 go_enter Tryz.func96,Tryz.ntmps96
 go_wp2_with fail
 generalize ((w.alloc (.cells #[.string x.f0,.string x.f1,.string x.f2] 108)).alloc (.cells #[.string y.f0,.string y.f1,.string y.f2] 108)) = W0 at hb0 hz c0 c1 c2 c3 ⊢
 have hz1:=Nat.le_of_eq hz
 have hz2:=Nat.le_of_eq hz.symm
 clear hz
 go_region_held3 (fun W=>W.cell? ⟨w.heap.size,0,none⟩ = some (.string x.f0) ∧ W.cell? ⟨w.heap.size,1,none⟩ = some (.string x.f1) ∧ W.cell? ⟨w.heap.size + 1,0,none⟩ = some (.string y.f0) ∧ W.cell? ⟨w.heap.size + 1,1,none⟩ = some (.string y.f1))
  (first | go_keep | exact ⟨VA hb2 c0,VA hb2 c1,VA hb2 c2,VA hb2 c3⟩)
  (first | (go_at_call 91;((with_reducible refine (hc1 _).mono ?_);rintro e w2 ⟨rfl,nd,rfl⟩)) | (go_at_call 91;((with_reducible refine (hc2 _).mono ?_);rintro e w2 ⟨rfl,nd,rfl⟩)) | (go_at_call 97;((refine (hor _ _ (zga _ _ _ _ _) (zgb _ _ _ _ _)).mono ?_);rintro e w2 ⟨rfl,hb2⟩)))
 all_goals
  have hb3:=hb0.trans ((zka hb2).mono hb0.size)
  clear hb2 c0 c1 c2 c3
  go_wp2
  go_ret
  exact ⟨rfl,hb3⟩
set_option maxRecDepth 100000 in
set_option maxHeartbeats 1000000 in
theorem zaj (x y:vk) (w:World) :
  Calls Tryz.prog 101 #[.agg #[.string x.f0,.string x.f1,.int .i64 x.f2],.agg #[.string y.f0,.string y.f1,.int .i64 y.f2]] w fun e w'=>e = .returned (.int .i64 (PL x y)) ∧ Below w.heap.size w w':=by
 unfold PL
 have hb0:Below w.heap.size w ((w.alloc (.cells #[.string x.f0,.string x.f1,.int .i64 x.f2] 111)).alloc (.cells #[.string y.f0,.string y.f1,.int .i64 y.f2] 111)):=((Below.refl _ w).alloc (Nat.le_refl _) _).alloc (by simp) _
 have hz:((w.alloc (.cells #[.string x.f0,.string x.f1,.int .i64 x.f2] 111)).alloc (.cells #[.string y.f0,.string y.f1,.int .i64 y.f2] 111)).heap.size = w.heap.size + 2:=by simp
 have c0:((w.alloc (.cells #[.string x.f0,.string x.f1,.int .i64 x.f2] 111)).alloc (.cells #[.string y.f0,.string y.f1,.int .i64 y.f2] 111)).cell? ⟨w.heap.size,0,none⟩ = some (.string x.f0):=by simp
 have c1:((w.alloc (.cells #[.string x.f0,.string x.f1,.int .i64 x.f2] 111)).alloc (.cells #[.string y.f0,.string y.f1,.int .i64 y.f2] 111)).cell? ⟨w.heap.size,1,none⟩ = some (.string x.f1):=by simp
 have c2:((w.alloc (.cells #[.string x.f0,.string x.f1,.int .i64 x.f2] 111)).alloc (.cells #[.string y.f0,.string y.f1,.int .i64 y.f2] 111)).cell? ⟨w.heap.size + 1,0,none⟩ = some (.string y.f0):=by simp
 have c3:((w.alloc (.cells #[.string x.f0,.string x.f1,.int .i64 x.f2] 111)).alloc (.cells #[.string y.f0,.string y.f1,.int .i64 y.f2] 111)).cell? ⟨w.heap.size + 1,1,none⟩ = some (.string y.f1):=by simp
 have hc1:=fun W=>jK.calls x.f0 y.f0 _ W (Vu x.f0 y.f0)
 have hc2:=fun W=>jK.calls x.f1 y.f1 _ W (Vu x.f1 y.f1)
 generalize uE x.f0 y.f0 = r1 at hc1 ⊢
 generalize uE x.f1 y.f1 = r2 at hc2 ⊢
 have hor:=fun B W h0 h1=>zYp r1 r2 B W h0 h1
 generalize orV r1 r2 = R at hor ⊢
 go_enter Tryz.func101,Tryz.ntmps101
 go_wp2_with fail
 generalize ((w.alloc (.cells #[.string x.f0,.string x.f1,.int .i64 x.f2] 111)).alloc (.cells #[.string y.f0,.string y.f1,.int .i64 y.f2] 111)) = W0 at hb0 hz c0 c1 c2 c3 ⊢
 have hz1:=Nat.le_of_eq hz
 have hz2:=Nat.le_of_eq hz.symm
 clear hz
 go_region_held3 (fun W=>W.cell? ⟨w.heap.size,0,none⟩ = some (.string x.f0) ∧ W.cell? ⟨w.heap.size,1,none⟩ = some (.string x.f1) ∧ W.cell? ⟨w.heap.size + 1,0,none⟩ = some (.string y.f0) ∧ W.cell? ⟨w.heap.size + 1,1,none⟩ = some (.string y.f1))
  (first | go_keep | exact ⟨VA hb2 c0,VA hb2 c1,VA hb2 c2,VA hb2 c3⟩)
  (first | (go_at_call 91;((with_reducible refine (hc1 _).mono ?_);rintro e w2 ⟨rfl,nd,rfl⟩)) | (go_at_call 91;((with_reducible refine (hc2 _).mono ?_);rintro e w2 ⟨rfl,nd,rfl⟩)) | (go_at_call 97;((refine (hor _ _ (zga _ _ _ _ _) (zgb _ _ _ _ _)).mono ?_);rintro e w2 ⟨rfl,hb2⟩)))
 all_goals
  have hb3:=hb0.trans ((zka hb2).mono hb0.size)
  clear hb2 c0 c1 c2 c3
  go_wp2
  go_ret
  exact ⟨rfl,hb3⟩
def zim (l:List xY) (w:World) (x:Value) (wr:World):Prop :=
 ∃ k:Nat,x = .int .i64 k ∧ 1 ≤ k ∧ k ≤ l.length + 1 ∧ (∀ i,i + 1 < k → i + 1 < l.length → cmpL (q9 l (i:Int)) (q9 l ((i + 1:Nat):Int)) < 0) ∧ Below w.heap.size w wr
set_option maxRecDepth 100000 in
set_option maxHeartbeats 1000000 in
theorem zav (A0:Option Addr) (c0:Nat) (l:List xY) (w:World) (hr:Kd.C wO w A0 l.length l) (hl:l.length ≤ 1000000000) :
  Calls Tryz.prog 95 #[.slice A0 l.length c0,.func (.func 96) #[] #[]] w fun e w'=>e = .returned (.bool (ZL (fun i j=>cmpL (q9 l (i:Int)) (q9 l (j:Int))) l.length)) ∧ Below w.heap.size w w':=by
 generalize hV:ZL (fun i j=>cmpL (q9 l (i:Int)) (q9 l (j:Int))) l.length = V
 have HV:=Lib.hid hV
 clear hV
 go_enter Tryz.func95,Tryz.ntmps95
 go_wp2
 go_loopw [5] (fun x wr=>zim l w x wr) (fun x _=>l.length + 1 - (intOf x).toNat)
 case atStart=>exact ⟨1,rfl,by omega,by omega,(fun i h=>by omega),Below.refl _ _⟩
 case round =>
  obtain ⟨k,rfl,hk1,hk,hA,hb⟩:=hrel
  have HA:=Lib.hid hA
  clear hA
  by_cases hlt:k < l.length
  ·obtain ⟨m,rfl⟩:∃ m,k = m + 1:=⟨k - 1,by omega⟩
   have hC:=Kd.zu hr hb
   obtain ⟨ad,e,HH0⟩:=bK hC (m:Int) (by omega) (by omega)
   obtain ⟨ad2,e2,HH1⟩:=bK hC ((m + 1:Nat):Int) (by omega) (by omega)
   cases e
   cases e2
   obtain ⟨h0,h1,h2⟩:=HH0
   obtain ⟨h3,h4,h5⟩:=HH1
   rw [Int.toNat_natCast] at h0 h1 h2 h3 h4 h5
   have hstep:∀ i,i + 1 = m + 1 → cmpL (q9 l (i:Int)) (q9 l ((i + 1:Nat):Int)) = cmpL (q9 l (m:Int)) (q9 l ((m + 1:Nat):Int)):=fun i hi=>by obtain rfl:i = m:=(by omega);rfl
   have hbad:¬ cmpL (q9 l (m:Int)) (q9 l ((m + 1:Nat):Int)) < 0 → V = false:=fun h=>by rw [← HV.out];exact iR (i:=m) (by omega) h
   have hcm:=fun W=>zax (q9 l (m:Int)) (q9 l ((m + 1:Nat):Int)) W
   generalize q9 l (m:Int) = x at h0 h1 h2 hstep hcm hbad
   generalize q9 l ((m + 1:Nat):Int) = y at h3 h4 h5 hstep hcm hbad
   generalize cmpL x y = r at hcm hstep hbad
   have HS:=Lib.hid hstep
   have HB:=Lib.hid hbad
   have e1:IntKind.i64.wrap (((m:Int) + 1) - 1) = (m:Int):=by rw [Int.add_sub_cancel];exact IntWalk.i64_in _ (by omega)
   have q1:(m:Int) < (l.length:Int):=by omega
   have q2:(m:Int) + 1 < (l.length:Int):=by omega
   have q3:((m:Int) + 1).toNat = m + 1:=by omega
   have q4:(0:Int) ≤ (m:Int) + 1:=by omega
   clear hC hr hstep hbad
   have e0:IntKind.i64.wrap (m:Int) = (m:Int):=IntWalk.i64_in _ (by omega)
   have q5:(0:Int) ≤ (m:Int):=by omega
   by_cases hr0:r < 0
   ·have d1:decide (0 ≤ r) = false:=by simp;omega
    have HR:=Lib.hid hr0
    clear hr0
    go_wp2_with fail
    go_region_held3 (fun W=>W.cell? (ad.add (m * 3)) = some (.string x.f0) ∧ W.cell? ⟨(ad.add (m * 3)).block,(ad.add (m * 3)).off + 1,none⟩ = some (.string x.f1) ∧ W.cell? ⟨(ad.add (m * 3)).block,(ad.add (m * 3)).off + 2,none⟩ = some (.string x.f2) ∧ W.cell? (ad.add ((m + 1) * 3)) = some (.string y.f0) ∧ W.cell? ⟨(ad.add ((m + 1) * 3)).block,(ad.add ((m + 1) * 3)).off + 1,none⟩ = some (.string y.f1) ∧ W.cell? ⟨(ad.add ((m + 1) * 3)).block,(ad.add ((m + 1) * 3)).off + 2,none⟩ = some (.string y.f2)) (first | go_keep | exact ⟨(hb2.cell (World.block_lt_of_cell? wr _ h0)).trans h0,(hb2.cell (World.block_lt_of_cell? wr _ h1)).trans h1,(hb2.cell (World.block_lt_of_cell? wr _ h2)).trans h2,(hb2.cell (World.block_lt_of_cell? wr _ h3)).trans h3,(hb2.cell (World.block_lt_of_cell? wr _ h4)).trans h4,(hb2.cell (World.block_lt_of_cell? wr _ h5)).trans h5⟩) ((go_at_call 96;refine (hcm _).mono ?_;rintro e w2 ⟨rfl,hb2⟩))
    clear e0 e1
    have hb3:Below w.heap.size w w2:=(hb.drew).trans (hb2.mono hb.size)
    clear hb2
    go_wp2
    refine ⟨⟨m + 1 + 1,by go_num,by omega,by omega,(fun i h1 h2=>?_),hb3⟩,by simp [intOf];omega⟩
    by_cases e:i + 1 = m + 1
    ·rw [HS.out i e];exact HR.out
    ·exact HA.out i (by omega) h2
   ·have d1:decide (0 ≤ r) = true:=by simp;omega
    have hv:V = false:=HB.out hr0
    have jO:=Lib.hid hv
    clear hr0 hv
    go_wp2_with fail
    go_region_held3 (fun W=>W.cell? (ad.add (m * 3)) = some (.string x.f0) ∧ W.cell? ⟨(ad.add (m * 3)).block,(ad.add (m * 3)).off + 1,none⟩ = some (.string x.f1) ∧ W.cell? ⟨(ad.add (m * 3)).block,(ad.add (m * 3)).off + 2,none⟩ = some (.string x.f2) ∧ W.cell? (ad.add ((m + 1) * 3)) = some (.string y.f0) ∧ W.cell? ⟨(ad.add ((m + 1) * 3)).block,(ad.add ((m + 1) * 3)).off + 1,none⟩ = some (.string y.f1) ∧ W.cell? ⟨(ad.add ((m + 1) * 3)).block,(ad.add ((m + 1) * 3)).off + 2,none⟩ = some (.string y.f2)) (first | go_keep | exact ⟨(hb2.cell (World.block_lt_of_cell? wr _ h0)).trans h0,(hb2.cell (World.block_lt_of_cell? wr _ h1)).trans h1,(hb2.cell (World.block_lt_of_cell? wr _ h2)).trans h2,(hb2.cell (World.block_lt_of_cell? wr _ h3)).trans h3,(hb2.cell (World.block_lt_of_cell? wr _ h4)).trans h4,(hb2.cell (World.block_lt_of_cell? wr _ h5)).trans h5⟩) ((go_at_call 96;refine (hcm _).mono ?_;rintro e w2 ⟨rfl,hb2⟩))
    clear e0 e1
    have hb3:Below w.heap.size w w2:=(hb.drew).trans (hb2.mono hb.size)
    clear hb2
    go_wp2
    go_ret
    exact ⟨by rw [jO.out];rfl,hb3⟩
  ·have hv:V = true:=by rw [← HV.out];exact oD (fun i hi=>HA.out i (by omega) hi)
   have jO:=Lib.hid hv
   have q1:decide ((k:Int) < (l.length:Int)) = false:=decide_eq_false (by omega)
   clear hv hr
   go_wp2
   go_ret
   exact ⟨by rw [jO.out];rfl,hb⟩
def zin (l:List vk) (w:World) (x:Value) (wr:World):Prop :=
 ∃ k:Nat,x = .int .i64 k ∧ 1 ≤ k ∧ k ≤ l.length + 1 ∧ (∀ i,i + 1 < k → i + 1 < l.length → PL (xk l (i:Int)) (xk l ((i + 1:Nat):Int)) < 0) ∧ Below w.heap.size w wr
set_option maxRecDepth 100000 in
set_option maxHeartbeats 1000000 in
theorem zak (A0:Option Addr) (c0:Nat) (l:List vk) (w:World) (hr:Kd.C pz w A0 l.length l) (hl:l.length ≤ 1000000000) :
  Calls Tryz.prog 100 #[.slice A0 l.length c0,.func (.func 101) #[] #[]] w fun e w'=>e = .returned (.bool (ZL (fun i j=>PL (xk l (i:Int)) (xk l (j:Int))) l.length)) ∧ Below w.heap.size w w':=by
 generalize hV:ZL (fun i j=>PL (xk l (i:Int)) (xk l (j:Int))) l.length = V
 have HV:=Lib.hid hV
 clear hV
 go_enter Tryz.func100,Tryz.ntmps100
 go_wp2
 go_loopw [5] (fun x wr=>zin l w x wr) (fun x _=>l.length + 1 - (intOf x).toNat)
 case atStart=>exact ⟨1,rfl,by omega,by omega,(fun i h=>by omega),Below.refl _ _⟩
 case round =>
  obtain ⟨k,rfl,hk1,hk,hA,hb⟩:=hrel
  have HA:=Lib.hid hA
  clear hA
  by_cases hlt:k < l.length
  ·obtain ⟨m,rfl⟩:∃ m,k = m + 1:=⟨k - 1,by omega⟩
   have hC:=Kd.zu hr hb
   obtain ⟨ad,e,HH0⟩:=bY hC (m:Int) (by omega) (by omega)
   obtain ⟨ad2,e2,HH1⟩:=bY hC ((m + 1:Nat):Int) (by omega) (by omega)
   cases e
   cases e2
   obtain ⟨h0,h1,h2⟩:=HH0
   obtain ⟨h3,h4,h5⟩:=HH1
   rw [Int.toNat_natCast] at h0 h1 h2 h3 h4 h5
   have hstep:∀ i,i + 1 = m + 1 → PL (xk l (i:Int)) (xk l ((i + 1:Nat):Int)) = PL (xk l (m:Int)) (xk l ((m + 1:Nat):Int)):=fun i hi=>by obtain rfl:i = m:=(by omega);rfl
   have hbad:¬ PL (xk l (m:Int)) (xk l ((m + 1:Nat):Int)) < 0 → V = false:=fun h=>by rw [← HV.out];exact iR (i:=m) (by omega) h
   have hcm:=fun W=>zaj (xk l (m:Int)) (xk l ((m + 1:Nat):Int)) W
   generalize xk l (m:Int) = x at h0 h1 h2 hstep hcm hbad
   generalize xk l ((m + 1:Nat):Int) = y at h3 h4 h5 hstep hcm hbad
   generalize PL x y = r at hcm hstep hbad
   have HS:=Lib.hid hstep
   have HB:=Lib.hid hbad
   have e1:IntKind.i64.wrap (((m:Int) + 1) - 1) = (m:Int):=by rw [Int.add_sub_cancel];exact IntWalk.i64_in _ (by omega)
   have q1:(m:Int) < (l.length:Int):=by omega
   have q2:(m:Int) + 1 < (l.length:Int):=by omega
   have q3:((m:Int) + 1).toNat = m + 1:=by omega
   have q4:(0:Int) ≤ (m:Int) + 1:=by omega
   clear hC hr hstep hbad
   have e0:IntKind.i64.wrap (m:Int) = (m:Int):=IntWalk.i64_in _ (by omega)
   have q5:(0:Int) ≤ (m:Int):=by omega
   by_cases hr0:r < 0
   ·have d1:decide (0 ≤ r) = false:=by simp;omega
    have HR:=Lib.hid hr0
    clear hr0
    go_wp2_with fail
    go_region_held3 (fun W=>W.cell? (ad.add (m * 3)) = some (.string x.f0) ∧ W.cell? ⟨(ad.add (m * 3)).block,(ad.add (m * 3)).off + 1,none⟩ = some (.string x.f1) ∧ W.cell? ⟨(ad.add (m * 3)).block,(ad.add (m * 3)).off + 2,none⟩ = some (.int .i64 x.f2) ∧ W.cell? (ad.add ((m + 1) * 3)) = some (.string y.f0) ∧ W.cell? ⟨(ad.add ((m + 1) * 3)).block,(ad.add ((m + 1) * 3)).off + 1,none⟩ = some (.string y.f1) ∧ W.cell? ⟨(ad.add ((m + 1) * 3)).block,(ad.add ((m + 1) * 3)).off + 2,none⟩ = some (.int .i64 y.f2)) (first | go_keep | exact ⟨(hb2.cell (World.block_lt_of_cell? wr _ h0)).trans h0,(hb2.cell (World.block_lt_of_cell? wr _ h1)).trans h1,(hb2.cell (World.block_lt_of_cell? wr _ h2)).trans h2,(hb2.cell (World.block_lt_of_cell? wr _ h3)).trans h3,(hb2.cell (World.block_lt_of_cell? wr _ h4)).trans h4,(hb2.cell (World.block_lt_of_cell? wr _ h5)).trans h5⟩) ((go_at_call 101;refine (hcm _).mono ?_;rintro e w2 ⟨rfl,hb2⟩))
    clear e0 e1
    have hb3:Below w.heap.size w w2:=(hb.drew).trans (hb2.mono hb.size)
    clear hb2
    go_wp2
    refine ⟨⟨m + 1 + 1,by go_num,by omega,by omega,(fun i h1 h2=>?_),hb3⟩,by simp [intOf];omega⟩
    by_cases e:i + 1 = m + 1
    ·rw [HS.out i e];exact HR.out
    ·exact HA.out i (by omega) h2
   ·have d1:decide (0 ≤ r) = true:=by simp;omega
    have hv:V = false:=HB.out hr0
    have jO:=Lib.hid hv
    clear hr0 hv
    go_wp2_with fail
    go_region_held3 (fun W=>W.cell? (ad.add (m * 3)) = some (.string x.f0) ∧ W.cell? ⟨(ad.add (m * 3)).block,(ad.add (m * 3)).off + 1,none⟩ = some (.string x.f1) ∧ W.cell? ⟨(ad.add (m * 3)).block,(ad.add (m * 3)).off + 2,none⟩ = some (.int .i64 x.f2) ∧ W.cell? (ad.add ((m + 1) * 3)) = some (.string y.f0) ∧ W.cell? ⟨(ad.add ((m + 1) * 3)).block,(ad.add ((m + 1) * 3)).off + 1,none⟩ = some (.string y.f1) ∧ W.cell? ⟨(ad.add ((m + 1) * 3)).block,(ad.add ((m + 1) * 3)).off + 2,none⟩ = some (.int .i64 y.f2)) (first | go_keep | exact ⟨(hb2.cell (World.block_lt_of_cell? wr _ h0)).trans h0,(hb2.cell (World.block_lt_of_cell? wr _ h1)).trans h1,(hb2.cell (World.block_lt_of_cell? wr _ h2)).trans h2,(hb2.cell (World.block_lt_of_cell? wr _ h3)).trans h3,(hb2.cell (World.block_lt_of_cell? wr _ h4)).trans h4,(hb2.cell (World.block_lt_of_cell? wr _ h5)).trans h5⟩) ((go_at_call 101;refine (hcm _).mono ?_;rintro e w2 ⟨rfl,hb2⟩))
    clear e0 e1
    have hb3:Below w.heap.size w w2:=(hb.drew).trans (hb2.mono hb.size)
    clear hb2
    go_wp2
    go_ret
    exact ⟨by rw [jO.out];rfl,hb3⟩
  ·have hv:V = true:=by rw [← HV.out];exact oD (fun i hi=>HA.out i (by omega) hi)
   have jO:=Lib.hid hv
   have q1:decide ((k:Int) < (l.length:Int)) = false:=decide_eq_false (by omega)
   clear hv hr
   go_wp2
   go_ret
   exact ⟨by rw [jO.out];rfl,hb⟩
end Go.Proofs.YtggifbbiiickmaaGreatDoor
namespace Go.Proofs.YtggifbbiiickmaaGreatDoor.PX
open Go.RowKit Go.Proofs.zk.zA Go.Proofs.zk.yB Go.Proofs.zk.yA
attribute [local go_sem] xR xS vM vN xB xC xU vv   -- for this text's walks alone
set_option linter.unusedVariables false
set_option linter.unusedSimpArgs false
def pQ.l0:Nat → List ByteArray → Int → Int → ByteArray → Bool → Int → List (qo) → List (xY) → List (vk) → Option (Bool)
 | 0,_,_,_,_,_,_,_,_,_=>none
 | k + 1,x9,x10,wF,zwd,zwe,zwf,zwg,zwh,zwi=>if wF < x10 then (if 0 ≤ wF then (if wF < (x9.length:Int) then ((wL.f zwd zwe zwf zwg zwh zwi (qJ ByteArray.empty x9 wF)).bind fun zio=>(if zio.2 = true then (pQ.l0 k x9 x10 (wrap64 (wF + 1)) zwd zwe zwf zwg zwh zwi) else (some false))) else (none)) else (none)) else (some true)
def pQ.f (k:Nat) (zB:ByteArray) (zD:Bool) (zC:Int) (zn:List (qo)) (zG:List (xY)) (zF:List (vk)) (l1:List ByteArray):Option (Bool):=pQ.l0 k l1 (l1.length:Int) 0 zB zD zC zn zG zF
set_option maxHeartbeats 8000000 in
set_option maxRecDepth 100000 in
theorem pQ.calls (k:Nat) (zB:ByteArray) (zD:Bool) (zC:Int) (yO:Option Addr) (yP:Nat) (zn:List (qo)) (yR:Option Addr) (yS:Nat) (zG:List (xY)) (yT:Option Addr) (yU:Nat) (zF:List (vk)) (A1:Option Addr) (c1:Nat) (l1:List ByteArray) (r:Bool) (w:World) (uS:Kd.C jh w yO zn.length zn) (jF:zn.length ≤ yP) (jG:Kd.C wO w yR zG.length zG) (jH:zG.length ≤ yS) (jI:Kd.C pz w yT zF.length zF) (jL:zF.length ≤ yU) (hr1:Kd.C Kd.string w A1 l1.length l1) (hc1:l1.length ≤ c1) (hG:GW w) (h:pQ.f k zB zD zC zn zG zF l1 = some r) :
  Calls Tryz.prog 94 #[.agg #[.string zB,.bool zD,.int .i64 zC,.slice yO zn.length yP,.slice yR zG.length yS,.slice yT zF.length yU],.slice A1 l1.length c1] w fun e w'=>e = .returned (.bool r) ∧ Below w.heap.size w w':=by
 have zgc:=Tryz.underlying60
 have HG:=zx.mk hG
 clear hG
 have jr:=zx.mk uS
 have kM:=zx.mk jF
 clear uS jF
 have jA:=zx.mk jG
 have kN:=zx.mk jH
 clear jG jH
 have jB:=zx.mk jI
 have kP:=zx.mk jL
 clear jI jL
 have HR1:=zx.mk hr1
 have HC1:=zx.mk hc1
 clear hr1 hc1
 have HB:=zx.mk (Below.refl w.heap.size w)
 have H:(pQ.l0 k l1 (l1.length:Int) 0 zB zD zC zn zG zF) = some r:=h
 clear h
 have H':=zx.mk H
 clear H
 go_enter Tryz.func94,Tryz.ntmps94
 go_wp2_with (first | ((with_reducible refine qC (N:=2) rfl ?_);refine qM ?hg (N:=2) ?hd (cs:=#[.string zB,.bool zD,.int .i64 zC,.slice yO zn.length yP,.slice yR zG.length yS,.slice yT zF.length yU]) (t:=60) ?hr ?_;(case hd=>rfl);(case hg=>rfl);(case hr=>first | (go_simp;done) | (go_simp;rfl));intro Yg hg w3 qc hb;have zJ:=zx.mk (zo (zH HB.out) hb);have zK:=zx.mk (qc);have zi:=zx.mk ((by rw [hg];exact (ze (zH HB.out)):w.heap.size ≤ Yg));have zL:=zx.mk ((by rw [hg];exact (ze (zH HB.out)):w.heap.size ≤ Yg));clear HB;have HB:=zJ;have jT:=zK;have ztM:=zi;have zcc:=zL;clear zJ zK zi zL;clear hb qc hg))
 go_loopg [11] k (fun kq v11 w'=>∃ (p8:Int),v11 = .int .i64 p8 ∧ zx (pQ.l0 kq l1 (l1.length:Int) p8 zB zD zC zn zG zF = some r) ∧ zx (kq ≤ k) ∧ zx (w'.heap[Yg]? = some (.cells #[.string zB,.bool zD,.int .i64 zC,(.slice yO zn.length yP),(.slice yR zG.length yS),(.slice yT zF.length yU)] 60 (0,0))) ∧ zx (Below w.heap.size w w'))
 case atStart=>exact ⟨(0),(by first | rfl | (simp;done) | (simp [*];done)),H',⟨Nat.le_refl _⟩,⟨qh jT.out⟩,⟨zH HB.out⟩⟩
 case round =>
  clear H'
  try clear c1
  obtain ⟨p8,rfl,HA,uK,jT,HB⟩:=hrel
  cases gk with
  | zero=>exact absurd HA.out (by simp [pQ.l0])
  | succ k1 =>
   have H:=HA.out
   clear HA
   simp only [pQ.l0] at H
   by_cases c4:p8 < (l1.length:Int)
   ·rw [if_pos c4] at H
    have ZI:decide (p8 < (l1.length:Int)) = true:=decide_eq_true c4
    clear c4
    by_cases c5:0 ≤ p8
    ·rw [if_pos c5] at H
     have wR:decide (0 ≤ p8) = true:=decide_eq_true c5
     clear c5
     by_cases c6:p8 < (l1.length:Int)
     ·rw [if_pos c6] at H
      have pq:decide (p8 < (l1.length:Int)) = true:=decide_eq_true c6
      clear c6
      replace H:=Option.bind_eq_some_iff.mp H
      obtain ⟨⟨zgd,zge⟩,mQ,H⟩:=H
      replace H:(if zge = true then (pQ.l0 k1 l1 (l1.length:Int) (wrap64 (p8 + 1)) zB zD zC zn zG zF) else (some false)) = some r:=H
      have A7:=zx.mk mQ
      clear mQ
      by_cases c8:zge = true
      ·subst c8
       have H1:(pQ.l0 k1 l1 (l1.length:Int) (wrap64 (p8 + 1)) zB zD zC zn zG zF) = some r:=by rw [if_pos rfl] at H;exact H
       clear H
       have H:=H1
       clear H1
       have H':=zx.mk H
       clear H
       have zqp:0 ≤ (p8:Int):=of_decide_eq_true yE
       have zqr:p8 < (l1.length:Int):=of_decide_eq_true yE
       obtain ⟨zir,zay,KE⟩:=Kd.uw HR1.out p8 zqp zqr
       cases zay
       replace KE:=(HB.out.cell (World.block_lt_of_cell? w _ KE)).trans KE
       replace zqp:=eq_true zqp
       replace zqr:=eq_true zqr
       have ni:wr.cell? ⟨Yg,0,none⟩ = some (.string zB):=zZ jT 0
       have nA:wr.cell? ⟨Yg,1,none⟩ = some (.bool zD):=zZ jT 1
       have nC:wr.cell? ⟨Yg,2,none⟩ = some (.int .i64 zC):=zZ jT 2
       have nD:wr.cell? ⟨Yg,3,none⟩ = some (.slice yO zn.length yP):=zZ jT 3
       have oh:wr.cell? ⟨Yg,4,none⟩ = some (.slice yR zG.length yS):=zZ jT 4
       have om:wr.cell? ⟨Yg,5,none⟩ = some (.slice yT zF.length yU):=zZ jT 5
       have nE:=zy jT.out 0
       have nG:=zy jT.out 1
       have nH:=zy jT.out 2
       have nI:=zy jT.out 3
       have oo:=zy jT.out 4
       have ou:=zy jT.out 5
       go_wp2_with (first | ((with_reducible refine yG (f:=64) rfl ?_);refine jm (some 18) Tryz.func64 #[.agg #[.string zB,.bool zD,.int .i64 zC,.slice yO zn.length yP,.slice yR zG.length yS,.slice yT zF.length yU],.string (qJ ByteArray.empty l1 p8)] ?_;(with_reducible refine (wL.calls zB zD zC _ _ zn _ _ zG _ _ zF (qJ ByteArray.empty l1 p8) zgd true _ ?yc ?yI ?qy ?qw ?qD ?qE ?jU A7.out).mono ?_);(case yc=>exact ql (Kd.zu jr.out HB.out));(case yI=>exact kM.out);(case qy=>exact ql (Kd.zu jA.out HB.out));(case qw=>exact kN.out);(case qD=>exact ql (Kd.zu jB.out HB.out));(case qE=>exact kP.out);(case jU=>exact GW.under HG.out (zH HB.out));rintro e Po ⟨rfl,hb⟩;refine ⟨_,rfl,?_⟩;have zJ:=zx.mk (zU (g:=Yg) (o:=.cells #[.string zB,.bool zD,.int .i64 zC,.slice yO zn.length yP,.slice yR zG.length yS,.slice yT zF.length yU] 60 (0,0)) (qh jT.out) hb);have zK:=zx.mk (zo (zH HB.out) hb);clear jT;clear HB;have jT:=zJ;have HB:=zK;clear zJ zK;(try clear hb);(try clear hi)))
       go_roundg k1
       case measure=>have:=uK.out;omega
       case rel=>exact ⟨(wrap64 (p8 + 1)),(by first | rfl | (simp;done) | (simp [*];done)),H',⟨by have:=uK.out;omega⟩,⟨qh jT.out⟩,⟨zH HB.out⟩⟩
      ·replace c8:=Bool.eq_false_iff.mpr c8
       subst c8
       have H1:(some false) = some r:=by rw [if_neg (show ¬ (false = true) by decide)] at H;exact H
       clear H
       have H:=H1
       clear H1
       obtain rfl:=Option.some.inj H
       have zqp:0 ≤ (p8:Int):=of_decide_eq_true yE
       have zqr:p8 < (l1.length:Int):=of_decide_eq_true yE
       obtain ⟨zir,zay,KE⟩:=Kd.uw HR1.out p8 zqp zqr
       cases zay
       replace KE:=(HB.out.cell (World.block_lt_of_cell? w _ KE)).trans KE
       replace zqp:=eq_true zqp
       replace zqr:=eq_true zqr
       have zzr:wr.cell? ⟨Yg,0,none⟩ = some (.string zB):=zZ jT 0
       have zzs:wr.cell? ⟨Yg,1,none⟩ = some (.bool zD):=zZ jT 1
       have zzt:wr.cell? ⟨Yg,2,none⟩ = some (.int .i64 zC):=zZ jT 2
       have zzu:wr.cell? ⟨Yg,3,none⟩ = some (.slice yO zn.length yP):=zZ jT 3
       have zjc:wr.cell? ⟨Yg,4,none⟩ = some (.slice yR zG.length yS):=zZ jT 4
       have zjd:wr.cell? ⟨Yg,5,none⟩ = some (.slice yT zF.length yU):=zZ jT 5
       have zzA:=zy jT.out 0
       have zzB:=zy jT.out 1
       have zzC:=zy jT.out 2
       have zzD:=zy jT.out 3
       have zje:=zy jT.out 4
       have zjf:=zy jT.out 5
       go_wp2_with (first | ((with_reducible refine yG (f:=64) rfl ?_);refine jm (some 18) Tryz.func64 #[.agg #[.string zB,.bool zD,.int .i64 zC,.slice yO zn.length yP,.slice yR zG.length yS,.slice yT zF.length yU],.string (qJ ByteArray.empty l1 p8)] ?_;(with_reducible refine (wL.calls zB zD zC _ _ zn _ _ zG _ _ zF (qJ ByteArray.empty l1 p8) zgd false _ ?yc ?yI ?qy ?qw ?qD ?qE ?jU A7.out).mono ?_);(case yc=>exact ql (Kd.zu jr.out HB.out));(case yI=>exact kM.out);(case qy=>exact ql (Kd.zu jA.out HB.out));(case qw=>exact kN.out);(case qD=>exact ql (Kd.zu jB.out HB.out));(case qE=>exact kP.out);(case jU=>exact GW.under HG.out (zH HB.out));rintro e Yq ⟨rfl,hb⟩;refine ⟨_,rfl,?_⟩;have zJ:=zx.mk (zU (g:=Yg) (o:=.cells #[.string zB,.bool zD,.int .i64 zC,.slice yO zn.length yP,.slice yR zG.length yS,.slice yT zF.length yU] 60 (0,0)) (qh jT.out) hb);have zK:=zx.mk (zo (zH HB.out) hb);clear jT;clear HB;have jT:=zJ;have HB:=zK;clear zJ zK;(try clear hb);(try clear hi)))
       go_ret
       exact ⟨by first | rfl | (simp [zM,zN] <;> rfl) | (simp [*,zM,zN] <;> rfl),by repeat (first | (with_reducible first | exact HB.out | apply yV | apply zP | apply zT | refine qb ?_ zcc.out) | exact HB.out)⟩
     ·rw [if_neg c6] at H
      exact absurd H (by simp)
    ·rw [if_neg c5] at H
     exact absurd H (by simp)
   ·rw [if_neg c4] at H
    have ZI:decide (p8 < (l1.length:Int)) = false:=decide_eq_false c4
    clear c4
    obtain rfl:=Option.some.inj H
    go_wp2
    go_ret
    exact ⟨by first | rfl | (simp [zM,zN] <;> rfl) | (simp [*,zM,zN] <;> rfl),by repeat (first | (with_reducible first | exact HB.out | apply yV | apply zP | apply zT | refine qb ?_ zcc.out) | exact HB.out)⟩
end Go.Proofs.YtggifbbiiickmaaGreatDoor.PX
namespace Go.Proofs.YtggifbbiiickmaaGreatDoor
open Go.RowKit Go.Shelf Go.Proofs.zk.zA Go.Proofs.zk.yA Go.Proofs.YtggifbbiiickmaaGreatDoor.PX
instance:Inhabited qo:=⟨z105⟩
instance:Inhabited xY:=⟨zWP⟩
instance:Inhabited vk:=⟨zWR⟩
def ZB (x:qo):List Value:=[.string x.f0,.int .i64 x.f1]
def zk1 (x:xY):List Value:=[.string x.f0,.string x.f1,.string x.f2]
def zk2 (x:vk):List Value:=[.string x.f0,.string x.f1,.int .i64 x.f2]
theorem zqs {α:Type} [Inhabited α] (d:Kd α) (enc:α → List Value) (hopen:∀ (w:World) (x:α) (c:List Value),d.K w x c → c = enc x) (hne:∀ x,enc x ≠ []) {w:World} {A:Option Addr} {l:List α} (h:Kd.C d w A l.length l) (h0:l ≠ []) :
  ∃ b off,A = some ⟨b,off,none⟩ ∧ b < w.heap.size ∧ ∀ j,j < l.length → ∀ i v,(enc l[j]!)[i]? = some v → w.cell? ⟨b,off + j * d.sz + i,none⟩ = some v:=by
 have hl:0 < l.length:=List.length_pos_iff.2 h0
 obtain ⟨_,_,h3⟩:=h
 obtain ⟨ad,rfl,hc⟩:=h3 hl
 obtain ⟨b,off,spot⟩:=ad
 have hcell:∀ j,j < l.length → ∀ i v,(enc l[j]!)[i]? = some v → w.cell? ((⟨b,off,spot⟩:Addr).add (j * d.sz + i)) = some v:=by
  intro j hj i v hv
  obtain ⟨c,_,hK,hcc⟩:=hc j l[j] (List.getElem?_eq_getElem hj)
  have e:=hopen w _ c hK
  rw [getElem!_pos l j hj,← e] at hv
  exact hcc i v hv
 obtain ⟨v,hv⟩:∃ v,(enc l[0]!)[0]? = some v:=by
  cases he:enc l[0]! with
  | nil=>exact absurd he (hne _)
  | cons v r=>exact ⟨v,rfl⟩
 have hc0:=hcell 0 hl 0 v hv
 have hspot:spot = none:=by simpa [Addr.add] using World.cell?_spot hc0
 subst hspot
 refine ⟨b,off,rfl,?_,fun j hj i v hv=>?_⟩
 ·have:=World.block_lt_of_cell? w _ hc0
  simpa [Addr.add] using this
 ·have:=hcell j hj i v hv
  rwa [Addr.add_lit,← Nat.add_assoc] at this
set_option maxRecDepth 100000 in
theorem zYr (A0:Option Addr) (c0:Nat) (fv:Value) (w:World):Calls Tryz.prog 130 #[.slice A0 0 c0,fv] w fun e w'=>e = .returned (.int .i64 (-1)) ∧ Below w.heap.size w w':=by
 go_enter Tryz.func130,Tryz.ntmps130
 go_wp2
 go_loop [8] (fun i=>i = .int .i64 0) (fun _=>0)
 case atStart=>rfl
 case round =>
  obtain rfl:=hrel
  go_wp2
  go_ret
  exact ⟨rfl,Below.refl _ _⟩
set_option maxRecDepth 100000 in
theorem zk3 (A0:Option Addr) (c0:Nat) (l:List qo) (w:World) (hr:Kd.C jh w A0 l.length l) (hl:l.length ≤ 1000000000) (p:qo → Bool) (g:Nat) (lb:Array Value) (eg:∀ args w,(callFunc g args).run Tryz.prog w = .ok (.enter g args) w)
  (hp:PredBelow Tryz.prog g lb (fun x=>.agg (ZB x).toArray) p w) :
  Calls Tryz.prog 86 #[.slice A0 l.length c0,.func (.func g) #[] lb] w fun e w'=>e = .returned (.bool (l.any p)) ∧ Below w.heap.size w w':=by
 by_cases h0:l = []
 ·subst h0
  have h:=zYr A0 c0 (.func (.func g) #[] lb) w
  go_enter Tryz.func86,Tryz.ntmps86
  go_wp2_with (go_at_call 130;refine h.mono ?_;rintro e w1 ⟨rfl,hb⟩)
  go_ret
  exact ⟨rfl,hb⟩
 ·obtain ⟨b,off,rfl,hb,hc⟩:=zqs jh ZB (fun w x c h=>zkV h) (fun x=>by simp [ZB]) hr h0
  have:=AnyQ.slices_ContainsFunc Tryz.hasG 2 Tryz.isAgg105 Tryz.sizeOf105 ZB (fun _=>rfl) p g lb eg b off l.length c0 l w hp (Nat.le_refl _) (by omega) hb hc
  rw [List.take_length] at this
  exact this
set_option maxRecDepth 100000 in
theorem zYs (A0:Option Addr) (c0:Nat) (fv:Value) (w:World):Calls Tryz.prog 133 #[.slice A0 0 c0,fv] w fun e w'=>e = .returned (.int .i64 (-1)) ∧ Below w.heap.size w w':=by
 go_enter Tryz.func133,Tryz.ntmps133
 go_wp2
 go_loop [8] (fun i=>i = .int .i64 0) (fun _=>0)
 case atStart=>rfl
 case round =>
  obtain rfl:=hrel
  go_wp2
  go_ret
  exact ⟨rfl,Below.refl _ _⟩
set_option maxRecDepth 100000 in
theorem zaw (A0:Option Addr) (c0:Nat) (l:List xY) (w:World) (hr:Kd.C wO w A0 l.length l) (hl:l.length ≤ 1000000000) (p:xY → Bool) (g:Nat) (lb:Array Value) (eg:∀ args w,(callFunc g args).run Tryz.prog w = .ok (.enter g args) w)
  (hp:PredBelow Tryz.prog g lb (fun x=>.agg (zk1 x).toArray) p w) :
  Calls Tryz.prog 92 #[.slice A0 l.length c0,.func (.func g) #[] lb] w fun e w'=>e = .returned (.bool (l.any p)) ∧ Below w.heap.size w w':=by
 by_cases h0:l = []
 ·subst h0
  have h:=zYs A0 c0 (.func (.func g) #[] lb) w
  go_enter Tryz.func92,Tryz.ntmps92
  go_wp2_with (go_at_call 133;refine h.mono ?_;rintro e w1 ⟨rfl,hb⟩)
  go_ret
  exact ⟨rfl,hb⟩
 ·obtain ⟨b,off,rfl,hb,hc⟩:=zqs wO zk1 (fun w x c h=>zkK h) (fun x=>by simp [zk1]) hr h0
  have:=AnyQ.slices_ContainsFunc Tryz.hasL 3 Tryz.isAgg108 Tryz.sizeOf108 zk1 (fun _=>rfl) p g lb eg b off l.length c0 l w hp (Nat.le_refl _) (by omega) hb hc
  rw [List.take_length] at this
  exact this
set_option maxRecDepth 100000 in
theorem zYt (A0:Option Addr) (c0:Nat) (fv:Value) (w:World):Calls Tryz.prog 134 #[.slice A0 0 c0,fv] w fun e w'=>e = .returned (.int .i64 (-1)) ∧ Below w.heap.size w w':=by
 go_enter Tryz.func134,Tryz.ntmps134
 go_wp2
 go_loop [8] (fun i=>i = .int .i64 0) (fun _=>0)
 case atStart=>rfl
 case round =>
  obtain rfl:=hrel
  go_wp2
  go_ret
  exact ⟨rfl,Below.refl _ _⟩
set_option maxRecDepth 100000 in
theorem zaZ (A0:Option Addr) (c0:Nat) (l:List vk) (w:World) (hr:Kd.C pz w A0 l.length l) (hl:l.length ≤ 1000000000) (p:vk → Bool) (g:Nat) (lb:Array Value) (eg:∀ args w,(callFunc g args).run Tryz.prog w = .ok (.enter g args) w)
  (hp:PredBelow Tryz.prog g lb (fun x=>.agg (zk2 x).toArray) p w) :
  Calls Tryz.prog 99 #[.slice A0 l.length c0,.func (.func g) #[] lb] w fun e w'=>e = .returned (.bool (l.any p)) ∧ Below w.heap.size w w':=by
 by_cases h0:l = []
 ·subst h0
  have h:=zYt A0 c0 (.func (.func g) #[] lb) w
  go_enter Tryz.func99,Tryz.ntmps99
  go_wp2_with (go_at_call 134;refine h.mono ?_;rintro e w1 ⟨rfl,hb⟩)
  go_ret
  exact ⟨rfl,hb⟩
 ·obtain ⟨b,off,rfl,hb,hc⟩:=zqs pz zk2 (fun w x c h=>zkY h) (fun x=>by simp [zk2]) hr h0
  have:=AnyQ.slices_ContainsFunc Tryz.hasK 3 Tryz.isAgg111 Tryz.sizeOf111 zk2 (fun _=>rfl) p g lb eg b off l.length c0 l w hp (Nat.le_refl _) (by omega) hb hc
  rw [List.take_length] at this
  exact this
def Va (n:Int):Bool:=decide (n < 0) || decide (3000 < n)
set_option maxRecDepth 100000 in
theorem zk4 (n:Int) (w:World):Calls Tryz.prog 84 #[.int .i64 n] w fun e w'=>e = .returned (.bool (Va n)) ∧ w' = w:=by
 unfold Va
 by_cases h1:n < 0
 ·have d1:decide (n < 0) = true:=decide_eq_true h1
  rw [d1];clear h1
  go_enter Tryz.func84,Tryz.ntmps84
  go_wp2
  go_ret
  exact ⟨rfl,rfl⟩
 ·have d1:decide (n < 0) = false:=decide_eq_false h1
  rw [d1];clear h1
  cases hd:decide (3000 < n) with
  | true =>
   go_enter Tryz.func84,Tryz.ntmps84
   go_wp2
   go_ret
   exact ⟨rfl,rfl⟩
  | false =>
   go_enter Tryz.func84,Tryz.ntmps84
   go_wp2
   go_ret
   exact ⟨rfl,rfl⟩
def mR (x:qo):Bool:=!Zc x.f0.data.toList || Va x.f1
set_option maxRecDepth 100000 in
theorem zaQ (B:Nat) (w:World) (hB:w.cell? ⟨B,0,none⟩ = some (.func (.func 84) #[] #[])) :
  PredBelow Tryz.prog 87 #[.pointer (some ⟨B,0,none⟩)] (fun x=>.agg (ZB x).toArray) mR w:=fun W x hb=>by
 have hl:=World.block_lt_of_cell? w _ hB
 have hc:W.cell? ⟨B,0,none⟩ = some (.func (.func 84) #[] #[]):=(hb.cell hl).trans hB
 have hlW:B < W.heap.size:=Nat.lt_of_lt_of_le hl hb.size
 show Calls Tryz.prog 87 #[.agg #[.string x.f0,.int .i64 x.f1],.pointer (some ⟨B,0,none⟩)] W _
 have hb0:Below w.heap.size w (W.alloc (.cells #[.string x.f0,.int .i64 x.f1] 105)):=hb.alloc hb.size _
 have hbW:Below W.heap.size W (W.alloc (.cells #[.string x.f0,.int .i64 x.f1] 105)):=(Below.refl _ W).alloc (Nat.le_refl _) _
 have hn:=zYa x.f0 (W.alloc (.cells #[.string x.f0,.int .i64 x.f1] 105))
 have hw:=fun W=>zk4 x.f1 W
 have hv:mR x = (!Zc x.f0.data.toList || Va x.f1):=rfl
 rw [hv]
 clear hv hb
 generalize Zc x.f0.data.toList = b1 at hn ⊢
 generalize Va x.f1 = b2 at hw ⊢
 cases b1 with
 | false =>
  go_enter Tryz.func87,Tryz.ntmps87
  go_wp2_with (go_at_call 88;refine hn.mono ?_;rintro e w1 ⟨rfl,hb1⟩)
  go_ret
  exact ⟨rfl,hb0.trans (hb1.mono hb0.size)⟩
 | true =>
  go_enter Tryz.func87,Tryz.ntmps87
  go_wp2_with (first | (go_at_call 88;refine hn.mono ?_;rintro e w1 ⟨rfl,hb1⟩;have hc1:=(hb1.cell (p:=⟨B,0,none⟩) (by simp;omega)).trans ((hbW.cell (p:=⟨B,0,none⟩) hlW).trans hc);have k1:=(hb1.cell (p:=⟨W.heap.size,1,none⟩) (by simp)).trans (zgW W (.string x.f0) (.int .i64 x.f1) _)) | (go_at_call 84;refine (hw _).mono ?_;rintro e w2 ⟨rfl,rfl⟩))
  go_ret
  exact ⟨by first | rfl | (cases b2 <;> rfl),hb0.trans (hb1.mono hb0.size)⟩
def iT (l:List qo) (ns:List ByteArray):Bool:=ns.all fun n=>(XK l n).2
theorem zis (a:ByteArray) (b:Bool) (c:Int) (l3:List qo) (l4:List xY) (l5:List vk) (h3:l3.length ≤ 1000000000) (ns:List ByteArray) (hn:ns.length ≤ 1000):∀ (d i:Nat),i + d = ns.length →
  Ev (fun k=>pQ.l0 k ns (ns.length:Int) (i:Int) a b c l3 l4 l5) (iT l3 (ns.drop i)):=by
 intro d
 induction d with
 | zero =>
  intro i h
  rw [List.drop_eq_nil_of_le (by omega)]
  refine Ev.step (fun k=>by rw [pQ.l0]) ?_
  exact xW (by omega) (Ev.now _)
 | succ d ih =>
  intro i h
  have hi:i < ns.length:=by omega
  have e2:wrap64 ((i:Int) + 1) = ((i + 1:Nat):Int):=by rw [kQ (by omega) (by omega)];rfl
  have hg:qJ ByteArray.empty ns (i:Int) = ns[i]:=by rw [zkU,List.getD_eq_getElem?_getD,List.getElem?_eq_getElem hi];rfl
  have hd:ns.drop i = ns[i] :: ns.drop (i + 1):=List.drop_eq_getElem_cons hi
  refine Ev.step (fun k=>by rw [pQ.l0]) ?_
  refine yJ (by omega) (yJ (by omega) (yJ (by omega) ?_))
  rw [hg,e2]
  refine J9 (y:=XK l3 ns[i]) (by unfold wL.f;rw [if_pos h3]) ?_
  rw [hd]
  show Ev _ ((XK l3 ns[i]).2 && iT l3 (ns.drop (i + 1)))
  cases hb:(XK l3 ns[i]).2 with
  | true=>exact yJ rfl (ih (i + 1) (by omega))
  | false=>exact xW (by simp) (Ev.now _)
theorem zwl (a:ByteArray) (b:Bool) (c:Int) (A3:Option Addr) (c3:Nat) (l3:List qo) (A4:Option Addr) (c4:Nat) (l4:List xY) (A5:Option Addr) (c5:Nat) (l5:List vk) (A:Option Addr) (cn:Nat) (ns:List ByteArray) (w:World)
  (h3:Kd.C jh w A3 l3.length l3) (g3:l3.length ≤ c3) (h4:Kd.C wO w A4 l4.length l4) (g4:l4.length ≤ c4) (h5:Kd.C pz w A5 l5.length l5) (g5:l5.length ≤ c5) (hn:Kd.C Kd.string w A ns.length ns) (gn:ns.length ≤ cn) (hG:GW w) (hl3:l3.length ≤ 1000000000) (hln:ns.length ≤ 1000) :
  Calls Tryz.prog 94 #[.agg #[.string a,.bool b,.int .i64 c,.slice A3 l3.length c3,.slice A4 l4.length c4,.slice A5 l5.length c5],.slice A ns.length cn] w fun e w'=>e = .returned (.bool (iT l3 ns)) ∧ Below w.heap.size w w':=by
 obtain ⟨k,hk⟩:=(zis a b c l3 l4 l5 hl3 ns hln ns.length 0 (by omega)).rounds
 exact pQ.calls k a b c A3 c3 l3 A4 c4 l4 A5 c5 l5 A cn ns _ w h3 g3 h4 g4 h5 g5 hn gn hG hk
structure Xh (w:World) (B:Nat) (a:ByteArray) (b:Bool) (c:Int) (A3:Option Addr) (c3:Nat) (l3:List qo) (A4:Option Addr) (c4:Nat) (l4:List xY) (A5:Option Addr) (c5:Nat) (l5:List vk):Prop where
 blk:w.heap[B]? = some (.cells #[.string a,.bool b,.int .i64 c,.slice A3 l3.length c3,.slice A4 l4.length c4,.slice A5 l5.length c5] 60 (0,0))
 h3:Kd.C jh w A3 l3.length l3
 h4:Kd.C wO w A4 l4.length l4
 h5:Kd.C pz w A5 l5.length l5
 gw:GW w
theorem Xh.below {w w':World} {B:Nat} {a:ByteArray} {b:Bool} {c:Int} {A3:Option Addr} {c3:Nat} {l3:List qo} {A4:Option Addr} {c4:Nat} {l4:List xY} {A5:Option Addr} {c5:Nat} {l5:List vk}
  (h:Xh w B a b c A3 c3 l3 A4 c4 l4 A5 c5 l5) (hb:Below w.heap.size w w'):Xh w' B a b c A3 c3 l3 A4 c4 l4 A5 c5 l5 :=
 ⟨(hb.block B (Array.getElem?_eq_some_iff.1 h.blk).1).trans h.blk,Kd.zu h.h3 hb,Kd.zu h.h4 hb,Kd.zu h.h5 hb,h.gw.under hb⟩
theorem xV {w:World} {B:Nat} {cs:Array Value} {t:TypeId} (h:w.heap[B]? = some (.cells cs t (0,0))) (i:Nat) (v:Value) (hv:cs[i]? = some v):w.cell? ⟨B,i,none⟩ = some v:=by
 simp only [World.cell?,h]
 exact hv
end Go.Proofs.YtggifbbiiickmaaGreatDoor
namespace Go.Proofs.YtggifbbiiickmaaGreatDoor
open Go.RowKit Go.Proofs.zk.zA Go.Proofs.zk.yB Go.Proofs.zk.yA Go.Proofs.YtggifbbiiickmaaGreatDoor.PX
set_option linter.unusedSimpArgs false
set_option linter.unusedVariables false
def ko (l:List uX) (n:ByteArray):Bool:=l.any fun x=>x.f0.toList == n.toList
def VZ (a b c d:ByteArray):Bool:=Op.bytesLess a.toList c.toList || (a.toList == c.toList && Op.bytesLess b.toList d.toList)
def ZQ (n:Int):Bool:=decide (n < 0) || decide (3000 < n)
def Vh (l:List uX) (i:Nat):Bool:=Zc (vJ l (i:Int)).f0.data.toList && (!ZQ (vJ l (i:Int)).f1 && (decide (i = 0) || Op.bytesLess (vJ l ((i:Int) - 1)).f0.toList (vJ l (i:Int)).f0.toList))
def Vq (l3:List uX) (l:List uo) (i:Nat):Bool:=ko l3 (xL l (i:Int)).f0 && (ko l3 (xL l (i:Int)).f1 && (ko l3 (xL l (i:Int)).f2 && (decide (i = 0) || VZ (xL l ((i:Int) - 1)).f0 (xL l ((i:Int) - 1)).f1 (xL l (i:Int)).f0 (xL l (i:Int)).f1)))
def Vx (l3:List uX) (l:List uG) (i:Nat):Bool:=ko l3 (xQ l (i:Int)).f0 && (ko l3 (xQ l (i:Int)).f1 && (!decide ((xQ l (i:Int)).f2 = 0) && (!decide ((xQ l (i:Int)).f2 < -500) && (!decide (500 < (xQ l (i:Int)).f2) && (decide (i = 0) || VZ (xQ l ((i:Int) - 1)).f0 (xQ l ((i:Int) - 1)).f1 (xQ l (i:Int)).f0 (xQ l (i:Int)).f1)))))
def bg (a:ByteArray) (c:Int) (l3:List uX) (l4:List uo) (l5:List uG):Bool :=
 (Xg a.data.toList && (!ZQ c && (decide (l3.length ≤ 400) && (decide (l4.length ≤ 50) && decide (l5.length ≤ 500))))) && ((List.range l3.length).all (Vh l3) && ((List.range l4.length).all (Vq l3 l4) && (List.range l5.length).all (Vx l3 l5)))
theorem zqt {f:Nat → Bool} {n:Nat} (h:∀ i,i < n → f i = true):(List.range n).all f = true:=List.all_eq_true.2 fun i hi=>h i (List.mem_range.1 hi)
theorem uH {f:Nat → Bool} {n i:Nat} (hi:i < n) (h:f i = false):(List.range n).all f = false:=by
 cases e:(List.range n).all f with
 | false=>rfl
 | true=>exact absurd (List.all_eq_true.1 e i (List.mem_range.2 hi)) (by rw [h];simp)
theorem hasL (a:ByteArray) (b:Bool) (c:Int) (l:List uX) (l4:List uo) (l5:List uG) (n:ByteArray) (hl:l.length ≤ 1000000000):∀ d i,l.length - i = d → i ≤ l.length → Ev (fun k=>qd.l0 k n (i:Int) a b c l l4 l5) (ko (l.drop i) n):=by
 intro d
 induction d with
 | zero =>
  intro i hd hi
  rw [List.drop_eq_nil_of_le (by omega)]
  refine jo (r:=false) rfl (Ev.step (fun k=>by rw [qd.l0]) (xW (by omega) (Ev.now _)))
 | succ d ih =>
  intro i hd hi
  have h1:i < l.length:=by omega
  have q0:(0:Int) ≤ (i:Int):=by omega
  have q1:(i:Int) < (l.length:Int):=by omega
  have hw:wrap64 ((i:Int) + 1) = ((i + 1:Nat):Int):=(kQ (by omega) (by omega)).trans (by omega)
  have hr:=ih (i + 1) (by omega) (by omega)
  have e:vJ l (i:Int) = l[i]:=by simp [vJ,List.getD_eq_getElem?_getD,h1]
  rw [List.drop_eq_getElem_cons h1]
  unfold ko
  rw [List.any_cons]
  refine Ev.step (fun k=>by rw [qd.l0,hw,e]) (yJ q1 (yJ q0 ?_))
  by_cases hx:l[i].f0.toList = n.toList
  ·refine yJ hx (jo ?_ (Ev.now _))
   rw [beq_iff_eq.2 hx,Bool.true_or]
  ·refine xW hx (jo ?_ hr)
   rw [beq_eq_false_iff_ne.2 hx,Bool.false_or];rfl
theorem zkt (a:ByteArray) (b:Bool) (c:Int) (A3:Option Addr) (c3:Nat) (l3:List uX) (A4:Option Addr) (c4:Nat) (l4:List uo) (A5:Option Addr) (c5:Nat) (l5:List uG) (n:ByteArray) (w:World) (h3:Kd.C YK w A3 l3.length l3) (g3:l3.length ≤ c3) (h4:Kd.C Yo w A4 l4.length l4) (g4:l4.length ≤ c4) (h5:Kd.C Yu w A5 l5.length l5) (g5:l5.length ≤ c5) (hl3:l3.length ≤ 1000000000) :
  Calls Tryz.prog 139 #[.agg #[.string a,.bool b,.int .i64 c,.slice A3 l3.length c3,.slice A4 l4.length c4,.slice A5 l5.length c5],.string n] w fun e w'=>e = .returned (.bool (ko l3 n)) ∧ Below w.heap.size w w':=by
 have h1:Ev (fun k=>qd.l0 k n 0 a b c l3 l4 l5) _:=hasL a b c l3 l4 l5 n hl3 _ 0 rfl (Nat.zero_le _)
 have h2:Ev (fun k=>qd.f k a b c l3 l4 l5 n) (ko l3 n):=Ev.congr (fun k=>by rw [qd.f]) h1
 obtain ⟨k,hk⟩:=h2.rounds
 exact qd.calls k a b c A3 c3 l3 A4 c4 l4 A5 c5 l5 n _ w h3 g3 h4 g4 h5 g5 hk
theorem zwm (a b c d:ByteArray) (w:World):Calls Tryz.prog 140 #[.string a,.string b,.string c,.string d] w fun e w'=>e = .returned (.bool (VZ a b c d)) ∧ yg w w':=by
 refine Yf.calls a b c d _ w ?_
 unfold Yf.f VZ
 by_cases h1:Op.bytesLess a.toList c.toList = true
 ·rw [if_pos h1,h1,Bool.true_or]
 ·rw [if_neg h1]
  by_cases h2:a.toList = c.toList
  ·rw [if_pos h2,(by simpa using h1:Op.bytesLess a.toList c.toList = false),beq_iff_eq.2 h2,Bool.false_or,Bool.true_and]
  ·rw [if_neg h2,(by simpa using h1:Op.bytesLess a.toList c.toList = false),beq_eq_false_iff_ne.2 h2,Bool.false_or,Bool.false_and]
theorem kG {w w':World} (h:yg w w'):Below w.heap.size w w':=by
 obtain ⟨⟨n,rfl⟩⟩:=h
 exact zP (Below.refl _ _) n
end Go.Proofs.YtggifbbiiickmaaGreatDoor
namespace Go.Proofs.YtggifbbiiickmaaGreatDoor
open Go.RowKit Go.Proofs.zk.zA Go.Proofs.zk.yB Go.Proofs.zk.yA Go.Proofs.YtggifbbiiickmaaGreatDoor.PX
set_option linter.unusedSimpArgs false
set_option linter.unusedVariables false
section
variable {P:Program} {ops:Array Oper} {Q:Exit → Act → World → Prop} {md:Region.Mode} {S:World → Prop} {ds:List Nat} {T:Bool × List (List Nat × List Nat)} {oi:Oper} {v:Value} {fuel:Nat} {l:Array Bool} {a a':Act} {w:World}
theorem rP (i:Nat) (N:Option Tmp) (HT:zx (vR md ops = T)) (h:qx P md ops Q S ds fuel (l.setIfInBounds i true) a' w)
    (hi:ops[i]? = some oi:=by exact rfl) (hN:oi.dst = N:=by exact rfl) (hc:zqf T l.toList (l.setIfInBounds i true).toList i = true:=by kernel_rfl) (hQ:∀ c a w,Q (.panic c) (a.put oi.dst v) w → Q (.panic c) a w:=by exact fun _ _ _ h=>h)
    (hg:Region.wanted oi (yielded ops a.tmps) = true:=by rfl) (hy:∀ w,(execOp a.eval oi).run P w = .ok (.value v) w:=by intro w';go_simp;with_reducible rfl) (ha:a.put N v = a':=by simp only [Act.put,List.setIfInBounds_toArray,List.set_cons_zero,List.set_cons_succ,uF,jZ];rfl) :
    qx P md ops Q S ds (fuel + 1) l a w:=ug _ hi hN (vE HT.out hc) hQ (Or.inl ⟨hg,hy⟩) ha h
theorem rU (i:Nat) (N:Option Tmp) (HT:zx (vR md ops = T)) (h:qx P md ops Q S ds fuel (l.setIfInBounds i true) a' w)
    (hi:ops[i]? = some oi:=by exact rfl) (hN:oi.dst = N:=by exact rfl) (hc:zqf T l.toList (l.setIfInBounds i true).toList i = true:=by kernel_rfl) (hQ:∀ c a w,Q (.panic c) (a.put oi.dst undef) w → Q (.panic c) a w:=by exact fun _ _ _ h=>h)
    (hg:Region.wanted oi (yielded ops a.tmps) = false:=by rfl) (ha:a.put N undef = a':=by simp only [Act.put,List.setIfInBounds_toArray,List.set_cons_zero,List.set_cons_succ,uF,jZ];rfl) :
    qx P md ops Q S ds (fuel + 1) l a w:=ug _ hi hN (vE HT.out hc) hQ (Or.inr ⟨hg,rfl⟩) ha h
theorem rT {B:List Nat} (i:Nat) (N:Option Tmp) (HT:zx (vR md ops = T)) (HW:zx (uV T.2 B = true)) (hS:S w) (h:qx P md ops Q S ds fuel (l.setIfInBounds i true) a' w)
    (hi:ops[i]? = some oi:=by exact rfl) (hN:oi.dst = N:=by exact rfl) (hc:zxf T B ds l.toList (l.setIfInBounds i true).toList i = true:=by kernel_rfl) (hQ:∀ c a w,Q (.panic c) (a.put oi.dst v) w → Q (.panic c) a w:=by exact fun _ _ _ h=>h)
    (hg:Region.wanted oi (yielded ops a.tmps) = true:=by rfl) (hy:∀ w,S w → (execOp a.eval oi).run P w = .ok (.value v) w:=by intro w' hs_;go_simp;with_reducible rfl) (ha:a.put N v = a':=by simp only [Act.put,List.setIfInBounds_toArray,List.set_cons_zero,List.set_cons_succ,uF,jZ];rfl) :
    qx P md ops Q S ds (fuel + 1) l a w:=VY _ hi hN (Ve HT.out HW.out hc) hQ (Or.inl ⟨hg,hy⟩) hS ha h
theorem rS {X:World} {B:List Nat} {n id:Nat} (HS:zx (∀ W,Below X.heap.size X W → S W)) (hT:vR .any ops = T) (hB:uV T.2 B = true) (hm:P.follows .mixedOrders = true) (hn:ops.size = n) (hl:Array.replicate n false = l)
    (h:∀ w,zx (Below X.heap.size X w) → zx (vR .any ops = T) → zx (uV T.2 B = true) → S w → qx P .any ops Q S [] n l a w):(Code.region id ops true).wp P Q a X :=
  jy _ hm hn hl (HS.out _ (Below.refl _ _).drew) fun hH=>h _ ⟨(Below.refl _ _).drew⟩ ⟨hT⟩ ⟨hB⟩ hH
theorem rC {X:World} {f:FuncId} {fn:Func} {aps:Array Operand} {ts:Array TypeId} {args:Array Value} (i:Nat) (N:Option Tmp) (HT:zx (vR md ops = T)) (HS:zx (∀ W,Below X.heap.size X W → S W)) (HY:zx (Below X.heap.size X w)) (hf:P.funcs[f]? = some fn)
    (hcall:Calls P f args w fun e w'=>e = .returned v ∧ Below w.heap.size w w') (h:∀ w',zx (Below X.heap.size X w') → S w' → qx P md ops Q S ds fuel (l.setIfInBounds i true) a' w') (hname:(fn.name == "runtime.NumGoroutine") = false)
    (hi:ops[i]? = some oi:=by exact rfl) (hN:oi.dst = N:=by exact rfl) (hc:(Ph T.2 l.toList == [i] && l.toList.set i true == (l.setIfInBounds i true).toList) = true:=by kernel_rfl) (hd:i ∉ ds:=by decide) (hb:fn.body.isSome = true:=by exact rfl) (hw:Region.wanted oi (yielded ops a.tmps) = true:=by rfl)
    (hop:oi.op = .call { callee:=.value (.func f),args:=aps,argTypes:=ts }:=by exact rfl) (hargs:aps.map a.eval = args:=by (try simp only [List.map_toArray,List.map_cons,List.map_nil]);first | done | rfl) (ha:a.put N v = a':=by simp only [Act.put,List.setIfInBounds_toArray,List.set_cons_zero,List.set_cons_succ,uF,jZ];rfl) :
    qx P md ops Q S ds (fuel + 1) l a w:=by
  refine Km _ hi hN (pO HT.out hc) hd fun K hK=>?_
  refine je hf hname hb args hw hN hop hargs (hcall.mono ?_)
  rintro e w' ⟨rfl,hk⟩
  have h2:=HY.out.trans (hk.mono HY.out.size)
  refine ⟨_,rfl,hK.out _ _ (HS.out _ h2) fun hH=>?_⟩
  rw [ha]
  exact h _ ⟨h2⟩ hH
end
def rval.T13:Bool × List (List Nat × List Nat):=(true,[([],[]),([],[]),([1],[1]),([0,2],[0,2]),([3],[3]),([4,3],[4]),([5],[5]),([5],[5]),([7,5],[5,7]),([6,8,5,5],[5,6,8]),([9,5],[5,9]),([5,10],[5,10]),([11,9],[11]),([12],[12]),([12],[12]),([14,12],[12,14]),([13,15,12,12],[12,13,15]),([16,12],[12,16]),([12,17],[12,17]),([18,16],[18]),([19],[19]),([20,19],[19,20]),([21,19,19],[19,21]),([22],[22]),([23,22],[22,23]),([22],[22]),([25,22],[22,25]),([24,26,22],[22,24,26]),([27,22],[22,27]),([28,22],[22,28]),([22],[22]),([30,22],[22,30]),([22],[22]),([32,22],[22,32]),([31,33,22],[22,31,33]),([34,22],[22,34]),([35,22],[22,35]),([22],[22]),([37,22],[22,37]),([22],[22]),([39,22],[22,39]),([29,36,38,40,22,22],[22,29,36,38,40]),([41,22],[22,41]),([22,42,19],[19,22,42]),([19,43],[19,43])])
def rval.B13:List Nat:=[0,0,2,7,15,31,63,63,191,511,1023,2047,4095,8191,8191,24575,65535,131071,262143,524287,1048575,2097151,4194303,8388607,16777215,8388607,41943039,134217727,268435455,536870911,8388607,1082130431,8388607,4303355903,16114515967,33294385151,67654123519,8388607,137447342079,8388607,549764202495,2199023255551,4398046511103,8796093022207,17592186044415]
theorem rval.Kz:vR .any (opsOf Tryz.f106 13) = rval.T13:=by kernel_rfl
theorem rval.QZ:uV rval.T13.2 rval.B13 = true:=by kernel_rfl
def rval.T19:Bool × List (List Nat × List Nat):=(true,[([],[]),([],[]),([1],[1]),([0,2],[0,2]),([3],[3]),([4,3],[4]),([5],[5]),([5],[5]),([7,5],[5,7]),([6,8,5,5],[5,6,8]),([9,5],[5,9]),([5,10],[5,10]),([11,9],[11]),([12],[12]),([13,12],[12,13]),([14,12],[12,14]),([12,15],[12,15]),([16,12],[16]),([17],[17]),([18,17],[17,18]),([19,17],[17,19]),([17,20],[17,20]),([21,17],[21]),([22],[22]),([23,22],[22,23]),([24,22],[22,24]),([22,25],[22,25]),([26,22],[26]),([27],[27]),([28,27],[27,28]),([29,27,27],[27,29]),([30],[30]),([31,30],[30,31]),([30],[30]),([33,30],[30,33]),([32,34,30],[30,32,34]),([35,30],[30,35]),([36,30],[30,36]),([30],[30]),([38,30],[30,38]),([30],[30]),([40,30],[30,40]),([39,41,30],[30,39,41]),([42,30],[30,42]),([43,30],[30,43]),([30],[30]),([45,30],[30,45]),([30],[30]),([47,30],[30,47]),([37,44,46,48,30,30],[30,37,44,46,48]),([49,30],[30,49]),([30,50,27],[27,30,50]),([27,51],[27,51])])
def rval.B19:List Nat:=[0,0,2,7,15,31,63,63,191,511,1023,2047,4095,8191,16383,32767,65535,131071,262143,524287,1048575,2097151,4194303,8388607,16777215,33554431,67108863,134217727,268435455,536870911,1073741823,2147483647,4294967295,2147483647,10737418239,34359738367,68719476735,137438953471,2147483647,277025390591,2147483647,1101659111423,4125316087807,8523362598911,17319455621119,2147483647,35186519572479,2147483647,140739635838975,562949953421311,1125899906842623,2251799813685247,4503599627370495]
theorem rval.XY:vR .any (opsOf Tryz.f106 19) = rval.T19:=by kernel_rfl
theorem rval.Yx:uV rval.T19.2 rval.B19 = true:=by kernel_rfl
set_option maxRecDepth 100000 in
set_option maxHeartbeats 16000000 in
theorem zVm (a:ByteArray) (b:Bool) (c:Int) (A3:Option Addr) (c3:Nat) (l3:List uX) (A4:Option Addr) (c4:Nat) (l4:List uo) (A5:Option Addr) (c5:Nat) (l5:List uG) (w:World) (h3:Kd.C YK w A3 l3.length l3) (g3:l3.length ≤ c3) (h4:Kd.C Yo w A4 l4.length l4) (g4:l4.length ≤ c4) (h5:Kd.C Yu w A5 l5.length l5) (g5:l5.length ≤ c5) (hl3:l3.length ≤ 1000000000) (hl4:l4.length ≤ 1000000000) (hl5:l5.length ≤ 1000000000) (ha:a.size ≤ 140737488355328) (hz:∀ x ∈ l3,x.f0.size ≤ 140737488355328) :
    Calls Tryz.prog 106 #[.agg #[.string a,.bool b,.int .i64 c,.slice A3 l3.length c3,.slice A4 l4.length c4,.slice A5 l5.length c5]] w fun e w'=>e = .returned (.bool (bg a c l3 l4 l5)) ∧ Below w.heap.size w w':=by
  have hV0:bg a c l3 l4 l5 = ((Xg a.data.toList && (!ZQ c && (decide (l3.length ≤ 400) && (decide (l4.length ≤ 50) && decide (l5.length ≤ 500))))) && ((List.range l3.length).all (Vh l3) && ((List.range l4.length).all (Vq l3 l4) && (List.range l5.length).all (Vx l3 l5)))):=rfl
  generalize bg a c l3 l4 l5 = V at hV0 ⊢
  have HV:=zx.mk hV0
  clear hV0
  have hbf:(w.alloc (.cells #[.string a,.bool b,.int .i64 c,.slice A3 l3.length c3,.slice A4 l4.length c4,.slice A5 l5.length c5] 101)).heap[w.heap.size]? = some (.cells #[.string a,.bool b,.int .i64 c,.slice A3 l3.length c3,.slice A4 l4.length c4,.slice A5 l5.length c5] 101 (0,0)):=kF _ _
  have hb0:Below w.heap.size w (w.alloc (.cells #[.string a,.bool b,.int .i64 c,.slice A3 l3.length c3,.slice A4 l4.length c4,.slice A5 l5.length c5] 101)):=(Below.refl _ w).alloc (Nat.le_refl _) _
  have HF:=zx.mk (fun (W:World) (h:Below (w.alloc (.cells #[.string a,.bool b,.int .i64 c,.slice A3 l3.length c3,.slice A4 l4.length c4,.slice A5 l5.length c5] 101)).heap.size (w.alloc (.cells #[.string a,.bool b,.int .i64 c,.slice A3 l3.length c3,.slice A4 l4.length c4,.slice A5 l5.length c5] 101)) W)=>zU hbf h)
  have HW:=zx.mk (fun (W:World) (h:Below (w.alloc (.cells #[.string a,.bool b,.int .i64 c,.slice A3 l3.length c3,.slice A4 l4.length c4,.slice A5 l5.length c5] 101)).heap.size (w.alloc (.cells #[.string a,.bool b,.int .i64 c,.slice A3 l3.length c3,.slice A4 l4.length c4,.slice A5 l5.length c5] 101)) W)=>hb0.trans (h.mono hb0.size))
  have H3:=zx.mk h3;have H4:=zx.mk h4;have H5:=zx.mk h5;have G3:=zx.mk g3;have G4:=zx.mk g4;have G5:=zx.mk g5
  have HZ:=zx.mk hz
  clear h3 h4 h5 g3 g4 g5 hbf hb0 hz
  have hfn:=zx.mk (fun W=>zdZ a ha W)
  cases hf:Xg a.data.toList with
  | false =>
    have hv:V = false:=by rw [HV.out,hf];rfl
    subst hv
    rw [hf] at hfn
    go_enter Tryz.func106,Tryz.ntmps106
    go_wp2_with (go_at_call 137;refine (hfn.out _).mono ?_;rintro e w1 ⟨rfl,hd1⟩)
    go_ret
    exact ⟨rfl,HW.out _ (kG hd1)⟩
  | true =>
  rw [hf] at hfn
  by_cases hbad:c < 0 ∨ 3000 < c ∨ 400 < l3.length ∨ 50 < l4.length ∨ 500 < l5.length
  · have hv:V = false:=by
      rw [HV.out]
      unfold ZQ
      rcases hbad with h | h | h | h | h
      · simp [h]
      · simp [h]
      · simp [show ¬ l3.length ≤ 400 by omega]
      · simp [show ¬ l4.length ≤ 50 by omega]
      · simp [show ¬ l5.length ≤ 500 by omega]
    subst hv
    by_cases b1:c < 0
    case' neg =>
      by_cases b2:3000 < c
      case' neg =>
        by_cases b3:400 < l3.length
        case' neg =>
          by_cases b4:50 < l4.length
          case' neg=>have b5:500 < l5.length:=by omega
    all_goals
      clear hbad HV HZ
      go_enter Tryz.func106,Tryz.ntmps106
      go_wp2_with (go_at_call 137;refine (hfn.out _).mono ?_;rintro e w1 ⟨rfl,hd1⟩;have hc2:=(zQ (HF.out _ (kG hd1)) 2).trans rfl;have hc3:=(zQ (HF.out _ (kG hd1)) 3).trans rfl;have hc4:=(zQ (HF.out _ (kG hd1)) 4).trans rfl;have hc5:=(zQ (HF.out _ (kG hd1)) 5).trans rfl)
      go_ret
      exact ⟨rfl,HW.out _ (kG hd1)⟩
  · have hc0:0 ≤ c ∧ c ≤ 3000:=by omega
    have hn:l3.length ≤ 400 ∧ l4.length ≤ 50 ∧ l5.length ≤ 500:=by omega
    have jO:zx (V = ((List.range l3.length).all (Vh l3) && ((List.range l4.length).all (Vq l3 l4) && (List.range l5.length).all (Vx l3 l5)))):=⟨by
      rw [HV.out,hf]
      unfold ZQ
      rw [decide_eq_false (by omega:¬ c < 0),decide_eq_false (by omega:¬ 3000 < c),decide_eq_true hn.1,decide_eq_true hn.2.1,decide_eq_true hn.2.2]
      rfl⟩
    obtain ⟨b1,b2⟩:=hc0
    obtain ⟨b3,b4,b5⟩:=hn
    clear HV hbad
    go_enter Tryz.func106,Tryz.ntmps106
    go_wp2_with (go_at_call 137;refine (hfn.out _).mono ?_;rintro e w1 ⟨rfl,hd1⟩;have hc2:=(zQ (HF.out _ (kG hd1)) 2).trans rfl;have hc3:=(zQ (HF.out _ (kG hd1)) 3).trans rfl;have hc4:=(zQ (HF.out _ (kG hd1)) 4).trans rfl;have hc5:=(zQ (HF.out _ (kG hd1)) 5).trans rfl)
    clear hfn
    go_loopw [3] (fun y W=>∃ i:Nat,y = .int .i64 (i:Int) ∧ i ≤ l3.length ∧ zx (Below (w.alloc (.cells #[.string a,.bool b,.int .i64 c,.slice A3 l3.length c3,.slice A4 l4.length c4,.slice A5 l5.length c5] 101)).heap.size (w.alloc (.cells #[.string a,.bool b,.int .i64 c,.slice A3 l3.length c3,.slice A4 l4.length c4,.slice A5 l5.length c5] 101)) W) ∧ zx (∀ j,j < i → Vh l3 j = true)) (fun y _=>l3.length - (intOf y).toNat)
    case atStart=>exact ⟨0,rfl,Nat.zero_le _,⟨kG hd1⟩,⟨fun _ h=>absurd h (Nat.not_lt_zero _)⟩⟩
    case round =>
      clear hc2 hc3 hc4 hc5 hd1
      obtain ⟨i,rfl,hi,HB3,dR⟩:=hrel
      have hcf:=(zQ (HF.out _ HB3.out) 3).trans rfl
      by_cases hlt:i < l3.length
      · have hC:=Kd.zu H3.out (HW.out _ HB3.out)
        have hbX:Below wr.heap.size wr (wr.alloc (.cells #[] 0)):=(Below.refl _ wr).alloc (Nat.le_refl _) _
        clear hbX
        obtain ⟨ad,e,x0,x1⟩:=Kt hC (i:Int) (by omega) (by omega)
        have hA:=e
        rw [Int.toNat_natCast] at x0 x1
        have hlA:w.heap.size < wr.heap.size:=pI (HF.out _ HB3.out)
        rcases Nat.eq_zero_or_pos i with hi0 | hi0
        · subst hi0
          simp only [Nat.zero_mul,Addr.add_zero'] at x0 x1
          have hok:Vh l3 0 = (Zc (vJ l3 ((0:Nat):Int)).f0.data.toList && (!ZQ (vJ l3 ((0:Nat):Int)).f1 && true)):=by
            unfold Vh
            rw [decide_eq_true rfl,Bool.true_or]
          have hzx:(vJ l3 ((0:Nat):Int)) ∈ l3:=by
            have e9:vJ l3 ((0:Nat):Int) = l3[0]:=by simp only [vJ,Int.toNat_natCast,List.getD_eq_getElem?_getD,List.getElem?_eq_getElem hlt,Option.getD_some]
            rw [e9];exact List.getElem_mem hlt
          generalize vJ l3 ((0:Nat):Int) = x at x0 x1 hok hzx
          have hnq:=fun W=>(zYe x.f0 (HZ.out x hzx) W).mono fun e w' h=>And.intro h.1 h.2.out
          have q1:(0:Int) < (l3.length:Int):=by omega
          have q6:decide ((0:Int) < (l3.length:Int)) = true:=decide_eq_true q1
          rw [hA] at hcf
          clear hzx
          go_wp2_with fail
          have hbX:Below wr.heap.size wr (wr.alloc (.cells #[.string x.f0,.int .i64 x.f1] 106)):=(Below.refl _ wr).alloc (Nat.le_refl _) _
          have xA:=zx.mk (HB3.out.trans (hbX.mono HB3.out.size))
          have hbk:=kF wr (.cells #[.string x.f0,.int .i64 x.f1] 106)
          have hX0:(wr.alloc (.cells #[.string x.f0,.int .i64 x.f1] 106)).cell? ⟨wr.heap.size,0,none⟩ = some (.string x.f0):=(zQ hbk 0).trans rfl
          have hX1:(wr.alloc (.cells #[.string x.f0,.int .i64 x.f1] 106)).cell? ⟨wr.heap.size,1,none⟩ = some (.int .i64 x.f1):=(zQ hbk 1).trans rfl
          clear hbk hbX x0 x1  hC hcf
          generalize wr.heap.size = g4 at hX0 hlA hX1 ⊢
          generalize (wr.alloc (.cells #[.string x.f0,.int .i64 x.f1] 106)) = X at xA hX0 hX1  ⊢
          cases hnm:Zc x.f0.data.toList with
          | false =>
            simp only [hnm] at hnq
            have hv:V = false:=by
              rw [jO.out,uH (i:=0) hlt (by rw [hok,hnm];simp)]
              rfl
            subst hv
            go_quiet ((go_at_call 138;exact Calls.quiet_of (hnq _)))
            go_wp2
            go_ret
            exact ⟨rfl,HW.out _ (zP xA.out nq)⟩
          | true =>
            simp only [hnm] at hnq
            by_cases d1:x.f1 < 0
            · have dd1:decide (x.f1 < 0) = true:=decide_eq_true d1
              have hv:V = false:=by
                rw [jO.out,uH (i:=0) hlt (by rw [hok,hnm,(by unfold ZQ;rw [dd1];rfl:ZQ x.f1 = true)];simp)]
                rfl
              subst hv
              go_quiet ((go_at_call 138;exact Calls.quiet_of (hnq _)))
              go_wp2
              go_ret
              exact ⟨rfl,HW.out _ (zP xA.out nq)⟩
            have dd1:decide (x.f1 < 0) = false:=decide_eq_false d1
            by_cases d2:3000 < x.f1
            · have dd2:decide (3000 < x.f1) = true:=decide_eq_true d2
              have hv:V = false:=by
                rw [jO.out,uH (i:=0) hlt (by rw [hok,hnm,(by unfold ZQ;rw [dd2,Bool.or_true]:ZQ x.f1 = true)];simp)]
                rfl
              subst hv
              go_quiet ((go_at_call 138;exact Calls.quiet_of (hnq _)))
              go_wp2
              go_ret
              exact ⟨rfl,HW.out _ (zP xA.out nq)⟩
            have dd2:decide (3000 < x.f1) = false:=decide_eq_false d2
            have hwd:ZQ x.f1 = false:=by unfold ZQ;rw [dd1,dd2];rfl
            have hok2:Vh l3 0 = true:=by rw [hok,hnm,hwd];rfl
            go_quiet ((go_at_call 138;exact Calls.quiet_of (hnq _)))
            have wQ:=zP xA.out nq
            go_wp2
            go_roundw
            case rel=>exact ⟨0 + 1,by first | rfl | (simp;done) | go_num,by omega,⟨wQ⟩,⟨fun j hj=>(Nat.lt_succ_iff_lt_or_eq.1 hj).elim (dR.out j) (fun e=>by rw [e];exact hok2)⟩⟩
            case measure=>simp [intOf];omega
        · obtain ⟨m,rfl⟩:∃ m,i = m + 1:=⟨i - 1,by omega⟩
          obtain ⟨ad2,e2,y0,y1⟩:=Kt hC (m:Int) (by omega) (by omega)
          have e3:ad = ad2:=by rw [hA] at e2;injection e2 with e2
          subst e3
          rw [Int.toNat_natCast] at y0 y1
          have hpr:(((m + 1:Nat):Int) - 1) = (m:Int):=by omega
          have hok:Vh l3 (m + 1) = (Zc (vJ l3 (((m + 1):Nat):Int)).f0.data.toList && (!ZQ (vJ l3 (((m + 1):Nat):Int)).f1 && Op.bytesLess (vJ l3 (m:Int)).f0.toList (vJ l3 (((m + 1):Nat):Int)).f0.toList)):=by
            unfold Vh
            rw [decide_eq_false (by omega:¬ m + 1 = 0),Bool.false_or,hpr]
          have hzx:(vJ l3 (((m + 1):Nat):Int)) ∈ l3:=by
            have e9:vJ l3 (((m + 1):Nat):Int) = l3[(m + 1)]:=by simp only [vJ,Int.toNat_natCast,List.getD_eq_getElem?_getD,List.getElem?_eq_getElem hlt,Option.getD_some]
            rw [e9];exact List.getElem_mem hlt
          generalize vJ l3 (((m + 1):Nat):Int) = x at x0 x1 hok hzx
          generalize vJ l3 (m:Int) = p at y0 y1 hok
          have hnq:=fun W=>(zYe x.f0 (HZ.out x hzx) W).mono fun e w' h=>And.intro h.1 h.2.out
          have e1:IntKind.i64.wrap (((m:Int) + 1) - 1) = (m:Int):=by rw [Int.add_sub_cancel];exact IntWalk.i64_in _ (by omega)
          have q1:(m:Int) < (l3.length:Int):=by omega
          have q2:(m:Int) + 1 < (l3.length:Int):=by omega
          have q3:((m:Int) + 1).toNat = m + 1:=by omega
          have q4:(0:Int) ≤ (m:Int) + 1:=by omega
          have e0:IntKind.i64.wrap (m:Int) = (m:Int):=IntWalk.i64_in _ (by omega)
          have q5:(0:Int) ≤ (m:Int):=by omega
          have q7:decide (0 < (m:Int) + 1) = true:=decide_eq_true (by omega)
          have q8:decide ((m:Int) + 1 < (l3.length:Int)) = true:=decide_eq_true q2
          rw [hA] at hcf
          clear hzx
          go_wp2_with fail
          have hbX:Below wr.heap.size wr (wr.alloc (.cells #[.string x.f0,.int .i64 x.f1] 106)):=(Below.refl _ wr).alloc (Nat.le_refl _) _
          have xA:=zx.mk (HB3.out.trans (hbX.mono HB3.out.size))
          have hbk:=kF wr (.cells #[.string x.f0,.int .i64 x.f1] 106)
          have hX0:(wr.alloc (.cells #[.string x.f0,.int .i64 x.f1] 106)).cell? ⟨wr.heap.size,0,none⟩ = some (.string x.f0):=(zQ hbk 0).trans rfl
          have hX1:(wr.alloc (.cells #[.string x.f0,.int .i64 x.f1] 106)).cell? ⟨wr.heap.size,1,none⟩ = some (.int .i64 x.f1):=(zQ hbk 1).trans rfl
          have Pp:(wr.alloc (.cells #[.string x.f0,.int .i64 x.f1] 106)).cell? ⟨w.heap.size,3,none⟩ = some (.slice (some ad) l3.length c3):=(zQ (HF.out _ xA.out) 3).trans (by rw [hA];rfl)
          have hP0:=(hbX.cell (World.block_lt_of_cell? wr _ y0)).trans y0
          clear hbk hbX x0 x1 y0 y1 hC hcf
          generalize wr.heap.size = g4 at hX0 hlA hX1 ⊢
          generalize (wr.alloc (.cells #[.string x.f0,.int .i64 x.f1] 106)) = X at xA hX0 hX1 Pp hP0  ⊢
          cases hnm:Zc x.f0.data.toList with
          | false =>
            simp only [hnm] at hnq
            have hv:V = false:=by
              rw [jO.out,uH (i:=(m + 1)) hlt (by rw [hok,hnm];simp)]
              rfl
            subst hv
            go_quiet ((go_at_call 138;exact Calls.quiet_of (hnq _)))
            go_wp2
            go_ret
            exact ⟨rfl,HW.out _ (zP xA.out nq)⟩
          | true =>
            simp only [hnm] at hnq
            by_cases d1:x.f1 < 0
            · have dd1:decide (x.f1 < 0) = true:=decide_eq_true d1
              have hv:V = false:=by
                rw [jO.out,uH (i:=(m + 1)) hlt (by rw [hok,hnm,(by unfold ZQ;rw [dd1];rfl:ZQ x.f1 = true)];simp)]
                rfl
              subst hv
              go_quiet ((go_at_call 138;exact Calls.quiet_of (hnq _)))
              go_wp2
              go_ret
              exact ⟨rfl,HW.out _ (zP xA.out nq)⟩
            have dd1:decide (x.f1 < 0) = false:=decide_eq_false d1
            by_cases d2:3000 < x.f1
            · have dd2:decide (3000 < x.f1) = true:=decide_eq_true d2
              have hv:V = false:=by
                rw [jO.out,uH (i:=(m + 1)) hlt (by rw [hok,hnm,(by unfold ZQ;rw [dd2,Bool.or_true]:ZQ x.f1 = true)];simp)]
                rfl
              subst hv
              go_quiet ((go_at_call 138;exact Calls.quiet_of (hnq _)))
              go_wp2
              go_ret
              exact ⟨rfl,HW.out _ (zP xA.out nq)⟩
            have dd2:decide (3000 < x.f1) = false:=decide_eq_false d2
            have hwd:ZQ x.f1 = false:=by unfold ZQ;rw [dd1,dd2];rfl
            cases hls:Op.bytesLess p.f0.toList x.f0.toList with
            | false =>
              have hv:V = false:=by
                rw [jO.out,uH (i:=(m + 1)) hlt (by rw [hok,hnm,hwd,hls];simp)]
                rfl
              subst hv
              go_quiet ((go_at_call 138;exact Calls.quiet_of (hnq _)))
              go_wp2
              go_ret
              exact ⟨rfl,HW.out _ (zP xA.out nq)⟩
            | true =>
              have hok2:Vh l3 (m + 1) = true:=by rw [hok,hnm,hwd,hls];rfl
              go_quiet ((go_at_call 138;exact Calls.quiet_of (hnq _)))
              have wQ:=zP xA.out nq
              clear e0 e1
              go_wp2
              go_roundw
              case rel=>exact ⟨m + 1 + 1,by first | rfl | (simp;done) | go_num,by omega,⟨wQ⟩,⟨fun j hj=>(Nat.lt_succ_iff_lt_or_eq.1 hj).elim (dR.out j) (fun e=>by rw [e];exact hok2)⟩⟩
              case measure=>simp [intOf];omega
      · obtain rfl:i = l3.length:=by omega
        have q2:decide ((l3.length:Int) < (l3.length:Int)) = false:=decide_eq_false (by omega)
        have q1:¬ (l3.length:Int) < (l3.length:Int):=by omega
        have jO:zx (V = ((List.range l4.length).all (Vq l3 l4) && (List.range l5.length).all (Vx l3 l5))):=⟨by rw [jO.out,zqt dR.out,Bool.true_and]⟩
        go_wp2
        go_loopw [5] (fun y W=>∃ i:Nat,y = .int .i64 (i:Int) ∧ i ≤ l4.length ∧ zx (Below (w.alloc (.cells #[.string a,.bool b,.int .i64 c,.slice A3 l3.length c3,.slice A4 l4.length c4,.slice A5 l5.length c5] 101)).heap.size (w.alloc (.cells #[.string a,.bool b,.int .i64 c,.slice A3 l3.length c3,.slice A4 l4.length c4,.slice A5 l5.length c5] 101)) W) ∧ zx (∀ j,j < i → Vq l3 l4 j = true)) (fun y _=>l4.length - (intOf y).toNat)
        case atStart=>exact ⟨0,rfl,Nat.zero_le _,HB3,⟨fun _ h=>absurd h (Nat.not_lt_zero _)⟩⟩
        case round =>
          skip
          obtain ⟨i,rfl,hi,Ke,HK4⟩:=hrel
          have hcf:=(zQ (HF.out _ Ke.out) 4).trans rfl
          by_cases hlt:i < l4.length
          · have hC:=Kd.zu H4.out (HW.out _ Ke.out)
            have hbX:Below wr.heap.size wr (wr.alloc (.cells #[] 0)):=(Below.refl _ wr).alloc (Nat.le_refl _) _
            clear hbX
            obtain ⟨ad,e,x0,x1,x2⟩:=Vr hC (i:Int) (by omega) (by omega)
            have hA:=e
            rw [Int.toNat_natCast] at x0 x1 x2
            have hlA:w.heap.size < wr.heap.size:=pI (HF.out _ Ke.out)
            rcases Nat.eq_zero_or_pos i with hi0 | hi0
            · subst hi0
              simp only [Nat.zero_mul,Addr.add_zero'] at x0 x1 x2
              have hok:Vq l3 l4 0 = (ko l3 (xL l4 ((0:Nat):Int)).f0 && (ko l3 (xL l4 ((0:Nat):Int)).f1 && (ko l3 (xL l4 ((0:Nat):Int)).f2 && true))):=by
                unfold Vq
                rw [decide_eq_true rfl,Bool.true_or]
              have hzx:(xL l4 ((0:Nat):Int)) ∈ l4:=by
                have e9:xL l4 ((0:Nat):Int) = l4[0]:=by simp only [xL,Int.toNat_natCast,List.getD_eq_getElem?_getD,List.getElem?_eq_getElem hlt,Option.getD_some]
                rw [e9];exact List.getElem_mem hlt
              generalize xL l4 ((0:Nat):Int) = x at x0 x1 x2 hok hzx
              have q1:(0:Int) < (l4.length:Int):=by omega
              have q6:decide ((0:Int) < (l4.length:Int)) = true:=decide_eq_true q1
              rw [hA] at hcf
              clear hzx
              go_wp2_with fail
              have hbX:Below wr.heap.size wr (wr.alloc (.cells #[.string x.f0,.string x.f1,.string x.f2] 109)):=(Below.refl _ wr).alloc (Nat.le_refl _) _
              have xA:=zx.mk (Ke.out.trans (hbX.mono Ke.out.size))
              have hbk:=kF wr (.cells #[.string x.f0,.string x.f1,.string x.f2] 109)
              have hX0:(wr.alloc (.cells #[.string x.f0,.string x.f1,.string x.f2] 109)).cell? ⟨wr.heap.size,0,none⟩ = some (.string x.f0):=(zQ hbk 0).trans rfl
              have hX1:(wr.alloc (.cells #[.string x.f0,.string x.f1,.string x.f2] 109)).cell? ⟨wr.heap.size,1,none⟩ = some (.string x.f1):=(zQ hbk 1).trans rfl
              have hX2:(wr.alloc (.cells #[.string x.f0,.string x.f1,.string x.f2] 109)).cell? ⟨wr.heap.size,2,none⟩ = some (.string x.f2):=(zQ hbk 2).trans rfl
              have dS:(wr.alloc (.cells #[.string x.f0,.string x.f1,.string x.f2] 109)).cell? ⟨w.heap.size,0,none⟩ = some (.string a):=(zQ (HF.out _ xA.out) 0).trans rfl
              have hF1:(wr.alloc (.cells #[.string x.f0,.string x.f1,.string x.f2] 109)).cell? ⟨w.heap.size,1,none⟩ = some (.bool b):=(zQ (HF.out _ xA.out) 1).trans rfl
              have hF2:(wr.alloc (.cells #[.string x.f0,.string x.f1,.string x.f2] 109)).cell? ⟨w.heap.size,2,none⟩ = some (.int .i64 c):=(zQ (HF.out _ xA.out) 2).trans rfl
              have Pp:(wr.alloc (.cells #[.string x.f0,.string x.f1,.string x.f2] 109)).cell? ⟨w.heap.size,3,none⟩ = some (.slice A3 l3.length c3):=(zQ (HF.out _ xA.out) 3).trans rfl
              have dU:(wr.alloc (.cells #[.string x.f0,.string x.f1,.string x.f2] 109)).cell? ⟨w.heap.size,4,none⟩ = some (.slice (some ad) l4.length c4):=(zQ (HF.out _ xA.out) 4).trans (by rw [hA];rfl)
              have gq:(wr.alloc (.cells #[.string x.f0,.string x.f1,.string x.f2] 109)).cell? ⟨w.heap.size,5,none⟩ = some (.slice A5 l5.length c5):=(zQ (HF.out _ xA.out) 5).trans rfl
              have hq:=fun (W:World) (n:ByteArray) (h:Below (wr.alloc (.cells #[.string x.f0,.string x.f1,.string x.f2] 109)).heap.size (wr.alloc (.cells #[.string x.f0,.string x.f1,.string x.f2] 109)) W)=>zkt a b c A3 c3 l3 A4 c4 l4 A5 c5 l5 n W (Kd.zu H3.out ((HW.out _ xA.out).trans (h.mono (HW.out _ xA.out).size))) G3.out (Kd.zu H4.out ((HW.out _ xA.out).trans (h.mono (HW.out _ xA.out).size))) G4.out (Kd.zu H5.out ((HW.out _ xA.out).trans (h.mono (HW.out _ xA.out).size))) G5.out hl3
              rw [hA] at hq
              clear hbk hbX x0 x1 x2  hC hcf
              generalize wr.heap.size = g4 at hX0 hlA hX1 hX2 ⊢
              generalize (wr.alloc (.cells #[.string x.f0,.string x.f1,.string x.f2] 109)) = X at xA hX0 hX1 hX2 dS hF1 hF2 Pp dU gq hq ⊢
              have HS:=zx.mk (fun (W:World) (h:Below X.heap.size X W)=>(show W.cell? ⟨g4,0,none⟩ = some (.string x.f0) ∧ W.cell? ⟨g4,1,none⟩ = some (.string x.f1) ∧ W.cell? ⟨g4,2,none⟩ = some (.string x.f2) ∧ W.cell? ⟨w.heap.size,0,none⟩ = some (.string a) ∧ W.cell? ⟨w.heap.size,1,none⟩ = some (.bool b) ∧ W.cell? ⟨w.heap.size,2,none⟩ = some (.int .i64 c) ∧ W.cell? ⟨w.heap.size,3,none⟩ = some (.slice A3 l3.length c3) ∧ W.cell? ⟨w.heap.size,4,none⟩ = some (.slice (some ad) l4.length c4) ∧ W.cell? ⟨w.heap.size,5,none⟩ = some (.slice A5 l5.length c5) from ⟨(h.cell (World.block_lt_of_cell? X _ hX0)).trans hX0,(h.cell (World.block_lt_of_cell? X _ hX1)).trans hX1,(h.cell (World.block_lt_of_cell? X _ hX2)).trans hX2,(h.cell (World.block_lt_of_cell? X _ dS)).trans dS,(h.cell (World.block_lt_of_cell? X _ hF1)).trans hF1,(h.cell (World.block_lt_of_cell? X _ hF2)).trans hF2,(h.cell (World.block_lt_of_cell? X _ Pp)).trans Pp,(h.cell (World.block_lt_of_cell? X _ dU)).trans dU,(h.cell (World.block_lt_of_cell? X _ gq)).trans gq⟩))
              cases r0:ko l3 x.f0 with
              | false =>
                have h0:=fun (W:World) (h:Below X.heap.size X W)=>hq W x.f0 h
                simp only [r0] at h0
                as_aux_lemma =>
                 have hv:V = false:=by
                   rw [jO.out,uH (i:=0) hlt (by rw [hok,r0];simp)]
                   simp
                 subst hv
                 refine rS (n:=45) HS rval.Kz rval.QZ (by kernel_rfl) rfl rfl (fun w0 H0 T U h=>?_)
                 refine rP 1 (some 96) T ?_;refine rT 0 (some 95) T U h ?_;refine rT 2 (some 97) T U h ?_
                 clear h;refine rC 3 (some 98) T HS H0 Tryz.func139 (h0 _ H0.out) (fun w1 H1 h=>?_) (by kernel_rfl)
                 refine rP 4 (some 99) T ?_;refine rP 5 (some 100) T ?_;refine rU 6 (some 101) T ?_;refine rU 7 (some 102) T ?_;refine rU 8 (some 103) T ?_;refine rU 9 (some 104) T ?_;refine rU 10 (some 105) T ?_;refine rP 11 (some 106) T ?_;refine rP 12 (some 107) T ?_;refine rU 13 (some 108) T ?_;refine rU 14 (some 109) T ?_;refine rU 15 (some 110) T ?_;refine rU 16 (some 111) T ?_;refine rU 17 (some 112) T ?_;refine rP 18 (some 113) T ?_;refine rP 19 (some 114) T ?_;refine rU 20 (some 115) T ?_;refine rU 21 (some 116) T ?_;refine rU 22 (some 117) T ?_;refine rU 23 (some 118) T ?_;refine rU 24 (some 119) T ?_;refine rU 25 (some 120) T ?_;refine rU 26 (some 121) T ?_;refine rU 27 (some 122) T ?_;refine rU 28 (some 123) T ?_;refine rU 29 (some 124) T ?_;refine rU 30 (some 125) T ?_;refine rU 31 (some 126) T ?_;refine rU 32 (some 127) T ?_;refine rU 33 (some 128) T ?_;refine rU 34 (some 129) T ?_;refine rU 35 (some 130) T ?_;refine rU 36 (some 131) T ?_;refine rU 37 (some 132) T ?_;refine rU 38 (some 133) T ?_;refine rU 39 (some 134) T ?_;refine rU 40 (some 135) T ?_;refine rU 41 (some 136) T ?_;refine rU 42 (some 137) T ?_;refine rU 43 (some 138) T ?_;refine rP 44 (some 139) T ?_
                 refine xP (qH T.out (by kernel_rfl)) ?_;have wQ:=xA.out.trans (H1.out.mono xA.out.size);clear h;try go_wp2
                 go_ret
                 exact ⟨rfl,HW.out _ wQ⟩
              | true =>
              have h0:=fun (W:World) (h:Below X.heap.size X W)=>hq W x.f0 h
              simp only [r0] at h0
              cases r1:ko l3 x.f1 with
              | false =>
                have h1:=fun (W:World) (h:Below X.heap.size X W)=>hq W x.f1 h
                simp only [r1] at h1
                as_aux_lemma =>
                 have hv:V = false:=by
                   rw [jO.out,uH (i:=0) hlt (by rw [hok,r0,r1];simp)]
                   simp
                 subst hv
                 refine rS (n:=45) HS rval.Kz rval.QZ (by kernel_rfl) rfl rfl (fun w0 H0 T U h=>?_)
                 refine rP 1 (some 96) T ?_;refine rT 0 (some 95) T U h ?_;refine rT 2 (some 97) T U h ?_
                 clear h;refine rC 3 (some 98) T HS H0 Tryz.func139 (h0 _ H0.out) (fun w1 H1 h=>?_) (by kernel_rfl)
                 refine rP 4 (some 99) T ?_;refine rP 5 (some 100) T ?_;refine rP 7 (some 102) T ?_;refine rT 6 (some 101) T U h ?_;refine rT 8 (some 103) T U h ?_
                 clear h;refine rC 9 (some 104) T HS H1 Tryz.func139 (h1 _ H1.out) (fun w2 H2 h=>?_) (by kernel_rfl)
                 refine rP 10 (some 105) T ?_;refine rP 11 (some 106) T ?_;refine rP 12 (some 107) T ?_;refine rU 13 (some 108) T ?_;refine rU 14 (some 109) T ?_;refine rU 15 (some 110) T ?_;refine rU 16 (some 111) T ?_;refine rU 17 (some 112) T ?_;refine rP 18 (some 113) T ?_;refine rP 19 (some 114) T ?_;refine rU 20 (some 115) T ?_;refine rU 21 (some 116) T ?_;refine rU 22 (some 117) T ?_;refine rU 23 (some 118) T ?_;refine rU 24 (some 119) T ?_;refine rU 25 (some 120) T ?_;refine rU 26 (some 121) T ?_;refine rU 27 (some 122) T ?_;refine rU 28 (some 123) T ?_;refine rU 29 (some 124) T ?_;refine rU 30 (some 125) T ?_;refine rU 31 (some 126) T ?_;refine rU 32 (some 127) T ?_;refine rU 33 (some 128) T ?_;refine rU 34 (some 129) T ?_;refine rU 35 (some 130) T ?_;refine rU 36 (some 131) T ?_;refine rU 37 (some 132) T ?_;refine rU 38 (some 133) T ?_;refine rU 39 (some 134) T ?_;refine rU 40 (some 135) T ?_;refine rU 41 (some 136) T ?_;refine rU 42 (some 137) T ?_;refine rU 43 (some 138) T ?_;refine rP 44 (some 139) T ?_
                 refine xP (qH T.out (by kernel_rfl)) ?_;have wQ:=xA.out.trans (H2.out.mono xA.out.size);clear h;try go_wp2
                 go_ret
                 exact ⟨rfl,HW.out _ wQ⟩
              | true =>
              have h1:=fun (W:World) (h:Below X.heap.size X W)=>hq W x.f1 h
              simp only [r1] at h1
              cases r2:ko l3 x.f2 with
              | false =>
                have h2:=fun (W:World) (h:Below X.heap.size X W)=>hq W x.f2 h
                simp only [r2] at h2
                as_aux_lemma =>
                 have hv:V = false:=by
                   rw [jO.out,uH (i:=0) hlt (by rw [hok,r0,r1,r2];simp)]
                   simp
                 subst hv
                 refine rS (n:=45) HS rval.Kz rval.QZ (by kernel_rfl) rfl rfl (fun w0 H0 T U h=>?_)
                 refine rP 1 (some 96) T ?_;refine rT 0 (some 95) T U h ?_;refine rT 2 (some 97) T U h ?_
                 clear h;refine rC 3 (some 98) T HS H0 Tryz.func139 (h0 _ H0.out) (fun w1 H1 h=>?_) (by kernel_rfl)
                 refine rP 4 (some 99) T ?_;refine rP 5 (some 100) T ?_;refine rP 7 (some 102) T ?_;refine rT 6 (some 101) T U h ?_;refine rT 8 (some 103) T U h ?_
                 clear h;refine rC 9 (some 104) T HS H1 Tryz.func139 (h1 _ H1.out) (fun w2 H2 h=>?_) (by kernel_rfl)
                 refine rP 10 (some 105) T ?_;refine rP 11 (some 106) T ?_;refine rP 12 (some 107) T ?_;refine rP 14 (some 109) T ?_;refine rT 13 (some 108) T U h ?_;refine rT 15 (some 110) T U h ?_
                 clear h;refine rC 16 (some 111) T HS H2 Tryz.func139 (h2 _ H2.out) (fun w3 H3 h=>?_) (by kernel_rfl)
                 refine rP 17 (some 112) T ?_;refine rP 18 (some 113) T ?_;refine rP 19 (some 114) T ?_;refine rU 20 (some 115) T ?_;refine rU 21 (some 116) T ?_;refine rU 22 (some 117) T ?_;refine rU 23 (some 118) T ?_;refine rU 24 (some 119) T ?_;refine rU 25 (some 120) T ?_;refine rU 26 (some 121) T ?_;refine rU 27 (some 122) T ?_;refine rU 28 (some 123) T ?_;refine rU 29 (some 124) T ?_;refine rU 30 (some 125) T ?_;refine rU 31 (some 126) T ?_;refine rU 32 (some 127) T ?_;refine rU 33 (some 128) T ?_;refine rU 34 (some 129) T ?_;refine rU 35 (some 130) T ?_;refine rU 36 (some 131) T ?_;refine rU 37 (some 132) T ?_;refine rU 38 (some 133) T ?_;refine rU 39 (some 134) T ?_;refine rU 40 (some 135) T ?_;refine rU 41 (some 136) T ?_;refine rU 42 (some 137) T ?_;refine rU 43 (some 138) T ?_;refine rP 44 (some 139) T ?_
                 refine xP (qH T.out (by kernel_rfl)) ?_;have wQ:=xA.out.trans (H3.out.mono xA.out.size);clear h;try go_wp2
                 go_ret
                 exact ⟨rfl,HW.out _ wQ⟩
              | true =>
              have h2:=fun (W:World) (h:Below X.heap.size X W)=>hq W x.f2 h
              simp only [r2] at h2
              as_aux_lemma =>
              have hok2:Vq l3 l4 0 = true:=by rw [hok,r0,r1,r2];rfl
              refine rS (n:=45) HS rval.Kz rval.QZ (by kernel_rfl) rfl rfl (fun w0 H0 T U h=>?_)
              refine rP 1 (some 96) T ?_;refine rT 0 (some 95) T U h ?_;refine rT 2 (some 97) T U h ?_
              clear h;refine rC 3 (some 98) T HS H0 Tryz.func139 (h0 _ H0.out) (fun w1 H1 h=>?_) (by kernel_rfl)
              refine rP 4 (some 99) T ?_;refine rP 5 (some 100) T ?_;refine rP 7 (some 102) T ?_;refine rT 6 (some 101) T U h ?_;refine rT 8 (some 103) T U h ?_
              clear h;refine rC 9 (some 104) T HS H1 Tryz.func139 (h1 _ H1.out) (fun w2 H2 h=>?_) (by kernel_rfl)
              refine rP 10 (some 105) T ?_;refine rP 11 (some 106) T ?_;refine rP 12 (some 107) T ?_;refine rP 14 (some 109) T ?_;refine rT 13 (some 108) T U h ?_;refine rT 15 (some 110) T U h ?_
              clear h;refine rC 16 (some 111) T HS H2 Tryz.func139 (h2 _ H2.out) (fun w3 H3 h=>?_) (by kernel_rfl)
              refine rP 17 (some 112) T ?_;refine rP 18 (some 113) T ?_;refine rP 19 (some 114) T ?_;refine rP 20 (some 115) T ?_;refine rP 21 (some 116) T ?_;refine rP 22 (some 117) T ?_;refine rU 23 (some 118) T ?_;refine rU 24 (some 119) T ?_;refine rU 25 (some 120) T ?_;refine rU 26 (some 121) T ?_;refine rU 27 (some 122) T ?_;refine rU 28 (some 123) T ?_;refine rU 29 (some 124) T ?_;refine rU 30 (some 125) T ?_;refine rU 31 (some 126) T ?_;refine rU 32 (some 127) T ?_;refine rU 33 (some 128) T ?_;refine rU 34 (some 129) T ?_;refine rU 35 (some 130) T ?_;refine rU 36 (some 131) T ?_;refine rU 37 (some 132) T ?_;refine rU 38 (some 133) T ?_;refine rU 39 (some 134) T ?_;refine rU 40 (some 135) T ?_;refine rU 41 (some 136) T ?_;refine rU 42 (some 137) T ?_;refine rP 43 (some 138) T ?_;refine rP 44 (some 139) T ?_
              refine xP (qH T.out (by kernel_rfl)) ?_;have wQ:=xA.out.trans (H3.out.mono xA.out.size);clear h;try go_wp2
              go_roundw
              case rel=>exact ⟨0 + 1,by first | rfl | (simp;done) | go_num,by omega,⟨wQ⟩,⟨fun j hj=>(Nat.lt_succ_iff_lt_or_eq.1 hj).elim (HK4.out j) (fun e=>by rw [e];exact hok2)⟩⟩
              case measure=>simp [intOf];omega
            · obtain ⟨m,rfl⟩:∃ m,i = m + 1:=⟨i - 1,by omega⟩
              obtain ⟨ad2,e2,y0,y1,y2⟩:=Vr hC (m:Int) (by omega) (by omega)
              have e3:ad = ad2:=by rw [hA] at e2;injection e2 with e2
              subst e3
              rw [Int.toNat_natCast] at y0 y1 y2
              have hpr:(((m + 1:Nat):Int) - 1) = (m:Int):=by omega
              have hok:Vq l3 l4 (m + 1) = (ko l3 (xL l4 (((m + 1):Nat):Int)).f0 && (ko l3 (xL l4 (((m + 1):Nat):Int)).f1 && (ko l3 (xL l4 (((m + 1):Nat):Int)).f2 && VZ (xL l4 (m:Int)).f0 (xL l4 (m:Int)).f1 (xL l4 (((m + 1):Nat):Int)).f0 (xL l4 (((m + 1):Nat):Int)).f1))):=by
                unfold Vq
                rw [decide_eq_false (by omega:¬ m + 1 = 0),Bool.false_or,hpr]
              have hzx:(xL l4 (((m + 1):Nat):Int)) ∈ l4:=by
                have e9:xL l4 (((m + 1):Nat):Int) = l4[(m + 1)]:=by simp only [xL,Int.toNat_natCast,List.getD_eq_getElem?_getD,List.getElem?_eq_getElem hlt,Option.getD_some]
                rw [e9];exact List.getElem_mem hlt
              generalize xL l4 (((m + 1):Nat):Int) = x at x0 x1 x2 hok hzx
              generalize xL l4 (m:Int) = p at y0 y1 y2 hok
              have e1:IntKind.i64.wrap (((m:Int) + 1) - 1) = (m:Int):=by rw [Int.add_sub_cancel];exact IntWalk.i64_in _ (by omega)
              have q1:(m:Int) < (l4.length:Int):=by omega
              have q2:(m:Int) + 1 < (l4.length:Int):=by omega
              have q3:((m:Int) + 1).toNat = m + 1:=by omega
              have q4:(0:Int) ≤ (m:Int) + 1:=by omega
              have e0:IntKind.i64.wrap (m:Int) = (m:Int):=IntWalk.i64_in _ (by omega)
              have q5:(0:Int) ≤ (m:Int):=by omega
              have q7:decide (0 < (m:Int) + 1) = true:=decide_eq_true (by omega)
              have q8:decide ((m:Int) + 1 < (l4.length:Int)) = true:=decide_eq_true q2
              rw [hA] at hcf
              clear hzx
              go_wp2_with fail
              have hbX:Below wr.heap.size wr (wr.alloc (.cells #[.string x.f0,.string x.f1,.string x.f2] 109)):=(Below.refl _ wr).alloc (Nat.le_refl _) _
              have xA:=zx.mk (Ke.out.trans (hbX.mono Ke.out.size))
              have hbk:=kF wr (.cells #[.string x.f0,.string x.f1,.string x.f2] 109)
              have hX0:(wr.alloc (.cells #[.string x.f0,.string x.f1,.string x.f2] 109)).cell? ⟨wr.heap.size,0,none⟩ = some (.string x.f0):=(zQ hbk 0).trans rfl
              have hX1:(wr.alloc (.cells #[.string x.f0,.string x.f1,.string x.f2] 109)).cell? ⟨wr.heap.size,1,none⟩ = some (.string x.f1):=(zQ hbk 1).trans rfl
              have hX2:(wr.alloc (.cells #[.string x.f0,.string x.f1,.string x.f2] 109)).cell? ⟨wr.heap.size,2,none⟩ = some (.string x.f2):=(zQ hbk 2).trans rfl
              have dS:(wr.alloc (.cells #[.string x.f0,.string x.f1,.string x.f2] 109)).cell? ⟨w.heap.size,0,none⟩ = some (.string a):=(zQ (HF.out _ xA.out) 0).trans rfl
              have hF1:(wr.alloc (.cells #[.string x.f0,.string x.f1,.string x.f2] 109)).cell? ⟨w.heap.size,1,none⟩ = some (.bool b):=(zQ (HF.out _ xA.out) 1).trans rfl
              have hF2:(wr.alloc (.cells #[.string x.f0,.string x.f1,.string x.f2] 109)).cell? ⟨w.heap.size,2,none⟩ = some (.int .i64 c):=(zQ (HF.out _ xA.out) 2).trans rfl
              have Pp:(wr.alloc (.cells #[.string x.f0,.string x.f1,.string x.f2] 109)).cell? ⟨w.heap.size,3,none⟩ = some (.slice A3 l3.length c3):=(zQ (HF.out _ xA.out) 3).trans rfl
              have dU:(wr.alloc (.cells #[.string x.f0,.string x.f1,.string x.f2] 109)).cell? ⟨w.heap.size,4,none⟩ = some (.slice (some ad) l4.length c4):=(zQ (HF.out _ xA.out) 4).trans (by rw [hA];rfl)
              have gq:(wr.alloc (.cells #[.string x.f0,.string x.f1,.string x.f2] 109)).cell? ⟨w.heap.size,5,none⟩ = some (.slice A5 l5.length c5):=(zQ (HF.out _ xA.out) 5).trans rfl
              have hP0:=(hbX.cell (World.block_lt_of_cell? wr _ y0)).trans y0
              have hP1:=(hbX.cell (World.block_lt_of_cell? wr _ y1)).trans y1
              have hq:=fun (W:World) (n:ByteArray) (h:Below (wr.alloc (.cells #[.string x.f0,.string x.f1,.string x.f2] 109)).heap.size (wr.alloc (.cells #[.string x.f0,.string x.f1,.string x.f2] 109)) W)=>zkt a b c A3 c3 l3 A4 c4 l4 A5 c5 l5 n W (Kd.zu H3.out ((HW.out _ xA.out).trans (h.mono (HW.out _ xA.out).size))) G3.out (Kd.zu H4.out ((HW.out _ xA.out).trans (h.mono (HW.out _ xA.out).size))) G4.out (Kd.zu H5.out ((HW.out _ xA.out).trans (h.mono (HW.out _ xA.out).size))) G5.out hl3
              rw [hA] at hq
              clear hbk hbX x0 x1 x2 y0 y1 y2 hC hcf
              generalize wr.heap.size = g4 at hX0 hlA hX1 hX2 ⊢
              generalize (wr.alloc (.cells #[.string x.f0,.string x.f1,.string x.f2] 109)) = X at xA hX0 hX1 hX2 dS hF1 hF2 Pp dU gq hP0 hP1 hq ⊢
              have HS:=zx.mk (fun (W:World) (h:Below X.heap.size X W)=>(show W.cell? ⟨g4,0,none⟩ = some (.string x.f0) ∧ W.cell? ⟨g4,1,none⟩ = some (.string x.f1) ∧ W.cell? ⟨g4,2,none⟩ = some (.string x.f2) ∧ W.cell? ⟨w.heap.size,0,none⟩ = some (.string a) ∧ W.cell? ⟨w.heap.size,1,none⟩ = some (.bool b) ∧ W.cell? ⟨w.heap.size,2,none⟩ = some (.int .i64 c) ∧ W.cell? ⟨w.heap.size,3,none⟩ = some (.slice A3 l3.length c3) ∧ W.cell? ⟨w.heap.size,4,none⟩ = some (.slice (some ad) l4.length c4) ∧ W.cell? ⟨w.heap.size,5,none⟩ = some (.slice A5 l5.length c5) ∧ W.cell? (ad.add (m * 3)) = some (.string p.f0) ∧ W.cell? ⟨(ad.add (m * 3)).block,(ad.add (m * 3)).off + 1,none⟩ = some (.string p.f1) from ⟨(h.cell (World.block_lt_of_cell? X _ hX0)).trans hX0,(h.cell (World.block_lt_of_cell? X _ hX1)).trans hX1,(h.cell (World.block_lt_of_cell? X _ hX2)).trans hX2,(h.cell (World.block_lt_of_cell? X _ dS)).trans dS,(h.cell (World.block_lt_of_cell? X _ hF1)).trans hF1,(h.cell (World.block_lt_of_cell? X _ hF2)).trans hF2,(h.cell (World.block_lt_of_cell? X _ Pp)).trans Pp,(h.cell (World.block_lt_of_cell? X _ dU)).trans dU,(h.cell (World.block_lt_of_cell? X _ gq)).trans gq,(h.cell (World.block_lt_of_cell? X _ hP0)).trans hP0,(h.cell (World.block_lt_of_cell? X _ hP1)).trans hP1⟩))
              cases r0:ko l3 x.f0 with
              | false =>
                have h0:=fun (W:World) (h:Below X.heap.size X W)=>hq W x.f0 h
                simp only [r0] at h0
                as_aux_lemma =>
                 have hv:V = false:=by
                   rw [jO.out,uH (i:=(m + 1)) hlt (by rw [hok,r0];simp)]
                   simp
                 subst hv
                 refine rS (n:=45) HS rval.Kz rval.QZ (by kernel_rfl) rfl rfl (fun w0 H0 T U h=>?_)
                 refine rP 1 (some 96) T ?_;refine rT 0 (some 95) T U h ?_;refine rT 2 (some 97) T U h ?_
                 clear h;refine rC 3 (some 98) T HS H0 Tryz.func139 (h0 _ H0.out) (fun w1 H1 h=>?_) (by kernel_rfl)
                 refine rP 4 (some 99) T ?_;refine rP 5 (some 100) T ?_;refine rU 6 (some 101) T ?_;refine rU 7 (some 102) T ?_;refine rU 8 (some 103) T ?_;refine rU 9 (some 104) T ?_;refine rU 10 (some 105) T ?_;refine rP 11 (some 106) T ?_;refine rP 12 (some 107) T ?_;refine rU 13 (some 108) T ?_;refine rU 14 (some 109) T ?_;refine rU 15 (some 110) T ?_;refine rU 16 (some 111) T ?_;refine rU 17 (some 112) T ?_;refine rP 18 (some 113) T ?_;refine rP 19 (some 114) T ?_;refine rU 20 (some 115) T ?_;refine rU 21 (some 116) T ?_;refine rU 22 (some 117) T ?_;refine rU 23 (some 118) T ?_;refine rU 24 (some 119) T ?_;refine rU 25 (some 120) T ?_;refine rU 26 (some 121) T ?_;refine rU 27 (some 122) T ?_;refine rU 28 (some 123) T ?_;refine rU 29 (some 124) T ?_;refine rU 30 (some 125) T ?_;refine rU 31 (some 126) T ?_;refine rU 32 (some 127) T ?_;refine rU 33 (some 128) T ?_;refine rU 34 (some 129) T ?_;refine rU 35 (some 130) T ?_;refine rU 36 (some 131) T ?_;refine rU 37 (some 132) T ?_;refine rU 38 (some 133) T ?_;refine rU 39 (some 134) T ?_;refine rU 40 (some 135) T ?_;refine rU 41 (some 136) T ?_;refine rU 42 (some 137) T ?_;refine rU 43 (some 138) T ?_;refine rP 44 (some 139) T ?_
                 refine xP (qH T.out (by kernel_rfl)) ?_;have wQ:=xA.out.trans (H1.out.mono xA.out.size);clear h;try go_wp2
                 go_ret
                 exact ⟨rfl,HW.out _ wQ⟩
              | true =>
              have h0:=fun (W:World) (h:Below X.heap.size X W)=>hq W x.f0 h
              simp only [r0] at h0
              cases r1:ko l3 x.f1 with
              | false =>
                have h1:=fun (W:World) (h:Below X.heap.size X W)=>hq W x.f1 h
                simp only [r1] at h1
                as_aux_lemma =>
                 have hv:V = false:=by
                   rw [jO.out,uH (i:=(m + 1)) hlt (by rw [hok,r0,r1];simp)]
                   simp
                 subst hv
                 refine rS (n:=45) HS rval.Kz rval.QZ (by kernel_rfl) rfl rfl (fun w0 H0 T U h=>?_)
                 refine rP 1 (some 96) T ?_;refine rT 0 (some 95) T U h ?_;refine rT 2 (some 97) T U h ?_
                 clear h;refine rC 3 (some 98) T HS H0 Tryz.func139 (h0 _ H0.out) (fun w1 H1 h=>?_) (by kernel_rfl)
                 refine rP 4 (some 99) T ?_;refine rP 5 (some 100) T ?_;refine rP 7 (some 102) T ?_;refine rT 6 (some 101) T U h ?_;refine rT 8 (some 103) T U h ?_
                 clear h;refine rC 9 (some 104) T HS H1 Tryz.func139 (h1 _ H1.out) (fun w2 H2 h=>?_) (by kernel_rfl)
                 refine rP 10 (some 105) T ?_;refine rP 11 (some 106) T ?_;refine rP 12 (some 107) T ?_;refine rU 13 (some 108) T ?_;refine rU 14 (some 109) T ?_;refine rU 15 (some 110) T ?_;refine rU 16 (some 111) T ?_;refine rU 17 (some 112) T ?_;refine rP 18 (some 113) T ?_;refine rP 19 (some 114) T ?_;refine rU 20 (some 115) T ?_;refine rU 21 (some 116) T ?_;refine rU 22 (some 117) T ?_;refine rU 23 (some 118) T ?_;refine rU 24 (some 119) T ?_;refine rU 25 (some 120) T ?_;refine rU 26 (some 121) T ?_;refine rU 27 (some 122) T ?_;refine rU 28 (some 123) T ?_;refine rU 29 (some 124) T ?_;refine rU 30 (some 125) T ?_;refine rU 31 (some 126) T ?_;refine rU 32 (some 127) T ?_;refine rU 33 (some 128) T ?_;refine rU 34 (some 129) T ?_;refine rU 35 (some 130) T ?_;refine rU 36 (some 131) T ?_;refine rU 37 (some 132) T ?_;refine rU 38 (some 133) T ?_;refine rU 39 (some 134) T ?_;refine rU 40 (some 135) T ?_;refine rU 41 (some 136) T ?_;refine rU 42 (some 137) T ?_;refine rU 43 (some 138) T ?_;refine rP 44 (some 139) T ?_
                 refine xP (qH T.out (by kernel_rfl)) ?_;have wQ:=xA.out.trans (H2.out.mono xA.out.size);clear h;try go_wp2
                 go_ret
                 exact ⟨rfl,HW.out _ wQ⟩
              | true =>
              have h1:=fun (W:World) (h:Below X.heap.size X W)=>hq W x.f1 h
              simp only [r1] at h1
              cases r2:ko l3 x.f2 with
              | false =>
                have h2:=fun (W:World) (h:Below X.heap.size X W)=>hq W x.f2 h
                simp only [r2] at h2
                as_aux_lemma =>
                 have hv:V = false:=by
                   rw [jO.out,uH (i:=(m + 1)) hlt (by rw [hok,r0,r1,r2];simp)]
                   simp
                 subst hv
                 refine rS (n:=45) HS rval.Kz rval.QZ (by kernel_rfl) rfl rfl (fun w0 H0 T U h=>?_)
                 refine rP 1 (some 96) T ?_;refine rT 0 (some 95) T U h ?_;refine rT 2 (some 97) T U h ?_
                 clear h;refine rC 3 (some 98) T HS H0 Tryz.func139 (h0 _ H0.out) (fun w1 H1 h=>?_) (by kernel_rfl)
                 refine rP 4 (some 99) T ?_;refine rP 5 (some 100) T ?_;refine rP 7 (some 102) T ?_;refine rT 6 (some 101) T U h ?_;refine rT 8 (some 103) T U h ?_
                 clear h;refine rC 9 (some 104) T HS H1 Tryz.func139 (h1 _ H1.out) (fun w2 H2 h=>?_) (by kernel_rfl)
                 refine rP 10 (some 105) T ?_;refine rP 11 (some 106) T ?_;refine rP 12 (some 107) T ?_;refine rP 14 (some 109) T ?_;refine rT 13 (some 108) T U h ?_;refine rT 15 (some 110) T U h ?_
                 clear h;refine rC 16 (some 111) T HS H2 Tryz.func139 (h2 _ H2.out) (fun w3 H3 h=>?_) (by kernel_rfl)
                 refine rP 17 (some 112) T ?_;refine rP 18 (some 113) T ?_;refine rP 19 (some 114) T ?_;refine rU 20 (some 115) T ?_;refine rU 21 (some 116) T ?_;refine rU 22 (some 117) T ?_;refine rU 23 (some 118) T ?_;refine rU 24 (some 119) T ?_;refine rU 25 (some 120) T ?_;refine rU 26 (some 121) T ?_;refine rU 27 (some 122) T ?_;refine rU 28 (some 123) T ?_;refine rU 29 (some 124) T ?_;refine rU 30 (some 125) T ?_;refine rU 31 (some 126) T ?_;refine rU 32 (some 127) T ?_;refine rU 33 (some 128) T ?_;refine rU 34 (some 129) T ?_;refine rU 35 (some 130) T ?_;refine rU 36 (some 131) T ?_;refine rU 37 (some 132) T ?_;refine rU 38 (some 133) T ?_;refine rU 39 (some 134) T ?_;refine rU 40 (some 135) T ?_;refine rU 41 (some 136) T ?_;refine rU 42 (some 137) T ?_;refine rU 43 (some 138) T ?_;refine rP 44 (some 139) T ?_
                 refine xP (qH T.out (by kernel_rfl)) ?_;have wQ:=xA.out.trans (H3.out.mono xA.out.size);clear h;try go_wp2
                 go_ret
                 exact ⟨rfl,HW.out _ wQ⟩
              | true =>
              have h2:=fun (W:World) (h:Below X.heap.size X W)=>hq W x.f2 h
              simp only [r2] at h2
              have hah:=fun W=>(zwm p.f0 p.f1 x.f0 x.f1 W).mono fun e w' k=>And.intro k.1 (kG k.2)
              cases ra:VZ p.f0 p.f1 x.f0 x.f1 with
              | false =>
                simp only [ra] at hah
                as_aux_lemma =>
                 have hv:V = false:=by
                   rw [jO.out,uH (i:=(m + 1)) hlt (by rw [hok,r0,r1,r2,ra];simp)]
                   simp
                 subst hv
                 refine rS (n:=45) HS rval.Kz rval.QZ (by kernel_rfl) rfl rfl (fun w0 H0 T U h=>?_)
                 refine rP 1 (some 96) T ?_;refine rT 0 (some 95) T U h ?_;refine rT 2 (some 97) T U h ?_
                 clear h;refine rC 3 (some 98) T HS H0 Tryz.func139 (h0 _ H0.out) (fun w1 H1 h=>?_) (by kernel_rfl)
                 refine rP 4 (some 99) T ?_;refine rP 5 (some 100) T ?_;refine rP 7 (some 102) T ?_;refine rT 6 (some 101) T U h ?_;refine rT 8 (some 103) T U h ?_
                 clear h;refine rC 9 (some 104) T HS H1 Tryz.func139 (h1 _ H1.out) (fun w2 H2 h=>?_) (by kernel_rfl)
                 refine rP 10 (some 105) T ?_;refine rP 11 (some 106) T ?_;refine rP 12 (some 107) T ?_;refine rP 14 (some 109) T ?_;refine rT 13 (some 108) T U h ?_;refine rT 15 (some 110) T U h ?_
                 clear h;refine rC 16 (some 111) T HS H2 Tryz.func139 (h2 _ H2.out) (fun w3 H3 h=>?_) (by kernel_rfl)
                 refine rP 17 (some 112) T ?_;refine rP 18 (some 113) T ?_;refine rP 19 (some 114) T ?_;refine rP 20 (some 115) T ?_;refine rP 21 (some 116) T ?_;refine rP 22 (some 117) T ?_;refine rP 23 (some 118) T ?_;refine rP 25 (some 120) T ?_;refine rP 26 (some 121) T ?_;refine rP 30 (some 125) T ?_;refine rP 32 (some 127) T ?_;refine rP 33 (some 128) T ?_;refine rP 37 (some 132) T ?_;refine rP 39 (some 134) T ?_;refine rT 24 (some 119) T U h ?_;refine rP 27 (some 122) T ?_;refine rP 28 (some 123) T ?_;refine rT 29 (some 124) T U h ?_;refine rT 31 (some 126) T U h ?_;refine rP 34 (some 129) T ?_;refine rP 35 (some 130) T ?_;refine rT 36 (some 131) T U h ?_;refine rT 38 (some 133) T U h ?_;refine rT 40 (some 135) T U h ?_
                 clear h;refine rC 41 (some 136) T HS H3 Tryz.func140 (hah _) (fun w4 H4 h=>?_) (by kernel_rfl)
                 refine rP 42 (some 137) T ?_;refine rP 43 (some 138) T ?_;refine rP 44 (some 139) T ?_
                 refine xP (qH T.out (by kernel_rfl)) ?_;have wQ:=xA.out.trans (H4.out.mono xA.out.size);clear h;try go_wp2
                 go_ret
                 exact ⟨rfl,HW.out _ wQ⟩
              | true =>
              simp only [ra] at hah
              as_aux_lemma =>
              have hok2:Vq l3 l4 (m + 1) = true:=by rw [hok,r0,r1,r2,ra];rfl
              refine rS (n:=45) HS rval.Kz rval.QZ (by kernel_rfl) rfl rfl (fun w0 H0 T U h=>?_)
              refine rP 1 (some 96) T ?_;refine rT 0 (some 95) T U h ?_;refine rT 2 (some 97) T U h ?_
              clear h;refine rC 3 (some 98) T HS H0 Tryz.func139 (h0 _ H0.out) (fun w1 H1 h=>?_) (by kernel_rfl)
              refine rP 4 (some 99) T ?_;refine rP 5 (some 100) T ?_;refine rP 7 (some 102) T ?_;refine rT 6 (some 101) T U h ?_;refine rT 8 (some 103) T U h ?_
              clear h;refine rC 9 (some 104) T HS H1 Tryz.func139 (h1 _ H1.out) (fun w2 H2 h=>?_) (by kernel_rfl)
              refine rP 10 (some 105) T ?_;refine rP 11 (some 106) T ?_;refine rP 12 (some 107) T ?_;refine rP 14 (some 109) T ?_;refine rT 13 (some 108) T U h ?_;refine rT 15 (some 110) T U h ?_
              clear h;refine rC 16 (some 111) T HS H2 Tryz.func139 (h2 _ H2.out) (fun w3 H3 h=>?_) (by kernel_rfl)
              refine rP 17 (some 112) T ?_;refine rP 18 (some 113) T ?_;refine rP 19 (some 114) T ?_;refine rP 20 (some 115) T ?_;refine rP 21 (some 116) T ?_;refine rP 22 (some 117) T ?_;refine rP 23 (some 118) T ?_;refine rP 25 (some 120) T ?_;refine rP 26 (some 121) T ?_;refine rP 30 (some 125) T ?_;refine rP 32 (some 127) T ?_;refine rP 33 (some 128) T ?_;refine rP 37 (some 132) T ?_;refine rP 39 (some 134) T ?_;refine rT 24 (some 119) T U h ?_;refine rP 27 (some 122) T ?_;refine rP 28 (some 123) T ?_;refine rT 29 (some 124) T U h ?_;refine rT 31 (some 126) T U h ?_;refine rP 34 (some 129) T ?_;refine rP 35 (some 130) T ?_;refine rT 36 (some 131) T U h ?_;refine rT 38 (some 133) T U h ?_;refine rT 40 (some 135) T U h ?_
              clear h;refine rC 41 (some 136) T HS H3 Tryz.func140 (hah _) (fun w4 H4 h=>?_) (by kernel_rfl)
              refine rP 42 (some 137) T ?_;refine rP 43 (some 138) T ?_;refine rP 44 (some 139) T ?_
              refine xP (qH T.out (by kernel_rfl)) ?_;have wQ:=xA.out.trans (H4.out.mono xA.out.size);clear h;try go_wp2
              go_roundw
              case rel=>exact ⟨m + 1 + 1,by first | rfl | (simp;done) | go_num,by omega,⟨wQ⟩,⟨fun j hj=>(Nat.lt_succ_iff_lt_or_eq.1 hj).elim (HK4.out j) (fun e=>by rw [e];exact hok2)⟩⟩
              case measure=>simp [intOf];omega
          · obtain rfl:i = l4.length:=by omega
            have q2:decide ((l4.length:Int) < (l4.length:Int)) = false:=decide_eq_false (by omega)
            have q1:¬ (l4.length:Int) < (l4.length:Int):=by omega
            have jO:zx (V = ((List.range l5.length).all (Vx l3 l5))):=⟨by rw [jO.out,zqt HK4.out,Bool.true_and]⟩
            go_wp2
            go_loopw [7] (fun y W=>∃ i:Nat,y = .int .i64 (i:Int) ∧ i ≤ l5.length ∧ zx (Below (w.alloc (.cells #[.string a,.bool b,.int .i64 c,.slice A3 l3.length c3,.slice A4 l4.length c4,.slice A5 l5.length c5] 101)).heap.size (w.alloc (.cells #[.string a,.bool b,.int .i64 c,.slice A3 l3.length c3,.slice A4 l4.length c4,.slice A5 l5.length c5] 101)) W) ∧ zx (∀ j,j < i → Vx l3 l5 j = true)) (fun y _=>l5.length - (intOf y).toNat)
            case atStart=>exact ⟨0,rfl,Nat.zero_le _,Ke,⟨fun _ h=>absurd h (Nat.not_lt_zero _)⟩⟩
            case round =>
              skip
              obtain ⟨i,rfl,hi,P7,HK5⟩:=hrel
              have hcf:=(zQ (HF.out _ P7.out) 5).trans rfl
              by_cases hlt:i < l5.length
              · have hC:=Kd.zu H5.out (HW.out _ P7.out)
                have hbX:Below wr.heap.size wr (wr.alloc (.cells #[] 0)):=(Below.refl _ wr).alloc (Nat.le_refl _) _
                clear hbX
                obtain ⟨ad,e,x0,x1,x2⟩:=Vs hC (i:Int) (by omega) (by omega)
                have hA:=e
                rw [Int.toNat_natCast] at x0 x1 x2
                have hlA:w.heap.size < wr.heap.size:=pI (HF.out _ P7.out)
                rcases Nat.eq_zero_or_pos i with hi0 | hi0
                · subst hi0
                  simp only [Nat.zero_mul,Addr.add_zero'] at x0 x1 x2
                  have hok:Vx l3 l5 0 = (ko l3 (xQ l5 ((0:Nat):Int)).f0 && (ko l3 (xQ l5 ((0:Nat):Int)).f1 && (!decide ((xQ l5 ((0:Nat):Int)).f2 = 0) && (!decide ((xQ l5 ((0:Nat):Int)).f2 < -500) && (!decide (500 < (xQ l5 ((0:Nat):Int)).f2) && true))))):=by
                    unfold Vx
                    rw [decide_eq_true rfl,Bool.true_or]
                  have hzx:(xQ l5 ((0:Nat):Int)) ∈ l5:=by
                    have e9:xQ l5 ((0:Nat):Int) = l5[0]:=by simp only [xQ,Int.toNat_natCast,List.getD_eq_getElem?_getD,List.getElem?_eq_getElem hlt,Option.getD_some]
                    rw [e9];exact List.getElem_mem hlt
                  generalize xQ l5 ((0:Nat):Int) = x at x0 x1 x2 hok hzx
                  have q1:(0:Int) < (l5.length:Int):=by omega
                  have q6:decide ((0:Int) < (l5.length:Int)) = true:=decide_eq_true q1
                  rw [hA] at hcf
                  clear hzx
                  go_wp2_with fail
                  have hbX:Below wr.heap.size wr (wr.alloc (.cells #[.string x.f0,.string x.f1,.int .i64 x.f2] 112)):=(Below.refl _ wr).alloc (Nat.le_refl _) _
                  have xA:=zx.mk (P7.out.trans (hbX.mono P7.out.size))
                  have hbk:=kF wr (.cells #[.string x.f0,.string x.f1,.int .i64 x.f2] 112)
                  have hX0:(wr.alloc (.cells #[.string x.f0,.string x.f1,.int .i64 x.f2] 112)).cell? ⟨wr.heap.size,0,none⟩ = some (.string x.f0):=(zQ hbk 0).trans rfl
                  have hX1:(wr.alloc (.cells #[.string x.f0,.string x.f1,.int .i64 x.f2] 112)).cell? ⟨wr.heap.size,1,none⟩ = some (.string x.f1):=(zQ hbk 1).trans rfl
                  have hX2:(wr.alloc (.cells #[.string x.f0,.string x.f1,.int .i64 x.f2] 112)).cell? ⟨wr.heap.size,2,none⟩ = some (.int .i64 x.f2):=(zQ hbk 2).trans rfl
                  have dS:(wr.alloc (.cells #[.string x.f0,.string x.f1,.int .i64 x.f2] 112)).cell? ⟨w.heap.size,0,none⟩ = some (.string a):=(zQ (HF.out _ xA.out) 0).trans rfl
                  have hF1:(wr.alloc (.cells #[.string x.f0,.string x.f1,.int .i64 x.f2] 112)).cell? ⟨w.heap.size,1,none⟩ = some (.bool b):=(zQ (HF.out _ xA.out) 1).trans rfl
                  have hF2:(wr.alloc (.cells #[.string x.f0,.string x.f1,.int .i64 x.f2] 112)).cell? ⟨w.heap.size,2,none⟩ = some (.int .i64 c):=(zQ (HF.out _ xA.out) 2).trans rfl
                  have Pp:(wr.alloc (.cells #[.string x.f0,.string x.f1,.int .i64 x.f2] 112)).cell? ⟨w.heap.size,3,none⟩ = some (.slice A3 l3.length c3):=(zQ (HF.out _ xA.out) 3).trans rfl
                  have dU:(wr.alloc (.cells #[.string x.f0,.string x.f1,.int .i64 x.f2] 112)).cell? ⟨w.heap.size,4,none⟩ = some (.slice A4 l4.length c4):=(zQ (HF.out _ xA.out) 4).trans rfl
                  have gq:(wr.alloc (.cells #[.string x.f0,.string x.f1,.int .i64 x.f2] 112)).cell? ⟨w.heap.size,5,none⟩ = some (.slice (some ad) l5.length c5):=(zQ (HF.out _ xA.out) 5).trans (by rw [hA];rfl)
                  have hq:=fun (W:World) (n:ByteArray) (h:Below (wr.alloc (.cells #[.string x.f0,.string x.f1,.int .i64 x.f2] 112)).heap.size (wr.alloc (.cells #[.string x.f0,.string x.f1,.int .i64 x.f2] 112)) W)=>zkt a b c A3 c3 l3 A4 c4 l4 A5 c5 l5 n W (Kd.zu H3.out ((HW.out _ xA.out).trans (h.mono (HW.out _ xA.out).size))) G3.out (Kd.zu H4.out ((HW.out _ xA.out).trans (h.mono (HW.out _ xA.out).size))) G4.out (Kd.zu H5.out ((HW.out _ xA.out).trans (h.mono (HW.out _ xA.out).size))) G5.out hl3
                  rw [hA] at hq
                  clear hbk hbX x0 x1 x2  hC hcf
                  generalize wr.heap.size = g4 at hX0 hlA hX1 hX2 ⊢
                  generalize (wr.alloc (.cells #[.string x.f0,.string x.f1,.int .i64 x.f2] 112)) = X at xA hX0 hX1 hX2 dS hF1 hF2 Pp dU gq hq ⊢
                  have HS:=zx.mk (fun (W:World) (h:Below X.heap.size X W)=>(show W.cell? ⟨g4,0,none⟩ = some (.string x.f0) ∧ W.cell? ⟨g4,1,none⟩ = some (.string x.f1) ∧ W.cell? ⟨g4,2,none⟩ = some (.int .i64 x.f2) ∧ W.cell? ⟨w.heap.size,0,none⟩ = some (.string a) ∧ W.cell? ⟨w.heap.size,1,none⟩ = some (.bool b) ∧ W.cell? ⟨w.heap.size,2,none⟩ = some (.int .i64 c) ∧ W.cell? ⟨w.heap.size,3,none⟩ = some (.slice A3 l3.length c3) ∧ W.cell? ⟨w.heap.size,4,none⟩ = some (.slice A4 l4.length c4) ∧ W.cell? ⟨w.heap.size,5,none⟩ = some (.slice (some ad) l5.length c5) from ⟨(h.cell (World.block_lt_of_cell? X _ hX0)).trans hX0,(h.cell (World.block_lt_of_cell? X _ hX1)).trans hX1,(h.cell (World.block_lt_of_cell? X _ hX2)).trans hX2,(h.cell (World.block_lt_of_cell? X _ dS)).trans dS,(h.cell (World.block_lt_of_cell? X _ hF1)).trans hF1,(h.cell (World.block_lt_of_cell? X _ hF2)).trans hF2,(h.cell (World.block_lt_of_cell? X _ Pp)).trans Pp,(h.cell (World.block_lt_of_cell? X _ dU)).trans dU,(h.cell (World.block_lt_of_cell? X _ gq)).trans gq⟩))
                  cases r0:ko l3 x.f0 with
                  | false =>
                    have h0:=fun (W:World) (h:Below X.heap.size X W)=>hq W x.f0 h
                    simp only [r0] at h0
                    as_aux_lemma =>
                     have hv:V = false:=by
                       rw [jO.out,uH (i:=0) hlt (by rw [hok,r0];simp)]
                       done
                     subst hv
                     refine rS (n:=53) HS rval.XY rval.Yx (by kernel_rfl) rfl rfl (fun w0 H0 T U h=>?_)
                     refine rP 1 (some 153) T ?_;refine rT 0 (some 152) T U h ?_;refine rT 2 (some 154) T U h ?_
                     clear h;refine rC 3 (some 155) T HS H0 Tryz.func139 (h0 _ H0.out) (fun w1 H1 h=>?_) (by kernel_rfl)
                     refine rP 4 (some 156) T ?_;refine rP 5 (some 157) T ?_;refine rU 6 (some 158) T ?_;refine rU 7 (some 159) T ?_;refine rU 8 (some 160) T ?_;refine rU 9 (some 161) T ?_;refine rU 10 (some 162) T ?_;refine rP 11 (some 163) T ?_;refine rP 12 (some 164) T ?_;refine rU 13 (some 165) T ?_;refine rU 14 (some 166) T ?_;refine rU 15 (some 167) T ?_;refine rP 16 (some 168) T ?_;refine rP 17 (some 169) T ?_;refine rU 18 (some 170) T ?_;refine rU 19 (some 171) T ?_;refine rU 20 (some 172) T ?_;refine rP 21 (some 173) T ?_;refine rP 22 (some 174) T ?_;refine rU 23 (some 175) T ?_;refine rU 24 (some 176) T ?_;refine rU 25 (some 177) T ?_;refine rP 26 (some 178) T ?_;refine rP 27 (some 179) T ?_;refine rU 28 (some 180) T ?_;refine rU 29 (some 181) T ?_;refine rU 30 (some 182) T ?_;refine rU 31 (some 183) T ?_;refine rU 32 (some 184) T ?_;refine rU 33 (some 185) T ?_;refine rU 34 (some 186) T ?_;refine rU 35 (some 187) T ?_;refine rU 36 (some 188) T ?_;refine rU 37 (some 189) T ?_;refine rU 38 (some 190) T ?_;refine rU 39 (some 191) T ?_;refine rU 40 (some 192) T ?_;refine rU 41 (some 193) T ?_;refine rU 42 (some 194) T ?_;refine rU 43 (some 195) T ?_;refine rU 44 (some 196) T ?_;refine rU 45 (some 197) T ?_;refine rU 46 (some 198) T ?_;refine rU 47 (some 199) T ?_;refine rU 48 (some 200) T ?_;refine rU 49 (some 201) T ?_;refine rU 50 (some 202) T ?_;refine rU 51 (some 203) T ?_;refine rP 52 (some 204) T ?_
                     refine xP (qH T.out (by kernel_rfl)) ?_;have wQ:=xA.out.trans (H1.out.mono xA.out.size);clear h;try go_wp2
                     go_ret
                     exact ⟨rfl,HW.out _ wQ⟩
                  | true =>
                  have h0:=fun (W:World) (h:Below X.heap.size X W)=>hq W x.f0 h
                  simp only [r0] at h0
                  cases r1:ko l3 x.f1 with
                  | false =>
                    have h1:=fun (W:World) (h:Below X.heap.size X W)=>hq W x.f1 h
                    simp only [r1] at h1
                    as_aux_lemma =>
                     have hv:V = false:=by
                       rw [jO.out,uH (i:=0) hlt (by rw [hok,r0,r1];simp)]
                       done
                     subst hv
                     refine rS (n:=53) HS rval.XY rval.Yx (by kernel_rfl) rfl rfl (fun w0 H0 T U h=>?_)
                     refine rP 1 (some 153) T ?_;refine rT 0 (some 152) T U h ?_;refine rT 2 (some 154) T U h ?_
                     clear h;refine rC 3 (some 155) T HS H0 Tryz.func139 (h0 _ H0.out) (fun w1 H1 h=>?_) (by kernel_rfl)
                     refine rP 4 (some 156) T ?_;refine rP 5 (some 157) T ?_;refine rP 7 (some 159) T ?_;refine rT 6 (some 158) T U h ?_;refine rT 8 (some 160) T U h ?_
                     clear h;refine rC 9 (some 161) T HS H1 Tryz.func139 (h1 _ H1.out) (fun w2 H2 h=>?_) (by kernel_rfl)
                     refine rP 10 (some 162) T ?_;refine rP 11 (some 163) T ?_;refine rP 12 (some 164) T ?_;refine rU 13 (some 165) T ?_;refine rU 14 (some 166) T ?_;refine rU 15 (some 167) T ?_;refine rP 16 (some 168) T ?_;refine rP 17 (some 169) T ?_;refine rU 18 (some 170) T ?_;refine rU 19 (some 171) T ?_;refine rU 20 (some 172) T ?_;refine rP 21 (some 173) T ?_;refine rP 22 (some 174) T ?_;refine rU 23 (some 175) T ?_;refine rU 24 (some 176) T ?_;refine rU 25 (some 177) T ?_;refine rP 26 (some 178) T ?_;refine rP 27 (some 179) T ?_;refine rU 28 (some 180) T ?_;refine rU 29 (some 181) T ?_;refine rU 30 (some 182) T ?_;refine rU 31 (some 183) T ?_;refine rU 32 (some 184) T ?_;refine rU 33 (some 185) T ?_;refine rU 34 (some 186) T ?_;refine rU 35 (some 187) T ?_;refine rU 36 (some 188) T ?_;refine rU 37 (some 189) T ?_;refine rU 38 (some 190) T ?_;refine rU 39 (some 191) T ?_;refine rU 40 (some 192) T ?_;refine rU 41 (some 193) T ?_;refine rU 42 (some 194) T ?_;refine rU 43 (some 195) T ?_;refine rU 44 (some 196) T ?_;refine rU 45 (some 197) T ?_;refine rU 46 (some 198) T ?_;refine rU 47 (some 199) T ?_;refine rU 48 (some 200) T ?_;refine rU 49 (some 201) T ?_;refine rU 50 (some 202) T ?_;refine rU 51 (some 203) T ?_;refine rP 52 (some 204) T ?_
                     refine xP (qH T.out (by kernel_rfl)) ?_;have wQ:=xA.out.trans (H2.out.mono xA.out.size);clear h;try go_wp2
                     go_ret
                     exact ⟨rfl,HW.out _ wQ⟩
                  | true =>
                  have h1:=fun (W:World) (h:Below X.heap.size X W)=>hq W x.f1 h
                  simp only [r1] at h1
                  by_cases tz:x.f2 = 0
                  · have dz:decide (x.f2 = 0) = true:=decide_eq_true tz
                    have dz2:(x.f2 == 0) = true:=beq_iff_eq.2 tz
                    as_aux_lemma =>
                     have hv:V = false:=by
                       rw [jO.out,uH (i:=0) hlt (by rw [hok,r0,r1,dz];simp)]
                       done
                     subst hv
                     refine rS (n:=53) HS rval.XY rval.Yx (by kernel_rfl) rfl rfl (fun w0 H0 T U h=>?_)
                     refine rP 1 (some 153) T ?_;refine rT 0 (some 152) T U h ?_;refine rT 2 (some 154) T U h ?_
                     clear h;refine rC 3 (some 155) T HS H0 Tryz.func139 (h0 _ H0.out) (fun w1 H1 h=>?_) (by kernel_rfl)
                     refine rP 4 (some 156) T ?_;refine rP 5 (some 157) T ?_;refine rP 7 (some 159) T ?_;refine rT 6 (some 158) T U h ?_;refine rT 8 (some 160) T U h ?_
                     clear h;refine rC 9 (some 161) T HS H1 Tryz.func139 (h1 _ H1.out) (fun w2 H2 h=>?_) (by kernel_rfl)
                     refine rP 10 (some 162) T ?_;refine rP 11 (some 163) T ?_;refine rP 12 (some 164) T ?_;refine rP 13 (some 165) T ?_;refine rT 14 (some 166) T U h ?_;refine rP 15 (some 167) T ?_;refine rP 16 (some 168) T ?_;refine rP 17 (some 169) T ?_;refine rU 18 (some 170) T ?_;refine rU 19 (some 171) T ?_;refine rU 20 (some 172) T ?_;refine rP 21 (some 173) T ?_;refine rP 22 (some 174) T ?_;refine rU 23 (some 175) T ?_;refine rU 24 (some 176) T ?_;refine rU 25 (some 177) T ?_;refine rP 26 (some 178) T ?_;refine rP 27 (some 179) T ?_;refine rU 28 (some 180) T ?_;refine rU 29 (some 181) T ?_;refine rU 30 (some 182) T ?_;refine rU 31 (some 183) T ?_;refine rU 32 (some 184) T ?_;refine rU 33 (some 185) T ?_;refine rU 34 (some 186) T ?_;refine rU 35 (some 187) T ?_;refine rU 36 (some 188) T ?_;refine rU 37 (some 189) T ?_;refine rU 38 (some 190) T ?_;refine rU 39 (some 191) T ?_;refine rU 40 (some 192) T ?_;refine rU 41 (some 193) T ?_;refine rU 42 (some 194) T ?_;refine rU 43 (some 195) T ?_;refine rU 44 (some 196) T ?_;refine rU 45 (some 197) T ?_;refine rU 46 (some 198) T ?_;refine rU 47 (some 199) T ?_;refine rU 48 (some 200) T ?_;refine rU 49 (some 201) T ?_;refine rU 50 (some 202) T ?_;refine rU 51 (some 203) T ?_;refine rP 52 (some 204) T ?_
                     refine xP (qH T.out (by kernel_rfl)) ?_;have wQ:=xA.out.trans (H2.out.mono xA.out.size);clear h;try go_wp2
                     go_ret
                     exact ⟨rfl,HW.out _ wQ⟩
                  have dz:decide (x.f2 = 0) = false:=decide_eq_false tz
                  have dz2:(x.f2 == 0) = false:=beq_eq_false_iff_ne.2 tz
                  by_cases tlt:x.f2 < -500
                  · have dlt:decide (x.f2 < -500) = true:=decide_eq_true tlt
                    skip
                    as_aux_lemma =>
                     have hv:V = false:=by
                       rw [jO.out,uH (i:=0) hlt (by rw [hok,r0,r1,dz,dlt];simp)]
                       done
                     subst hv
                     refine rS (n:=53) HS rval.XY rval.Yx (by kernel_rfl) rfl rfl (fun w0 H0 T U h=>?_)
                     refine rP 1 (some 153) T ?_;refine rT 0 (some 152) T U h ?_;refine rT 2 (some 154) T U h ?_
                     clear h;refine rC 3 (some 155) T HS H0 Tryz.func139 (h0 _ H0.out) (fun w1 H1 h=>?_) (by kernel_rfl)
                     refine rP 4 (some 156) T ?_;refine rP 5 (some 157) T ?_;refine rP 7 (some 159) T ?_;refine rT 6 (some 158) T U h ?_;refine rT 8 (some 160) T U h ?_
                     clear h;refine rC 9 (some 161) T HS H1 Tryz.func139 (h1 _ H1.out) (fun w2 H2 h=>?_) (by kernel_rfl)
                     refine rP 10 (some 162) T ?_;refine rP 11 (some 163) T ?_;refine rP 12 (some 164) T ?_;refine rP 13 (some 165) T ?_;refine rT 14 (some 166) T U h ?_;refine rP 15 (some 167) T ?_;refine rP 16 (some 168) T ?_;refine rP 17 (some 169) T ?_;refine rP 18 (some 170) T ?_;refine rT 19 (some 171) T U h ?_;refine rP 20 (some 172) T ?_;refine rP 21 (some 173) T ?_;refine rP 22 (some 174) T ?_;refine rU 23 (some 175) T ?_;refine rU 24 (some 176) T ?_;refine rU 25 (some 177) T ?_;refine rP 26 (some 178) T ?_;refine rP 27 (some 179) T ?_;refine rU 28 (some 180) T ?_;refine rU 29 (some 181) T ?_;refine rU 30 (some 182) T ?_;refine rU 31 (some 183) T ?_;refine rU 32 (some 184) T ?_;refine rU 33 (some 185) T ?_;refine rU 34 (some 186) T ?_;refine rU 35 (some 187) T ?_;refine rU 36 (some 188) T ?_;refine rU 37 (some 189) T ?_;refine rU 38 (some 190) T ?_;refine rU 39 (some 191) T ?_;refine rU 40 (some 192) T ?_;refine rU 41 (some 193) T ?_;refine rU 42 (some 194) T ?_;refine rU 43 (some 195) T ?_;refine rU 44 (some 196) T ?_;refine rU 45 (some 197) T ?_;refine rU 46 (some 198) T ?_;refine rU 47 (some 199) T ?_;refine rU 48 (some 200) T ?_;refine rU 49 (some 201) T ?_;refine rU 50 (some 202) T ?_;refine rU 51 (some 203) T ?_;refine rP 52 (some 204) T ?_
                     refine xP (qH T.out (by kernel_rfl)) ?_;have wQ:=xA.out.trans (H2.out.mono xA.out.size);clear h;try go_wp2
                     go_ret
                     exact ⟨rfl,HW.out _ wQ⟩
                  have dlt:decide (x.f2 < -500) = false:=decide_eq_false tlt
                  skip
                  by_cases tgt:500 < x.f2
                  · have dgt:decide (500 < x.f2) = true:=decide_eq_true tgt
                    skip
                    as_aux_lemma =>
                     have hv:V = false:=by
                       rw [jO.out,uH (i:=0) hlt (by rw [hok,r0,r1,dz,dlt,dgt];simp)]
                       done
                     subst hv
                     refine rS (n:=53) HS rval.XY rval.Yx (by kernel_rfl) rfl rfl (fun w0 H0 T U h=>?_)
                     refine rP 1 (some 153) T ?_;refine rT 0 (some 152) T U h ?_;refine rT 2 (some 154) T U h ?_
                     clear h;refine rC 3 (some 155) T HS H0 Tryz.func139 (h0 _ H0.out) (fun w1 H1 h=>?_) (by kernel_rfl)
                     refine rP 4 (some 156) T ?_;refine rP 5 (some 157) T ?_;refine rP 7 (some 159) T ?_;refine rT 6 (some 158) T U h ?_;refine rT 8 (some 160) T U h ?_
                     clear h;refine rC 9 (some 161) T HS H1 Tryz.func139 (h1 _ H1.out) (fun w2 H2 h=>?_) (by kernel_rfl)
                     refine rP 10 (some 162) T ?_;refine rP 11 (some 163) T ?_;refine rP 12 (some 164) T ?_;refine rP 13 (some 165) T ?_;refine rT 14 (some 166) T U h ?_;refine rP 15 (some 167) T ?_;refine rP 16 (some 168) T ?_;refine rP 17 (some 169) T ?_;refine rP 18 (some 170) T ?_;refine rT 19 (some 171) T U h ?_;refine rP 20 (some 172) T ?_;refine rP 21 (some 173) T ?_;refine rP 22 (some 174) T ?_;refine rP 23 (some 175) T ?_;refine rT 24 (some 176) T U h ?_;refine rP 25 (some 177) T ?_;refine rP 26 (some 178) T ?_;refine rP 27 (some 179) T ?_;refine rU 28 (some 180) T ?_;refine rU 29 (some 181) T ?_;refine rU 30 (some 182) T ?_;refine rU 31 (some 183) T ?_;refine rU 32 (some 184) T ?_;refine rU 33 (some 185) T ?_;refine rU 34 (some 186) T ?_;refine rU 35 (some 187) T ?_;refine rU 36 (some 188) T ?_;refine rU 37 (some 189) T ?_;refine rU 38 (some 190) T ?_;refine rU 39 (some 191) T ?_;refine rU 40 (some 192) T ?_;refine rU 41 (some 193) T ?_;refine rU 42 (some 194) T ?_;refine rU 43 (some 195) T ?_;refine rU 44 (some 196) T ?_;refine rU 45 (some 197) T ?_;refine rU 46 (some 198) T ?_;refine rU 47 (some 199) T ?_;refine rU 48 (some 200) T ?_;refine rU 49 (some 201) T ?_;refine rU 50 (some 202) T ?_;refine rU 51 (some 203) T ?_;refine rP 52 (some 204) T ?_
                     refine xP (qH T.out (by kernel_rfl)) ?_;have wQ:=xA.out.trans (H2.out.mono xA.out.size);clear h;try go_wp2
                     go_ret
                     exact ⟨rfl,HW.out _ wQ⟩
                  have dgt:decide (500 < x.f2) = false:=decide_eq_false tgt
                  skip
                  as_aux_lemma =>
                  have hok2:Vx l3 l5 0 = true:=by rw [hok,r0,r1,dz,dlt,dgt];rfl
                  refine rS (n:=53) HS rval.XY rval.Yx (by kernel_rfl) rfl rfl (fun w0 H0 T U h=>?_)
                  refine rP 1 (some 153) T ?_;refine rT 0 (some 152) T U h ?_;refine rT 2 (some 154) T U h ?_
                  clear h;refine rC 3 (some 155) T HS H0 Tryz.func139 (h0 _ H0.out) (fun w1 H1 h=>?_) (by kernel_rfl)
                  refine rP 4 (some 156) T ?_;refine rP 5 (some 157) T ?_;refine rP 7 (some 159) T ?_;refine rT 6 (some 158) T U h ?_;refine rT 8 (some 160) T U h ?_
                  clear h;refine rC 9 (some 161) T HS H1 Tryz.func139 (h1 _ H1.out) (fun w2 H2 h=>?_) (by kernel_rfl)
                  refine rP 10 (some 162) T ?_;refine rP 11 (some 163) T ?_;refine rP 12 (some 164) T ?_;refine rP 13 (some 165) T ?_;refine rT 14 (some 166) T U h ?_;refine rP 15 (some 167) T ?_;refine rP 16 (some 168) T ?_;refine rP 17 (some 169) T ?_;refine rP 18 (some 170) T ?_;refine rT 19 (some 171) T U h ?_;refine rP 20 (some 172) T ?_;refine rP 21 (some 173) T ?_;refine rP 22 (some 174) T ?_;refine rP 23 (some 175) T ?_;refine rT 24 (some 176) T U h ?_;refine rP 25 (some 177) T ?_;refine rP 26 (some 178) T ?_;refine rP 27 (some 179) T ?_;refine rP 28 (some 180) T ?_;refine rP 29 (some 181) T ?_;refine rP 30 (some 182) T ?_;refine rU 31 (some 183) T ?_;refine rU 32 (some 184) T ?_;refine rU 33 (some 185) T ?_;refine rU 34 (some 186) T ?_;refine rU 35 (some 187) T ?_;refine rU 36 (some 188) T ?_;refine rU 37 (some 189) T ?_;refine rU 38 (some 190) T ?_;refine rU 39 (some 191) T ?_;refine rU 40 (some 192) T ?_;refine rU 41 (some 193) T ?_;refine rU 42 (some 194) T ?_;refine rU 43 (some 195) T ?_;refine rU 44 (some 196) T ?_;refine rU 45 (some 197) T ?_;refine rU 46 (some 198) T ?_;refine rU 47 (some 199) T ?_;refine rU 48 (some 200) T ?_;refine rU 49 (some 201) T ?_;refine rU 50 (some 202) T ?_;refine rP 51 (some 203) T ?_;refine rP 52 (some 204) T ?_
                  refine xP (qH T.out (by kernel_rfl)) ?_;have wQ:=xA.out.trans (H2.out.mono xA.out.size);clear h;try go_wp2
                  go_roundw
                  case rel=>exact ⟨0 + 1,by first | rfl | (simp;done) | go_num,by omega,⟨wQ⟩,⟨fun j hj=>(Nat.lt_succ_iff_lt_or_eq.1 hj).elim (HK5.out j) (fun e=>by rw [e];exact hok2)⟩⟩
                  case measure=>simp [intOf];omega
                · obtain ⟨m,rfl⟩:∃ m,i = m + 1:=⟨i - 1,by omega⟩
                  obtain ⟨ad2,e2,y0,y1,y2⟩:=Vs hC (m:Int) (by omega) (by omega)
                  have e3:ad = ad2:=by rw [hA] at e2;injection e2 with e2
                  subst e3
                  rw [Int.toNat_natCast] at y0 y1 y2
                  have hpr:(((m + 1:Nat):Int) - 1) = (m:Int):=by omega
                  have hok:Vx l3 l5 (m + 1) = (ko l3 (xQ l5 (((m + 1):Nat):Int)).f0 && (ko l3 (xQ l5 (((m + 1):Nat):Int)).f1 && (!decide ((xQ l5 (((m + 1):Nat):Int)).f2 = 0) && (!decide ((xQ l5 (((m + 1):Nat):Int)).f2 < -500) && (!decide (500 < (xQ l5 (((m + 1):Nat):Int)).f2) && VZ (xQ l5 (m:Int)).f0 (xQ l5 (m:Int)).f1 (xQ l5 (((m + 1):Nat):Int)).f0 (xQ l5 (((m + 1):Nat):Int)).f1))))):=by
                    unfold Vx
                    rw [decide_eq_false (by omega:¬ m + 1 = 0),Bool.false_or,hpr]
                  have hzx:(xQ l5 (((m + 1):Nat):Int)) ∈ l5:=by
                    have e9:xQ l5 (((m + 1):Nat):Int) = l5[(m + 1)]:=by simp only [xQ,Int.toNat_natCast,List.getD_eq_getElem?_getD,List.getElem?_eq_getElem hlt,Option.getD_some]
                    rw [e9];exact List.getElem_mem hlt
                  generalize xQ l5 (((m + 1):Nat):Int) = x at x0 x1 x2 hok hzx
                  generalize xQ l5 (m:Int) = p at y0 y1 y2 hok
                  have e1:IntKind.i64.wrap (((m:Int) + 1) - 1) = (m:Int):=by rw [Int.add_sub_cancel];exact IntWalk.i64_in _ (by omega)
                  have q1:(m:Int) < (l5.length:Int):=by omega
                  have q2:(m:Int) + 1 < (l5.length:Int):=by omega
                  have q3:((m:Int) + 1).toNat = m + 1:=by omega
                  have q4:(0:Int) ≤ (m:Int) + 1:=by omega
                  have e0:IntKind.i64.wrap (m:Int) = (m:Int):=IntWalk.i64_in _ (by omega)
                  have q5:(0:Int) ≤ (m:Int):=by omega
                  have q7:decide (0 < (m:Int) + 1) = true:=decide_eq_true (by omega)
                  have q8:decide ((m:Int) + 1 < (l5.length:Int)) = true:=decide_eq_true q2
                  rw [hA] at hcf
                  clear hzx
                  go_wp2_with fail
                  have hbX:Below wr.heap.size wr (wr.alloc (.cells #[.string x.f0,.string x.f1,.int .i64 x.f2] 112)):=(Below.refl _ wr).alloc (Nat.le_refl _) _
                  have xA:=zx.mk (P7.out.trans (hbX.mono P7.out.size))
                  have hbk:=kF wr (.cells #[.string x.f0,.string x.f1,.int .i64 x.f2] 112)
                  have hX0:(wr.alloc (.cells #[.string x.f0,.string x.f1,.int .i64 x.f2] 112)).cell? ⟨wr.heap.size,0,none⟩ = some (.string x.f0):=(zQ hbk 0).trans rfl
                  have hX1:(wr.alloc (.cells #[.string x.f0,.string x.f1,.int .i64 x.f2] 112)).cell? ⟨wr.heap.size,1,none⟩ = some (.string x.f1):=(zQ hbk 1).trans rfl
                  have hX2:(wr.alloc (.cells #[.string x.f0,.string x.f1,.int .i64 x.f2] 112)).cell? ⟨wr.heap.size,2,none⟩ = some (.int .i64 x.f2):=(zQ hbk 2).trans rfl
                  have dS:(wr.alloc (.cells #[.string x.f0,.string x.f1,.int .i64 x.f2] 112)).cell? ⟨w.heap.size,0,none⟩ = some (.string a):=(zQ (HF.out _ xA.out) 0).trans rfl
                  have hF1:(wr.alloc (.cells #[.string x.f0,.string x.f1,.int .i64 x.f2] 112)).cell? ⟨w.heap.size,1,none⟩ = some (.bool b):=(zQ (HF.out _ xA.out) 1).trans rfl
                  have hF2:(wr.alloc (.cells #[.string x.f0,.string x.f1,.int .i64 x.f2] 112)).cell? ⟨w.heap.size,2,none⟩ = some (.int .i64 c):=(zQ (HF.out _ xA.out) 2).trans rfl
                  have Pp:(wr.alloc (.cells #[.string x.f0,.string x.f1,.int .i64 x.f2] 112)).cell? ⟨w.heap.size,3,none⟩ = some (.slice A3 l3.length c3):=(zQ (HF.out _ xA.out) 3).trans rfl
                  have dU:(wr.alloc (.cells #[.string x.f0,.string x.f1,.int .i64 x.f2] 112)).cell? ⟨w.heap.size,4,none⟩ = some (.slice A4 l4.length c4):=(zQ (HF.out _ xA.out) 4).trans rfl
                  have gq:(wr.alloc (.cells #[.string x.f0,.string x.f1,.int .i64 x.f2] 112)).cell? ⟨w.heap.size,5,none⟩ = some (.slice (some ad) l5.length c5):=(zQ (HF.out _ xA.out) 5).trans (by rw [hA];rfl)
                  have hP0:=(hbX.cell (World.block_lt_of_cell? wr _ y0)).trans y0
                  have hP1:=(hbX.cell (World.block_lt_of_cell? wr _ y1)).trans y1
                  have hq:=fun (W:World) (n:ByteArray) (h:Below (wr.alloc (.cells #[.string x.f0,.string x.f1,.int .i64 x.f2] 112)).heap.size (wr.alloc (.cells #[.string x.f0,.string x.f1,.int .i64 x.f2] 112)) W)=>zkt a b c A3 c3 l3 A4 c4 l4 A5 c5 l5 n W (Kd.zu H3.out ((HW.out _ xA.out).trans (h.mono (HW.out _ xA.out).size))) G3.out (Kd.zu H4.out ((HW.out _ xA.out).trans (h.mono (HW.out _ xA.out).size))) G4.out (Kd.zu H5.out ((HW.out _ xA.out).trans (h.mono (HW.out _ xA.out).size))) G5.out hl3
                  rw [hA] at hq
                  clear hbk hbX x0 x1 x2 y0 y1 y2 hC hcf
                  generalize wr.heap.size = g4 at hX0 hlA hX1 hX2 ⊢
                  generalize (wr.alloc (.cells #[.string x.f0,.string x.f1,.int .i64 x.f2] 112)) = X at xA hX0 hX1 hX2 dS hF1 hF2 Pp dU gq hP0 hP1 hq ⊢
                  have HS:=zx.mk (fun (W:World) (h:Below X.heap.size X W)=>(show W.cell? ⟨g4,0,none⟩ = some (.string x.f0) ∧ W.cell? ⟨g4,1,none⟩ = some (.string x.f1) ∧ W.cell? ⟨g4,2,none⟩ = some (.int .i64 x.f2) ∧ W.cell? ⟨w.heap.size,0,none⟩ = some (.string a) ∧ W.cell? ⟨w.heap.size,1,none⟩ = some (.bool b) ∧ W.cell? ⟨w.heap.size,2,none⟩ = some (.int .i64 c) ∧ W.cell? ⟨w.heap.size,3,none⟩ = some (.slice A3 l3.length c3) ∧ W.cell? ⟨w.heap.size,4,none⟩ = some (.slice A4 l4.length c4) ∧ W.cell? ⟨w.heap.size,5,none⟩ = some (.slice (some ad) l5.length c5) ∧ W.cell? (ad.add (m * 3)) = some (.string p.f0) ∧ W.cell? ⟨(ad.add (m * 3)).block,(ad.add (m * 3)).off + 1,none⟩ = some (.string p.f1) from ⟨(h.cell (World.block_lt_of_cell? X _ hX0)).trans hX0,(h.cell (World.block_lt_of_cell? X _ hX1)).trans hX1,(h.cell (World.block_lt_of_cell? X _ hX2)).trans hX2,(h.cell (World.block_lt_of_cell? X _ dS)).trans dS,(h.cell (World.block_lt_of_cell? X _ hF1)).trans hF1,(h.cell (World.block_lt_of_cell? X _ hF2)).trans hF2,(h.cell (World.block_lt_of_cell? X _ Pp)).trans Pp,(h.cell (World.block_lt_of_cell? X _ dU)).trans dU,(h.cell (World.block_lt_of_cell? X _ gq)).trans gq,(h.cell (World.block_lt_of_cell? X _ hP0)).trans hP0,(h.cell (World.block_lt_of_cell? X _ hP1)).trans hP1⟩))
                  cases r0:ko l3 x.f0 with
                  | false =>
                    have h0:=fun (W:World) (h:Below X.heap.size X W)=>hq W x.f0 h
                    simp only [r0] at h0
                    as_aux_lemma =>
                     have hv:V = false:=by
                       rw [jO.out,uH (i:=(m + 1)) hlt (by rw [hok,r0];simp)]
                       done
                     subst hv
                     refine rS (n:=53) HS rval.XY rval.Yx (by kernel_rfl) rfl rfl (fun w0 H0 T U h=>?_)
                     refine rP 1 (some 153) T ?_;refine rT 0 (some 152) T U h ?_;refine rT 2 (some 154) T U h ?_
                     clear h;refine rC 3 (some 155) T HS H0 Tryz.func139 (h0 _ H0.out) (fun w1 H1 h=>?_) (by kernel_rfl)
                     refine rP 4 (some 156) T ?_;refine rP 5 (some 157) T ?_;refine rU 6 (some 158) T ?_;refine rU 7 (some 159) T ?_;refine rU 8 (some 160) T ?_;refine rU 9 (some 161) T ?_;refine rU 10 (some 162) T ?_;refine rP 11 (some 163) T ?_;refine rP 12 (some 164) T ?_;refine rU 13 (some 165) T ?_;refine rU 14 (some 166) T ?_;refine rU 15 (some 167) T ?_;refine rP 16 (some 168) T ?_;refine rP 17 (some 169) T ?_;refine rU 18 (some 170) T ?_;refine rU 19 (some 171) T ?_;refine rU 20 (some 172) T ?_;refine rP 21 (some 173) T ?_;refine rP 22 (some 174) T ?_;refine rU 23 (some 175) T ?_;refine rU 24 (some 176) T ?_;refine rU 25 (some 177) T ?_;refine rP 26 (some 178) T ?_;refine rP 27 (some 179) T ?_;refine rU 28 (some 180) T ?_;refine rU 29 (some 181) T ?_;refine rU 30 (some 182) T ?_;refine rU 31 (some 183) T ?_;refine rU 32 (some 184) T ?_;refine rU 33 (some 185) T ?_;refine rU 34 (some 186) T ?_;refine rU 35 (some 187) T ?_;refine rU 36 (some 188) T ?_;refine rU 37 (some 189) T ?_;refine rU 38 (some 190) T ?_;refine rU 39 (some 191) T ?_;refine rU 40 (some 192) T ?_;refine rU 41 (some 193) T ?_;refine rU 42 (some 194) T ?_;refine rU 43 (some 195) T ?_;refine rU 44 (some 196) T ?_;refine rU 45 (some 197) T ?_;refine rU 46 (some 198) T ?_;refine rU 47 (some 199) T ?_;refine rU 48 (some 200) T ?_;refine rU 49 (some 201) T ?_;refine rU 50 (some 202) T ?_;refine rU 51 (some 203) T ?_;refine rP 52 (some 204) T ?_
                     refine xP (qH T.out (by kernel_rfl)) ?_;have wQ:=xA.out.trans (H1.out.mono xA.out.size);clear h;try go_wp2
                     go_ret
                     exact ⟨rfl,HW.out _ wQ⟩
                  | true =>
                  have h0:=fun (W:World) (h:Below X.heap.size X W)=>hq W x.f0 h
                  simp only [r0] at h0
                  cases r1:ko l3 x.f1 with
                  | false =>
                    have h1:=fun (W:World) (h:Below X.heap.size X W)=>hq W x.f1 h
                    simp only [r1] at h1
                    as_aux_lemma =>
                     have hv:V = false:=by
                       rw [jO.out,uH (i:=(m + 1)) hlt (by rw [hok,r0,r1];simp)]
                       done
                     subst hv
                     refine rS (n:=53) HS rval.XY rval.Yx (by kernel_rfl) rfl rfl (fun w0 H0 T U h=>?_)
                     refine rP 1 (some 153) T ?_;refine rT 0 (some 152) T U h ?_;refine rT 2 (some 154) T U h ?_
                     clear h;refine rC 3 (some 155) T HS H0 Tryz.func139 (h0 _ H0.out) (fun w1 H1 h=>?_) (by kernel_rfl)
                     refine rP 4 (some 156) T ?_;refine rP 5 (some 157) T ?_;refine rP 7 (some 159) T ?_;refine rT 6 (some 158) T U h ?_;refine rT 8 (some 160) T U h ?_
                     clear h;refine rC 9 (some 161) T HS H1 Tryz.func139 (h1 _ H1.out) (fun w2 H2 h=>?_) (by kernel_rfl)
                     refine rP 10 (some 162) T ?_;refine rP 11 (some 163) T ?_;refine rP 12 (some 164) T ?_;refine rU 13 (some 165) T ?_;refine rU 14 (some 166) T ?_;refine rU 15 (some 167) T ?_;refine rP 16 (some 168) T ?_;refine rP 17 (some 169) T ?_;refine rU 18 (some 170) T ?_;refine rU 19 (some 171) T ?_;refine rU 20 (some 172) T ?_;refine rP 21 (some 173) T ?_;refine rP 22 (some 174) T ?_;refine rU 23 (some 175) T ?_;refine rU 24 (some 176) T ?_;refine rU 25 (some 177) T ?_;refine rP 26 (some 178) T ?_;refine rP 27 (some 179) T ?_;refine rU 28 (some 180) T ?_;refine rU 29 (some 181) T ?_;refine rU 30 (some 182) T ?_;refine rU 31 (some 183) T ?_;refine rU 32 (some 184) T ?_;refine rU 33 (some 185) T ?_;refine rU 34 (some 186) T ?_;refine rU 35 (some 187) T ?_;refine rU 36 (some 188) T ?_;refine rU 37 (some 189) T ?_;refine rU 38 (some 190) T ?_;refine rU 39 (some 191) T ?_;refine rU 40 (some 192) T ?_;refine rU 41 (some 193) T ?_;refine rU 42 (some 194) T ?_;refine rU 43 (some 195) T ?_;refine rU 44 (some 196) T ?_;refine rU 45 (some 197) T ?_;refine rU 46 (some 198) T ?_;refine rU 47 (some 199) T ?_;refine rU 48 (some 200) T ?_;refine rU 49 (some 201) T ?_;refine rU 50 (some 202) T ?_;refine rU 51 (some 203) T ?_;refine rP 52 (some 204) T ?_
                     refine xP (qH T.out (by kernel_rfl)) ?_;have wQ:=xA.out.trans (H2.out.mono xA.out.size);clear h;try go_wp2
                     go_ret
                     exact ⟨rfl,HW.out _ wQ⟩
                  | true =>
                  have h1:=fun (W:World) (h:Below X.heap.size X W)=>hq W x.f1 h
                  simp only [r1] at h1
                  by_cases tz:x.f2 = 0
                  · have dz:decide (x.f2 = 0) = true:=decide_eq_true tz
                    have dz2:(x.f2 == 0) = true:=beq_iff_eq.2 tz
                    as_aux_lemma =>
                     have hv:V = false:=by
                       rw [jO.out,uH (i:=(m + 1)) hlt (by rw [hok,r0,r1,dz];simp)]
                       done
                     subst hv
                     refine rS (n:=53) HS rval.XY rval.Yx (by kernel_rfl) rfl rfl (fun w0 H0 T U h=>?_)
                     refine rP 1 (some 153) T ?_;refine rT 0 (some 152) T U h ?_;refine rT 2 (some 154) T U h ?_
                     clear h;refine rC 3 (some 155) T HS H0 Tryz.func139 (h0 _ H0.out) (fun w1 H1 h=>?_) (by kernel_rfl)
                     refine rP 4 (some 156) T ?_;refine rP 5 (some 157) T ?_;refine rP 7 (some 159) T ?_;refine rT 6 (some 158) T U h ?_;refine rT 8 (some 160) T U h ?_
                     clear h;refine rC 9 (some 161) T HS H1 Tryz.func139 (h1 _ H1.out) (fun w2 H2 h=>?_) (by kernel_rfl)
                     refine rP 10 (some 162) T ?_;refine rP 11 (some 163) T ?_;refine rP 12 (some 164) T ?_;refine rP 13 (some 165) T ?_;refine rT 14 (some 166) T U h ?_;refine rP 15 (some 167) T ?_;refine rP 16 (some 168) T ?_;refine rP 17 (some 169) T ?_;refine rU 18 (some 170) T ?_;refine rU 19 (some 171) T ?_;refine rU 20 (some 172) T ?_;refine rP 21 (some 173) T ?_;refine rP 22 (some 174) T ?_;refine rU 23 (some 175) T ?_;refine rU 24 (some 176) T ?_;refine rU 25 (some 177) T ?_;refine rP 26 (some 178) T ?_;refine rP 27 (some 179) T ?_;refine rU 28 (some 180) T ?_;refine rU 29 (some 181) T ?_;refine rU 30 (some 182) T ?_;refine rU 31 (some 183) T ?_;refine rU 32 (some 184) T ?_;refine rU 33 (some 185) T ?_;refine rU 34 (some 186) T ?_;refine rU 35 (some 187) T ?_;refine rU 36 (some 188) T ?_;refine rU 37 (some 189) T ?_;refine rU 38 (some 190) T ?_;refine rU 39 (some 191) T ?_;refine rU 40 (some 192) T ?_;refine rU 41 (some 193) T ?_;refine rU 42 (some 194) T ?_;refine rU 43 (some 195) T ?_;refine rU 44 (some 196) T ?_;refine rU 45 (some 197) T ?_;refine rU 46 (some 198) T ?_;refine rU 47 (some 199) T ?_;refine rU 48 (some 200) T ?_;refine rU 49 (some 201) T ?_;refine rU 50 (some 202) T ?_;refine rU 51 (some 203) T ?_;refine rP 52 (some 204) T ?_
                     refine xP (qH T.out (by kernel_rfl)) ?_;have wQ:=xA.out.trans (H2.out.mono xA.out.size);clear h;try go_wp2
                     go_ret
                     exact ⟨rfl,HW.out _ wQ⟩
                  have dz:decide (x.f2 = 0) = false:=decide_eq_false tz
                  have dz2:(x.f2 == 0) = false:=beq_eq_false_iff_ne.2 tz
                  by_cases tlt:x.f2 < -500
                  · have dlt:decide (x.f2 < -500) = true:=decide_eq_true tlt
                    skip
                    as_aux_lemma =>
                     have hv:V = false:=by
                       rw [jO.out,uH (i:=(m + 1)) hlt (by rw [hok,r0,r1,dz,dlt];simp)]
                       done
                     subst hv
                     refine rS (n:=53) HS rval.XY rval.Yx (by kernel_rfl) rfl rfl (fun w0 H0 T U h=>?_)
                     refine rP 1 (some 153) T ?_;refine rT 0 (some 152) T U h ?_;refine rT 2 (some 154) T U h ?_
                     clear h;refine rC 3 (some 155) T HS H0 Tryz.func139 (h0 _ H0.out) (fun w1 H1 h=>?_) (by kernel_rfl)
                     refine rP 4 (some 156) T ?_;refine rP 5 (some 157) T ?_;refine rP 7 (some 159) T ?_;refine rT 6 (some 158) T U h ?_;refine rT 8 (some 160) T U h ?_
                     clear h;refine rC 9 (some 161) T HS H1 Tryz.func139 (h1 _ H1.out) (fun w2 H2 h=>?_) (by kernel_rfl)
                     refine rP 10 (some 162) T ?_;refine rP 11 (some 163) T ?_;refine rP 12 (some 164) T ?_;refine rP 13 (some 165) T ?_;refine rT 14 (some 166) T U h ?_;refine rP 15 (some 167) T ?_;refine rP 16 (some 168) T ?_;refine rP 17 (some 169) T ?_;refine rP 18 (some 170) T ?_;refine rT 19 (some 171) T U h ?_;refine rP 20 (some 172) T ?_;refine rP 21 (some 173) T ?_;refine rP 22 (some 174) T ?_;refine rU 23 (some 175) T ?_;refine rU 24 (some 176) T ?_;refine rU 25 (some 177) T ?_;refine rP 26 (some 178) T ?_;refine rP 27 (some 179) T ?_;refine rU 28 (some 180) T ?_;refine rU 29 (some 181) T ?_;refine rU 30 (some 182) T ?_;refine rU 31 (some 183) T ?_;refine rU 32 (some 184) T ?_;refine rU 33 (some 185) T ?_;refine rU 34 (some 186) T ?_;refine rU 35 (some 187) T ?_;refine rU 36 (some 188) T ?_;refine rU 37 (some 189) T ?_;refine rU 38 (some 190) T ?_;refine rU 39 (some 191) T ?_;refine rU 40 (some 192) T ?_;refine rU 41 (some 193) T ?_;refine rU 42 (some 194) T ?_;refine rU 43 (some 195) T ?_;refine rU 44 (some 196) T ?_;refine rU 45 (some 197) T ?_;refine rU 46 (some 198) T ?_;refine rU 47 (some 199) T ?_;refine rU 48 (some 200) T ?_;refine rU 49 (some 201) T ?_;refine rU 50 (some 202) T ?_;refine rU 51 (some 203) T ?_;refine rP 52 (some 204) T ?_
                     refine xP (qH T.out (by kernel_rfl)) ?_;have wQ:=xA.out.trans (H2.out.mono xA.out.size);clear h;try go_wp2
                     go_ret
                     exact ⟨rfl,HW.out _ wQ⟩
                  have dlt:decide (x.f2 < -500) = false:=decide_eq_false tlt
                  skip
                  by_cases tgt:500 < x.f2
                  · have dgt:decide (500 < x.f2) = true:=decide_eq_true tgt
                    skip
                    as_aux_lemma =>
                     have hv:V = false:=by
                       rw [jO.out,uH (i:=(m + 1)) hlt (by rw [hok,r0,r1,dz,dlt,dgt];simp)]
                       done
                     subst hv
                     refine rS (n:=53) HS rval.XY rval.Yx (by kernel_rfl) rfl rfl (fun w0 H0 T U h=>?_)
                     refine rP 1 (some 153) T ?_;refine rT 0 (some 152) T U h ?_;refine rT 2 (some 154) T U h ?_
                     clear h;refine rC 3 (some 155) T HS H0 Tryz.func139 (h0 _ H0.out) (fun w1 H1 h=>?_) (by kernel_rfl)
                     refine rP 4 (some 156) T ?_;refine rP 5 (some 157) T ?_;refine rP 7 (some 159) T ?_;refine rT 6 (some 158) T U h ?_;refine rT 8 (some 160) T U h ?_
                     clear h;refine rC 9 (some 161) T HS H1 Tryz.func139 (h1 _ H1.out) (fun w2 H2 h=>?_) (by kernel_rfl)
                     refine rP 10 (some 162) T ?_;refine rP 11 (some 163) T ?_;refine rP 12 (some 164) T ?_;refine rP 13 (some 165) T ?_;refine rT 14 (some 166) T U h ?_;refine rP 15 (some 167) T ?_;refine rP 16 (some 168) T ?_;refine rP 17 (some 169) T ?_;refine rP 18 (some 170) T ?_;refine rT 19 (some 171) T U h ?_;refine rP 20 (some 172) T ?_;refine rP 21 (some 173) T ?_;refine rP 22 (some 174) T ?_;refine rP 23 (some 175) T ?_;refine rT 24 (some 176) T U h ?_;refine rP 25 (some 177) T ?_;refine rP 26 (some 178) T ?_;refine rP 27 (some 179) T ?_;refine rU 28 (some 180) T ?_;refine rU 29 (some 181) T ?_;refine rU 30 (some 182) T ?_;refine rU 31 (some 183) T ?_;refine rU 32 (some 184) T ?_;refine rU 33 (some 185) T ?_;refine rU 34 (some 186) T ?_;refine rU 35 (some 187) T ?_;refine rU 36 (some 188) T ?_;refine rU 37 (some 189) T ?_;refine rU 38 (some 190) T ?_;refine rU 39 (some 191) T ?_;refine rU 40 (some 192) T ?_;refine rU 41 (some 193) T ?_;refine rU 42 (some 194) T ?_;refine rU 43 (some 195) T ?_;refine rU 44 (some 196) T ?_;refine rU 45 (some 197) T ?_;refine rU 46 (some 198) T ?_;refine rU 47 (some 199) T ?_;refine rU 48 (some 200) T ?_;refine rU 49 (some 201) T ?_;refine rU 50 (some 202) T ?_;refine rU 51 (some 203) T ?_;refine rP 52 (some 204) T ?_
                     refine xP (qH T.out (by kernel_rfl)) ?_;have wQ:=xA.out.trans (H2.out.mono xA.out.size);clear h;try go_wp2
                     go_ret
                     exact ⟨rfl,HW.out _ wQ⟩
                  have dgt:decide (500 < x.f2) = false:=decide_eq_false tgt
                  skip
                  have hah:=fun W=>(zwm p.f0 p.f1 x.f0 x.f1 W).mono fun e w' k=>And.intro k.1 (kG k.2)
                  cases ra:VZ p.f0 p.f1 x.f0 x.f1 with
                  | false =>
                    simp only [ra] at hah
                    as_aux_lemma =>
                     have hv:V = false:=by
                       rw [jO.out,uH (i:=(m + 1)) hlt (by rw [hok,r0,r1,dz,dlt,dgt,ra];simp)]
                       done
                     subst hv
                     refine rS (n:=53) HS rval.XY rval.Yx (by kernel_rfl) rfl rfl (fun w0 H0 T U h=>?_)
                     refine rP 1 (some 153) T ?_;refine rT 0 (some 152) T U h ?_;refine rT 2 (some 154) T U h ?_
                     clear h;refine rC 3 (some 155) T HS H0 Tryz.func139 (h0 _ H0.out) (fun w1 H1 h=>?_) (by kernel_rfl)
                     refine rP 4 (some 156) T ?_;refine rP 5 (some 157) T ?_;refine rP 7 (some 159) T ?_;refine rT 6 (some 158) T U h ?_;refine rT 8 (some 160) T U h ?_
                     clear h;refine rC 9 (some 161) T HS H1 Tryz.func139 (h1 _ H1.out) (fun w2 H2 h=>?_) (by kernel_rfl)
                     refine rP 10 (some 162) T ?_;refine rP 11 (some 163) T ?_;refine rP 12 (some 164) T ?_;refine rP 13 (some 165) T ?_;refine rT 14 (some 166) T U h ?_;refine rP 15 (some 167) T ?_;refine rP 16 (some 168) T ?_;refine rP 17 (some 169) T ?_;refine rP 18 (some 170) T ?_;refine rT 19 (some 171) T U h ?_;refine rP 20 (some 172) T ?_;refine rP 21 (some 173) T ?_;refine rP 22 (some 174) T ?_;refine rP 23 (some 175) T ?_;refine rT 24 (some 176) T U h ?_;refine rP 25 (some 177) T ?_;refine rP 26 (some 178) T ?_;refine rP 27 (some 179) T ?_;refine rP 28 (some 180) T ?_;refine rP 29 (some 181) T ?_;refine rP 30 (some 182) T ?_;refine rP 31 (some 183) T ?_;refine rP 33 (some 185) T ?_;refine rP 34 (some 186) T ?_;refine rP 38 (some 190) T ?_;refine rP 40 (some 192) T ?_;refine rP 41 (some 193) T ?_;refine rP 45 (some 197) T ?_;refine rP 47 (some 199) T ?_;refine rT 32 (some 184) T U h ?_;refine rP 35 (some 187) T ?_;refine rP 36 (some 188) T ?_;refine rT 37 (some 189) T U h ?_;refine rT 39 (some 191) T U h ?_;refine rP 42 (some 194) T ?_;refine rP 43 (some 195) T ?_;refine rT 44 (some 196) T U h ?_;refine rT 46 (some 198) T U h ?_;refine rT 48 (some 200) T U h ?_
                     clear h;refine rC 49 (some 201) T HS H2 Tryz.func140 (hah _) (fun w3 H3 h=>?_) (by kernel_rfl)
                     refine rP 50 (some 202) T ?_;refine rP 51 (some 203) T ?_;refine rP 52 (some 204) T ?_
                     refine xP (qH T.out (by kernel_rfl)) ?_;have wQ:=xA.out.trans (H3.out.mono xA.out.size);clear h;try go_wp2
                     go_ret
                     exact ⟨rfl,HW.out _ wQ⟩
                  | true =>
                  simp only [ra] at hah
                  as_aux_lemma =>
                  have hok2:Vx l3 l5 (m + 1) = true:=by rw [hok,r0,r1,dz,dlt,dgt,ra];rfl
                  refine rS (n:=53) HS rval.XY rval.Yx (by kernel_rfl) rfl rfl (fun w0 H0 T U h=>?_)
                  refine rP 1 (some 153) T ?_;refine rT 0 (some 152) T U h ?_;refine rT 2 (some 154) T U h ?_
                  clear h;refine rC 3 (some 155) T HS H0 Tryz.func139 (h0 _ H0.out) (fun w1 H1 h=>?_) (by kernel_rfl)
                  refine rP 4 (some 156) T ?_;refine rP 5 (some 157) T ?_;refine rP 7 (some 159) T ?_;refine rT 6 (some 158) T U h ?_;refine rT 8 (some 160) T U h ?_
                  clear h;refine rC 9 (some 161) T HS H1 Tryz.func139 (h1 _ H1.out) (fun w2 H2 h=>?_) (by kernel_rfl)
                  refine rP 10 (some 162) T ?_;refine rP 11 (some 163) T ?_;refine rP 12 (some 164) T ?_;refine rP 13 (some 165) T ?_;refine rT 14 (some 166) T U h ?_;refine rP 15 (some 167) T ?_;refine rP 16 (some 168) T ?_;refine rP 17 (some 169) T ?_;refine rP 18 (some 170) T ?_;refine rT 19 (some 171) T U h ?_;refine rP 20 (some 172) T ?_;refine rP 21 (some 173) T ?_;refine rP 22 (some 174) T ?_;refine rP 23 (some 175) T ?_;refine rT 24 (some 176) T U h ?_;refine rP 25 (some 177) T ?_;refine rP 26 (some 178) T ?_;refine rP 27 (some 179) T ?_;refine rP 28 (some 180) T ?_;refine rP 29 (some 181) T ?_;refine rP 30 (some 182) T ?_;refine rP 31 (some 183) T ?_;refine rP 33 (some 185) T ?_;refine rP 34 (some 186) T ?_;refine rP 38 (some 190) T ?_;refine rP 40 (some 192) T ?_;refine rP 41 (some 193) T ?_;refine rP 45 (some 197) T ?_;refine rP 47 (some 199) T ?_;refine rT 32 (some 184) T U h ?_;refine rP 35 (some 187) T ?_;refine rP 36 (some 188) T ?_;refine rT 37 (some 189) T U h ?_;refine rT 39 (some 191) T U h ?_;refine rP 42 (some 194) T ?_;refine rP 43 (some 195) T ?_;refine rT 44 (some 196) T U h ?_;refine rT 46 (some 198) T U h ?_;refine rT 48 (some 200) T U h ?_
                  clear h;refine rC 49 (some 201) T HS H2 Tryz.func140 (hah _) (fun w3 H3 h=>?_) (by kernel_rfl)
                  refine rP 50 (some 202) T ?_;refine rP 51 (some 203) T ?_;refine rP 52 (some 204) T ?_
                  refine xP (qH T.out (by kernel_rfl)) ?_;have wQ:=xA.out.trans (H3.out.mono xA.out.size);clear h;try go_wp2
                  go_roundw
                  case rel=>exact ⟨m + 1 + 1,by first | rfl | (simp;done) | go_num,by omega,⟨wQ⟩,⟨fun j hj=>(Nat.lt_succ_iff_lt_or_eq.1 hj).elim (HK5.out j) (fun e=>by rw [e];exact hok2)⟩⟩
                  case measure=>simp [intOf];omega
              · obtain rfl:i = l5.length:=by omega
                have q2:decide ((l5.length:Int) < (l5.length:Int)) = false:=decide_eq_false (by omega)
                have q1:¬ (l5.length:Int) < (l5.length:Int):=by omega
                have jO:zx (V = true):=⟨by rw [jO.out,zqt HK5.out]⟩
                go_wp2
                go_ret
                exact ⟨by rw [jO.out];rfl,HW.out _ P7.out⟩
def xJ.f (a:ByteArray) (_:Bool) (c:Int) (l3:List uX) (l4:List uo) (l5:List uG):Option Bool :=
  if l3.length ≤ 1000000000 ∧ l4.length ≤ 1000000000 ∧ l5.length ≤ 1000000000 ∧ a.size ≤ 140737488355328 ∧ (l3.all fun x=>decide (x.f0.size ≤ 140737488355328)) = true then some (bg a c l3 l4 l5) else none
theorem xJ.calls (a:ByteArray) (b:Bool) (c:Int) (A3:Option Addr) (c3:Nat) (l3:List uX) (A4:Option Addr) (c4:Nat) (l4:List uo) (A5:Option Addr) (c5:Nat) (l5:List uG) (r:Bool) (w:World) (h3:Kd.C YK w A3 l3.length l3) (g3:l3.length ≤ c3) (h4:Kd.C Yo w A4 l4.length l4) (g4:l4.length ≤ c4) (h5:Kd.C Yu w A5 l5.length l5) (g5:l5.length ≤ c5) (h:xJ.f a b c l3 l4 l5 = some r) :
    Calls Tryz.prog 106 #[.agg #[.string a,.bool b,.int .i64 c,.slice A3 l3.length c3,.slice A4 l4.length c4,.slice A5 l5.length c5]] w fun e w'=>e = .returned (.bool r) ∧ Below w.heap.size w w':=by
  unfold xJ.f at h
  split at h
  · rename_i hl
    obtain rfl:=Option.some.inj h
    exact zVm a b c A3 c3 l3 A4 c4 l4 A5 c5 l5 w h3 g3 h4 g4 h5 g5 hl.1 hl.2.1 hl.2.2.1 hl.2.2.2.1 (fun x hx=>of_decide_eq_true (List.all_eq_true.1 hl.2.2.2.2 x hx))
  · cases h
end Go.Proofs.YtggifbbiiickmaaGreatDoor
namespace Go.Proofs.YtggifbbiiickmaaGreatDoor
open Go.RowKit Go.Shelf Go.Proofs.zk.zA Go.Proofs.zk.yA Go.Proofs.YtggifbbiiickmaaGreatDoor.PX
set_option linter.unusedSimpArgs false
set_option linter.unusedVariables false
theorem zwn {w:World} {g:Nat} {ns:List ByteArray} {t:TypeId} (h:w.heap[g]? = some (.cells (ns.map Value.string).toArray t (0,0))) (hn:ns.length ≤ 1000):Kd.C Kd.string w (some ⟨g,0,none⟩) ns.length ns:=by
 refine ⟨rfl,by omega,fun _=>⟨_,rfl,fun j p hj=>⟨[.string p],rfl,rfl,fun i u hi=>?_⟩⟩⟩
 rcases i with _ | i
 ·cases hi
  have hs:Kd.string.sz = 1:=rfl
  rw [Addr.add_lit,hs]
  refine xV h _ _ ?_
  simp [hj]
 ·simp at hi
def iU (l3:List qo) (x:xY):Bool:=!iT l3 [x.f0,x.f1,x.f2]
def mU (l3:List qo) (x:vk):Bool:=decide (x.f2 = 0) || (decide (x.f2 < -500) || (decide (500 < x.f2) || !iT l3 [x.f0,x.f1]))
set_option maxRecDepth 100000 in
set_option maxHeartbeats 1000000 in
theorem zaX (B:Nat) (a:ByteArray) (b:Bool) (c:Int) (A3:Option Addr) (c3:Nat) (l3:List qo) (A4:Option Addr) (c4:Nat) (l4:List xY) (A5:Option Addr) (c5:Nat) (l5:List vk) (g3:l3.length ≤ c3) (g4:l4.length ≤ c4) (g5:l5.length ≤ c5) (hl3:l3.length ≤ 1000000000) (w:World) (hF:Xh w B a b c A3 c3 l3 A4 c4 l4 A5 c5 l5) :
  PredBelow Tryz.prog 93 #[.pointer (some ⟨B,0,none⟩)] (fun x=>.agg (zk1 x).toArray) (iU l3) w:=fun W x hb=>by
 have hl:=(Array.getElem?_eq_some_iff.1 hF.blk).1
 have VB:=hF.below hb
 have hlW:B < W.heap.size:=Nat.lt_of_lt_of_le hl hb.size
 show Calls Tryz.prog 93 #[.agg #[.string x.f0,.string x.f1,.string x.f2],.pointer (some ⟨B,0,none⟩)] W _
 have hbW:Below W.heap.size W ((W.alloc (.cells #[.string x.f0,.string x.f1,.string x.f2] 108)).alloc (.cells #[.string x.f0,.string x.f1,.string x.f2] 9)):=((Below.refl _ W).alloc (Nat.le_refl _) _).alloc (by simp) _
 have hF2:=VB.below hbW
 have hblk:((W.alloc (.cells #[.string x.f0,.string x.f1,.string x.f2] 108)).alloc (.cells #[.string x.f0,.string x.f1,.string x.f2] 9)).heap[W.heap.size + 1]? = some (.cells (([x.f0,x.f1,x.f2].map Value.string).toArray) 9 (0,0)):=by
  have:=World.alloc_heap_new (W.alloc (.cells #[.string x.f0,.string x.f1,.string x.f2] 108)) (.cells #[.string x.f0,.string x.f1,.string x.f2] 9)
  rwa [World.size_alloc] at this
 have ha:=zwl a b c A3 c3 l3 A4 c4 l4 A5 c5 l5 _ 3 [x.f0,x.f1,x.f2] _ hF2.h3 g3 hF2.h4 g4 hF2.h5 g5 (zwn hblk (by simp)) (by simp) hF2.gw hl3 (by simp)
 have k0:=xV VB.blk 0 _ rfl
 have k1:=xV VB.blk 1 _ rfl
 have k2:=xV VB.blk 2 _ rfl
 have k3:=xV VB.blk 3 _ rfl
 have k4:=xV VB.blk 4 _ rfl
 have k5:=xV VB.blk 5 _ rfl
 have hend:=hb.trans (hbW.mono hb.size)
 unfold iU
 generalize iT l3 [x.f0,x.f1,x.f2] = r at ha ⊢
 clear hF VB hF2 hblk hb g3 g4 g5
 go_enter Tryz.func93,Tryz.ntmps93
 go_wp2_with (go_at_call 94;refine ha.mono ?_;rintro e w1 ⟨rfl,hb1⟩)
 go_ret
 exact ⟨rfl,hend.trans (hb1.mono hend.size)⟩
set_option maxRecDepth 100000 in
set_option maxHeartbeats 1000000 in
theorem zaJ (B:Nat) (a:ByteArray) (b:Bool) (c:Int) (A3:Option Addr) (c3:Nat) (l3:List qo) (A4:Option Addr) (c4:Nat) (l4:List xY) (A5:Option Addr) (c5:Nat) (l5:List vk) (g3:l3.length ≤ c3) (g4:l4.length ≤ c4) (g5:l5.length ≤ c5) (hl3:l3.length ≤ 1000000000) (w:World) (hF:Xh w B a b c A3 c3 l3 A4 c4 l4 A5 c5 l5) :
  PredBelow Tryz.prog 98 #[.pointer (some ⟨B,0,none⟩)] (fun x=>.agg (zk2 x).toArray) (mU l3) w:=fun W x hb=>by
 have hl:=(Array.getElem?_eq_some_iff.1 hF.blk).1
 have VB:=hF.below hb
 have hlW:B < W.heap.size:=Nat.lt_of_lt_of_le hl hb.size
 show Calls Tryz.prog 98 #[.agg #[.string x.f0,.string x.f1,.int .i64 x.f2],.pointer (some ⟨B,0,none⟩)] W _
 have hb1:Below w.heap.size w (W.alloc (.cells #[.string x.f0,.string x.f1,.int .i64 x.f2] 111)):=hb.alloc hb.size _
 unfold mU
 by_cases q0:x.f2 = 0
 ·have d0:(x.f2 == 0) = true:=beq_iff_eq.2 q0
  rw [decide_eq_true q0]
  clear q0 hF VB
  go_enter Tryz.func98,Tryz.ntmps98
  go_wp2
  go_ret
  exact ⟨rfl,hb1⟩
 ·have d0:(x.f2 == 0) = false:=beq_eq_false_iff_ne.2 q0
  rw [decide_eq_false q0,Bool.false_or]
  clear q0
  by_cases q1:x.f2 < -500
  ·have d1:decide (x.f2 < -500) = true:=decide_eq_true q1
   rw [d1]
   clear q1 hF VB
   go_enter Tryz.func98,Tryz.ntmps98
   go_wp2
   go_ret
   exact ⟨rfl,hb1⟩
  ·have d1:decide (x.f2 < -500) = false:=decide_eq_false q1
   rw [d1,Bool.false_or]
   clear q1
   by_cases q2:500 < x.f2
   ·have d2:decide (500 < x.f2) = true:=decide_eq_true q2
    rw [d2]
    clear q2 hF VB
    go_enter Tryz.func98,Tryz.ntmps98
    go_wp2
    go_ret
    exact ⟨rfl,hb1⟩
   ·have d2:decide (500 < x.f2) = false:=decide_eq_false q2
    rw [d2,Bool.false_or]
    clear q2
    have hbW:Below W.heap.size W ((W.alloc (.cells #[.string x.f0,.string x.f1,.int .i64 x.f2] 111)).alloc (.cells #[.string x.f0,.string x.f1] 9)):=((Below.refl _ W).alloc (Nat.le_refl _) _).alloc (by simp) _
    have hF2:=VB.below hbW
    have hblk:((W.alloc (.cells #[.string x.f0,.string x.f1,.int .i64 x.f2] 111)).alloc (.cells #[.string x.f0,.string x.f1] 9)).heap[W.heap.size + 1]? = some (.cells (([x.f0,x.f1].map Value.string).toArray) 9 (0,0)):=by
     have:=World.alloc_heap_new (W.alloc (.cells #[.string x.f0,.string x.f1,.int .i64 x.f2] 111)) (.cells #[.string x.f0,.string x.f1] 9)
     rwa [World.size_alloc] at this
    have ha:=zwl a b c A3 c3 l3 A4 c4 l4 A5 c5 l5 _ 2 [x.f0,x.f1] _ hF2.h3 g3 hF2.h4 g4 hF2.h5 g5 (zwn hblk (by simp)) (by simp) hF2.gw hl3 (by simp)
    have k0:=xV VB.blk 0 _ rfl
    have k1:=xV VB.blk 1 _ rfl
    have k2:=xV VB.blk 2 _ rfl
    have k3:=xV VB.blk 3 _ rfl
    have k4:=xV VB.blk 4 _ rfl
    have k5:=xV VB.blk 5 _ rfl
    have hend:=hb.trans (hbW.mono hb.size)
    generalize iT l3 [x.f0,x.f1] = r at ha ⊢
    clear hF VB hF2 hblk hb g3 g4 g5
    go_enter Tryz.func98,Tryz.ntmps98
    go_wp2_with (go_at_call 94;refine ha.mono ?_;rintro e w1 ⟨rfl,hb1⟩)
    go_ret
    exact ⟨rfl,hend.trans (hb1.mono hend.size)⟩
def vL (a:ByteArray) (c:Int) (l3:List qo) (l4:List xY) (l5:List vk):Bool :=
 if (!Xg a.data.toList || (Va c || (decide (400 < l3.length) || (decide (50 < l4.length) || decide (500 < l5.length))))) = true then false
 else if (l3.any mR || !ZL (fun i j=>Vg (qF l3 (i:Int)) (qF l3 (j:Int))) l3.length) = true then false
 else if (l4.any (iU l3) || !ZL (fun i j=>cmpL (q9 l4 (i:Int)) (q9 l4 (j:Int))) l4.length) = true then false
 else !l5.any (mU l3) && ZL (fun i j=>PL (xk l5 (i:Int)) (xk l5 (j:Int))) l5.length
set_option maxRecDepth 100000 in
set_option maxHeartbeats 4000000 in
theorem zYu (a:ByteArray) (b:Bool) (c:Int) (A3:Option Addr) (c3:Nat) (l3:List qo) (A4:Option Addr) (c4:Nat) (l4:List xY) (A5:Option Addr) (c5:Nat) (l5:List vk) (g3:l3.length ≤ c3) (g4:l4.length ≤ c4) (g5:l5.length ≤ c5) (hl3:l3.length ≤ 1000000000) (hl4:l4.length ≤ 1000000000) (hl5:l5.length ≤ 1000000000) (w:World) (h3:Kd.C jh w A3 l3.length l3) (h4:Kd.C wO w A4 l4.length l4) (h5:Kd.C pz w A5 l5.length l5) (hG:GW w) :
  Calls Tryz.prog 39 #[.agg #[.string a,.bool b,.int .i64 c,.slice A3 l3.length c3,.slice A4 l4.length c4,.slice A5 l5.length c5]] w fun e w'=>e = .returned (.bool (vL a c l3 l4 l5)) ∧ Below w.heap.size w w':=by
 have hw1:Below w.heap.size w ((w.alloc (.cells #[.string a,.bool b,.int .i64 c,.slice A3 l3.length c3,.slice A4 l4.length c4,.slice A5 l5.length c5] 60)).alloc (.cells #[.func (.func 84) #[] #[]] 138)):=((Below.refl _ w).alloc (Nat.le_refl _) _).alloc (by simp) _
 have hblk:((w.alloc (.cells #[.string a,.bool b,.int .i64 c,.slice A3 l3.length c3,.slice A4 l4.length c4,.slice A5 l5.length c5] 60)).alloc (.cells #[.func (.func 84) #[] #[]] 138)).heap[w.heap.size]? = some (.cells #[.string a,.bool b,.int .i64 c,.slice A3 l3.length c3,.slice A4 l4.length c4,.slice A5 l5.length c5] 60 (0,0)) :=
  (Below.heap_alloc _ _ _ (by simp)).trans (World.alloc_heap_new w _)
 have nL:((w.alloc (.cells #[.string a,.bool b,.int .i64 c,.slice A3 l3.length c3,.slice A4 l4.length c4,.slice A5 l5.length c5] 60)).alloc (.cells #[.func (.func 84) #[] #[]] 138)).heap[w.heap.size + 1]? = some (.cells #[.func (.func 84) #[] #[]] 138 (0,0)):=by
  have:=World.alloc_heap_new (w.alloc (.cells #[.string a,.bool b,.int .i64 c,.slice A3 l3.length c3,.slice A4 l4.length c4,.slice A5 l5.length c5] 60)) (.cells #[.func (.func 84) #[] #[]] 138)
  rwa [World.size_alloc] at this
 have hF:Xh ((w.alloc (.cells #[.string a,.bool b,.int .i64 c,.slice A3 l3.length c3,.slice A4 l4.length c4,.slice A5 l5.length c5] 60)).alloc (.cells #[.func (.func 84) #[] #[]] 138)) w.heap.size a b c A3 c3 l3 A4 c4 l4 A5 c5 l5:=⟨hblk,Kd.zu h3 hw1,Kd.zu h4 hw1,Kd.zu h5 hw1,hG.under hw1⟩
 have hfn:=zkl a ((w.alloc (.cells #[.string a,.bool b,.int .i64 c,.slice A3 l3.length c3,.slice A4 l4.length c4,.slice A5 l5.length c5] 60)).alloc (.cells #[.func (.func 84) #[] #[]] 138))
 have hwd:=fun W=>zk4 c W
 have hhG:=fun W (hF:Xh W w.heap.size a b c A3 c3 l3 A4 c4 l4 A5 c5 l5) (hB:W.cell? ⟨w.heap.size + 1,0,none⟩ = some (.func (.func 84) #[] #[]))=>zk3 A3 c3 l3 W hF.h3 hl3 mR 87 #[.pointer (some ⟨w.heap.size + 1,0,none⟩)] (enters_of Tryz.func87 (by kernel_rfl) rfl) (zaQ _ W hB)
 have haG:=fun W (hF:Xh W w.heap.size a b c A3 c3 l3 A4 c4 l4 A5 c5 l5)=>zaz A3 c3 l3 W hF.h3 hl3
 have hhL:=fun W (hF:Xh W w.heap.size a b c A3 c3 l3 A4 c4 l4 A5 c5 l5)=>zaw A4 c4 l4 W hF.h4 hl4 (iU l3) 93 #[.pointer (some ⟨w.heap.size,0,none⟩)] (enters_of Tryz.func93 (by kernel_rfl) rfl) (zaX _ a b c A3 c3 l3 A4 c4 l4 A5 c5 l5 g3 g4 g5 hl3 W hF)
 have haL:=fun W (hF:Xh W w.heap.size a b c A3 c3 l3 A4 c4 l4 A5 c5 l5)=>zav A4 c4 l4 W hF.h4 hl4
 have hhK:=fun W (hF:Xh W w.heap.size a b c A3 c3 l3 A4 c4 l4 A5 c5 l5)=>zaZ A5 c5 l5 W hF.h5 hl5 (mU l3) 98 #[.pointer (some ⟨w.heap.size,0,none⟩)] (enters_of Tryz.func98 (by kernel_rfl) rfl) (zaJ _ a b c A3 c3 l3 A4 c4 l4 A5 c5 l5 g3 g4 g5 hl3 W hF)
 have haK:=fun W (hF:Xh W w.heap.size a b c A3 c3 l3 A4 c4 l4 A5 c5 l5)=>zak A5 c5 l5 W hF.h5 hl5
 generalize hR:vL a c l3 l4 l5 = R
 have HR:=Lib.hid hR
 unfold vL at hR
 generalize Xg a.data.toList = b1 at hfn hR
 generalize Va c = b2 at hwd hR
 generalize l3.any mR = b6 at hhG hR
 generalize ZL (fun i j=>Vg (qF l3 (i:Int)) (qF l3 (j:Int))) l3.length = b7 at haG hR
 generalize l4.any (iU l3) = b8 at hhL hR
 generalize ZL (fun i j=>cmpL (q9 l4 (i:Int)) (q9 l4 (j:Int))) l4.length = b9 at haL hR
 generalize l5.any (mU l3) = b10 at hhK hR
 generalize ZL (fun i j=>PL (xk l5 (i:Int)) (xk l5 (j:Int))) l5.length = b11 at haK hR
 clear g3 g4 g5 h3 h4 h5 hG HR
 go_enter Tryz.func39,Tryz.ntmps39
 have HF0:=Lib.hid hF
 have K0:=Lib.hid (xV nL 0 _ rfl)
 have HW0:=Lib.hid hw1
 have c0:=xV hblk 0 _ rfl
 have c2:=xV hblk 2 _ rfl
 have mX:=xV hblk 3 _ rfl
 have mJ:=xV hblk 4 _ rfl
 have mV:=xV hblk 5 _ rfl
 clear hF hblk nL hw1
 go_wp2_with fail
 generalize ((w.alloc (.cells #[.string a,.bool b,.int .i64 c,.slice A3 l3.length c3,.slice A4 l4.length c4,.slice A5 l5.length c5] 60)).alloc (.cells #[.func (.func 84) #[] #[]] 138)) = W0 at hfn HF0 K0 HW0 c0 c2 mX mJ mV ⊢
 refine hfn.mono ?_;rintro e W1 ⟨rfl,hb1⟩
 clear hfn c0 c2 mX mJ mV
 have HF1:=Lib.hid (HF0.out.below hb1)
 have K1:=Lib.hid ((hb1.cell (World.block_lt_of_cell? _ _ K0.out)).trans K0.out)
 have HW1:=Lib.hid (HW0.out.trans (hb1.mono HW0.out.size))
 clear hb1
 have c2:=xV HF1.out.blk 2 _ rfl
 have mX:=xV HF1.out.blk 3 _ rfl
 have mJ:=xV HF1.out.blk 4 _ rfl
 have mV:=xV HF1.out.blk 5 _ rfl
 have cb:=K1.out
 cases b1 with
 | false =>
  obtain rfl:false = R:=by simpa using hR
  clear hR
  go_wp2_with fail
  go_ret
  exact ⟨rfl,HW1.out⟩
 | true =>
  go_wp2_with fail
  refine (hwd _).mono ?_;rintro e W1x ⟨rfl,hx⟩;subst hx
  cases b2 with
  | false =>
   by_cases q3:400 < l3.length
   ·have dq3:decide ((400:Int) < (l3.length:Int)) = true:=decide_eq_true (by omega)
    rw [decide_eq_true q3] at hR
    clear q3
    obtain rfl:false = R:=by simpa using hR
    clear hR
    go_wp2_with fail
    go_ret
    exact ⟨rfl,HW1.out⟩
   ·have dq3:decide ((400:Int) < (l3.length:Int)) = false:=decide_eq_false (by omega)
    rw [decide_eq_false q3] at hR
    clear q3
    by_cases q4:50 < l4.length
    ·have dq4:decide ((50:Int) < (l4.length:Int)) = true:=decide_eq_true (by omega)
     rw [decide_eq_true q4] at hR
     clear q4
     obtain rfl:false = R:=by simpa using hR
     clear hR
     go_wp2_with fail
     go_ret
     exact ⟨rfl,HW1.out⟩
    ·have dq4:decide ((50:Int) < (l4.length:Int)) = false:=decide_eq_false (by omega)
     rw [decide_eq_false q4] at hR
     clear q4
     by_cases q5:500 < l5.length
     ·have dq5:decide ((500:Int) < (l5.length:Int)) = true:=decide_eq_true (by omega)
      rw [decide_eq_true q5] at hR
      clear q5
      obtain rfl:false = R:=by simpa using hR
      clear hR
      go_wp2_with fail
      go_ret
      exact ⟨rfl,HW1.out⟩
     ·have dq5:decide ((500:Int) < (l5.length:Int)) = false:=decide_eq_false (by omega)
      rw [decide_eq_false q5] at hR
      clear q5
      simp only [Bool.not_true,Bool.or_self,Bool.false_eq_true,if_false,Bool.or_false] at hR
      go_wp2_with fail
      refine (hhG _ HF1.out K1.out).mono ?_;rintro e W2 ⟨rfl,hb2⟩
      clear c2 mX mJ mV cb
      have HF2:=Lib.hid (HF1.out.below hb2)
      have K2:=Lib.hid ((hb2.cell (World.block_lt_of_cell? _ _ K1.out)).trans K1.out)
      have HW2:=Lib.hid (HW1.out.trans (hb2.mono HW1.out.size))
      clear hb2
      have c2:=xV HF2.out.blk 2 _ rfl
      have mX:=xV HF2.out.blk 3 _ rfl
      have mJ:=xV HF2.out.blk 4 _ rfl
      have mV:=xV HF2.out.blk 5 _ rfl
      have cb:=K2.out
      cases b6 with
      | false =>
       go_wp2_with fail
       refine (haG _ HF2.out).mono ?_;rintro e W3 ⟨rfl,hb3⟩
       clear c2 mX mJ mV cb
       have HF3:=Lib.hid (HF2.out.below hb3)
       have K3:=Lib.hid ((hb3.cell (World.block_lt_of_cell? _ _ K2.out)).trans K2.out)
       have HW3:=Lib.hid (HW2.out.trans (hb3.mono HW2.out.size))
       clear hb3
       have c2:=xV HF3.out.blk 2 _ rfl
       have mX:=xV HF3.out.blk 3 _ rfl
       have mJ:=xV HF3.out.blk 4 _ rfl
       have mV:=xV HF3.out.blk 5 _ rfl
       have cb:=K3.out
       cases b7 with
       | false =>
        obtain rfl:false = R:=by simpa using hR
        clear hR
        go_wp2_with fail
        go_ret
        exact ⟨rfl,HW3.out⟩
       | true =>
        go_wp2_with fail
        refine (hhL _ HF3.out).mono ?_;rintro e W4 ⟨rfl,hb4⟩
        clear c2 mX mJ mV cb
        have HF4:=Lib.hid (HF3.out.below hb4)
        have K4:=Lib.hid ((hb4.cell (World.block_lt_of_cell? _ _ K3.out)).trans K3.out)
        have HW4:=Lib.hid (HW3.out.trans (hb4.mono HW3.out.size))
        clear hb4
        have c2:=xV HF4.out.blk 2 _ rfl
        have mX:=xV HF4.out.blk 3 _ rfl
        have mJ:=xV HF4.out.blk 4 _ rfl
        have mV:=xV HF4.out.blk 5 _ rfl
        have cb:=K4.out
        cases b8 with
        | false =>
         go_wp2_with fail
         refine (haL _ HF4.out).mono ?_;rintro e W5 ⟨rfl,hb5⟩
         clear c2 mX mJ mV cb
         have HF5:=Lib.hid (HF4.out.below hb5)
         have K5:=Lib.hid ((hb5.cell (World.block_lt_of_cell? _ _ K4.out)).trans K4.out)
         have HW5:=Lib.hid (HW4.out.trans (hb5.mono HW4.out.size))
         clear hb5
         have c2:=xV HF5.out.blk 2 _ rfl
         have mX:=xV HF5.out.blk 3 _ rfl
         have mJ:=xV HF5.out.blk 4 _ rfl
         have mV:=xV HF5.out.blk 5 _ rfl
         have cb:=K5.out
         cases b9 with
         | false =>
          obtain rfl:false = R:=by simpa using hR
          clear hR
          go_wp2_with fail
          go_ret
          exact ⟨rfl,HW5.out⟩
         | true =>
          go_wp2_with fail
          refine (hhK _ HF5.out).mono ?_;rintro e W6 ⟨rfl,hb6⟩
          clear c2 mX mJ mV cb
          have HF6:=Lib.hid (HF5.out.below hb6)
          have K6:=Lib.hid ((hb6.cell (World.block_lt_of_cell? _ _ K5.out)).trans K5.out)
          have HW6:=Lib.hid (HW5.out.trans (hb6.mono HW5.out.size))
          clear hb6
          have c2:=xV HF6.out.blk 2 _ rfl
          have mX:=xV HF6.out.blk 3 _ rfl
          have mJ:=xV HF6.out.blk 4 _ rfl
          have mV:=xV HF6.out.blk 5 _ rfl
          have cb:=K6.out
          cases b10 with
          | false =>
           go_wp2_with fail
           refine (haK _ HF6.out).mono ?_;rintro e W7 ⟨rfl,hb7⟩
           clear c2 mX mJ mV cb
           have HF7:=Lib.hid (HF6.out.below hb7)
           have K7:=Lib.hid ((hb7.cell (World.block_lt_of_cell? _ _ K6.out)).trans K6.out)
           have HW7:=Lib.hid (HW6.out.trans (hb7.mono HW6.out.size))
           clear hb7
           obtain rfl:b11 = R:=by simpa using hR
           clear hR
           go_wp2_with fail
           go_ret
           exact ⟨rfl,HW7.out⟩
          | true =>
           obtain rfl:false = R:=by simpa using hR
           clear hR
           go_wp2_with fail
           go_ret
           exact ⟨rfl,HW6.out⟩
        | true =>
         obtain rfl:false = R:=by simpa using hR
         clear hR
         go_wp2_with fail
         go_ret
         exact ⟨rfl,HW4.out⟩
      | true =>
       obtain rfl:false = R:=by simpa using hR
       clear hR
       go_wp2_with fail
       go_ret
       exact ⟨rfl,HW2.out⟩
  | true =>
   obtain rfl:false = R:=by simpa using hR
   clear hR
   go_wp2_with fail
   go_ret
   exact ⟨rfl,HW1.out⟩
def p9.f (zB:ByteArray) (_:Bool) (zC:Int) (zn:List qo) (zG:List xY) (zF:List vk):Option Bool:=if zn.length ≤ 1000000000 ∧ zG.length ≤ 1000000000 ∧ zF.length ≤ 1000000000 then some (vL zB zC zn zG zF) else none
theorem p9.calls (zB:ByteArray) (zD:Bool) (zC:Int) (yO:Option Addr) (yP:Nat) (zn:List qo) (yR:Option Addr) (yS:Nat) (zG:List xY) (yT:Option Addr) (yU:Nat) (zF:List vk) (r:Bool) (w:World) (uS:Kd.C jh w yO zn.length zn) (jF:zn.length ≤ yP) (jG:Kd.C wO w yR zG.length zG) (jH:zG.length ≤ yS) (jI:Kd.C pz w yT zF.length zF) (jL:zF.length ≤ yU) (hG:GW w) (h:p9.f zB zD zC zn zG zF = some r) :
  Calls Tryz.prog 39 #[.agg #[.string zB,.bool zD,.int .i64 zC,.slice yO zn.length yP,.slice yR zG.length yS,.slice yT zF.length yU]] w fun e w'=>e = .returned (.bool r) ∧ Below w.heap.size w w':=by
 unfold p9.f at h
 split at h
 ·rename_i hl
  obtain rfl:=Option.some.inj h
  exact zYu zB zD zC yO yP zn yR yS zG yT yU zF jF jH jL hl.1 hl.2.1 hl.2.2 w uS jG jI hG
 ·cases h
end Go.Proofs.YtggifbbiiickmaaGreatDoor
namespace Go.Proofs.YtggifbbiiickmaaGreatDoor
open Go.RowKit Go.Proofs.zk.zA Go.Proofs.zk.yA Go.Proofs.YtggifbbiiickmaaGreatDoor.PX
set_option linter.unusedSimpArgs false
set_option linter.unusedVariables false
theorem Pt (a b:ByteArray):Op.bytesLess a.toList b.toList = true ↔ a.toList < b.toList:=by rw [Go.Proofs.bytesLess_eq];exact decide_eq_true_iff
theorem Vi {a b:ByteArray}:uE a b < 0 ↔ a.toList < b.toList:=by
 rw [← Pt]
 unfold uE
 by_cases h1:Op.bytesLess a.toList b.toList = true
 ·simp [h1]
 ·by_cases h2:Op.bytesLess b.toList a.toList = true <;> simp [h1,h2]
theorem PK {a b:ByteArray}:a.toList = b.toList ↔ a = b:=by
 constructor
 ·intro h
  rw [Lib.toList_data,Lib.toList_data] at h
  exact ByteArray.ext (Array.toList_inj.1 h)
 ·rintro rfl
  rfl
theorem oF (a:ByteArray):uE a a = 0:=by
 unfold uE
 have h:¬ Op.bytesLess a.toList a.toList = true:=by rw [Pt];exact List.lt_irrefl _
 rw [if_neg h,if_neg h]
theorem zkb {a b:ByteArray}:uE a b = 0 ↔ a = b:=by
 constructor
 ·intro h
  unfold uE at h
  by_cases h1:Op.bytesLess a.toList b.toList = true
  ·rw [if_pos h1] at h;cases h
  ·rw [if_neg h1] at h
   by_cases h2:Op.bytesLess b.toList a.toList = true
   ·rw [if_pos h2] at h;cases h
   ·rw [Pt] at h1 h2
    exact PK.1 (List.le_antisymm (List.not_lt.1 h2) (List.not_lt.1 h1))
 ·rintro rfl
  exact oF a
theorem PN (l:List qo) (i:Nat) (h:i < l.length):qF l (i:Int) = l[i]:=by simp [qF,List.getD_eq_getElem?_getD,h]
def Asc (l:List qo):Prop:=∀ (i j:Nat) (hi:i < l.length) (hj:j < l.length),i < j → l[i].f0.toList < l[j].f0.toList
theorem zYA {l:List qo} (h:ZL (fun i j=>Vg (qF l (i:Int)) (qF l (j:Int))) l.length = true):Asc l:=by
 have h1:∀ (i:Nat) (hi:i + 1 < l.length),l[i].f0.toList < l[i + 1].f0.toList:=by
  intro i hi
  have h2:=List.all_eq_true.1 h i (List.mem_range.2 (by omega))
  rw [decide_eq_true_iff] at h2
  have h2:Vg (qF l (i:Int)) (qF l ((i + 1:Nat):Int)) < 0:=h2
  rw [PN l i (by omega),PN l (i + 1) hi] at h2
  exact Vi.1 h2
 have h3:∀ (d i:Nat) (hi:i + d + 1 < l.length),l[i].f0.toList < l[i + d + 1].f0.toList:=by
  intro d
  induction d with
  | zero=>intro i hi;exact h1 i hi
  | succ d ih=>intro i hi;exact List.lt_trans (ih i (by omega)) (h1 (i + d + 1) hi)
 intro i j hi hj hij
 have h4:=h3 (j - i - 1) i (by omega)
 have e:i + (j - i - 1) + 1 = j:=by omega
 simpa only [e] using h4
theorem zaV (l:List qo) (n:ByteArray) (ha:Asc l) (i j:Nat) (hij:i ≤ j) (hj:j ≤ l.length) (h1:∀ (m:Nat) (hm:m < l.length),m < i → l[m].f0.toList < n.toList) (h2:∀ (m:Nat) (hm:m < l.length),j ≤ m → ¬ l[m].f0.toList < n.toList) :
  (∀ (m:Nat) (hm:m < l.length),m < Pn l n i j → l[m].f0.toList < n.toList) ∧ (∀ (m:Nat) (hm:m < l.length),Pn l n i j ≤ m → ¬ l[m].f0.toList < n.toList):=by
 fun_induction Pn l n i j with
 | case1 i j hlt hc ih =>
  have hm:(i + j) / 2 < l.length:=by omega
  rw [PN l _ hm,Vi] at hc
  refine ih (by omega) hj (fun m hml hmi=>?_) h2
  by_cases he:m = (i + j) / 2
  ·subst he;exact hc
  ·exact List.lt_trans (ha m _ hml hm (by omega)) hc
 | case2 i j hlt hc ih =>
  have hm:(i + j) / 2 < l.length:=by omega
  rw [PN l _ hm,Vi] at hc
  refine ih (by omega) (by omega) h1 (fun m hml hmi hlt'=>?_)
  by_cases he:m = (i + j) / 2
  ·subst he;exact hc hlt'
  ·exact hc (List.lt_trans (ha _ m hm hml (by omega)) hlt')
 | case3 i j hlt =>
  obtain rfl:i = j:=by omega
  exact ⟨h1,h2⟩
theorem zwo (l:List qo) (ha:Asc l) (m:Nat) (hm:m < l.length):XK l l[m].f0 = ((m:Int),true):=by
 obtain ⟨h1,h2⟩:=zaV l l[m].f0 ha 0 l.length (Nat.zero_le _) (Nat.le_refl _) (fun m _ h=>absurd h (Nat.not_lt_zero _)) (fun m hm h=>absurd hm (by omega))
 have e:Pn l l[m].f0 0 l.length = m:=by
  rcases Nat.lt_trichotomy (Pn l l[m].f0 0 l.length) m with h | h | h
  ·exact absurd (ha _ m (by omega) hm h) (h2 _ (by omega) (Nat.le_refl _))
  ·exact h
  ·exact absurd (h1 m hm h) (List.lt_irrefl _)
 unfold XK
 simp only [e,decide_eq_true hm,Bool.true_and,PN l m hm]
 rw [oF]
 rfl
theorem zwp (l:List qo) (n:ByteArray) (h:∀ x ∈ l,x.f0 ≠ n):(XK l n).2 = false:=by
 unfold XK
 simp only
 by_cases hi:Pn l n 0 l.length < l.length
 ·rw [PN l _ hi]
  have:¬ uE l[Pn l n 0 l.length].f0 n = 0:=fun e=>h _ (List.getElem_mem hi) (zkb.1 e)
  rw [decide_eq_false this,Bool.and_false]
 ·rw [decide_eq_false hi,Bool.false_and]
theorem zaK (l:List qo) (ha:Asc l) (n:ByteArray):(XK l n).2 = l.any fun x=>decide (x.f0 = n):=by
 by_cases h:∃ x ∈ l,x.f0 = n
 ·obtain ⟨x,hx,rfl⟩:=h
  obtain ⟨m,hm,rfl⟩:=List.getElem_of_mem hx
  rw [zwo l ha m hm]
  exact (List.any_eq_true.2 ⟨_,hx,by simp⟩).symm
 ·rw [zwp l n (fun x hx e=>h ⟨x,hx,e⟩)]
  refine (List.any_eq_false.2 fun x hx=>?_).symm
  simpa using fun e=>h ⟨x,hx,e⟩
end Go.Proofs.YtggifbbiiickmaaGreatDoor
namespace Go.Proofs.YtggifbbiiickmaaGreatDoor
open Go.RowKit Go.Shelf Go.Proofs.zk.zA Go.Proofs.zk.yB Go.Proofs.zk.yA Go.Proofs.YtggifbbiiickmaaGreatDoor.PX
set_option linter.unusedSimpArgs false
set_option linter.unusedVariables false
set_option maxRecDepth 100000 in
theorem zYB (B:Nat) (n:ByteArray) (w:World) (hB:w.cell? ⟨B,0,none⟩ = some (.string n)) :
  PredBelow Tryz.prog 160 #[.pointer (some ⟨B,0,none⟩)] (fun x=>.agg (ZB x).toArray) (fun x:qo=>x.f0.toList == n.toList) w:=fun W x hb=>by
 have hl:=World.block_lt_of_cell? w _ hB
 have hlW:B < W.heap.size:=Nat.lt_of_lt_of_le hl hb.size
 have hc:(W.alloc (.cells #[.string x.f0,.int .i64 x.f1] 105)).cell? ⟨B,0,none⟩ = some (.string n):=(World.cell?_alloc_lt _ _ _ hlW).trans ((hb.cell hl).trans hB)
 have hb0:Below w.heap.size w (W.alloc (.cells #[.string x.f0,.int .i64 x.f1] 105)):=hb.alloc hb.size _
 show Calls Tryz.prog 160 #[.agg #[.string x.f0,.int .i64 x.f1],.pointer (some ⟨B,0,none⟩)] W _
 clear hb hB hl
 go_enter Tryz.func160,Tryz.ntmps160
 go_wp2
 go_ret
 exact ⟨by first | rfl | (simp;done),hb0⟩
def Yj (l:List qo) (n:ByteArray):Bool:=l.any fun x=>x.f0.toList == n.toList
def Vl.f (_:ByteArray) (_:Bool) (_:Int) (zn:List qo) (_:List xY) (_:List vk) (a1:ByteArray):Option Bool:=if zn.length ≤ 1000000000 then some (Yj zn a1) else none
theorem Vl.calls (zB:ByteArray) (zD:Bool) (zC:Int) (yO:Option Addr) (yP:Nat) (zn:List qo) (yR:Option Addr) (yS:Nat) (zG:List xY) (yT:Option Addr) (yU:Nat) (zF:List vk) (a1:ByteArray) (r:Bool) (w:World) (uS:Kd.C jh w yO zn.length zn) (_:zn.length ≤ yP) (_:Kd.C wO w yR zG.length zG) (_:zG.length ≤ yS) (_:Kd.C pz w yT zF.length zF) (_:zF.length ≤ yU) (_:GW w) (h:Vl.f zB zD zC zn zG zF a1 = some r) :
  Calls Tryz.prog 135 #[.agg #[.string zB,.bool zD,.int .i64 zC,.slice yO zn.length yP,.slice yR zG.length yS,.slice yT zF.length yU],.string a1] w fun e w'=>e = .returned (.bool r) ∧ Below w.heap.size w w':=by
 unfold Vl.f at h
 split at h
 ·rename_i hl
  obtain rfl:=Option.some.inj h
  have hb0:Below w.heap.size w ((w.alloc (.cells #[.string zB,.bool zD,.int .i64 zC,.slice yO zn.length yP,.slice yR zG.length yS,.slice yT zF.length yU] 60)).alloc (.cells #[.string a1] 9)):=((Below.refl _ w).alloc (Nat.le_refl _) _).alloc (by simp) _
  have hcell:((w.alloc (.cells #[.string zB,.bool zD,.int .i64 zC,.slice yO zn.length yP,.slice yR zG.length yS,.slice yT zF.length yU] 60)).alloc (.cells #[.string a1] 9)).cell? ⟨w.heap.size + 1,0,none⟩ = some (.string a1):=by simp
  have hs:=zk3 yO yP zn _ (Kd.zu uS hb0) hl (fun x=>x.f0.toList == a1.toList) 160 #[.pointer (some ⟨w.heap.size + 1,0,none⟩)] (Xi Tryz.func160 (by kernel_rfl) rfl) (zYB (w.heap.size + 1) a1 _ hcell)
  unfold Yj
  generalize (zn.any fun x=>x.f0.toList == a1.toList) = R at hs ⊢
  clear hcell uS hl h
  go_enter Tryz.func135,Tryz.ntmps135
  go_wp2_with fail
  refine hs.mono ?_;rintro e w2 ⟨rfl,hb2⟩
  go_wp2
  go_ret
  exact ⟨rfl,hb0.trans (hb2.mono hb0.size)⟩
 ·cases h
end Go.Proofs.YtggifbbiiickmaaGreatDoor
namespace Go.Proofs.YtggifbbiiickmaaGreatDoor.PX
open Go.RowKit Go.Proofs.zk.zA Go.Proofs.zk.yB Go.Proofs.zk.yA
attribute [local go_sem] xR xS vM vN xB xC xU vv   -- for this text's walks alone
set_option linter.unusedVariables false
set_option linter.unusedSimpArgs false
def ZU.f (zB:ByteArray) (zD:Bool) (zC:Int) (zn:List (qo)) (zG:List (xY)) (zF:List (vk)) (a1:Int):Option (Bool):=if a1 ≥ 1 then (if a1 ≤ 1000 then ((p9.f zB zD zC zn zG zF).bind fun zjg=>(some zjg)) else (some false)) else (some false)
set_option maxHeartbeats 8000000 in
set_option maxRecDepth 100000 in
theorem ZU.calls (zB:ByteArray) (zD:Bool) (zC:Int) (yO:Option Addr) (yP:Nat) (zn:List (qo)) (yR:Option Addr) (yS:Nat) (zG:List (xY)) (yT:Option Addr) (yU:Nat) (zF:List (vk)) (a1:Int) (r:Bool) (w:World) (uS:Kd.C jh w yO zn.length zn) (jF:zn.length ≤ yP) (jG:Kd.C wO w yR zG.length zG) (jH:zG.length ≤ yS) (jI:Kd.C pz w yT zF.length zF) (jL:zF.length ≤ yU) (hG:GW w) (h:ZU.f zB zD zC zn zG zF a1 = some r) :
  Calls Tryz.prog 62 #[.agg #[.string zB,.bool zD,.int .i64 zC,.slice yO zn.length yP,.slice yR zG.length yS,.slice yT zF.length yU],.int .i64 a1] w fun e w'=>e = .returned (.bool r) ∧ Below w.heap.size w w':=by
 have zgc:=Tryz.underlying60
 have HG:=zx.mk hG
 clear hG
 have jr:=zx.mk uS
 have kM:=zx.mk jF
 clear uS jF
 have jA:=zx.mk jG
 have kN:=zx.mk jH
 clear jG jH
 have jB:=zx.mk jI
 have kP:=zx.mk jL
 clear jI jL
 have HB:=zx.mk (Below.refl w.heap.size w)
 have H:(if a1 ≥ 1 then (if a1 ≤ 1000 then ((p9.f zB zD zC zn zG zF).bind fun zjg=>(some zjg)) else (some false)) else (some false)) = some r:=h
 clear h
 by_cases c3:a1 ≥ 1
 ·rw [if_pos c3] at H
  have Zh:decide (1 ≤ a1) = true:=decide_eq_true c3
  clear c3
  by_cases c4:a1 ≤ 1000
  ·rw [if_pos c4] at H
   have ZI:decide (a1 ≤ 1000) = true:=decide_eq_true c4
   clear c4
   replace H:=Option.bind_eq_some_iff.mp H
   obtain ⟨zjg,A50,H⟩:=H
   replace H:(some zjg) = some r:=H
   have A5:=zx.mk A50
   clear A50
   obtain rfl:=Option.some.inj H
   go_enter Tryz.func62,Tryz.ntmps62
   go_wp2_with (first | ((with_reducible refine qC (N:=2) rfl ?_);refine qM ?hg (N:=2) ?hd (cs:=#[.string zB,.bool zD,.int .i64 zC,.slice yO zn.length yP,.slice yR zG.length yS,.slice yT zF.length yU]) (t:=60) ?hr ?_;(case hd=>rfl);(case hg=>rfl);(case hr=>first | (go_simp;done) | (go_simp;rfl));intro XW hg w6 qc hb;have zJ:=zx.mk (zo (zH HB.out) hb);have zK:=zx.mk (qc);have zi:=zx.mk ((by rw [hg];exact (ze (zH HB.out)):w.heap.size ≤ XW));have zL:=zx.mk ((by rw [hg];exact (ze (zH HB.out)):w.heap.size ≤ XW));clear HB;have HB:=zJ;have Yh:=zK;have zcd:=zi;have zxs:=zL;clear zJ zK zi zL;clear hb qc hg;have zYf:w6.cell? ⟨XW,0,none⟩ = some (.string zB):=zZ Yh 0;have zYg:w6.cell? ⟨XW,1,none⟩ = some (.bool zD):=zZ Yh 1;have zYh:w6.cell? ⟨XW,2,none⟩ = some (.int .i64 zC):=zZ Yh 2;have zYi:w6.cell? ⟨XW,3,none⟩ = some (.slice yO zn.length yP):=zZ Yh 3;have zf8:w6.cell? ⟨XW,4,none⟩ = some (.slice yR zG.length yS):=zZ Yh 4;have zf9:w6.cell? ⟨XW,5,none⟩ = some (.slice yT zF.length yU):=zZ Yh 5;have zYl:=zy Yh.out 0;have zYm:=zy Yh.out 1;have zYn:=zy Yh.out 2;have zYo:=zy Yh.out 3;have zgz:=zy Yh.out 4;have zgq:=zy Yh.out 5) | (go_at_call 39;(with_reducible refine (p9.calls zB zD zC _ _ zn _ _ zG _ _ zF zjg _ ?yc ?yI ?qy ?qw ?qD ?qE ?jU A5.out).mono ?_);(case yc=>exact ql (Kd.zu jr.out HB.out));(case yI=>exact kM.out);(case qy=>exact ql (Kd.zu jA.out HB.out));(case qw=>exact kN.out);(case qD=>exact ql (Kd.zu jB.out HB.out));(case qE=>exact kP.out);(case jU=>exact GW.under HG.out (zH HB.out));rintro e w8 ⟨rfl,hb⟩;have zJ:=zx.mk (zU (g:=XW) (o:=.cells #[.string zB,.bool zD,.int .i64 zC,.slice yO zn.length yP,.slice yR zG.length yS,.slice yT zF.length yU] 60 (0,0)) (qh Yh.out) hb);have zK:=zx.mk (zo (zH HB.out) hb);clear Yh;clear HB;have Yh:=zJ;have HB:=zK;clear zJ zK;(try clear hb);(try clear hi)))
   go_ret
   exact ⟨by first | rfl | (simp [zM,zN] <;> rfl) | (simp [*,zM,zN] <;> rfl),by repeat (first | (with_reducible first | exact HB.out | apply yV | apply zP | apply zT | refine qb ?_ zxs.out) | exact HB.out)⟩
  ·rw [if_neg c4] at H
   have ZI:decide (a1 ≤ 1000) = false:=decide_eq_false c4
   clear c4
   obtain rfl:=Option.some.inj H
   go_enter Tryz.func62,Tryz.ntmps62
   go_wp2_with (first | ((with_reducible refine qC (N:=2) rfl ?_);refine qM ?hg (N:=2) ?hd (cs:=#[.string zB,.bool zD,.int .i64 zC,.slice yO zn.length yP,.slice yR zG.length yS,.slice yT zF.length yU]) (t:=60) ?hr ?_;(case hd=>rfl);(case hg=>rfl);(case hr=>first | (go_simp;done) | (go_simp;rfl));intro XW hg w9 qc hb;have zJ:=zx.mk (zo (zH HB.out) hb);have zK:=zx.mk (qc);have zi:=zx.mk ((by rw [hg];exact (ze (zH HB.out)):w.heap.size ≤ XW));have zL:=zx.mk ((by rw [hg];exact (ze (zH HB.out)):w.heap.size ≤ XW));clear HB;have HB:=zJ;have Yh:=zK;have zcd:=zi;have zxs:=zL;clear zJ zK zi zL;clear hb qc hg))
   go_ret
   exact ⟨by first | rfl | (simp [zM,zN] <;> rfl) | (simp [*,zM,zN] <;> rfl),by repeat (first | (with_reducible first | exact HB.out | apply yV | apply zP | apply zT | refine qb ?_ zxs.out) | exact HB.out)⟩
 ·rw [if_neg c3] at H
  have Zh:decide (1 ≤ a1) = false:=decide_eq_false c3
  clear c3
  obtain rfl:=Option.some.inj H
  go_enter Tryz.func62,Tryz.ntmps62
  go_wp2_with (first | ((with_reducible refine qC (N:=2) rfl ?_);refine qM ?hg (N:=2) ?hd (cs:=#[.string zB,.bool zD,.int .i64 zC,.slice yO zn.length yP,.slice yR zG.length yS,.slice yT zF.length yU]) (t:=60) ?hr ?_;(case hd=>rfl);(case hg=>rfl);(case hr=>first | (go_simp;done) | (go_simp;rfl));intro XW hg Po qc hb;have zJ:=zx.mk (zo (zH HB.out) hb);have zK:=zx.mk (qc);have zi:=zx.mk ((by rw [hg];exact (ze (zH HB.out)):w.heap.size ≤ XW));have zL:=zx.mk ((by rw [hg];exact (ze (zH HB.out)):w.heap.size ≤ XW));clear HB;have HB:=zJ;have Yh:=zK;have zcd:=zi;have zxs:=zL;clear zJ zK zi zL;clear hb qc hg))
  go_ret
  exact ⟨by first | rfl | (simp [zM,zN] <;> rfl) | (simp [*,zM,zN] <;> rfl),by repeat (first | (with_reducible first | exact HB.out | apply yV | apply zP | apply zT | refine qb ?_ zxs.out) | exact HB.out)⟩
def Qa.f (a0:Int) (a1:Int):Option (Int):=if a0 < 0 then (if a1 = 0 then (none) else (some (wrap64 (-(wrap64 (Int.tdiv (wrap64 ((wrap64 ((wrap64 (-a0)) + a1)) - 1)) a1)))))) else (if a1 = 0 then (none) else (some (wrap64 (Int.tdiv a0 a1))))
set_option maxHeartbeats 8000000 in
set_option maxRecDepth 100000 in
theorem Qa.calls (a0:Int) (a1:Int) (r:Int) (w:World) (h:Qa.f a0 a1 = some r) :
  Calls Tryz.prog 117 #[.int .i64 a0,.int .i64 a1] w fun e w'=>e = .returned (.int .i64 r) ∧ yg w w':=by
 have H:(if a0 < 0 then (if a1 = 0 then (none) else (some (wrap64 (-(wrap64 (Int.tdiv (wrap64 ((wrap64 ((wrap64 (-a0)) + a1)) - 1)) a1)))))) else (if a1 = 0 then (none) else (some (wrap64 (Int.tdiv a0 a1))))) = some r:=h
 clear h
 by_cases c3:a0 < 0
 ·rw [if_pos c3] at H
  have Zh:decide (a0 < 0) = true:=decide_eq_true c3
  clear c3
  by_cases c4:a1 = 0
  ·rw [if_pos c4] at H
   exact absurd H (by simp)
  ·rw [if_neg c4] at H
   have ZI:(a1 == 0) = false:=beq_eq_false_iff_ne.mpr c4
   have zaY:(a1 != 0) = true:=bne_iff_ne.mpr c4
   obtain rfl:=Option.some.inj H
   go_enter Tryz.func117,Tryz.ntmps117
   go_wp2
   go_ret
   exact ⟨by first | rfl | (simp;done) | (simp [*];done),by repeat (first | exact yg.refl _ | apply yg.step)⟩
 ·rw [if_neg c3] at H
  have Zh:decide (a0 < 0) = false:=decide_eq_false c3
  clear c3
  by_cases c5:a1 = 0
  ·rw [if_pos c5] at H
   exact absurd H (by simp)
  ·rw [if_neg c5] at H
   have wR:(a1 == 0) = false:=beq_eq_false_iff_ne.mpr c5
   have zqm:(a1 != 0) = true:=bne_iff_ne.mpr c5
   obtain rfl:=Option.some.inj H
   go_enter Tryz.func117,Tryz.ntmps117
   go_wp2
   go_ret
   exact ⟨by first | rfl | (simp;done) | (simp [*];done),by repeat (first | exact yg.refl _ | apply yg.step)⟩
def wT.f (a0:Int) (a1:Int):Option (Int):=(Qa.f (wrap64 ((wrap64 (10 * a1)) * a0)) 1000).bind fun zjh=>(some zjh)
set_option maxHeartbeats 8000000 in
set_option maxRecDepth 100000 in
theorem wT.calls (a0:Int) (a1:Int) (r:Int) (w:World) (h:wT.f a0 a1 = some r) :
  Calls Tryz.prog 63 #[.int .i64 a0,.int .i64 a1] w fun e w'=>e = .returned (.int .i64 r) ∧ yg w w':=by
 have H:((Qa.f (wrap64 ((wrap64 (10 * a1)) * a0)) 1000).bind fun zjh=>(some zjh)) = some r:=h
 clear h
 replace H:=Option.bind_eq_some_iff.mp H
 obtain ⟨zjh,A30,H⟩:=H
 replace H:(some zjh) = some r:=H
 have A3:=zx.mk A30
 clear A30
 obtain rfl:=Option.some.inj H
 go_enter Tryz.func63,Tryz.ntmps63
 go_wp2_with (first | ((with_reducible refine yG (f:=117) rfl ?_);refine jm (some 9) Tryz.func117 #[.int .i64 (wrap64 ((wrap64 (10 * a1)) * a0)),.int .i64 1000] ?_;(with_reducible refine (Qa.calls (wrap64 ((wrap64 (10 * a1)) * a0)) 1000 zjh _ A3.out).mono ?_);rintro e w' ⟨rfl,⟨nd,rfl⟩⟩;refine ⟨_,rfl,?_⟩))
 go_ret
 exact ⟨by first | rfl | (simp;done) | (simp [*];done),by repeat (first | exact yg.refl _ | apply yg.step)⟩
end Go.Proofs.YtggifbbiiickmaaGreatDoor.PX
namespace Go.Proofs.YtggifbbiiickmaaGreatDoor.PX
open Go.RowKit Go.Proofs.zk.zA Go.Proofs.zk.yB Go.Proofs.zk.yA
attribute [local go_sem] xR xS vM vN xB xC xU vv   -- for this text's walks alone
set_option linter.unusedVariables false
set_option linter.unusedSimpArgs false
def Kq.f (zB:ByteArray) (zD:Bool) (zC:Int) (zn:List (qo)) (zG:List (xY)) (zF:List (vk)) (a1:ByteArray) (a2:Int):Option (Int × Int):=(ZU.f zB zD zC zn zG zF a2).bind fun zji=>(if zji = true then ((wL.f zB zD zC zn zG zF a1).bind fun ZM=>(if ZM.2 = true then (if 0 ≤ ZM.1 then (if ZM.1 < (zn.length:Int) then ((wT.f ((qF zn ZM.1).f1) a2).bind fun Kj=>(some (Kj,0))) else (none)) else (none)) else (some (0,3)))) else (some (0,1)))
set_option maxHeartbeats 8000000 in
set_option maxRecDepth 100000 in
theorem Kq.calls (zB:ByteArray) (zD:Bool) (zC:Int) (yO:Option Addr) (yP:Nat) (zn:List (qo)) (yR:Option Addr) (yS:Nat) (zG:List (xY)) (yT:Option Addr) (yU:Nat) (zF:List (vk)) (a1:ByteArray) (a2:Int) (r1:Int) (r2:Int) (w:World) (uS:Kd.C jh w yO zn.length zn) (jF:zn.length ≤ yP) (jG:Kd.C wO w yR zG.length zG) (jH:zG.length ≤ yS) (jI:Kd.C pz w yT zF.length zF) (jL:zF.length ≤ yU) (hG:GW w) (h:Kq.f zB zD zC zn zG zF a1 a2 = some (r1,r2)) :
  Calls Tryz.prog 22 #[.agg #[.string zB,.bool zD,.int .i64 zC,.slice yO zn.length yP,.slice yR zG.length yS,.slice yT zF.length yU],.string a1,.int .i64 a2] w fun e w'=>e = .returned (.tuple #[.int .i64 r1,.int .i64 r2]) ∧ Below w.heap.size w w':=by
 have zgc:=Tryz.underlying60
 have HG:=zx.mk hG
 clear hG
 have jr:=zx.mk uS
 have kM:=zx.mk jF
 clear uS jF
 have jA:=zx.mk jG
 have kN:=zx.mk jH
 clear jG jH
 have jB:=zx.mk jI
 have kP:=zx.mk jL
 clear jI jL
 have HB:=zx.mk (Below.refl w.heap.size w)
 have H:((ZU.f zB zD zC zn zG zF a2).bind fun zji=>(if zji = true then ((wL.f zB zD zC zn zG zF a1).bind fun ZM=>(if ZM.2 = true then (if 0 ≤ ZM.1 then (if ZM.1 < (zn.length:Int) then ((wT.f ((qF zn ZM.1).f1) a2).bind fun Kj=>(some (Kj,0))) else (none)) else (none)) else (some (0,3)))) else (some (0,1)))) = some (r1,r2):=h
 clear h
 replace H:=Option.bind_eq_some_iff.mp H
 obtain ⟨zji,P6,H⟩:=H
 replace H:(if zji = true then ((wL.f zB zD zC zn zG zF a1).bind fun ZM=>(if ZM.2 = true then (if 0 ≤ ZM.1 then (if ZM.1 < (zn.length:Int) then ((wT.f ((qF zn ZM.1).f1) a2).bind fun Kj=>(some (Kj,0))) else (none)) else (none)) else (some (0,3)))) else (some (0,1))) = some (r1,r2):=H
 have A4:=zx.mk P6
 clear P6
 by_cases c5:zji = true
 ·subst c5
  have H1:((wL.f zB zD zC zn zG zF a1).bind fun ZM=>(if ZM.2 = true then (if 0 ≤ ZM.1 then (if ZM.1 < (zn.length:Int) then ((wT.f ((qF zn ZM.1).f1) a2).bind fun Kj=>(some (Kj,0))) else (none)) else (none)) else (some (0,3)))) = some (r1,r2):=by rw [if_pos rfl] at H;exact H
  clear H
  have H:=H1
  clear H1
  replace H:=Option.bind_eq_some_iff.mp H
  obtain ⟨⟨QX,zgf⟩,A60,H⟩:=H
  replace H:(if zgf = true then (if 0 ≤ QX then (if QX < (zn.length:Int) then ((wT.f ((qF zn QX).f1) a2).bind fun Kj=>(some (Kj,0))) else (none)) else (none)) else (some (0,3))) = some (r1,r2):=H
  have A6:=zx.mk A60
  clear A60
  by_cases c7:zgf = true
  ·subst c7
   have H1:(if 0 ≤ QX then (if QX < (zn.length:Int) then ((wT.f ((qF zn QX).f1) a2).bind fun Kj=>(some (Kj,0))) else (none)) else (none)) = some (r1,r2):=by rw [if_pos rfl] at H;exact H
   clear H
   have H:=H1
   clear H1
   by_cases c8:0 ≤ QX
   ·rw [if_pos c8] at H
    have X6:decide (0 ≤ QX) = true:=decide_eq_true c8
    clear c8
    by_cases c9:QX < (zn.length:Int)
    ·rw [if_pos c9] at H
     have oC:decide (QX < (zn.length:Int)) = true:=decide_eq_true c9
     clear c9
     replace H:=Option.bind_eq_some_iff.mp H
     obtain ⟨Kj,oG,H⟩:=H
     replace H:(some (Kj,0)) = some (r1,r2):=H
     have oH:=zx.mk oG
     clear oG
     simp only [Option.some.injEq,Prod.mk.injEq] at H
     obtain ⟨rfl,rfl⟩:=H
     go_enter Tryz.func22,Tryz.ntmps22
     go_wp2_with (first | ((with_reducible refine qC (N:=3) rfl ?_);refine qM ?hg (N:=3) ?hd (cs:=#[.string zB,.bool zD,.int .i64 zC,.slice yO zn.length yP,.slice yR zG.length yS,.slice yT zF.length yU]) (t:=60) ?hr ?_;(case hd=>rfl);(case hg=>rfl);(case hr=>first | (go_simp;done) | (go_simp;rfl));intro vU hg oq qc hb;have zJ:=zx.mk (zo (zH HB.out) hb);have zK:=zx.mk (qc);have zi:=zx.mk ((by rw [hg];exact (ze (zH HB.out)):w.heap.size ≤ vU));have zL:=zx.mk ((by rw [hg];exact (ze (zH HB.out)):w.heap.size ≤ vU));clear HB;have HB:=zJ;have qm:=zK;have zce:=zi;have zxt:=zL;clear zJ zK zi zL;clear hb qc hg;have zwr:oq.cell? ⟨vU,0,none⟩ = some (.string zB):=zZ qm 0;have zws:oq.cell? ⟨vU,1,none⟩ = some (.bool zD):=zZ qm 1;have zwt:oq.cell? ⟨vU,2,none⟩ = some (.int .i64 zC):=zZ qm 2;have zwu:oq.cell? ⟨vU,3,none⟩ = some (.slice yO zn.length yP):=zZ qm 3;have zwA:oq.cell? ⟨vU,4,none⟩ = some (.slice yR zG.length yS):=zZ qm 4;have zwB:oq.cell? ⟨vU,5,none⟩ = some (.slice yT zF.length yU):=zZ qm 5;have zwC:=zy qm.out 0;have zwD:=zy qm.out 1;have zwE:=zy qm.out 2;have zwF:=zy qm.out 3;have zwG:=zy qm.out 4;have zwH:=zy qm.out 5) | ((with_reducible refine yG (f:=62) rfl ?_);refine jm (some 12) Tryz.func62 #[.agg #[.string zB,.bool zD,.int .i64 zC,.slice yO zn.length yP,.slice yR zG.length yS,.slice yT zF.length yU],.int .i64 a2] ?_;(with_reducible refine (ZU.calls zB zD zC _ _ zn _ _ zG _ _ zF a2 true _ ?yc ?yI ?qy ?qw ?qD ?qE ?jU A4.out).mono ?_);(case yc=>exact ql (Kd.zu jr.out HB.out));(case yI=>exact kM.out);(case qy=>exact ql (Kd.zu jA.out HB.out));(case qw=>exact kN.out);(case qD=>exact ql (Kd.zu jB.out HB.out));(case qE=>exact kP.out);(case jU=>exact GW.under HG.out (zH HB.out));rintro e w13 ⟨rfl,hb⟩;refine ⟨_,rfl,?_⟩;have zJ:=zx.mk (zU (g:=vU) (o:=.cells #[.string zB,.bool zD,.int .i64 zC,.slice yO zn.length yP,.slice yR zG.length yS,.slice yT zF.length yU] 60 (0,0)) (qh qm.out) hb);have zK:=zx.mk (zo (zH HB.out) hb);clear qm;clear HB;have qm:=zJ;have HB:=zK;clear zJ zK;(try clear hb);have nM:w13.cell? ⟨vU,0,none⟩ = some (.string zB):=zZ qm 0;have nN:w13.cell? ⟨vU,1,none⟩ = some (.bool zD):=zZ qm 1;have nO:w13.cell? ⟨vU,2,none⟩ = some (.int .i64 zC):=zZ qm 2;have nP:w13.cell? ⟨vU,3,none⟩ = some (.slice yO zn.length yP):=zZ qm 3;have nR:w13.cell? ⟨vU,4,none⟩ = some (.slice yR zG.length yS):=zZ qm 4;have nS:w13.cell? ⟨vU,5,none⟩ = some (.slice yT zF.length yU):=zZ qm 5;have nT:=zy qm.out 0;have nU:=zy qm.out 1;have rz:=zy qm.out 2;have rZ:=zy qm.out 3;have rQ:=zy qm.out 4;have rX:=zy qm.out 5) | ((with_reducible refine yG (f:=64) rfl ?_);refine jm (some 17) Tryz.func64 #[.agg #[.string zB,.bool zD,.int .i64 zC,.slice yO zn.length yP,.slice yR zG.length yS,.slice yT zF.length yU],.string a1] ?_;(with_reducible refine (wL.calls zB zD zC _ _ zn _ _ zG _ _ zF a1 QX true _ ?yc ?yI ?qy ?qw ?qD ?qE ?jU A6.out).mono ?_);(case yc=>exact ql (Kd.zu jr.out HB.out));(case yI=>exact kM.out);(case qy=>exact ql (Kd.zu jA.out HB.out));(case qw=>exact kN.out);(case qD=>exact ql (Kd.zu jB.out HB.out));(case qE=>exact kP.out);(case jU=>exact GW.under HG.out (zH HB.out));rintro e Zi ⟨rfl,hb⟩;refine ⟨_,rfl,?_⟩;have zJ:=zx.mk (zU (g:=vU) (o:=.cells #[.string zB,.bool zD,.int .i64 zC,.slice yO zn.length yP,.slice yR zG.length yS,.slice yT zF.length yU] 60 (0,0)) (qh qm.out) hb);have zK:=zx.mk (zo (zH HB.out) hb);clear qm;clear HB;have qm:=zJ;have HB:=zK;clear zJ zK;(try clear hb);have VD:Zi.cell? ⟨vU,0,none⟩ = some (.string zB):=zZ qm 0;have VE:Zi.cell? ⟨vU,1,none⟩ = some (.bool zD):=zZ qm 1;have VF:Zi.cell? ⟨vU,2,none⟩ = some (.int .i64 zC):=zZ qm 2;have VG:Zi.cell? ⟨vU,3,none⟩ = some (.slice yO zn.length yP):=zZ qm 3;have zzE:Zi.cell? ⟨vU,4,none⟩ = some (.slice yR zG.length yS):=zZ qm 4;have zzF:Zi.cell? ⟨vU,5,none⟩ = some (.slice yT zF.length yU):=zZ qm 5;have VH:=zy qm.out 0;have VI:=zy qm.out 1;have VL:=zy qm.out 2;have VN:=zy qm.out 3;have zzG:=zy qm.out 4;have zzH:=zy qm.out 5;have zaW:0 ≤ (QX:Int):=of_decide_eq_true yE;have zaa:QX < (zn.length:Int):=of_decide_eq_true yE;obtain ⟨ztN,znc,zjl,zjm⟩:=Ko jr.out QX zaW zaa;cases znc;replace zjl:=(HB.out.cell (World.block_lt_of_cell? w _ zjl)).trans zjl;replace zjm:=(HB.out.cell (World.block_lt_of_cell? w _ zjm)).trans zjm;replace zaW:=eq_true zaW;replace zaa:=eq_true zaa) | ((with_reducible refine yG (f:=63) rfl ?_);refine jm (some 29) Tryz.func63 #[.int .i64 ((qF zn QX).f1),.int .i64 a2] ?_;(with_reducible refine (wT.calls ((qF zn QX).f1) a2 Kj _ oH.out).mono ?_);rintro e w' ⟨rfl,⟨nd,rfl⟩⟩;refine ⟨_,rfl,?_⟩))
     go_ret2
     exact ⟨by first | rfl | (simp [zM,zN] <;> rfl) | (simp [*,zM,zN] <;> rfl),by repeat (first | (with_reducible first | exact HB.out | apply yV | apply zP | apply zT | refine qb ?_ zxt.out) | exact HB.out)⟩
    ·rw [if_neg c9] at H
     exact absurd H (by simp)
   ·rw [if_neg c8] at H
    exact absurd H (by simp)
  ·replace c7:=Bool.eq_false_iff.mpr c7
   subst c7
   have H1:(some (0,3)) = some (r1,r2):=by rw [if_neg (show ¬ (false = true) by decide)] at H;exact H
   clear H
   have H:=H1
   clear H1
   simp only [Option.some.injEq,Prod.mk.injEq] at H
   obtain ⟨rfl,rfl⟩:=H
   go_enter Tryz.func22,Tryz.ntmps22
   go_wp2_with (first | ((with_reducible refine qC (N:=3) rfl ?_);refine qM ?hg (N:=3) ?hd (cs:=#[.string zB,.bool zD,.int .i64 zC,.slice yO zn.length yP,.slice yR zG.length yS,.slice yT zF.length yU]) (t:=60) ?hr ?_;(case hd=>rfl);(case hg=>rfl);(case hr=>first | (go_simp;done) | (go_simp;rfl));intro vU hg VQ qc hb;have zJ:=zx.mk (zo (zH HB.out) hb);have zK:=zx.mk (qc);have zi:=zx.mk ((by rw [hg];exact (ze (zH HB.out)):w.heap.size ≤ vU));have zL:=zx.mk ((by rw [hg];exact (ze (zH HB.out)):w.heap.size ≤ vU));clear HB;have HB:=zJ;have qm:=zK;have zce:=zi;have zxt:=zL;clear zJ zK zi zL;clear hb qc hg;have zda:VQ.cell? ⟨vU,0,none⟩ = some (.string zB):=zZ qm 0;have zdb:VQ.cell? ⟨vU,1,none⟩ = some (.bool zD):=zZ qm 1;have zdc:VQ.cell? ⟨vU,2,none⟩ = some (.int .i64 zC):=zZ qm 2;have zdd:VQ.cell? ⟨vU,3,none⟩ = some (.slice yO zn.length yP):=zZ qm 3;have zde:VQ.cell? ⟨vU,4,none⟩ = some (.slice yR zG.length yS):=zZ qm 4;have zdf:VQ.cell? ⟨vU,5,none⟩ = some (.slice yT zF.length yU):=zZ qm 5;have zdg:=zy qm.out 0;have zdh:=zy qm.out 1;have zdi:=zy qm.out 2;have zdl:=zy qm.out 3;have zdm:=zy qm.out 4;have zdn:=zy qm.out 5) | ((with_reducible refine yG (f:=62) rfl ?_);refine jm (some 12) Tryz.func62 #[.agg #[.string zB,.bool zD,.int .i64 zC,.slice yO zn.length yP,.slice yR zG.length yS,.slice yT zF.length yU],.int .i64 a2] ?_;(with_reducible refine (ZU.calls zB zD zC _ _ zn _ _ zG _ _ zF a2 true _ ?yc ?yI ?qy ?qw ?qD ?qE ?jU A4.out).mono ?_);(case yc=>exact ql (Kd.zu jr.out HB.out));(case yI=>exact kM.out);(case qy=>exact ql (Kd.zu jA.out HB.out));(case qw=>exact kN.out);(case qD=>exact ql (Kd.zu jB.out HB.out));(case qE=>exact kP.out);(case jU=>exact GW.under HG.out (zH HB.out));rintro e w19 ⟨rfl,hb⟩;refine ⟨_,rfl,?_⟩;have zJ:=zx.mk (zU (g:=vU) (o:=.cells #[.string zB,.bool zD,.int .i64 zC,.slice yO zn.length yP,.slice yR zG.length yS,.slice yT zF.length yU] 60 (0,0)) (qh qm.out) hb);have zK:=zx.mk (zo (zH HB.out) hb);clear qm;clear HB;have qm:=zJ;have HB:=zK;clear zJ zK;(try clear hb);have zjn:w19.cell? ⟨vU,0,none⟩ = some (.string zB):=zZ qm 0;have zjo:w19.cell? ⟨vU,1,none⟩ = some (.bool zD):=zZ qm 1;have zjr:w19.cell? ⟨vU,2,none⟩ = some (.int .i64 zC):=zZ qm 2;have zjs:w19.cell? ⟨vU,3,none⟩ = some (.slice yO zn.length yP):=zZ qm 3;have zjt:w19.cell? ⟨vU,4,none⟩ = some (.slice yR zG.length yS):=zZ qm 4;have zju:w19.cell? ⟨vU,5,none⟩ = some (.slice yT zF.length yU):=zZ qm 5;have zjA:=zy qm.out 0;have zjB:=zy qm.out 1;have zjC:=zy qm.out 2;have zjD:=zy qm.out 3;have zjE:=zy qm.out 4;have zjF:=zy qm.out 5) | ((with_reducible refine yG (f:=64) rfl ?_);refine jm (some 17) Tryz.func64 #[.agg #[.string zB,.bool zD,.int .i64 zC,.slice yO zn.length yP,.slice yR zG.length yS,.slice yT zF.length yU],.string a1] ?_;(with_reducible refine (wL.calls zB zD zC _ _ zn _ _ zG _ _ zF a1 QX false _ ?yc ?yI ?qy ?qw ?qD ?qE ?jU A6.out).mono ?_);(case yc=>exact ql (Kd.zu jr.out HB.out));(case yI=>exact kM.out);(case qy=>exact ql (Kd.zu jA.out HB.out));(case qw=>exact kN.out);(case qD=>exact ql (Kd.zu jB.out HB.out));(case qE=>exact kP.out);(case jU=>exact GW.under HG.out (zH HB.out));rintro e w21 ⟨rfl,hb⟩;refine ⟨_,rfl,?_⟩;have zJ:=zx.mk (zU (g:=vU) (o:=.cells #[.string zB,.bool zD,.int .i64 zC,.slice yO zn.length yP,.slice yR zG.length yS,.slice yT zF.length yU] 60 (0,0)) (qh qm.out) hb);have zK:=zx.mk (zo (zH HB.out) hb);clear qm;clear HB;have qm:=zJ;have HB:=zK;clear zJ zK;(try clear hb);(try clear hi)))
   go_ret2
   exact ⟨by first | rfl | (simp [zM,zN] <;> rfl) | (simp [*,zM,zN] <;> rfl),by repeat (first | (with_reducible first | exact HB.out | apply yV | apply zP | apply zT | refine qb ?_ zxt.out) | exact HB.out)⟩
 ·replace c5:=Bool.eq_false_iff.mpr c5
  subst c5
  have H1:(some (0,1)) = some (r1,r2):=by rw [if_neg (show ¬ (false = true) by decide)] at H;exact H
  clear H
  have H:=H1
  clear H1
  simp only [Option.some.injEq,Prod.mk.injEq] at H
  obtain ⟨rfl,rfl⟩:=H
  go_enter Tryz.func22,Tryz.ntmps22
  go_wp2_with (first | ((with_reducible refine qC (N:=3) rfl ?_);refine qM ?hg (N:=3) ?hd (cs:=#[.string zB,.bool zD,.int .i64 zC,.slice yO zn.length yP,.slice yR zG.length yS,.slice yT zF.length yU]) (t:=60) ?hr ?_;(case hd=>rfl);(case hg=>rfl);(case hr=>first | (go_simp;done) | (go_simp;rfl));intro vU hg w22 qc hb;have zJ:=zx.mk (zo (zH HB.out) hb);have zK:=zx.mk (qc);have zi:=zx.mk ((by rw [hg];exact (ze (zH HB.out)):w.heap.size ≤ vU));have zL:=zx.mk ((by rw [hg];exact (ze (zH HB.out)):w.heap.size ≤ vU));clear HB;have HB:=zJ;have qm:=zK;have zce:=zi;have zxt:=zL;clear zJ zK zi zL;clear hb qc hg;have rJ:w22.cell? ⟨vU,0,none⟩ = some (.string zB):=zZ qm 0;have rV:w22.cell? ⟨vU,1,none⟩ = some (.bool zD):=zZ qm 1;have rY:w22.cell? ⟨vU,2,none⟩ = some (.int .i64 zC):=zZ qm 2;have rW:w22.cell? ⟨vU,3,none⟩ = some (.slice yO zn.length yP):=zZ qm 3;have zjG:w22.cell? ⟨vU,4,none⟩ = some (.slice yR zG.length yS):=zZ qm 4;have zjH:w22.cell? ⟨vU,5,none⟩ = some (.slice yT zF.length yU):=zZ qm 5;have ru:=zy qm.out 0;have rA:=zy qm.out 1;have rD:=zy qm.out 2;have rE:=zy qm.out 3;have zjI:=zy qm.out 4;have zjL:=zy qm.out 5) | ((with_reducible refine yG (f:=62) rfl ?_);refine jm (some 12) Tryz.func62 #[.agg #[.string zB,.bool zD,.int .i64 zC,.slice yO zn.length yP,.slice yR zG.length yS,.slice yT zF.length yU],.int .i64 a2] ?_;(with_reducible refine (ZU.calls zB zD zC _ _ zn _ _ zG _ _ zF a2 false _ ?yc ?yI ?qy ?qw ?qD ?qE ?jU A4.out).mono ?_);(case yc=>exact ql (Kd.zu jr.out HB.out));(case yI=>exact kM.out);(case qy=>exact ql (Kd.zu jA.out HB.out));(case qw=>exact kN.out);(case qD=>exact ql (Kd.zu jB.out HB.out));(case qE=>exact kP.out);(case jU=>exact GW.under HG.out (zH HB.out));rintro e w24 ⟨rfl,hb⟩;refine ⟨_,rfl,?_⟩;have zJ:=zx.mk (zU (g:=vU) (o:=.cells #[.string zB,.bool zD,.int .i64 zC,.slice yO zn.length yP,.slice yR zG.length yS,.slice yT zF.length yU] 60 (0,0)) (qh qm.out) hb);have zK:=zx.mk (zo (zH HB.out) hb);clear qm;clear HB;have qm:=zJ;have HB:=zK;clear zJ zK;(try clear hb);(try clear hi)))
  go_ret2
  exact ⟨by first | rfl | (simp [zM,zN] <;> rfl) | (simp [*,zM,zN] <;> rfl),by repeat (first | (with_reducible first | exact HB.out | apply yV | apply zP | apply zT | refine qb ?_ zxt.out) | exact HB.out)⟩
end Go.Proofs.YtggifbbiiickmaaGreatDoor.PX
namespace Go.Proofs.YtggifbbiiickmaaGreatDoor.PX
open Go.RowKit Go.Proofs.zk.zA Go.Proofs.zk.yB Go.Proofs.zk.yA
attribute [local go_sem] xR xS vM vN xB xC xU vv   -- for this text's walks alone
set_option linter.unusedVariables false
set_option linter.unusedSimpArgs false
end Go.Proofs.YtggifbbiiickmaaGreatDoor.PX
namespace Go.Proofs.YtggifbbiiickmaaGreatDoor
open Go.RowKit Go.Shelf Go.Proofs.zk.zA Go.Proofs.zk.yB Go.Proofs.zk.yA Go.Proofs.YtggifbbiiickmaaGreatDoor.PX
set_option linter.unusedSimpArgs false
set_option linter.unusedVariables false
theorem zYC {a:ByteArray} {c:Int} {l3:List qo} {l4:List xY} {l5:List vk} (h:vL a c l3 l4 l5 = true):l3.length ≤ 400 ∧ l4.length ≤ 50 ∧ l5.length ≤ 500:=by
 unfold vL at h
 split at h
 ·cases h
 ·rename_i q1
  simp only [Bool.or_eq_true,not_or,decide_eq_true_eq] at q1
  omega
theorem zYD {a:ByteArray} {c:Int} {l3:List qo} {l4:List xY} {l5:List vk} (h:vL a c l3 l4 l5 = true):Asc l3:=by
 unfold vL at h
 split at h
 ·cases h
 ·split at h
  ·cases h
  ·rename_i q2
   simp only [Bool.or_eq_true,not_or,Bool.not_eq_true,Bool.not_eq_false'] at q2
   exact zYA q2.2
theorem zxu {a:ByteArray} {c:Int} {l3:List qo} {l4:List xY} {l5:List vk} (h:vL a c l3 l4 l5 = true):∀ x ∈ l3,0 ≤ x.f1 ∧ x.f1 ≤ 3000:=by
 unfold vL at h
 split at h
 ·cases h
 ·split at h
  ·cases h
  ·rename_i q2
   intro x hx
   simp only [Bool.or_eq_true,not_or,Bool.not_eq_true,Bool.not_eq_false'] at q2
   have h1:=List.any_eq_false.1 q2.1 x hx
   unfold mR Va at h1
   simp only [Bool.or_eq_true,not_or,decide_eq_true_eq] at h1
   omega
def flr (s n:Int):Int:=10 * (s * n) / 1000
theorem zkc (s n:Int) (hs:1 ≤ s) (hs1:s ≤ 1000) (h0:-3000 ≤ n) (h1:n ≤ 3000):-3000000 ≤ s * n ∧ s * n ≤ 3000000:=by
 have a1:=Int.mul_le_mul_of_nonneg_left h1 (by omega:(0:Int) ≤ s)
 have a2:=Int.mul_le_mul_of_nonneg_left h0 (by omega:(0:Int) ≤ s)
 omega
theorem zYE (n s:Int) (hs:1 ≤ s) (hs1:s ≤ 1000) (h0:-3000 ≤ n) (h1:n ≤ 3000):wT.f n s = some (flr s n):=by
 have hr:=zkc s n hs hs1 h0 h1
 have e:10 * s * n = 10 * (s * n):=Int.mul_assoc _ _ _
 unfold wT.f flr
 rw [kQ (x:=10 * s) (by omega) (by omega),e]
 generalize s * n = p at hr
 rw [kQ (x:=10 * p) (by omega) (by omega)]
 unfold Qa.f
 by_cases hp:10 * p < 0
 ·rw [if_pos hp,if_neg (by omega),kQ (x:=-(10 * p)) (by omega) (by omega),kQ (x:=-(10 * p) + 1000) (by omega) (by omega),kQ (x:=-(10 * p) + 1000 - 1) (by omega) (by omega),Int.tdiv_eq_ediv_of_nonneg (by omega),kQ (x:=(-(10 * p) + 1000 - 1) / 1000) (by omega) (by omega),kQ (by omega) (by omega)]
  simp only [Option.bind_some]
  congr 1
  omega
 ·rw [if_neg hp,if_neg (by omega),Int.tdiv_eq_ediv_of_nonneg (by omega),kQ (by omega) (by omega)]
  rfl
def Qb (s:Int) (V:Bool):Bool:=decide (1 ≤ s) && (decide (s ≤ 1000) && V)
def oI (V:Bool) (l:List qo) (n:ByteArray) (s:Int):Int × Int:=if Qb s V = true then (match l.find? (fun x=>decide (x.f0 = n)) with | some x=>(flr s x.f1,0) | none=>(0,3)) else (0,1)
def lq (V:Bool) (l:List vk) (n m:ByteArray) (s:Int):Int × Int:=if Qb s V = true then ((match l.find? (fun x=>decide (x.f0 = n) && decide (x.f1 = m)) with | some x=>flr s x.f2 | none=>0),0) else (0,1)
def mK (V:Bool) (l:List xY) (n m:ByteArray):ByteArray × Bool:=if V = true then (match l.find? (fun x=>decide (x.f0 = n) && decide (x.f1 = m)) with | some x=>(x.f2,true) | none=>((⟨#[]⟩:ByteArray),false)) else ((⟨#[]⟩:ByteArray),false)
theorem zYF (a:ByteArray) (b:Bool) (c:Int) (l3:List qo) (l4:List xY) (l5:List vk) (s:Int) (h3:l3.length ≤ 1000000000) (h4:l4.length ≤ 1000000000) (h5:l5.length ≤ 1000000000):ZU.f a b c l3 l4 l5 s = some (Qb s (vL a c l3 l4 l5)):=by
 unfold ZU.f Qb p9.f
 by_cases h1:s ≥ 1
 ·rw [if_pos h1,decide_eq_true h1]
  by_cases h2:s ≤ 1000
  ·rw [if_pos h2,decide_eq_true h2,if_pos ⟨h3,h4,h5⟩];rfl
  ·rw [if_neg h2,decide_eq_false h2];rfl
 ·rw [if_neg h1,decide_eq_false h1];rfl
theorem zk5 {s:Int} {V:Bool} (h:Qb s V = true):1 ≤ s ∧ s ≤ 1000 ∧ V = true:=by
 unfold Qb at h
 simp only [Bool.and_eq_true,decide_eq_true_eq] at h
 exact h
theorem zxA {a:ByteArray} {c:Int} {l3:List qo} {l4:List xY} {l5:List vk} (h:vL a c l3 l4 l5 = true):(0 ≤ c ∧ c ≤ 3000) ∧ ∀ x ∈ l5,-500 ≤ x.f2 ∧ x.f2 ≤ 500:=by
 unfold vL at h
 split at h
 ·cases h
 ·rename_i q1
  split at h
  ·cases h
  ·split at h
   ·cases h
   ·simp only [Bool.or_eq_true,not_or,decide_eq_true_eq,Va] at q1
    rw [Bool.and_eq_true] at h
    refine ⟨by omega,fun x hx=>?_⟩
    have h2:l5.any (mU l3) = false:=by simpa using h.1
    have h1:=List.any_eq_false.1 h2 x hx
    unfold mU at h1
    simp only [Bool.or_eq_true,not_or,decide_eq_true_eq] at h1
    omega
theorem zgg (a:ByteArray) (b:Bool) (c:Int) (l3:List qo) (l4:List xY) (l5:List vk) (n:ByteArray) (s:Int) (h3:l3.length ≤ 1000000000) (h4:l4.length ≤ 1000000000) (h5:l5.length ≤ 1000000000):Kq.f a b c l3 l4 l5 n s = some (oI (vL a c l3 l4 l5) l3 n s):=by
 unfold Kq.f oI
 rw [zYF a b c l3 l4 l5 s h3 h4 h5]
 simp only [Option.bind_some]
 by_cases h:Qb s (vL a c l3 l4 l5) = true
 ·obtain ⟨p,q,hv⟩:=zk5 h
  rw [if_pos h,if_pos h]
  unfold wL.f
  rw [if_pos h3]
  simp only [Option.bind_some]
  cases hf:l3.find? (fun x=>decide (x.f0 = n)) with
  | none =>
   rw [List.find?_eq_none] at hf
   rw [zwp l3 n (fun x hx e=>hf x hx (decide_eq_true e)),if_neg (by simp)]
  | some x =>
   have hx:=List.mem_of_find?_eq_some hf
   have he:x.f0 = n:=by have:=List.find?_some hf;simpa using this
   obtain ⟨m,hm,rfl⟩:=List.getElem_of_mem hx
   subst he
   have hw:=zxu hv _ hx
   rw [zwo l3 (zYD hv) m hm]
   simp only [if_true]
   rw [if_pos (by omega),if_pos (by omega),PN l3 m hm,zYE _ s p q (by omega) (by omega)];rfl
 ·rw [if_neg h,if_neg h]
theorem YA {x y:ByteArray}:x.toList = y.toList ↔ x = y:=PK
end Go.Proofs.YtggifbbiiickmaaGreatDoor
namespace Go.Proofs.YtggifbbiiickmaaGreatDoor
open Go.RowKit Go.Shelf Go.Proofs.zk.zA Go.Proofs.zk.yB Go.Proofs.zk.yA Go.Proofs.YtggifbbiiickmaaGreatDoor.PX
set_option linter.unusedSimpArgs false
set_option linter.unusedVariables false
def kJ (x:qo):uX:=⟨x.f0,x.f1⟩
def wX (x:xY):uo:=⟨x.f0,x.f1,x.f2⟩
def wJ (x:vk):uG:=⟨x.f0,x.f1,x.f2⟩
end Go.Proofs.YtggifbbiiickmaaGreatDoor
namespace Go.Proofs.YtggifbbiiickmaaGreatDoor
open Go.RowKit Go.Proofs.zk.zA Go.Proofs.zk.yB Go.Proofs.zk.yA Go.Proofs.YtggifbbiiickmaaGreatDoor.PX
set_option linter.unusedSimpArgs false
set_option linter.unusedVariables false
theorem zjM (l:List qo) (i:Nat) (h:i < l.length):vJ (l.map kJ) (i:Int) = kJ l[i]:=by simp [vJ,List.getD_eq_getElem?_getD,h]
theorem zjN (l:List xY) (i:Nat) (h:i < l.length):xL (l.map wX) (i:Int) = wX l[i]:=by simp [xL,List.getD_eq_getElem?_getD,h]
theorem zjO (l:List vk) (i:Nat) (h:i < l.length):xQ (l.map wJ) (i:Int) = wJ l[i]:=by simp [xQ,List.getD_eq_getElem?_getD,h]
theorem zk6 (l:List xY) (i:Nat) (h:i < l.length):q9 l (i:Int) = l[i]:=by simp [q9,List.getD_eq_getElem?_getD,h]
theorem zk7 (l:List vk) (i:Nat) (h:i < l.length):xk l (i:Int) = l[i]:=by simp [xk,List.getD_eq_getElem?_getD,h]
theorem VO (l:List qo) (n:ByteArray):ko (l.map kJ) n = Yj l n:=by
 unfold ko Yj
 rw [List.any_map];rfl
theorem gy (l:List qo) (ha:Asc l) (n:ByteArray):Yj l n = (XK l n).2:=by
 rw [zaK l ha n]
 unfold Yj
 refine List.any_congr rfl (fun x=>?_)
 by_cases h:x.f0 = n
 ·rw [h];simp
 ·rw [decide_eq_false h]
  exact beq_eq_false_iff_ne.2 (fun e=>h (PK.1 e))
theorem mY (a b c d:ByteArray):VZ a b c d = true ↔ orV (uE a c) (uE b d) < 0:=by
 unfold VZ orV
 by_cases h0:a = c
 ·subst h0
  have h1:¬ Op.bytesLess a.toList a.toList = true:=by rw [Pt];exact List.lt_irrefl _
  have h2:Op.bytesLess a.toList a.toList = false:=by simpa using h1
  rw [oF,if_pos rfl,h2,Bool.false_or,beq_self_eq_true,Bool.true_and,Vi,Pt]
 ·rw [if_neg (fun e=>h0 (zkb.1 e)),Vi,← Pt]
  have h1:(a.toList == c.toList) = false:=beq_eq_false_iff_ne.2 (fun e=>h0 (PK.1 e))
  rw [h1,Bool.false_and,Bool.or_false]
theorem oL {α:Type} (l:List α) (P:α → Prop):(∀ x ∈ l,P x) ↔ ∀ (i:Nat) (h:i < l.length),P l[i]:=by
 constructor
 ·intro h i hi;exact h _ (List.getElem_mem hi)
 ·intro h x hx
  obtain ⟨i,hi,rfl⟩:=List.getElem_of_mem hx
  exact h i hi
theorem Kv {f:Nat → Bool} {n:Nat}:(List.range n).all f = true ↔ ∀ i,i < n → f i = true:=by
 rw [List.all_eq_true]
 exact ⟨fun h i hi=>h i (List.mem_range.2 hi),fun h i hi=>h i (List.mem_range.1 hi)⟩
theorem zjP {c:Nat → Nat → Int} {n:Nat}:ZL c n = true ↔ ∀ i,i + 1 < n → c i (i + 1) < 0:=by
 unfold ZL
 rw [Kv]
 exact ⟨fun h i hi=>of_decide_eq_true (h i (by omega)),fun h i hi=>decide_eq_true (h i (by omega))⟩
theorem zwI (l:List qo):(List.range l.length).all (Vh (l.map kJ)) = true ↔ l.any mR = false ∧ ZL (fun i j=>Vg (qF l (i:Int)) (qF l (j:Int))) l.length = true:=by
 rw [Kv,zjP,List.any_eq_false,oL]
 constructor
 ·intro h
  refine ⟨fun i hi=>?_,fun i hi=>?_⟩
  ·have h1:=h i hi
   unfold Vh at h1
   rw [zjM l i hi] at h1
   simp only [Bool.and_eq_true,Bool.not_eq_true'] at h1
   unfold mR
   have e:Va l[i].f1 = ZQ (kJ l[i]).f1:=rfl
   rw [e,h1.2.1,Bool.or_false]
   have e2:Zc l[i].f0.data.toList = true:=h1.1
   rw [e2];simp
  ·have h1:=h (i + 1) hi
   unfold Vh at h1
   rw [zjM l (i + 1) hi,show (((i + 1:Nat):Int) - 1) = (i:Int) by omega,zjM l i (by omega),decide_eq_false (by omega:¬ i + 1 = 0),Bool.false_or] at h1
   simp only [Bool.and_eq_true] at h1
   show uE _ _ < 0
   rw [PN l i (by omega),PN l (i + 1) hi,Vi,← Pt]
   exact h1.2.2
 ·rintro ⟨h1,h2⟩ i hi
  unfold Vh
  have h3:=h1 i hi
  unfold mR at h3
  simp only [Bool.or_eq_true,not_or,Bool.not_eq_true,Bool.not_eq_false'] at h3
  rw [zjM l i hi]
  have e2:Zc (kJ l[i]).f0.data.toList = true:=h3.1
  have e3:ZQ (kJ l[i]).f1 = false:=h3.2
  rw [e2,e3,Bool.true_and,Bool.not_false,Bool.true_and]
  cases i with
  | zero=>rfl
  | succ m =>
   have h4:uE _ _ < 0:=h2 m hi
   rw [PN l m (by omega),PN l (m + 1) hi,Vi,← Pt] at h4
   rw [decide_eq_false (by omega:¬ m + 1 = 0),Bool.false_or,show (((m + 1:Nat):Int) - 1) = (m:Int) by omega,zjM l m (by omega)]
   exact h4
theorem zwL (l3:List qo) (ha:Asc l3) (l:List xY):(List.range l.length).all (Vq (l3.map kJ) (l.map wX)) = true ↔ l.any (iU l3) = false ∧ ZL (fun i j=>cmpL (q9 l (i:Int)) (q9 l (j:Int))) l.length = true:=by
 have hb:∀ x:xY,iU l3 x = false ↔ Yj l3 x.f0 = true ∧ Yj l3 x.f1 = true ∧ Yj l3 x.f2 = true:=by
  intro x
  unfold iU iT
  rw [gy l3 ha,gy l3 ha,gy l3 ha]
  simp
 rw [Kv,zjP,List.any_eq_false,oL]
 constructor
 ·intro h
  refine ⟨fun i hi=>?_,fun i hi=>?_⟩
  ·have h1:=h i hi
   unfold Vq at h1
   rw [zjN l i hi] at h1
   simp only [Bool.and_eq_true,VO] at h1
   rw [Bool.not_eq_true]
   exact (hb l[i]).2 ⟨h1.1,h1.2.1,h1.2.2.1⟩
  ·have h1:=h (i + 1) hi
   unfold Vq at h1
   rw [zjN l (i + 1) hi,show (((i + 1:Nat):Int) - 1) = (i:Int) by omega,zjN l i (by omega),decide_eq_false (by omega:¬ i + 1 = 0),Bool.false_or] at h1
   simp only [Bool.and_eq_true] at h1
   have h2:=(mY _ _ _ _).1 h1.2.2.2
   rw [zk6 l i (by omega),zk6 l (i + 1) hi]
   exact h2
 ·rintro ⟨h1,h2⟩ i hi
  unfold Vq
  have h3:=(hb l[i]).1 (by simpa using h1 i hi)
  rw [zjN l i hi,VO,VO,VO]
  have e0:Yj l3 (wX l[i]).f0 = true:=h3.1
  have e1:Yj l3 (wX l[i]).f1 = true:=h3.2.1
  have e2:Yj l3 (wX l[i]).f2 = true:=h3.2.2
  rw [e0,e1,e2,Bool.true_and,Bool.true_and,Bool.true_and]
  cases i with
  | zero=>rfl
  | succ m =>
   have h4:=h2 m hi
   rw [zk6 l m (by omega),zk6 l (m + 1) hi] at h4
   rw [decide_eq_false (by omega:¬ m + 1 = 0),Bool.false_or,show (((m + 1:Nat):Int) - 1) = (m:Int) by omega,zjN l m (by omega)]
   exact (mY _ _ _ _).2 h4
theorem zdo (l3:List qo) (ha:Asc l3) (l:List vk):(List.range l.length).all (Vx (l3.map kJ) (l.map wJ)) = true ↔ l.any (mU l3) = false ∧ ZL (fun i j=>PL (xk l (i:Int)) (xk l (j:Int))) l.length = true:=by
 have hb:∀ x:vk,mU l3 x = false ↔ Yj l3 x.f0 = true ∧ Yj l3 x.f1 = true ∧ ¬ x.f2 = 0 ∧ ¬ x.f2 < -500 ∧ ¬ 500 < x.f2:=by
  intro x
  unfold mU iT
  rw [gy l3 ha,gy l3 ha]
  simp only [Bool.or_eq_false_iff,decide_eq_false_iff_not,Bool.not_eq_false',List.all_cons,List.all_nil,Bool.and_true,Bool.and_eq_true]
  constructor
  ·rintro ⟨p1,p2,p3,p4,p5⟩;exact ⟨p4,p5,p1,p2,p3⟩
  ·rintro ⟨p4,p5,p1,p2,p3⟩;exact ⟨p1,p2,p3,p4,p5⟩
 rw [Kv,zjP,List.any_eq_false,oL]
 constructor
 ·intro h
  refine ⟨fun i hi=>?_,fun i hi=>?_⟩
  ·have h1:=h i hi
   unfold Vx at h1
   rw [zjO l i hi] at h1
   simp only [Bool.and_eq_true,VO,Bool.not_eq_true',decide_eq_false_iff_not] at h1
   rw [Bool.not_eq_true]
   exact (hb l[i]).2 ⟨h1.1,h1.2.1,h1.2.2.1,h1.2.2.2.1,h1.2.2.2.2.1⟩
  ·have h1:=h (i + 1) hi
   unfold Vx at h1
   rw [zjO l (i + 1) hi,show (((i + 1:Nat):Int) - 1) = (i:Int) by omega,zjO l i (by omega),decide_eq_false (by omega:¬ i + 1 = 0),Bool.false_or] at h1
   simp only [Bool.and_eq_true] at h1
   have h2:=(mY _ _ _ _).1 h1.2.2.2.2.2
   rw [zk7 l i (by omega),zk7 l (i + 1) hi]
   exact h2
 ·rintro ⟨h1,h2⟩ i hi
  unfold Vx
  have h3:=(hb l[i]).1 (by simpa using h1 i hi)
  rw [zjO l i hi,VO,VO]
  have e0:Yj l3 (wJ l[i]).f0 = true:=h3.1
  have e1:Yj l3 (wJ l[i]).f1 = true:=h3.2.1
  have e2:decide ((wJ l[i]).f2 = 0) = false:=decide_eq_false h3.2.2.1
  have e3:decide ((wJ l[i]).f2 < -500) = false:=decide_eq_false h3.2.2.2.1
  have e4:decide (500 < (wJ l[i]).f2) = false:=decide_eq_false h3.2.2.2.2
  rw [e0,e1,e2,e3,e4,Bool.true_and,Bool.true_and,Bool.not_false,Bool.true_and,Bool.true_and,Bool.true_and]
  cases i with
  | zero=>rfl
  | succ m =>
   have h4:=h2 m hi
   rw [zk7 l m (by omega),zk7 l (m + 1) hi] at h4
   rw [decide_eq_false (by omega:¬ m + 1 = 0),Bool.false_or,show (((m + 1:Nat):Int) - 1) = (m:Int) by omega,zjO l m (by omega)]
   exact (mY _ _ _ _).2 h4
theorem zVn (a:ByteArray) (c:Int) (l3:List qo) (l4:List xY) (l5:List vk):bg a c (l3.map kJ) (l4.map wX) (l5.map wJ) = vL a c l3 l4 l5:=by
 unfold bg vL
 rw [List.length_map,List.length_map,List.length_map]
 have e0:ZQ c = Va c:=rfl
 by_cases h0:(!Xg a.data.toList || (Va c || (decide (400 < l3.length) || (decide (50 < l4.length) || decide (500 < l5.length))))) = true
 ·rw [if_pos h0,e0]
  simp only [Bool.or_eq_true,Bool.not_eq_true',decide_eq_true_eq] at h0
  rcases h0 with h | h | h | h | h
  ·rw [h];rfl
  ·rw [h];simp
  ·simp [show ¬ l3.length ≤ 400 by omega]
  ·simp [show ¬ l4.length ≤ 50 by omega]
  ·simp [show ¬ l5.length ≤ 500 by omega]
 ·rw [if_neg h0,e0]
  simp only [Bool.or_eq_true,Bool.not_eq_true',decide_eq_true_eq,not_or,Bool.not_eq_false,Bool.not_eq_true] at h0
  rw [h0.1,h0.2.1,decide_eq_true (by omega:l3.length ≤ 400),decide_eq_true (by omega:l4.length ≤ 50),decide_eq_true (by omega:l5.length ≤ 500),Bool.not_false,Bool.true_and,Bool.true_and,Bool.true_and,Bool.true_and,Bool.true_and]
  by_cases h1:(l3.any mR || !ZL (fun i j=>Vg (qF l3 (i:Int)) (qF l3 (j:Int))) l3.length) = true
  ·rw [if_pos h1]
   have:¬ (List.range l3.length).all (Vh (l3.map kJ)) = true:=by
    rw [zwI]
    rintro ⟨p,q⟩
    rw [p,q] at h1;cases h1
   rw [Bool.not_eq_true] at this
   rw [this,Bool.false_and]
  ·rw [if_neg h1]
   simp only [Bool.or_eq_true,Bool.not_eq_true',not_or,Bool.not_eq_true,Bool.not_eq_false] at h1
   rw [(zwI l3).2 h1,Bool.true_and]
   have ha:=zYA h1.2
   by_cases h2:(l4.any (iU l3) || !ZL (fun i j=>cmpL (q9 l4 (i:Int)) (q9 l4 (j:Int))) l4.length) = true
   ·rw [if_pos h2]
    have:¬ (List.range l4.length).all (Vq (l3.map kJ) (l4.map wX)) = true:=by
     rw [zwL l3 ha]
     rintro ⟨p,q⟩
     rw [p,q] at h2;cases h2
    rw [Bool.not_eq_true] at this
    rw [this,Bool.false_and]
   ·rw [if_neg h2]
    simp only [Bool.or_eq_true,Bool.not_eq_true',not_or,Bool.not_eq_true,Bool.not_eq_false] at h2
    rw [(zwL l3 ha l4).2 h2,Bool.true_and,Bool.eq_iff_iff,zdo l3 ha l5,Bool.and_eq_true,Bool.not_eq_true']
end Go.Proofs.YtggifbbiiickmaaGreatDoor
namespace Go.Proofs.YtggifbbiiickmaaGreatDoor.PX
open Go.RowKit Go.Proofs.zk.zA Go.Proofs.zk.yB Go.Proofs.zk.yA
attribute [local go_sem] xR xS vM vN xB xC xU vv   -- for this text's walks alone
set_option linter.unusedVariables false
set_option linter.unusedSimpArgs false
def pJ.f (a0:Int) (a1:Int):Option (Int):=if a1 = 0 then (none) else (if (Int.tmod a0 a1) < 0 then (some (wrap64 ((wrap64 (Int.tdiv a0 a1)) - 1))) else (some (wrap64 (Int.tdiv a0 a1))))
set_option maxHeartbeats 8000000 in
set_option maxRecDepth 100000 in
theorem pJ.calls (a0:Int) (a1:Int) (r:Int) (w:World) (h:pJ.f a0 a1 = some r) :
  Calls Tryz.prog 149 #[.int .i64 a0,.int .i64 a1] w fun e w'=>e = .returned (.int .i64 r) ∧ yg w w':=by
 have H:(if a1 = 0 then (none) else (if (Int.tmod a0 a1) < 0 then (some (wrap64 ((wrap64 (Int.tdiv a0 a1)) - 1))) else (some (wrap64 (Int.tdiv a0 a1))))) = some r:=h
 clear h
 by_cases c3:a1 = 0
 ·rw [if_pos c3] at H
  exact absurd H (by simp)
 ·rw [if_neg c3] at H
  have Zh:(a1 == 0) = false:=beq_eq_false_iff_ne.mpr c3
  have gZ:(a1 != 0) = true:=bne_iff_ne.mpr c3
  by_cases c4:(Int.tmod a0 a1) < 0
  ·rw [if_pos c4] at H
   have ZI:decide ((Int.tmod a0 a1) < 0) = true:=decide_eq_true c4
   clear c4
   obtain rfl:=Option.some.inj H
   go_enter Tryz.func149,Tryz.ntmps149
   go_wp2
   go_ret
   exact ⟨by first | rfl | (simp;done) | (simp [*];done),by repeat (first | exact yg.refl _ | apply yg.step)⟩
  ·rw [if_neg c4] at H
   have ZI:decide ((Int.tmod a0 a1) < 0) = false:=decide_eq_false c4
   clear c4
   obtain rfl:=Option.some.inj H
   go_enter Tryz.func149,Tryz.ntmps149
   go_wp2
   go_ret
   exact ⟨by first | rfl | (simp;done) | (simp [*];done),by repeat (first | exact yg.refl _ | apply yg.step)⟩
def kK.f (a0:Int) (a1:Int):Option (Int):=(pJ.f (wrap64 ((wrap64 (10 * a1)) * a0)) 1000).bind fun t156=>(some t156)
set_option maxHeartbeats 8000000 in
set_option maxRecDepth 100000 in
theorem kK.calls (a0:Int) (a1:Int) (r:Int) (w:World) (h:kK.f a0 a1 = some r) :
  Calls Tryz.prog 122 #[.int .i64 a0,.int .i64 a1] w fun e w'=>e = .returned (.int .i64 r) ∧ yg w w':=by
 have H:((pJ.f (wrap64 ((wrap64 (10 * a1)) * a0)) 1000).bind fun t156=>(some t156)) = some r:=h
 clear h
 replace H:=Option.bind_eq_some_iff.mp H
 obtain ⟨t156,A30,H⟩:=H
 replace H:(some t156) = some r:=H
 have A3:=zx.mk A30
 clear A30
 obtain rfl:=Option.some.inj H
 go_enter Tryz.func122,Tryz.ntmps122
 go_wp2_with (first | ((with_reducible refine yG (f:=149) rfl ?_);refine jm (some 9) Tryz.func149 #[.int .i64 (wrap64 ((wrap64 (10 * a1)) * a0)),.int .i64 1000] ?_;(with_reducible refine (pJ.calls (wrap64 ((wrap64 (10 * a1)) * a0)) 1000 t156 _ A3.out).mono ?_);rintro e w' ⟨rfl,⟨nd,rfl⟩⟩;refine ⟨_,rfl,?_⟩))
 go_ret
 exact ⟨by first | rfl | (simp;done) | (simp [*];done),by repeat (first | exact yg.refl _ | apply yg.step)⟩
end Go.Proofs.YtggifbbiiickmaaGreatDoor.PX
namespace Go.Proofs.YtggifbbiiickmaaGreatDoor.PX
open Go.RowKit Go.Proofs.zk.zA Go.Proofs.zk.yB Go.Proofs.zk.yA
attribute [local go_sem] xR xS vM vN xB xC xU vv   -- for this text's walks alone
set_option linter.unusedVariables false
set_option linter.unusedSimpArgs false
def xq.l0:Nat → ByteArray → Int → Int → ByteArray → Bool → Int → List (uX) → List (uo) → List (uG) → Option (Int × Bool)
 | 0,_,_,_,_,_,_,_,_,_=>none
 | k + 1,x1,x2,x8,zdp,zdr,zds,zzI,zdu,zdA=>if x8 < (zzI.length:Int) then (if 0 ≤ x8 then (if ((vJ zzI x8).f0).toList = x1.toList then ((kK.f ((vJ zzI x8).f1) x2).bind fun t160=>(some (t160,true))) else (xq.l0 k x1 x2 (wrap64 (x8 + 1)) zdp zdr zds zzI zdu zdA)) else (none)) else (some (0,false))
def xq.f (k:Nat) (zB:ByteArray) (zD:Bool) (zC:Int) (zn:List (uX)) (zG:List (uo)) (zF:List (uG)) (a1:ByteArray) (a2:Int):Option (Int × Bool):=xq.l0 k a1 a2 0 zB zD zC zn zG zF
set_option maxHeartbeats 8000000 in
set_option maxRecDepth 100000 in
theorem xq.calls (k:Nat) (zB:ByteArray) (zD:Bool) (zC:Int) (yO:Option Addr) (yP:Nat) (zn:List (uX)) (yR:Option Addr) (yS:Nat) (zG:List (uo)) (yT:Option Addr) (yU:Nat) (zF:List (uG)) (a1:ByteArray) (a2:Int) (r1:Int) (r2:Bool) (w:World) (uS:Kd.C YK w yO zn.length zn) (jF:zn.length ≤ yP) (jG:Kd.C Yo w yR zG.length zG) (jH:zG.length ≤ yS) (jI:Kd.C Yu w yT zF.length zF) (jL:zF.length ≤ yU) (h:xq.f k zB zD zC zn zG zF a1 a2 = some (r1,r2)) :
  Calls Tryz.prog 123 #[.agg #[.string zB,.bool zD,.int .i64 zC,.slice yO zn.length yP,.slice yR zG.length yS,.slice yT zF.length yU],.string a1,.int .i64 a2] w fun e w'=>e = .returned (.tuple #[.int .i64 r1,.bool r2]) ∧ Below w.heap.size w w':=by
 have VW:=Tryz.underlying101
 have jr:=zx.mk uS
 have kM:=zx.mk jF
 clear uS jF
 have jA:=zx.mk jG
 have kN:=zx.mk jH
 clear jG jH
 have jB:=zx.mk jI
 have kP:=zx.mk jL
 clear jI jL
 have HB:=zx.mk (Below.refl w.heap.size w)
 have H:(xq.l0 k a1 a2 0 zB zD zC zn zG zF) = some (r1,r2):=h
 clear h
 have H':=zx.mk H
 clear H
 go_enter Tryz.func123,Tryz.ntmps123
 go_wp2_with (first | ((with_reducible refine qC (N:=3) rfl ?_);refine qM ?hg (N:=3) ?hd (cs:=#[.string zB,.bool zD,.int .i64 zC,.slice yO zn.length yP,.slice yR zG.length yS,.slice yT zF.length yU]) (t:=101) ?hr ?_;(case hd=>rfl);(case hg=>rfl);(case hr=>first | (go_simp;done) | (go_simp;rfl));intro Ze hg w4 qc hb;have zJ:=zx.mk (zo (zH HB.out) hb);have zK:=zx.mk (qc);have zi:=zx.mk ((by rw [hg];exact (ze (zH HB.out)):w.heap.size ≤ Ze));have zL:=zx.mk ((by rw [hg];exact (ze (zH HB.out)):w.heap.size ≤ Ze));clear HB;have HB:=zJ;have jX:=zK;have ztO:=zi;have zcf:=zL;clear zJ zK zi zL;clear hb qc hg))
 go_loopg [8] k (fun kq v8 w'=>∃ (yX:Int),v8 = .int .i64 yX ∧ zx (xq.l0 kq a1 a2 yX zB zD zC zn zG zF = some (r1,r2)) ∧ zx (kq ≤ k) ∧ zx (w'.heap[Ze]? = some (.cells #[.string zB,.bool zD,.int .i64 zC,(.slice yO zn.length yP),(.slice yR zG.length yS),(.slice yT zF.length yU)] 101 (0,0))) ∧ zx (Below w.heap.size w w'))
 case atStart=>exact ⟨(0),(by first | rfl | (simp;done) | (simp [*];done)),H',⟨Nat.le_refl _⟩,⟨qh jX.out⟩,⟨zH HB.out⟩⟩
 case round =>
  clear H'
  obtain ⟨yX,rfl,HA,uK,jX,HB⟩:=hrel
  cases gk with
  | zero=>exact absurd HA.out (by simp [xq.l0])
  | succ k1 =>
   have H:=HA.out
   clear HA
   simp only [xq.l0] at H
   by_cases c5:yX < (zn.length:Int)
   ·rw [if_pos c5] at H
    have wR:decide (yX < (zn.length:Int)) = true:=decide_eq_true c5
    clear c5
    by_cases c6:0 ≤ yX
    ·rw [if_pos c6] at H
     have pq:decide (0 ≤ yX) = true:=decide_eq_true c6
     clear c6
     by_cases c7:((vJ zn yX).f0).toList = a1.toList
     ·rw [if_pos c7] at H
      have XJ:(((vJ zn yX).f0).toList == a1.toList) = true:=beq_iff_eq.mpr c7
      have lZ:(((vJ zn yX).f0).toList != a1.toList) = false:=bne_eq_false_iff_eq.mpr c7
      clear c7
      replace H:=Option.bind_eq_some_iff.mp H
      obtain ⟨t160,A80,H⟩:=H
      replace H:(some (t160,true)) = some (r1,r2):=H
      have A8:=zx.mk A80
      clear A80
      simp only [Option.some.injEq,Prod.mk.injEq] at H
      obtain ⟨rfl,rfl⟩:=H
      have ni:wr.cell? ⟨Ze,0,none⟩ = some (.string zB):=zZ jX 0
      have nA:wr.cell? ⟨Ze,1,none⟩ = some (.bool zD):=zZ jX 1
      have nC:wr.cell? ⟨Ze,2,none⟩ = some (.int .i64 zC):=zZ jX 2
      have nD:wr.cell? ⟨Ze,3,none⟩ = some (.slice yO zn.length yP):=zZ jX 3
      have oh:wr.cell? ⟨Ze,4,none⟩ = some (.slice yR zG.length yS):=zZ jX 4
      have om:wr.cell? ⟨Ze,5,none⟩ = some (.slice yT zF.length yU):=zZ jX 5
      have nE:=zy jX.out 0
      have nG:=zy jX.out 1
      have nH:=zy jX.out 2
      have nI:=zy jX.out 3
      have oo:=zy jX.out 4
      have ou:=zy jX.out 5
      have zqu:0 ≤ (yX:Int):=of_decide_eq_true yE
      have zqA:yX < (zn.length:Int):=of_decide_eq_true yE
      obtain ⟨zcg,zab,KF,KG⟩:=Kt jr.out yX zqu zqA
      cases zab
      replace KF:=(HB.out.cell (World.block_lt_of_cell? w _ KF)).trans KF
      replace KG:=(HB.out.cell (World.block_lt_of_cell? w _ KG)).trans KG
      replace zqu:=eq_true zqu
      replace zqA:=eq_true zqA
      have zac:0 ≤ (yX:Int):=of_decide_eq_true yE
      have zad:yX < (zn.length:Int):=of_decide_eq_true yE
      obtain ⟨zit,znd,zjR,zjS⟩:=Kt jr.out yX zac zad
      obtain rfl:zcg = zit:=(by injection znd)
      replace zjR:=(HB.out.cell (World.block_lt_of_cell? w _ zjR)).trans zjR
      replace zjS:=(HB.out.cell (World.block_lt_of_cell? w _ zjS)).trans zjS
      replace zac:=eq_true zac
      replace zad:=eq_true zad
      go_wp2_with (first | ((with_reducible refine yG (f:=122) rfl ?_);refine jm (some 31) Tryz.func122 #[.int .i64 ((vJ zn yX).f1),.int .i64 a2] ?_;(with_reducible refine (kK.calls ((vJ zn yX).f1) a2 t160 _ A8.out).mono ?_);rintro e w' ⟨rfl,⟨nd,rfl⟩⟩;refine ⟨_,rfl,?_⟩))
      go_ret2
      exact ⟨by first | rfl | (simp [zM,zN] <;> rfl) | (simp [*,zM,zN] <;> rfl),by repeat (first | (with_reducible first | exact HB.out | apply yV | apply zP | apply zT | refine qb ?_ zcf.out) | exact HB.out)⟩
     ·rw [if_neg c7] at H
      have XJ:(((vJ zn yX).f0).toList == a1.toList) = false:=beq_eq_false_iff_ne.mpr c7
      have lZ:(((vJ zn yX).f0).toList != a1.toList) = true:=bne_iff_ne.mpr c7
      have H':=zx.mk H
      clear H
      have zwM:wr.cell? ⟨Ze,0,none⟩ = some (.string zB):=zZ jX 0
      have zwN:wr.cell? ⟨Ze,1,none⟩ = some (.bool zD):=zZ jX 1
      have zwO:wr.cell? ⟨Ze,2,none⟩ = some (.int .i64 zC):=zZ jX 2
      have zwP:wr.cell? ⟨Ze,3,none⟩ = some (.slice yO zn.length yP):=zZ jX 3
      have zwR:wr.cell? ⟨Ze,4,none⟩ = some (.slice yR zG.length yS):=zZ jX 4
      have zwS:wr.cell? ⟨Ze,5,none⟩ = some (.slice yT zF.length yU):=zZ jX 5
      have zwT:=zy jX.out 0
      have zwU:=zy jX.out 1
      have zw0:=zy jX.out 2
      have zw1:=zy jX.out 3
      have zw2:=zy jX.out 4
      have zw3:=zy jX.out 5
      have zqu:0 ≤ (yX:Int):=of_decide_eq_true yE
      have zqA:yX < (zn.length:Int):=of_decide_eq_true yE
      obtain ⟨zcg,zab,KF,KG⟩:=Kt jr.out yX zqu zqA
      cases zab
      replace KF:=(HB.out.cell (World.block_lt_of_cell? w _ KF)).trans KF
      replace KG:=(HB.out.cell (World.block_lt_of_cell? w _ KG)).trans KG
      replace zqu:=eq_true zqu
      replace zqA:=eq_true zqA
      go_wp2
      go_roundg k1
      case measure=>have:=uK.out;omega
      case rel=>exact ⟨(wrap64 (yX + 1)),(by first | rfl | (simp;done) | (simp [*];done)),H',⟨by have:=uK.out;omega⟩,⟨qh jX.out⟩,⟨zH HB.out⟩⟩
    ·rw [if_neg c6] at H
     exact absurd H (by simp)
   ·rw [if_neg c5] at H
    have wR:decide (yX < (zn.length:Int)) = false:=decide_eq_false c5
    clear c5
    simp only [Option.some.injEq,Prod.mk.injEq] at H
    obtain ⟨rfl,rfl⟩:=H
    have zzr:wr.cell? ⟨Ze,0,none⟩ = some (.string zB):=zZ jX 0
    have zzs:wr.cell? ⟨Ze,1,none⟩ = some (.bool zD):=zZ jX 1
    have zzt:wr.cell? ⟨Ze,2,none⟩ = some (.int .i64 zC):=zZ jX 2
    have zzu:wr.cell? ⟨Ze,3,none⟩ = some (.slice yO zn.length yP):=zZ jX 3
    have zjc:wr.cell? ⟨Ze,4,none⟩ = some (.slice yR zG.length yS):=zZ jX 4
    have zjd:wr.cell? ⟨Ze,5,none⟩ = some (.slice yT zF.length yU):=zZ jX 5
    have zzA:=zy jX.out 0
    have zzB:=zy jX.out 1
    have zzC:=zy jX.out 2
    have zzD:=zy jX.out 3
    have zje:=zy jX.out 4
    have zjf:=zy jX.out 5
    go_wp2
    go_ret2
    exact ⟨by first | rfl | (simp [zM,zN] <;> rfl) | (simp [*,zM,zN] <;> rfl),by repeat (first | (with_reducible first | exact HB.out | apply yV | apply zP | apply zT | refine qb ?_ zcf.out) | exact HB.out)⟩
end Go.Proofs.YtggifbbiiickmaaGreatDoor.PX
namespace Go.Proofs.YtggifbbiiickmaaGreatDoor.PX
open Go.RowKit Go.Proofs.zk.zA Go.Proofs.zk.yB Go.Proofs.zk.yA
attribute [local go_sem] xR xS vM vN xB xC xU vv   -- for this text's walks alone
set_option linter.unusedVariables false
set_option linter.unusedSimpArgs false
def yM.j0:Nat → ByteArray → Int → Bool → ByteArray → Bool → Int → List (uX) → List (uo) → List (uG) → Option (Int × Int)
 | 0,_,_,_,_,_,_,_,_,_=>none
 | k + 1,x1,x2,x20,zdB,zdC,zdD,zdE,zdF,zdG=>if x20 = true then (some (0,1)) else ((xq.f k zdB zdC zdD zdE zdF zdG x1 x2).bind fun zxB=>(if zxB.2 = true then (some (zxB.1,0)) else (some (0,3))))
def yM.f (k:Nat) (zB:ByteArray) (zD:Bool) (zC:Int) (zn:List (uX)) (zG:List (uo)) (zF:List (uG)) (a1:ByteArray) (a2:Int):Option (Int × Int):=if a2 < 1 then (yM.j0 k a1 a2 true zB zD zC zn zG zF) else (if a2 > 1000 then (yM.j0 k a1 a2 true zB zD zC zn zG zF) else ((xJ.f zB zD zC zn zG zF).bind fun t162=>(yM.j0 k a1 a2 (!t162) zB zD zC zn zG zF)))
set_option maxHeartbeats 8000000 in
set_option maxRecDepth 100000 in
theorem yM.calls (k:Nat) (zB:ByteArray) (zD:Bool) (zC:Int) (yO:Option Addr) (yP:Nat) (zn:List (uX)) (yR:Option Addr) (yS:Nat) (zG:List (uo)) (yT:Option Addr) (yU:Nat) (zF:List (uG)) (a1:ByteArray) (a2:Int) (r1:Int) (r2:Int) (w:World) (uS:Kd.C YK w yO zn.length zn) (jF:zn.length ≤ yP) (jG:Kd.C Yo w yR zG.length zG) (jH:zG.length ≤ yS) (jI:Kd.C Yu w yT zF.length zF) (jL:zF.length ≤ yU) (h:yM.f k zB zD zC zn zG zF a1 a2 = some (r1,r2)) :
  Calls Tryz.prog 71 #[.agg #[.string zB,.bool zD,.int .i64 zC,.slice yO zn.length yP,.slice yR zG.length yS,.slice yT zF.length yU],.string a1,.int .i64 a2] w fun e w'=>e = .returned (.tuple #[.int .i64 r1,.int .i64 r2]) ∧ Below w.heap.size w w':=by
 have VW:=Tryz.underlying101
 have jr:=zx.mk uS
 have kM:=zx.mk jF
 clear uS jF
 have jA:=zx.mk jG
 have kN:=zx.mk jH
 clear jG jH
 have jB:=zx.mk jI
 have kP:=zx.mk jL
 clear jI jL
 have HB:=zx.mk (Below.refl w.heap.size w)
 have H:(if a2 < 1 then (yM.j0 k a1 a2 true zB zD zC zn zG zF) else (if a2 > 1000 then (yM.j0 k a1 a2 true zB zD zC zn zG zF) else ((xJ.f zB zD zC zn zG zF).bind fun t162=>(yM.j0 k a1 a2 (!t162) zB zD zC zn zG zF)))) = some (r1,r2):=h
 clear h
 have HC4:=zx.mk H
 clear H
 go_enter Tryz.func71,Tryz.ntmps71
 go_upto_region 1 with (first | ((with_reducible refine qC (N:=3) rfl ?_);refine qM ?hg (N:=3) ?hd (cs:=#[.string zB,.bool zD,.int .i64 zC,.slice yO zn.length yP,.slice yR zG.length yS,.slice yT zF.length yU]) (t:=101) ?hr ?_;(case hd=>rfl);(case hg=>rfl);(case hr=>first | (go_simp;done) | (go_simp;rfl));intro pE hg w5 qc hb;have zJ:=zx.mk (zo (zH HB.out) hb);have zK:=zx.mk (qc);have zi:=zx.mk ((by rw [hg];exact (ze (zH HB.out)):w.heap.size ≤ pE));have zL:=zx.mk ((by rw [hg];exact (ze (zH HB.out)):w.heap.size ≤ pE));clear HB;have HB:=zJ;have uz:=zK;have ztP:=zi;have zVo:=zL;clear zJ zK zi zL;clear hb qc hg))
 (try simp only [Act.put,List.setIfInBounds_toArray,List.set_cons_zero,List.set_cons_succ])
 go_cut [20] (fun v20 wc=>∃ (kq:Nat) (zku:Bool),v20 = .bool zku ∧ zx (yM.j0 kq a1 a2 zku zB zD zC zn zG zF = some (r1,r2)) ∧ zx (kq ≤ k) ∧ zx (wc.heap[pE]? = some (.cells #[.string zB,.bool zD,.int .i64 zC,(.slice yO zn.length yP),(.slice yR zG.length yS),(.slice yT zF.length yU)] 101 (0,0))) ∧ zx (Below w.heap.size w wc))
 case first =>
  have H:=HC4.out
  clear HC4
  by_cases c6:a2 < 1
  ·rw [if_pos c6] at H
   have pq:decide (a2 < 1) = true:=decide_eq_true c6
   clear c6
   (first | rw [pq] | (simp only [uF,jZ];rw [pq]) | skip)
   have H':=zx.mk H
   clear H
   go_wp2
   go_meet
   case rel=>exact ⟨_,(true),(by first | rfl | (simp;done) | (simp [*];done)),H',⟨by first | omega | exact Nat.le_refl _⟩,⟨qh uz.out⟩,⟨zH HB.out⟩⟩
  ·rw [if_neg c6] at H
   have pq:decide (a2 < 1) = false:=decide_eq_false c6
   clear c6
   (first | rw [pq] | (simp only [uF,jZ];rw [pq]) | skip)
   by_cases c7:a2 > 1000
   ·rw [if_pos c7] at H
    have XJ:decide (1000 < a2) = true:=decide_eq_true c7
    clear c7
    have H':=zx.mk H
    clear H
    go_wp2
    go_meet
    case rel=>exact ⟨_,(true),(by first | rfl | (simp;done) | (simp [*];done)),H',⟨by first | omega | exact Nat.le_refl _⟩,⟨qh uz.out⟩,⟨zH HB.out⟩⟩
   ·rw [if_neg c7] at H
    have XJ:decide (1000 < a2) = false:=decide_eq_false c7
    clear c7
    replace H:=Option.bind_eq_some_iff.mp H
    obtain ⟨t162,A80,H⟩:=H
    replace H:(yM.j0 k a1 a2 (!t162) zB zD zC zn zG zF) = some (r1,r2):=H
    have A8:=zx.mk A80
    clear A80
    have H':=zx.mk H
    clear H
    have ni:w5.cell? ⟨pE,0,none⟩ = some (.string zB):=zZ uz 0
    have nA:w5.cell? ⟨pE,1,none⟩ = some (.bool zD):=zZ uz 1
    have nC:w5.cell? ⟨pE,2,none⟩ = some (.int .i64 zC):=zZ uz 2
    have nD:w5.cell? ⟨pE,3,none⟩ = some (.slice yO zn.length yP):=zZ uz 3
    have oh:w5.cell? ⟨pE,4,none⟩ = some (.slice yR zG.length yS):=zZ uz 4
    have om:w5.cell? ⟨pE,5,none⟩ = some (.slice yT zF.length yU):=zZ uz 5
    have nE:=zy uz.out 0
    have nG:=zy uz.out 1
    have nH:=zy uz.out 2
    have nI:=zy uz.out 3
    have oo:=zy uz.out 4
    have ou:=zy uz.out 5
    go_wp2_with (first | (go_at_call 106;(with_reducible refine (xJ.calls zB zD zC _ _ zn _ _ zG _ _ zF t162 _ ?yc ?yI ?qy ?qw ?qD ?qE A8.out).mono ?_);(case yc=>exact ql (Kd.zu jr.out HB.out));(case yI=>exact kM.out);(case qy=>exact ql (Kd.zu jA.out HB.out));(case qw=>exact kN.out);(case qD=>exact ql (Kd.zu jB.out HB.out));(case qE=>exact kP.out);rintro e Po ⟨rfl,hb⟩;have zJ:=zx.mk (zU (g:=pE) (o:=.cells #[.string zB,.bool zD,.int .i64 zC,.slice yO zn.length yP,.slice yR zG.length yS,.slice yT zF.length yU] 101 (0,0)) (qh uz.out) hb);have zK:=zx.mk (zo (zH HB.out) hb);clear uz;clear HB;have uz:=zJ;have HB:=zK;clear zJ zK;(try clear hb);(try clear hi)))
    go_meet
    case rel=>exact ⟨_,(!t162),(by first | rfl | (simp;done) | (simp [*];done)),H',⟨by first | omega | exact Nat.le_refl _⟩,⟨qh uz.out⟩,⟨zH HB.out⟩⟩
 case rest =>
  clear HC4
  try clear c6
  try clear pq
  try clear c7
  try clear XJ
  try clear ni
  try clear nA
  try clear nC
  try clear nD
  try clear oh
  try clear om
  try clear nE
  try clear nG
  try clear nH
  try clear nI
  try clear oo
  try clear ou
  obtain ⟨kq,zku,rfl,HA,HJ3,uz,HB⟩:=hcut
  cases kq with
  | zero=>exact absurd HA.out (by simp [yM.j0])
  | succ kj3 =>
   have H:=HA.out
   clear HA
   simp only [yM.j0] at H
   by_cases c11:zku = true
   ·subst c11
    have H1:(some (0,1)) = some (r1,r2):=by rw [if_pos rfl] at H;exact H
    clear H
    have H:=H1
    clear H1
    simp only [Option.some.injEq,Prod.mk.injEq] at H
    obtain ⟨rfl,rfl⟩:=H
    go_wp2
    go_ret2
    exact ⟨by first | rfl | (simp [zM,zN] <;> rfl) | (simp [*,zM,zN] <;> rfl),by repeat (first | (with_reducible first | exact HB.out | apply yV | apply zP | apply zT | refine qb ?_ zVo.out) | exact HB.out)⟩
   ·replace c11:=Bool.eq_false_iff.mpr c11
    subst c11
    have H1:((xq.f kj3 zB zD zC zn zG zF a1 a2).bind fun zxB=>(if zxB.2 = true then (some (zxB.1,0)) else (some (0,3)))) = some (r1,r2):=by rw [if_neg (show ¬ (false = true) by decide)] at H;exact H
    clear H
    have H:=H1
    clear H1
    replace H:=Option.bind_eq_some_iff.mp H
    obtain ⟨⟨zVp,t164⟩,zk8,H⟩:=H
    replace H:(if t164 = true then (some (zVp,0)) else (some (0,3))) = some (r1,r2):=H
    have mW:=zx.mk zk8
    clear zk8
    by_cases c13:t164 = true
    ·subst c13
     have H1:(some (zVp,0)) = some (r1,r2):=by rw [if_pos rfl] at H;exact H
     clear H
     have H:=H1
     clear H1
     simp only [Option.some.injEq,Prod.mk.injEq] at H
     obtain ⟨rfl,rfl⟩:=H
     have nM:wc.cell? ⟨pE,0,none⟩ = some (.string zB):=zZ uz 0
     have nN:wc.cell? ⟨pE,1,none⟩ = some (.bool zD):=zZ uz 1
     have nO:wc.cell? ⟨pE,2,none⟩ = some (.int .i64 zC):=zZ uz 2
     have nP:wc.cell? ⟨pE,3,none⟩ = some (.slice yO zn.length yP):=zZ uz 3
     have nR:wc.cell? ⟨pE,4,none⟩ = some (.slice yR zG.length yS):=zZ uz 4
     have nS:wc.cell? ⟨pE,5,none⟩ = some (.slice yT zF.length yU):=zZ uz 5
     have nT:=zy uz.out 0
     have nU:=zy uz.out 1
     have rz:=zy uz.out 2
     have rZ:=zy uz.out 3
     have rQ:=zy uz.out 4
     have rX:=zy uz.out 5
     go_wp2_with (first | ((with_reducible refine yG (f:=123) rfl ?_);refine jm (some 25) Tryz.func123 #[.agg #[.string zB,.bool zD,.int .i64 zC,.slice yO zn.length yP,.slice yR zG.length yS,.slice yT zF.length yU],.string a1,.int .i64 a2] ?_;(with_reducible refine (xq.calls kj3 zB zD zC _ _ zn _ _ zG _ _ zF a1 a2 zVp true _ ?yc ?yI ?qy ?qw ?qD ?qE mW.out).mono ?_);(case yc=>exact ql (Kd.zu jr.out HB.out));(case yI=>exact kM.out);(case qy=>exact ql (Kd.zu jA.out HB.out));(case qw=>exact kN.out);(case qD=>exact ql (Kd.zu jB.out HB.out));(case qE=>exact kP.out);rintro e Zi ⟨rfl,hb⟩;refine ⟨_,rfl,?_⟩;have zJ:=zx.mk (zU (g:=pE) (o:=.cells #[.string zB,.bool zD,.int .i64 zC,.slice yO zn.length yP,.slice yR zG.length yS,.slice yT zF.length yU] 101 (0,0)) (qh uz.out) hb);have zK:=zx.mk (zo (zH HB.out) hb);clear uz;clear HB;have uz:=zJ;have HB:=zK;clear zJ zK;(try clear hb);(try clear hi)))
     go_ret2
     exact ⟨by first | rfl | (simp [zM,zN] <;> rfl) | (simp [*,zM,zN] <;> rfl),by repeat (first | (with_reducible first | exact HB.out | apply yV | apply zP | apply zT | refine qb ?_ zVo.out) | exact HB.out)⟩
    ·replace c13:=Bool.eq_false_iff.mpr c13
     subst c13
     have H1:(some (0,3)) = some (r1,r2):=by rw [if_neg (show ¬ (false = true) by decide)] at H;exact H
     clear H
     have H:=H1
     clear H1
     simp only [Option.some.injEq,Prod.mk.injEq] at H
     obtain ⟨rfl,rfl⟩:=H
     have VD:wc.cell? ⟨pE,0,none⟩ = some (.string zB):=zZ uz 0
     have VE:wc.cell? ⟨pE,1,none⟩ = some (.bool zD):=zZ uz 1
     have VF:wc.cell? ⟨pE,2,none⟩ = some (.int .i64 zC):=zZ uz 2
     have VG:wc.cell? ⟨pE,3,none⟩ = some (.slice yO zn.length yP):=zZ uz 3
     have zzE:wc.cell? ⟨pE,4,none⟩ = some (.slice yR zG.length yS):=zZ uz 4
     have zzF:wc.cell? ⟨pE,5,none⟩ = some (.slice yT zF.length yU):=zZ uz 5
     have VH:=zy uz.out 0
     have VI:=zy uz.out 1
     have VL:=zy uz.out 2
     have VN:=zy uz.out 3
     have zzG:=zy uz.out 4
     have zzH:=zy uz.out 5
     go_wp2_with (first | ((with_reducible refine yG (f:=123) rfl ?_);refine jm (some 25) Tryz.func123 #[.agg #[.string zB,.bool zD,.int .i64 zC,.slice yO zn.length yP,.slice yR zG.length yS,.slice yT zF.length yU],.string a1,.int .i64 a2] ?_;(with_reducible refine (xq.calls kj3 zB zD zC _ _ zn _ _ zG _ _ zF a1 a2 zVp false _ ?yc ?yI ?qy ?qw ?qD ?qE mW.out).mono ?_);(case yc=>exact ql (Kd.zu jr.out HB.out));(case yI=>exact kM.out);(case qy=>exact ql (Kd.zu jA.out HB.out));(case qw=>exact kN.out);(case qD=>exact ql (Kd.zu jB.out HB.out));(case qE=>exact kP.out);rintro e VQ ⟨rfl,hb⟩;refine ⟨_,rfl,?_⟩;have zJ:=zx.mk (zU (g:=pE) (o:=.cells #[.string zB,.bool zD,.int .i64 zC,.slice yO zn.length yP,.slice yR zG.length yS,.slice yT zF.length yU] 101 (0,0)) (qh uz.out) hb);have zK:=zx.mk (zo (zH HB.out) hb);clear uz;clear HB;have uz:=zJ;have HB:=zK;clear zJ zK;(try clear hb);(try clear hi)))
     go_ret2
     exact ⟨by first | rfl | (simp [zM,zN] <;> rfl) | (simp [*,zM,zN] <;> rfl),by repeat (first | (with_reducible first | exact HB.out | apply yV | apply zP | apply zT | refine qb ?_ zVo.out) | exact HB.out)⟩
end Go.Proofs.YtggifbbiiickmaaGreatDoor.PX
namespace Go.Proofs.YtggifbbiiickmaaGreatDoor.PX
open Go.RowKit Go.Proofs.zk.zA Go.Proofs.zk.yB Go.Proofs.zk.yA
attribute [local go_sem] xR xS vM vN xB xC xU vv   -- for this text's walks alone
set_option linter.unusedVariables false
set_option linter.unusedSimpArgs false
end Go.Proofs.YtggifbbiiickmaaGreatDoor.PX
