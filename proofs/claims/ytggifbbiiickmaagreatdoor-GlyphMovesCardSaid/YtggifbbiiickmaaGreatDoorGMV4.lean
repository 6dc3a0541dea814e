/-
  Texts that lean on one another, laid in one file. No condition.
-/
import Derived.Test.YtggifbbiiickmaaGreatDoorGMV1
import Derived.WalkKit
import Derived.WalkSpells
import Derived.WalkLawsBesides
import Derived.Lib.SliceRun
import Derived.Lib.Hide
import Derived.Test.YtggifbbiiickmaaGreatDoorGMV2
import Derived.Deep.DeepCutAuto
import Derived.Test.YtggifbbiiickmaaGreatDoorGMV3
import Derived.Deep.Slices
import Derived.ChangeArms
import Derived.ChangeSlices
import Derived.SizedLaws
import Derived.WideShapes
import Derived.Lib.LaidU8
import Derived.Shelf.Vars
namespace Go.Proofs.YtggifbbiiickmaaGreatDoor
open Go.RowKit Go.Proofs.zk.zm Go.Proofs.zk.yK Go.Proofs.zk.yc Go.Proofs.YtggifbbiiickmaaGreatDoor.PX
set_option linter.unusedSimpArgs false
set_option linter.unusedVariables false
def kFl (w0:World):Kd (vJ × Bool) where
 sz:=7
 E:=xS.E
 K:=fun w x cs=>(x.2 = true → xS.K w x.1 cs) ∧ (x.2 = false → xS.K w0 x.1 cs)
 M:=fun w base ok x cs=>(x.2 = true → xS.M w base ok x.1 cs) ∧ (x.2 = false → xS.K w0 x.1 cs)
 uT:=fun {w x cs} h=>by
  cases hx:x.2 with
  | true=>exact xS.uT (h.1 hx)
  | false=>exact xS.uT (h.2 hx)
 uF:=fun {w x cs} h=>by
  cases hx:x.2 with
  | true=>exact xS.uF (h.1 hx)
  | false=>exact xS.uF (h.2 hx)
 uO:=fun hb h=>⟨fun hx=>xS.uO hb (h.1 hx),h.2⟩
 xX:=fun h=>⟨fun hx=>xS.xX (h.1 hx),h.2⟩
 qR:=fun hok h=>⟨fun hx=>xS.qR hok (h.1 hx),h.2⟩
 vD:=fun h=>⟨fun hx=>xS.vD (h.1 hx),h.2⟩
 vN:=fun hm h=>⟨fun hx=>xS.vN hm (h.1 hx),h.2⟩
 uP:=fun hb h=>⟨fun hx=>xS.uP hb (h.1 hx),h.2⟩
def Xm (l:List vJ) (k:Nat):List (vJ × Bool):=(l.take k).map (·,true) ++ (l.drop k).map (·,false)
theorem WX (l:List vJ) (k:Nat):(Xm l k).length = l.length:=by
 unfold Xm
 simp only [List.length_append,List.length_map,List.length_take,List.length_drop]
 omega
theorem zxU (l:List vJ):Xm l 0 = l.map (·,false):=by simp [Xm]
theorem zvO (l:List vJ):Xm l l.length = l.map (·,true):=by simp [Xm]
theorem zvP (l:List vJ) (k:Nat) (h:k < l.length) (z:vJ × Bool):(Xm l k).getD k z = (l[k],false):=by
 unfold Xm
 rw [List.getD_eq_getElem?_getD,List.getElem?_append_right (by simp;omega),List.drop_eq_getElem_cons h]
 have e:k - ((l.take k).map (fun x=>(x,true))).length = 0:=by simp;omega
 rw [e];rfl
theorem zvR (l:List vJ) (k:Nat) (h:k < l.length):(Xm l k).set k (l[k],true) = Xm l (k + 1):=by
 unfold Xm
 have e:k - ((l.take k).map (fun x=>(x,true))).length = 0:=by simp;omega
 rw [List.set_append_right _ _ (by simp;omega),e,List.drop_eq_getElem_cons h,List.map_cons,List.set_cons_zero,List.take_succ_eq_append_getElem h,List.map_append,List.append_assoc]
 rfl
theorem zyY {w0 W:World} {base:Nat} {ok:Nat → Prop} {v:Value} {l:List vJ} (h:(kFl w0).S 53 W base ok v (l.map (·,true))):xS.S 53 W base ok v l:=by
 obtain ⟨f,h0,inner,ho,hr⟩:=h
 rw [List.length_zipIdx,List.length_map] at ho
 have hl:=hr.1
 rw [List.length_zipIdx,List.length_map] at hl
 refine ⟨f,h0,inner,by rw [List.length_zipIdx];exact ho,by rw [List.length_zipIdx];exact hl,fun j p hj=>?_⟩
 have hj2:((l.map (·,true)).zipIdx)[j]? = some ((p.1,true),p.2):=by
  rw [List.getElem?_zipIdx] at hj ⊢
  rw [List.getElem?_map]
  obtain ⟨q,hq,e⟩:=Option.map_eq_some_iff.1 hj
  rw [hq,← e];rfl
 exact (hr.2 j _ hj2).1 rfl
theorem zyW {w W:World} {A:Option Addr} {n:Nat} {l:List vJ} (h:Kd.C xS w A n l) (hb:Below w.heap.size w W):uW (fun (y:vJ × Bool) cs=>y.2 = false ∧ xS.K w y.1 cs) 7 W A n (l.map (·,false)):=by
 obtain ⟨h1,h2,h3⟩:=h
 refine ⟨by simpa using h1,h2,fun hp=>?_⟩
 obtain ⟨ad,e,hc⟩:=h3 hp
 refine ⟨ad,e,fun j p hj=>?_⟩
 rw [List.getElem?_map] at hj
 obtain ⟨x,hx,rfl⟩:=Option.map_eq_some_iff.1 hj
 obtain ⟨c,hl,hK,hcc⟩:=hc j x hx
 exact ⟨c,hl,⟨rfl,hK⟩,fun i u hu=>(hb.cell (World.block_lt_of_cell? w _ (hcc i u hu))).trans (hcc i u hu)⟩
theorem l9 {α:Type} (d:Kd α) {e:TypeId} {W:World} {base H:Nat} {ok:Nat → Prop} (hb:base ≤ H) (ho:ok H) (h:W.heap[H]? = some (.cells #[] e (0,0))):d.R e W base ok (.slice (some ⟨H,0,none⟩) 0 0) []:=by
 refine ⟨fun k hk=>?_,[],⟨by simp,.inr ⟨H,0,#[],rfl,hb,h,Nat.le_refl _,Nat.zero_le _,by simp,by simp⟩⟩,yU.none _ _⟩
 have:H = k:=by simpa [Value.ownBlock] using hk
 exact this ▸ ho
theorem zql {α:Type} {d:Kd α} {w:World} {n:Nat} {l:List α} (h:d.C w none n l):l = []:=by
 obtain ⟨h1,_,h3⟩:=h
 rcases Nat.eq_zero_or_pos n with h0 | h0
 ·exact List.eq_nil_of_length_eq_zero (by omega)
 ·obtain ⟨ad,e,_⟩:=h3 h0;cases e
theorem WR (w:World) (o:Obj):(w.alloc o).heap[w.heap.size]? = some o:=uN w o
set_option maxRecDepth 100000 in
set_option maxHeartbeats 4000000 in
theorem zza (A:Option Addr) (c:Nat) (l:List Int) (w:World) (hr:Kd.C (Kd.int .i64) w A l.length l) (hl:l.length ≤ 1000000000) :
  Calls Tryz.prog 121 #[.slice A l.length c] w fun e w'=>∃ v,e = .returned v ∧ Kd.R (Kd.int .i64) 3 w' w.heap.size (fun k=>w.heap.size ≤ k) v l ∧ Below w.heap.size w w':=by
 have q2:∀ (w:World) (a:Option Addr) (n c n' c':Nat),(binOp .eql 51 (.slice a n c) (.slice none n' c')).run Tryz.prog w = .ok (.bool a.isNone) w:=fun w a n c n' c'=>Lib.run_eql_slice_nil w _ _ a n c n' c' Tryz.underlying51
 cases A with
 | none =>
  obtain rfl:=zql hr
  clear hr hl
  go_enter Tryz.func121,Tryz.ntmps121
  go_wp2
  go_ret
  exact ⟨_,rfl,Kd.jM _ _ _ _ _,Below.refl _ _⟩
 | some ad =>
  have HR:=zx.mk hr
  clear hr
  go_enter Tryz.func121,Tryz.ntmps121
  go_wp2_with ((with_reducible refine pE (b:=.append) (xs:=#[.tmp 5,.tmp 6]) rfl ?_);at_builtin;refine Kd.Qh (Kd.int .i64) (w0:=w) (Rr:=(Kd.int .i64).K w) w.heap.size rfl (.tmp 5) (.tmp 6) 51 3 (.int .i64 0) 8 rfl Tryz.underlying51 info3 rfl (by decide) (by decide) (.slice (some ⟨w.heap.size,0,none⟩) 0 0) [] l (some ad) l.length c (fun k=>w.heap.size ≤ k) (fun _=>False) rfl rfl ?aO ?aR ?aK (fun _ hk=>hk.elim) ?aF ?aB ?aS ?aL ?_;(case aO=>exact l9 _ (Nat.le_refl _) (Nat.le_refl _) (WR _ _));(case aR=>exact uW.ZH HR.out ((Below.refl _ _).alloc (Nat.le_refl _) _) (fun _ _ h=>h));(case aK=>exact fun _ _ h=>h);(case aF=>intro k hk;simp at hk;omega);(case aB=>exact (Below.refl _ _).alloc (Nat.le_refl _) _);(case aS=>simp);(case aL=>simp;omega);intro v1 w1 ho hbw hg hat;have HO:=zx.mk ho;have HB:=zx.mk hbw;clear ho hbw hg hat)
  go_ret
  exact ⟨_,rfl,HO.out,HB.out⟩
set_option maxRecDepth 100000 in
set_option maxHeartbeats 4000000 in
theorem zzb (A:Option Addr) (c:Nat) (l:List vJ) (w:World) (hr:Kd.C xS w A l.length l) (hl:l.length ≤ 1000000) :
  Calls Tryz.prog 120 #[.slice A l.length c] w fun e w'=>∃ v,e = .returned v ∧ (kFl w).S 53 w' w.heap.size (fun k=>w.heap.size ≤ k) v (Xm l 0) ∧ Below w.heap.size w w':=by
 have q2:∀ (w:World) (a:Option Addr) (n c n' c':Nat),(binOp .eql 34 (.slice a n c) (.slice none n' c')).run Tryz.prog w = .ok (.bool a.isNone) w:=fun w a n c n' c'=>Lib.run_eql_slice_nil w _ _ a n c n' c' Tryz.underlying34
 cases A with
 | none =>
  obtain rfl:=zql hr
  clear hr hl
  go_enter Tryz.func120,Tryz.ntmps120
  go_wp2
  go_ret
  exact ⟨_,rfl,Kd.UY _ _ _ _ _,Below.refl _ _⟩
 | some ad =>
  have HR:=zx.mk hr
  clear hr
  rw [zxU]
  go_enter Tryz.func120,Tryz.ntmps120
  go_wp2_with ((with_reducible refine pE (b:=.append) (xs:=#[.tmp 5,.tmp 6]) rfl ?_);at_builtin;(refine Kd.Qh (Kd.bare (kFl w)) (w0:=w) (Rr:=fun (y:vJ × Bool) cs=>y.2 = false ∧ xS.K w y.1 cs) w.heap.size rfl (.tmp 5) (.tmp 6) 34 53 (.agg #[.int .i64 0,.int .i64 0,.int .i64 0,.int .i64 0,.string ⟨#[]⟩,.string ⟨#[]⟩,.slice none 0 0]) 88 rfl Tryz.underlying34 PL rfl (Nat.zero_lt_succ 6) (by decide) (.slice (some ⟨w.heap.size,0,none⟩) 0 0) [] (l.map (·,false)) (some ad) l.length c (fun k=>w.heap.size ≤ k) (fun _=>False) rfl rfl ?aO ?aR ?aK (fun _ hk=>hk.elim) ?aF ?aB ?aS ?aL ?_;(case aO=>exact l9 _ (Nat.le_refl _) (Nat.le_refl _) (WR _ _));(case aR=>exact zyW HR.out ((Below.refl _ _).alloc (Nat.le_refl _) _));(case aK=>exact fun x cs h=>⟨(fun e=>by rw [h.1] at e;cases e),fun _=>h.2⟩);(case aF=>intro k hk;simp at hk;omega);(case aB=>exact (Below.refl _ _).alloc (Nat.le_refl _) _);(case aS=>simp);(case aL=>simp;omega);intro v1 w1 ho hbw hg hat;have HO:=zx.mk ho;have HB:=zx.mk hbw;clear ho hbw hg hat))
  go_ret
  exact ⟨_,rfl,Kd.zzL HO.out,HB.out⟩
theorem zZV:(Tryz.prog.info? 51).map (·.size) = some 1:=by kernel_rfl
set_option maxRecDepth 100000 in
set_option maxHeartbeats 8000000 in
theorem zvS (A:Option Addr) (c:Nat) (l:List vJ) (w:World) (hr:Kd.C xS w A l.length l) (hl:l.length ≤ 1000000) (hz:∀ b ∈ l,b.f6.length ≤ 1000000000) :
  Calls Tryz.prog 66 #[.slice A l.length c] w fun e w'=>∃ v,e = .returned v ∧ xS.S 53 w' w.heap.size (fun k=>w.heap.size ≤ k) v l ∧ Below w.heap.size w w':=by
 have zqm:=zzb A c l w hr hl
 have HZ:=zx.mk hz
 clear hr hz
 go_enter Tryz.func66,Tryz.ntmps66
 go_wp2_with fail
 refine zqm.mono ?_;rintro e w1 ⟨v,rfl,hN,hb⟩
 obtain ⟨Ao,co,rfl⟩:=Kd.xq hN
 rw [WX] at hN ⊢
 have HN:=zx.mk hN
 have HB:=zx.mk hb
 clear hN hb zqm
 go_wp2_with fail
 go_loopw [9] (fun i W=>∃ k:Nat,k ≤ l.length ∧ i = .int .i64 (k:Int) ∧ zx ((kFl w).S 53 W w.heap.size (fun k=>w.heap.size ≤ k) (.slice Ao l.length co) (Xm l k)) ∧ zx (Below w.heap.size w W)) (fun i _=>l.length - (intOf i).toNat)
 case atStart=>exact ⟨0,Nat.zero_le _,rfl,HN,HB⟩
 case round =>
  obtain ⟨k,hk,rfl,HI,HW⟩:=hrel
  by_cases hlt:k < l.length
  ·have hform:=Kd.zzM HI.out (by rw [WX];omega)
   rw [WX] at hform
   obtain ⟨g,cap,e,hg,hgl,_⟩:=hform
   injection e with e1 e3 e2
   subst e1 e2
   obtain ⟨uw,cs,hcl,hK,hcc,mW,hH⟩:=Kd.UW HI.out (z53,false) (k:Int) (by omega) (by omega)
   have hfr:=(Kd.zkQ hH (by omega) (by omega)).2
   rw [Int.toNat_natCast,zvP l k hlt] at hK
   obtain ⟨A6,c6,rfl,l6,g6⟩:=PN (hK.2 rfl)
   have hx6:wr.cell? ⟨g,k * 7 + 6,none⟩ = some (.slice A6 l[k].f6.length c6):=by
    have h:=hcc 6 _ rfl
    rw [Int.toNat_natCast] at h
    exact h
   have zya:=HZ.out _ (List.getElem_mem hlt)
   have hcall:=zza A6 c6 l[k].f6 wr (Kd.zH g6 HW.out) zya
   have HCC:=zx.mk hcc
   have HCL:=zx.mk hcl
   have HFR:=zx.mk hfr
   have HH:=zx.mk (Kd.zvX hH)
   generalize hxk:l[k] = x at hx6 hcall HCC HCL HH
   have HX:=Lib.hid hxk
   clear hK g6 hcc hcl hfr l6 zya hxk hH mW
   try clear e3
   go_wp2_with fail
   refine hcall.mono ?_;rintro e w2 ⟨v6,rfl,WS,hb2⟩
   have HB2:=zx.mk hb2
   have HR6:=zx.mk WS
   have hz6:w2.cell? ⟨g,k * 7 + 6,none⟩ = some (.slice A6 x.f6.length c6):=(hb2.cell (p:=⟨g,k * 7 + 6,none⟩) hgl).trans hx6
   have hf6:w2.frozen? ⟨g,k * 7 + 6,none⟩ = false:=(hb2.frozen (p:=⟨g,k * 7 + 6,none⟩) hgl).trans (by have h:=HFR.out 6;rw [Int.toNat_natCast] at h;exact h)
   clear hb2 WS hcall hx6
   go_wp2_with ((with_reducible refine zyI (.store 51 (.tmp 21) (.tmp 19)) rfl ?_);(refine Kd.zvV (kFl w) (w0:=w) w.heap.size rfl rfl 51 (.tmp 21) (.tmp 19) rfl 53 (g:=g) (n:=l.length) (cap:=co) (o':=k * 7 + 6) (k:Int) 6 (Xm l k) (x,true) v6 [v6] [.int .i64 x.f0,.int .i64 x.f1,.int .i64 x.f2,.int .i64 x.f3,.string x.f4,.string x.f5,.slice A6 x.f6.length c6] (fun k=>w.heap.size ≤ k) (fun k=>uw k ∨ w.heap.size ≤ k ∧ wr.heap.size ≤ k) (fun k=>wr.heap.size ≤ k) rfl ?aO rfl ?aV zZV ?a1 ?aN (by omega) (by omega) (Nat.le_refl 7) ?aM ?aP ?aB ?_;(case aO=>rw [Int.toNat_natCast];rfl);(case aV=>exact (Kd.zjl HR6.out).1);(case a1=>intro q hq;rw [List.mem_singleton] at hq;rw [hq];exact (Kd.zjl HR6.out).2);(case aN=>exact Kd.zvJ HH.out HB2.out);(case aM=>exact ⟨fun _=>XP _ _ _ x (Kd.ql HR6.out HW.out.size),fun h=>by cases h⟩);(case aP=>intro b hb;have:=HW.out.size;exact .inr ⟨by omega,hb⟩);(case aB=>exact HW.out.trans (HB2.out.mono HW.out.size));intro w3 ho hbw hg3;rw [Int.toNat_natCast,← HX.out,zvR l k hlt] at ho;have HO:=zx.mk ho;have HB3:=zx.mk hbw;clear ho hbw hg3 hz6 hf6))
   go_roundw
   case rel=>exact ⟨k + 1,by omega,by first | rfl | go_num,HO,HB3⟩
   case measure=>simp [intOf];omega
  ·obtain rfl:k = l.length:=by omega
   go_wp2
   go_ret
   exact ⟨_,rfl,zyY (by rw [← zvO];exact HI.out),HW.out⟩
end Go.Proofs.YtggifbbiiickmaaGreatDoor
namespace Go.Proofs.YtggifbbiiickmaaGreatDoor
open Go.RowKit Go.Shelf Go.Proofs.zk.zm Go.Proofs.zk.yK Go.Proofs.zk.yc Go.Proofs.YtggifbbiiickmaaGreatDoor.PX
set_option linter.unusedSimpArgs false
set_option linter.unusedVariables false
set_option maxRecDepth 100000 in
theorem Vm (x:yM) (A3:Option Addr) (c3:Nat) (A4:Option Addr) (c4:Nat) (A5:Option Addr) (c5:Nat) (W:World) (hG:GW W) (hz:x.f3.length ≤ 1000000000 ∧ x.f4.length ≤ 1000000000 ∧ x.f5.length ≤ 1000000000)
  (q3:Kd.C xG W A3 x.f3.length x.f3) (g3:x.f3.length ≤ c3) (q4:Kd.C uQ W A4 x.f4.length x.f4) (g4:x.f4.length ≤ c4) (q5:Kd.C uo W A5 x.f5.length x.f5) (g5:x.f5.length ≤ c5) :
  Calls Tryz.prog 65 #[.agg #[.string x.f0,.bool x.f1,.int .i64 x.f2,.slice A3 x.f3.length c3,.slice A4 x.f4.length c4,.slice A5 x.f5.length c5]] W fun e w'=>e = .returned (.bool (!qK x)) ∧ Below W.heap.size W w':=by
 have hb0:Below W.heap.size W (W.alloc (.cells #[.string x.f0,.bool x.f1,.int .i64 x.f2,.slice A3 x.f3.length c3,.slice A4 x.f4.length c4,.slice A5 x.f5.length c5] 60)):=(Below.refl _ W).alloc (Nat.le_refl _) _
 have h:=uX.calls x.f0 x.f1 x.f2 A3 c3 x.f3 A4 c4 x.f4 A5 c5 x.f5 (qK x) _ (Kd.zH q3 hb0) g3 (Kd.zH q4 hb0) g4 (Kd.zH q5 hb0) g5 (hG.under hb0) (by unfold uX.f;rw [if_pos hz];rfl)
 generalize qK x = b at h ⊢
 clear q3 q4 q5 hz
 go_enter Tryz.func65,Tryz.ntmps65
 go_wp2_with (go_at_call 39;refine h.mono ?_;rintro e w1 ⟨rfl,hb⟩)
 go_ret
 exact ⟨rfl,hb0.trans (hb.mono hb0.size)⟩
def WT.T1:Bool × List (List Nat × List Nat):=(true,[([],[]),([],[]),([1],[1]),([2],[2]),([3],[3]),([0,4],[0,4]),([5],[5]),([],[]),([6,7],[6,7]),([8],[8]),([8],[8]),([9,8,0,1,2,3,4,5,6,7,8,9,10],[9]),([10,11,0,1,2,3,4,5,6,7,8,9,10,11],[10])])
def WT.B1:List Nat:=[0,0,2,6,14,31,63,0,255,511,511,2047,4095]
theorem WT.Yb:xJ .any (opsOf Tryz.f67 1) = WT.T1:=by kernel_rfl
theorem WT.ZV:vv WT.T1.2 WT.B1 = true:=by kernel_rfl
def WU.T1:Bool × List (List Nat × List Nat):=(true,[([],[]),([],[]),([1],[1]),([2],[2]),([3],[3]),([0,4],[0,4]),([5],[5]),([],[]),([7],[7]),([8],[8]),([9],[9]),([],[]),([6,10,11],[6,10,11]),([12],[12]),([12],[12]),([13,12,0,1,2,3,4,5,6,7,8,9,10,11,12,13,14],[13]),([14,15,0,1,2,3,4,5,6,7,8,9,10,11,12,13,14,15],[14])])
def WU.B1:List Nat:=[0,0,2,6,14,31,63,0,128,384,896,0,4095,8191,8191,32767,65535]
theorem WU.Yb:xJ .any (opsOf Tryz.f69 1) = WU.T1:=by kernel_rfl
theorem WU.ZV:vv WU.T1.2 WU.B1 = true:=by kernel_rfl
def Yf (l:List yM) (s:Int) (b:vJ):Int × Int:=if b.f0 = 0 then jB (qY l b.f2) b.f4 s else YW (qY l b.f2) s
def ShC (B4 B5 B10:Nat) (Af:Option Addr) (n cf:Nat) (s:Int) (go o:Nat) (W:World):Prop :=
 W.cell? ⟨B5,0,none⟩ = some (.slice Af n cf) ∧ W.cell? ⟨B10,0,none⟩ = some (.pointer (some ⟨go,o,none⟩)) ∧ W.cell? ⟨B4,0,none⟩ = some (.int .i64 s)
theorem ShC.below {B4 B5 B10:Nat} {Af:Option Addr} {n cf:Nat} {s:Int} {go o:Nat} {W W':World} (h:ShC B4 B5 B10 Af n cf s go o W) (hb:Below W.heap.size W W'):ShC B4 B5 B10 Af n cf s go o W' :=
 ⟨(hb.cell (World.block_lt_of_cell? W _ h.1)).trans h.1,(hb.cell (World.block_lt_of_cell? W _ h.2.1)).trans h.2.1,(hb.cell (World.block_lt_of_cell? W _ h.2.2)).trans h.2.2⟩
set_option maxRecDepth 100000 in
set_option maxHeartbeats 8000000 in
theorem zqn (B4 B5 B10:Nat) (Af:Option Addr) (cf:Nat) (l:List yM) (s f:Int) (go o:Nat) (W:World) (hG:GW W) (hC:Kd.C jh W Af l.length l) (hl:l.length ≤ 1000000000) (hf0:0 ≤ f) (hf1:f < (l.length:Int)) (hv:∀ x ∈ l,qK x = true)
  (hS:ShC B4 B5 B10 Af l.length cf s go o W) (h2:W.cell? ⟨go,o + 2,none⟩ = some (.int .i64 f)) :
  Calls Tryz.prog 67 #[.pointer (some ⟨B5,0,none⟩),.pointer (some ⟨B10,0,none⟩),.pointer (some ⟨B4,0,none⟩)] W fun e w'=>e = .returned (.tuple #[.int .i64 (YW (qY l f) s).1,.int .i64 (YW (qY l f) s).2]) ∧ Below W.heap.size W w':=by
 have hx:=wX hv hf0 hf1
 have hz:=ZJ hx
 obtain ⟨ad,A3,c3,A4,c4,A5,c5,e,x0,x1,x2,x3,x4,x5,g3,q3,g4,q4,g5,q5⟩:=XO hC f hf0 (by omega)
 subst e
 have e:vG l f = qY l f:=rfl
 rw [e] at x0 x1 x2 x3 x4 x5 g3 q3 g4 q4 g5 q5
 clear e
 generalize qY l f = x at x0 x1 x2 x3 x4 x5 g3 q3 g4 q4 g5 q5 hx hz ⊢
 have hh:∀ V,Below W.heap.size W V → Calls Tryz.prog 68 #[.agg #[.string x.f0,.bool x.f1,.int .i64 x.f2,.slice A3 x.f3.length c3,.slice A4 x.f4.length c4,.slice A5 x.f5.length c5],.int .i64 s] V fun e w'=>e = .returned (.tuple #[.int .i64 (YW x s).1,.int .i64 (YW x s).2]) ∧ Below V.heap.size V w':=fun V hb =>
  Z9.calls x.f0 x.f1 x.f2 A3 c3 x.f3 A4 c4 x.f4 A5 c5 x.f5 s _ _ V (Kd.zH q3 hb) g3 (Kd.zH q4 hb) g4 (Kd.zH q5 hb) g5 (hG.under hb) (zkN x.f0 x.f1 x.f2 x.f3 x.f4 x.f5 s (by omega) (by omega) (by omega))
 have HH:=zx.mk hh
 obtain ⟨s5,s10,s4⟩:=hS
 have HS:=zx.mk (fun (V:World) (h:Below W.heap.size W V)=>(show V.cell? ⟨B5,0,none⟩ = some (.slice (some ad) l.length cf) ∧ V.cell? ⟨B10,0,none⟩ = some (.pointer (some ⟨go,o,none⟩)) ∧ V.cell? ⟨B4,0,none⟩ = some (.int .i64 s) ∧ V.cell? ⟨go,o + 2,none⟩ = some (.int .i64 f) ∧ V.cell? (ad.add (f.toNat * 6)) = some (.string x.f0) ∧ V.cell? ⟨(ad.add (f.toNat * 6)).block,(ad.add (f.toNat * 6)).off + 1,none⟩ = some (.bool x.f1) ∧ V.cell? ⟨(ad.add (f.toNat * 6)).block,(ad.add (f.toNat * 6)).off + 2,none⟩ = some (.int .i64 x.f2) ∧ V.cell? ⟨(ad.add (f.toNat * 6)).block,(ad.add (f.toNat * 6)).off + 3,none⟩ = some (.slice A3 x.f3.length c3) ∧ V.cell? ⟨(ad.add (f.toNat * 6)).block,(ad.add (f.toNat * 6)).off + 4,none⟩ = some (.slice A4 x.f4.length c4) ∧ V.cell? ⟨(ad.add (f.toNat * 6)).block,(ad.add (f.toNat * 6)).off + 5,none⟩ = some (.slice A5 x.f5.length c5) from
  ⟨(h.cell (World.block_lt_of_cell? W _ s5)).trans s5,(h.cell (World.block_lt_of_cell? W _ s10)).trans s10,(h.cell (World.block_lt_of_cell? W _ s4)).trans s4,(h.cell (World.block_lt_of_cell? W _ h2)).trans h2,(h.cell (World.block_lt_of_cell? W _ x0)).trans x0,(h.cell (World.block_lt_of_cell? W _ x1)).trans x1,(h.cell (World.block_lt_of_cell? W _ x2)).trans x2,(h.cell (World.block_lt_of_cell? W _ x3)).trans x3,(h.cell (World.block_lt_of_cell? W _ x4)).trans x4,(h.cell (World.block_lt_of_cell? W _ x5)).trans x5⟩))
 generalize YW x s = R at HH ⊢
 obtain ⟨r1,r2⟩:=R
 dsimp only at HH ⊢
 clear hh s5 s10 s4 h2 x0 x1 x2 x3 x4 x5 q3 q4 q5 hv hx hz hC hG
 go_enter Tryz.func67,Tryz.ntmps67
 go_wp2_with fail
 refine RW.rS (n:=13) HS WT.Yb WT.ZV (by kernel_rfl) rfl rfl (fun w2 H0 T U h=>?_)
 refine RW.rT 0 (some 5) T U h ?_
 refine RW.rT 1 (some 6) T U h ?_
 refine RW.rP 2 (some 7) T ?_
 refine RW.rP 3 (some 8) T ?_
 refine RW.rT 4 (some 9) T U h ?_
 refine RW.rP 5 (some 10) T ?_
 refine RW.rT 6 (some 11) T U h ?_
 refine RW.rT 7 (some 12) T U h ?_
 clear h
 refine RW.rC 8 (some 13) T HS H0 Tryz.func68 (HH.out _ H0.out) (fun w3 H3 h=>?_) (by kernel_rfl)
 refine RW.rP 9 (some 14) T ?_
 refine RW.rP 10 (some 15) T ?_
 refine RW.rP 11 (some 3) T ?_
 refine RW.rP 12 (some 4) T ?_
 refine xD (qb T.out (by kernel_rfl)) ?_
 clear h
 go_wp2_with fail
 go_ret2
 exact ⟨rfl,H3.out⟩
set_option maxRecDepth 100000 in
set_option maxHeartbeats 8000000 in
theorem zqo (B4 B5 B10:Nat) (Af:Option Addr) (cf:Nat) (l:List yM) (s f:Int) (nm:ByteArray) (go o:Nat) (W:World) (hG:GW W) (hC:Kd.C jh W Af l.length l) (hl:l.length ≤ 1000000000) (hf0:0 ≤ f) (hf1:f < (l.length:Int)) (hv:∀ x ∈ l,qK x = true)
  (hS:ShC B4 B5 B10 Af l.length cf s go o W) (h2:W.cell? ⟨go,o + 2,none⟩ = some (.int .i64 f)) (h4:W.cell? ⟨go,o + 4,none⟩ = some (.string nm)) :
  Calls Tryz.prog 69 #[.pointer (some ⟨B5,0,none⟩),.pointer (some ⟨B10,0,none⟩),.pointer (some ⟨B4,0,none⟩)] W fun e w'=>e = .returned (.tuple #[.int .i64 (jB (qY l f) nm s).1,.int .i64 (jB (qY l f) nm s).2]) ∧ Below W.heap.size W w':=by
 have hx:=wX hv hf0 hf1
 have hz:=ZJ hx
 obtain ⟨ad,A3,c3,A4,c4,A5,c5,e,x0,x1,x2,x3,x4,x5,g3,q3,g4,q4,g5,q5⟩:=XO hC f hf0 (by omega)
 subst e
 have e:vG l f = qY l f:=rfl
 rw [e] at x0 x1 x2 x3 x4 x5 g3 q3 g4 q4 g5 q5
 clear e
 generalize qY l f = x at x0 x1 x2 x3 x4 x5 g3 q3 g4 q4 g5 q5 hx hz ⊢
 have hh:∀ V,Below W.heap.size W V → Calls Tryz.prog 22 #[.agg #[.string x.f0,.bool x.f1,.int .i64 x.f2,.slice A3 x.f3.length c3,.slice A4 x.f4.length c4,.slice A5 x.f5.length c5],.string nm,.int .i64 s] V fun e w'=>e = .returned (.tuple #[.int .i64 (jB x nm s).1,.int .i64 (jB x nm s).2]) ∧ Below V.heap.size V w':=fun V hb =>
  ZX.calls x.f0 x.f1 x.f2 A3 c3 x.f3 A4 c4 x.f4 A5 c5 x.f5 nm s _ _ V (Kd.zH q3 hb) g3 (Kd.zH q4 hb) g4 (Kd.zH q5 hb) g5 (hG.under hb) (zqv x.f0 x.f1 x.f2 x.f3 x.f4 x.f5 nm s (by omega) (by omega) (by omega))
 have HH:=zx.mk hh
 obtain ⟨s5,s10,s4⟩:=hS
 have HS:=zx.mk (fun (V:World) (h:Below W.heap.size W V)=>(show V.cell? ⟨B5,0,none⟩ = some (.slice (some ad) l.length cf) ∧ V.cell? ⟨B10,0,none⟩ = some (.pointer (some ⟨go,o,none⟩)) ∧ V.cell? ⟨B4,0,none⟩ = some (.int .i64 s) ∧ V.cell? ⟨go,o + 2,none⟩ = some (.int .i64 f) ∧ V.cell? ⟨go,o + 4,none⟩ = some (.string nm) ∧ V.cell? (ad.add (f.toNat * 6)) = some (.string x.f0) ∧ V.cell? ⟨(ad.add (f.toNat * 6)).block,(ad.add (f.toNat * 6)).off + 1,none⟩ = some (.bool x.f1) ∧ V.cell? ⟨(ad.add (f.toNat * 6)).block,(ad.add (f.toNat * 6)).off + 2,none⟩ = some (.int .i64 x.f2) ∧ V.cell? ⟨(ad.add (f.toNat * 6)).block,(ad.add (f.toNat * 6)).off + 3,none⟩ = some (.slice A3 x.f3.length c3) ∧ V.cell? ⟨(ad.add (f.toNat * 6)).block,(ad.add (f.toNat * 6)).off + 4,none⟩ = some (.slice A4 x.f4.length c4) ∧ V.cell? ⟨(ad.add (f.toNat * 6)).block,(ad.add (f.toNat * 6)).off + 5,none⟩ = some (.slice A5 x.f5.length c5) from
  ⟨(h.cell (World.block_lt_of_cell? W _ s5)).trans s5,(h.cell (World.block_lt_of_cell? W _ s10)).trans s10,(h.cell (World.block_lt_of_cell? W _ s4)).trans s4,(h.cell (World.block_lt_of_cell? W _ h2)).trans h2,(h.cell (World.block_lt_of_cell? W _ h4)).trans h4,(h.cell (World.block_lt_of_cell? W _ x0)).trans x0,(h.cell (World.block_lt_of_cell? W _ x1)).trans x1,(h.cell (World.block_lt_of_cell? W _ x2)).trans x2,(h.cell (World.block_lt_of_cell? W _ x3)).trans x3,(h.cell (World.block_lt_of_cell? W _ x4)).trans x4,(h.cell (World.block_lt_of_cell? W _ x5)).trans x5⟩))
 generalize jB x nm s = R at HH ⊢
 obtain ⟨r1,r2⟩:=R
 dsimp only at HH ⊢
 clear hh s5 s10 s4 h2 h4 x0 x1 x2 x3 x4 x5 q3 q4 q5 hv hx hz hC hG
 go_enter Tryz.func69,Tryz.ntmps69
 go_wp2_with fail
 refine RW.rS (n:=17) HS WU.Yb WU.ZV (by kernel_rfl) rfl rfl (fun w2 H0 T U h=>?_)
 refine RW.rT 0 (some 5) T U h ?_
 refine RW.rT 1 (some 6) T U h ?_
 refine RW.rP 2 (some 7) T ?_
 refine RW.rP 3 (some 8) T ?_
 refine RW.rT 4 (some 9) T U h ?_
 refine RW.rP 5 (some 10) T ?_
 refine RW.rT 6 (some 11) T U h ?_
 refine RW.rT 7 (some 12) T U h ?_
 refine RW.rP 8 (some 13) T ?_
 refine RW.rP 9 (some 14) T ?_
 refine RW.rT 10 (some 15) T U h ?_
 refine RW.rT 11 (some 16) T U h ?_
 clear h
 refine RW.rC 12 (some 17) T HS H0 Tryz.func22 (HH.out _ H0.out) (fun w3 H3 h=>?_) (by kernel_rfl)
 refine RW.rP 13 (some 18) T ?_
 refine RW.rP 14 (some 19) T ?_
 refine RW.rP 15 (some 3) T ?_
 refine RW.rP 16 (some 4) T ?_
 refine xD (qb T.out (by kernel_rfl)) ?_
 clear h
 go_wp2_with fail
 go_ret2
 exact ⟨rfl,H3.out⟩
end Go.Proofs.YtggifbbiiickmaaGreatDoor
namespace Go.Proofs.YtggifbbiiickmaaGreatDoor
open Go.RowKit Go.Shelf Go.Proofs.zk.zm Go.Proofs.zk.yK Go.Proofs.zk.yc Go.Proofs.YtggifbbiiickmaaGreatDoor.PX
set_option linter.unusedSimpArgs false
set_option linter.unusedVariables false
def YM (l:List yM) (s:Int) (b:vJ):vJ:=if b.f0 = 0 ∨ b.f0 = 1 then ⟨b.f0,(Yf l s b).1,b.f2,s,b.f4,b.f5,b.f6⟩ else b
def ko (l:List yM) (s:Int) (b:vJ):Bool:=(decide (b.f0 = 0) || decide (b.f0 = 1)) && (decide (b.f2 < 0) || (decide ((l.length:Int) ≤ b.f2) || !decide ((Yf l s b).2 = 0)))
def Yr (l:List yM) (s:Int):Bool:=decide (s < 1) || (decide (1000 < s) || l.any (fun x=>!qK x))
def mg (l:List yM) (s:Int) (bs:List vJ):List vJ × Int:=if Yr l s then ([],1) else if bs.any (ko l s) then ([],1) else (bs.map (YM l s),0)
def YN (l:List yM) (s:Int) (bs:List vJ) (k:Nat):List vJ:=(bs.take k).map (YM l s) ++ bs.drop k
section
variable (l:List yM) (s:Int) (bs:List vJ)
theorem VJ (k:Nat):(YN l s bs k).length = bs.length:=by
 unfold YN
 simp only [List.length_append,List.length_map,List.length_take,List.length_drop]
 omega
theorem zx0:YN l s bs 0 = bs:=by simp [YN]
theorem zvT:YN l s bs bs.length = bs.map (YM l s):=by simp [YN]
theorem oz (k:Nat) (h:k < bs.length) (z:vJ):(YN l s bs k).getD k z = bs[k]:=by
 unfold YN
 rw [List.getD_eq_getElem?_getD,List.getElem?_append_right (by simp;omega),List.drop_eq_getElem_cons h]
 have e:k - ((bs.take k).map (YM l s)).length = 0:=by simp;omega
 rw [e];rfl
theorem zvU (k:Nat) (h:k < bs.length):(YN l s bs k).set k (YM l s bs[k]) = YN l s bs (k + 1):=by
 unfold YN
 have e:k - ((bs.take k).map (YM l s)).length = 0:=by simp;omega
 rw [List.set_append_right _ _ (by simp;omega),e,List.drop_eq_getElem_cons h,List.set_cons_zero,List.take_succ_eq_append_getElem h,List.map_append,List.append_assoc]
 rfl
theorem zx1 (k:Nat) (h:k < bs.length) (he:YM l s bs[k] = bs[k]):YN l s bs k = YN l s bs (k + 1):=by
 unfold YN
 rw [List.drop_eq_getElem_cons h,List.take_succ_eq_append_getElem h,List.map_append,List.append_assoc]
 show _ = _ ++ ([YM l s bs[k]] ++ _)
 rw [he];rfl
theorem zx2 (p:vJ → Bool) (k:Nat) (h:k < bs.length):(bs.drop k).any p = (p bs[k] || (bs.drop (k + 1)).any p):=by rw [List.drop_eq_getElem_cons h];rfl
end
theorem zZK {W:World} {base n cap g k:Nat} {ok:Nat → Prop} {xs:List vJ} (h:xS.S 53 W base ok (.slice (some ⟨g,0,none⟩) n cap) xs) (hk:k < n) (wv:Int) :
  xS.S 53 (W.setCell ⟨g,k * 7 + 1,none⟩ (.int .i64 wv)) base ok (.slice (some ⟨g,0,none⟩) n cap) (xs.set k ⟨(xs.getD k z53).f0,wv,(xs.getD k z53).f2,(xs.getD k z53).f3,(xs.getD k z53).f4,(xs.getD k z53).f5,(xs.getD k z53).f6⟩):=by
 obtain ⟨uw,cs,hcl,hM,hcc,mW,hH⟩:=Kd.UW h z53 (k:Int) (by omega) (by omega)
 rw [Int.toNat_natCast] at hM
 generalize xs.getD k z53 = x at hM ⊢
 obtain ⟨v6,rfl,WS⟩:=XV hM
 have hs:=(Kd.zzR hH (by omega) (by omega) (seg:=[.int .i64 wv]) (j:=1) (x':=⟨x.f0,wv,x.f2,x.f3,x.f4,x.f5,x.f6⟩) (uz:=uw) (show 1 + 1 ≤ 7 by decide) (XP W base uw ⟨x.f0,wv,x.f2,x.f3,x.f4,x.f5,x.f6⟩ WS) (fun _ hb=>hb)).1
 rw [Int.toNat_natCast] at hs
 exact hs
theorem zv0 {W:World} {base n cap g k:Nat} {ok:Nat → Prop} {xs:List vJ} (h:xS.S 53 W base ok (.slice (some ⟨g,0,none⟩) n cap) xs) (hk:k < n) (s:Int) :
  xS.S 53 (W.setCell ⟨g,k * 7 + 3,none⟩ (.int .i64 s)) base ok (.slice (some ⟨g,0,none⟩) n cap) (xs.set k ⟨(xs.getD k z53).f0,(xs.getD k z53).f1,(xs.getD k z53).f2,s,(xs.getD k z53).f4,(xs.getD k z53).f5,(xs.getD k z53).f6⟩):=by
 obtain ⟨uw,cs,hcl,hM,hcc,mW,hH⟩:=Kd.UW h z53 (k:Int) (by omega) (by omega)
 rw [Int.toNat_natCast] at hM
 generalize xs.getD k z53 = x at hM ⊢
 obtain ⟨v6,rfl,WS⟩:=XV hM
 have hs:=(Kd.zzR hH (by omega) (by omega) (seg:=[.int .i64 s]) (j:=3) (x':=⟨x.f0,x.f1,x.f2,s,x.f4,x.f5,x.f6⟩) (uz:=uw) (show 3 + 1 ≤ 7 by decide) (XP W base uw ⟨x.f0,x.f1,x.f2,s,x.f4,x.f5,x.f6⟩ WS) (fun _ hb=>hb)).1
 rw [Int.toNat_natCast] at hs
 exact hs
theorem zj4 {W:World} {base n cap g k:Nat} {ok:Nat → Prop} {xs:List vJ} (h:xS.S 53 W base ok (.slice (some ⟨g,0,none⟩) n cap) xs) (hk:k < n) (hkl:k < xs.length) (wv s:Int) (x:vJ) (hx:xs.getD k z53 = x) :
  xS.S 53 ((W.setCell ⟨g,k * 7 + 1,none⟩ (.int .i64 wv)).setCell ⟨g,k * 7 + 3,none⟩ (.int .i64 s)) base ok (.slice (some ⟨g,0,none⟩) n cap) (xs.set k ⟨x.f0,wv,x.f2,s,x.f4,x.f5,x.f6⟩):=by
 have h1:=zZK h hk wv
 rw [hx] at h1
 have h2:=zv0 h1 hk s
 have e:(xs.set k ⟨x.f0,wv,x.f2,x.f3,x.f4,x.f5,x.f6⟩).getD k z53 = ⟨x.f0,wv,x.f2,x.f3,x.f4,x.f5,x.f6⟩:=by
  rw [List.getD_eq_getElem?_getD,List.getElem?_set_self hkl];rfl
 rw [e,List.set_set] at h2
 exact h2
theorem U7 {W W':World} {g o:Nat} (h:W'.heap[g]? = W.heap[g]?):W'.cell? ⟨g,o,none⟩ = W.cell? ⟨g,o,none⟩:=by simp [World.cell?,h]
def shift.T9:Bool × List (List Nat × List Nat):=(true,[([],[]),([0],[0]),([1],[1]),([2],[2]),([3],[3]),([4],[4]),([5],[5]),([6,5],[5,6]),([7,5],[5,7]),([8,5],[5,8]),([5],[5]),([10,5],[5,10]),([9,11,5],[5,9,11]),([5,12],[5,12])])
def shift.B9:List Nat:=[0,1,3,7,15,31,63,127,255,511,63,1087,4095,8191]
theorem shift.QE:xJ .any (opsOf Tryz.f25 9) = shift.T9:=by kernel_rfl
theorem shift.Xf:vv shift.T9.2 shift.B9 = true:=by kernel_rfl
def shift.T17:Bool × List (List Nat × List Nat):=(true,[([],[]),([],[]),([],[]),([],[]),([0,0,2],[0]),([4,0,2],[4]),([5,2,0,2],[2,5]),([1,0,1,2,3,4,5,6],[1]),([7,0,1,2,3,4,5,6],[7]),([8,3,6,0,1,2,3,4,5,6],[3,8])])
def shift.B17:List Nat:=[0,0,0,0,5,21,53,127,255,511]
theorem shift.zj5:xJ .any (opsOf Tryz.f25 17) = shift.T17:=by kernel_rfl
theorem shift.zqp:vv shift.T17.2 shift.B17 = true:=by kernel_rfl
set_option maxRecDepth 100000 in
set_option maxHeartbeats 4000000 in
theorem zx3 (A:Option Addr) (c:Nat) (bs:List vJ) (s:Int) (Af:Option Addr) (cf:Nat) (l:List yM) (w:World) (hG:GW w) (hC:Kd.C jh w Af l.length l) (hl:l.length ≤ 1000000000) (hz:∀ x ∈ l,x.f3.length ≤ 1000000000 ∧ x.f4.length ≤ 1000000000 ∧ x.f5.length ≤ 1000000000) (hr:Yr l s = true) :
  Calls Tryz.prog 25 #[.slice A bs.length c,.int .i64 s,.slice Af l.length cf] w fun e w'=>e = .returned (.tuple #[.slice none 0 0,.int .i64 1]) ∧ Below w.heap.size w w':=by
 have hb0:Below w.heap.size w ((w.alloc (.cells #[.int .i64 s] 3)).alloc (.cells #[.slice Af l.length cf] 22)):=((Below.refl _ w).alloc (Nat.le_refl _) _).alloc (by simp) _
 by_cases h1:s < 1
 ·have i1:decide (s < 1) = true:=decide_eq_true h1
  clear h1 hr hz hC hG
  go_enter Tryz.func25,Tryz.ntmps25
  go_wp2_with fail
  go_ret2
  exact ⟨rfl,hb0⟩
 ·have i1:decide (s < 1) = false:=decide_eq_false h1
  by_cases h2:1000 < s
  ·have i2:decide (1000 < s) = true:=decide_eq_true h2
   clear h1 h2 hr hz hC hG
   go_enter Tryz.func25,Tryz.ntmps25
   go_wp2_with fail
   go_ret2
   exact ⟨rfl,hb0⟩
  ·have i2:decide (1000 < s) = false:=decide_eq_false h2
   have hv:(l.any fun x=>!qK x) = true:=by unfold Yr at hr;rw [i1,i2] at hr;exact hr
   have hcall:=VN Af cf l _ (Kd.zH hC hb0) hl (fun x=>!qK x) 65 #[] (kF Tryz.func65 (by kernel_rfl) rfl) (fun V y A3 c3 A4 c4 A5 c5 hm hV p3 g3 p4 g4 p5 g5 =>
    (Vm y A3 c3 A4 c4 A5 c5 V (hG.under (hb0.trans (hV.mono hb0.size))) (hz y hm) p3 g3 p4 g4 p5 g5).mono fun e w' ⟨h1,h2⟩=>⟨h1,hV.trans (h2.mono hV.size)⟩)
   rw [hv] at hcall
   clear h1 h2 hr hz hC hG hv
   go_enter Tryz.func25,Tryz.ntmps25
   go_wp2_with fail
   refine hcall.mono ?_;rintro e w2 ⟨rfl,hb2⟩
   clear hcall
   go_wp2_with fail
   go_ret2
   exact ⟨rfl,hb0.trans (hb2.mono hb0.size)⟩
set_option maxRecDepth 100000 in
set_option maxHeartbeats 16000000 in
theorem zqr (A:Option Addr) (c:Nat) (bs:List vJ) (s:Int) (Af:Option Addr) (cf:Nat) (l:List yM) (w:World) (hG:GW w) (hr:Kd.C xS w A bs.length bs) (hbl:bs.length ≤ 1000000) (hbz:∀ b ∈ bs,b.f6.length ≤ 1000000000)
  (hC:Kd.C jh w Af l.length l) (hl:l.length ≤ 1000000000) (hz:∀ x ∈ l,x.f3.length ≤ 1000000000 ∧ x.f4.length ≤ 1000000000 ∧ x.f5.length ≤ 1000000000) (hrf:Yr l s = false) :
  Calls Tryz.prog 25 #[.slice A bs.length c,.int .i64 s,.slice Af l.length cf] w fun e w'=>(if bs.any (ko l s) then e = .returned (.tuple #[.slice none 0 0,.int .i64 1]) else ∃ v,e = .returned (.tuple #[v,.int .i64 0]) ∧ xS.S 53 w' w.heap.size (fun _=>True) v (bs.map (YM l s))) ∧ Below w.heap.size w w':=by
 obtain ⟨W0,hW0⟩:∃ W0,(w.alloc (.cells #[.int .i64 s] 3)).alloc (.cells #[.slice Af l.length cf] 22) = W0:=⟨_,rfl⟩
 have hb0:Below w.heap.size w W0:=by rw [← hW0];exact ((Below.refl _ w).alloc (Nat.le_refl _) _).alloc (by simp) _
 have hz0:W0.heap.size = w.heap.size + 1 + 1:=by rw [← hW0];simp
 have hs4:W0.heap[w.heap.size]? = some (.cells #[.int .i64 s] 3 (0,0)):=by rw [← hW0];exact yG (uN w _) _
 have hs5:W0.heap[w.heap.size + 1]? = some (.cells #[.slice Af l.length cf] 22 (0,0)):=by
  rw [← hW0]
  have h:=uN (w.alloc (.cells #[.int .i64 s] 3)) (.cells #[.slice Af l.length cf] 22)
  rwa [World.size_alloc] at h
 have i1:decide (s < 1) = false:=by cases h:decide (s < 1) with | false=>rfl | true=>(unfold Yr at hrf;rw [h] at hrf;cases hrf)
 have i2:decide (1000 < s) = false:=by cases h:decide (1000 < s) with | false=>rfl | true=>(unfold Yr at hrf;rw [h,i1] at hrf;cases hrf)
 have hv:(l.any fun x=>!qK x) = false:=by unfold Yr at hrf;rw [i1,i2] at hrf;exact hrf
 have hval:∀ x ∈ l,qK x = true:=fun x hx=>by
  have h:=List.any_eq_false.1 hv x hx
  simpa using h
 have hcall:=VN Af cf l W0 (Kd.zH hC hb0) hl (fun x=>!qK x) 65 #[] (kF Tryz.func65 (by kernel_rfl) rfl) (fun V y A3 c3 A4 c4 A5 c5 hm hV p3 g3 p4 g4 p5 g5 =>
  (Vm y A3 c3 A4 c4 A5 c5 V (hG.under (hb0.trans (hV.mono hb0.size))) (hz y hm) p3 g3 p4 g4 p5 g5).mono fun e w' ⟨h1,h2⟩=>⟨h1,hV.trans (h2.mono hV.size)⟩)
 rw [hv] at hcall
 have HBA:=zx.mk (show bs.any (ko l s) = (bs.drop 0).any (ko l s) from rfl)
 generalize bs.any (ko l s) = ba at HBA ⊢
 have HB0:=zx.mk hb0
 have UF:=zx.mk hs4
 have HS5:=zx.mk hs5
 have HG:=zx.mk hG
 have HR:=zx.mk hr
 have HC:=zx.mk hC
 have HV:=zx.mk hval
 have HBZ:=zx.mk hbz
 have HZ0:=Lib.hid hz0
 generalize hg:w.heap.size = g0 at HB0 UF HS5 HZ0 ⊢
 have Qo:=Lib.hid hg
 have HW0:=hW0
 clear hb0 hs4 hs5 hG hr hC hval hbz hz0 hv hrf hz
 have y4:W0.cell? ⟨g0,0,none⟩ = some (.int .i64 s):=(zK UF.out 0).trans rfl
 have y5:W0.cell? ⟨g0 + 1,0,none⟩ = some (.slice Af l.length cf):=(zK HS5.out 0).trans rfl
 go_enter Tryz.func25,Tryz.ntmps25
 go_wp2_with fail
 clear y4 y5
 refine hcall.mono ?_;rintro e w2 ⟨rfl,hb2⟩
 have hbw2:Below w.heap.size w w2:=by rw [Qo.out];exact HB0.out.trans (hb2.mono (by rw [HZ0.out];omega))
 have hown:=zvS A c bs w2 (Kd.zH HR.out hbw2) hbl HBZ.out
 have HB2:=zx.mk hbw2
 have h42:=zW UF.out hb2
 have h52:=zW HS5.out hb2
 have zQ5:=zx.mk h42
 have zQ6:=zx.mk h52
 have y4:w2.cell? ⟨g0,0,none⟩ = some (.int .i64 s):=(zK h42 0).trans rfl
 have y5:w2.cell? ⟨g0 + 1,0,none⟩ = some (.slice Af l.length cf):=(zK h52 0).trans rfl
 have hz2:g0 + 1 + 1 ≤ w2.heap.size:=by have:=hb2.size;rw [HZ0.out] at this;exact this
 clear hcall hbw2 hb2 h42 h52 hW0 HW0 hg
 go_wp2_with fail
 refine hown.mono ?_;rintro e w3 ⟨v,rfl,hN,hb3⟩
 obtain ⟨Ao,co,rfl⟩:=Kd.xq hN
 have HN:=zx.mk (show xS.S 53 w3 w2.heap.size (fun k=>w2.heap.size ≤ k) (.slice Ao bs.length co) (YN l s bs 0) by rw [zx0];exact hN)
 have HB3:=zx.mk (Below.trans HB2.out (hb3.mono HB2.out.size))
 have zQ7:=zx.mk hb3.size
 have zQ8:=zx.mk (zW zQ5.out hb3)
 have zQ9:=zx.mk (zW zQ6.out hb3)
 clear hN hb3 hown y4 y5
 go_wp2_with fail
 go_loopw [28] (fun i W=>∃ k:Nat,k ≤ bs.length ∧ i = .int .i64 (k:Int) ∧ zx (xS.S 53 W w2.heap.size (fun k=>w2.heap.size ≤ k) (.slice Ao bs.length co) (YN l s bs k)) ∧ zx (Below w.heap.size w W) ∧ zx (W.heap[g0]? = some (.cells #[.int .i64 s] 3 (0,0))) ∧ zx (W.heap[g0 + 1]? = some (.cells #[.slice Af l.length cf] 22 (0,0))) ∧ zx (ba = (bs.drop k).any (ko l s)) ∧ zx (w2.heap.size ≤ W.heap.size)) (fun i _=>bs.length - (intOf i).toNat)
 case atStart=>exact ⟨0,Nat.zero_le _,rfl,HN,HB3,zQ8,zQ9,HBA,zQ7⟩
 case round =>
  obtain ⟨k,hk,rfl,HI,HW,H4,H5,HA,HSZ⟩:=hrel
  by_cases hlt:k < bs.length
  ·have hform:=Kd.zzM HI.out (by rw [VJ];omega)
   rw [VJ] at hform
   obtain ⟨go,cap,e,hgo,hgl,_⟩:=hform
   injection e with e1 e3 e2
   subst e1 e2
   try clear e3
   obtain ⟨uw,cs,hcl,hM,hcc,mW,hH⟩:=Kd.UW HI.out z53 (k:Int) (by omega) (by omega)
   have hfr:=(Kd.zkQ hH (by omega) (by omega)).2
   rw [Int.toNat_natCast,oz l s bs k hlt] at hM
   rw [Int.toNat_natCast] at hcc hfr
   obtain ⟨v6,rfl,WS⟩:=XV hM
   clear hM WS hH mW hcl
   have x0:wr.cell? ⟨go,k * 7,none⟩ = some (.int .i64 bs[k].f0):=hcc 0 _ rfl
   have x1:wr.cell? ⟨go,k * 7 + 1,none⟩ = some (.int .i64 bs[k].f1):=hcc 1 _ rfl
   have x2:wr.cell? ⟨go,k * 7 + 2,none⟩ = some (.int .i64 bs[k].f2):=hcc 2 _ rfl
   have x3:wr.cell? ⟨go,k * 7 + 3,none⟩ = some (.int .i64 bs[k].f3):=hcc 3 _ rfl
   have x4:wr.cell? ⟨go,k * 7 + 4,none⟩ = some (.string bs[k].f4):=hcc 4 _ rfl
   have zzc:wr.frozen? ⟨go,k * 7 + 1,none⟩ = false:=hfr 1
   have zzd:wr.frozen? ⟨go,k * 7 + 3,none⟩ = false:=hfr 3
   have hsame:=zx1 l s bs k hlt
   have hset:=zvU l s bs k hlt
   have hgx:=oz l s bs k hlt z53
   have hany:=zx2 bs (ko l s) k hlt
   generalize bs[k] = x at x0 x1 x2 x3 x4 hsame hset hgx hany
   have HX:=zx.mk (And.intro hsame (And.intro hset hany))
   have HGX:=zx.mk hgx
   clear hsame hset hgx hany hcc hfr
   have y4:wr.cell? ⟨g0,0,none⟩ = some (.int .i64 s):=(zK H4.out 0).trans rfl
   have y5:wr.cell? ⟨g0 + 1,0,none⟩ = some (.slice Af l.length cf):=(zK H5.out 0).trans rfl
   by_cases hk0:x.f0 = 0
   ·skip
    have hkk:x.f0 = 0:=hk0
    rw [hkk] at x0
    obtain ⟨wb,hwb⟩:∃ wb,wr.alloc (.cells #[.pointer (some ⟨go,k * 7,none⟩)] 123) = wb:=⟨_,rfl⟩
    have hbb:Below wr.heap.size wr wb:=by rw [← hwb];exact (Below.refl _ wr).alloc (Nat.le_refl _) _
    have ht:wb.heap[wr.heap.size]? = some (.cells #[.pointer (some ⟨go,k * 7,none⟩)] 123 (0,0)):=by rw [← hwb];exact uN wr _
    generalize hgb:wr.heap.size = gb at ht hbb hgl
    have U8:wb.cell? ⟨go,k * 7 + 2,none⟩ = some (.int .i64 x.f2):=(hbb.cell (p:=⟨go,_,none⟩) hgl).trans x2
    have x0b:wb.cell? ⟨go,k * 7,none⟩ = some (.int .i64 0):=(hbb.cell (p:=⟨go,_,none⟩) hgl).trans x0
    have x4b:wb.cell? ⟨go,k * 7 + 4,none⟩ = some (.string x.f4):=(hbb.cell (p:=⟨go,_,none⟩) hgl).trans x4
    have x1b:wb.cell? ⟨go,k * 7 + 1,none⟩ = some (.int .i64 x.f1):=(hbb.cell (p:=⟨go,_,none⟩) hgl).trans x1
    have x3b:wb.cell? ⟨go,k * 7 + 3,none⟩ = some (.int .i64 x.f3):=(hbb.cell (p:=⟨go,_,none⟩) hgl).trans x3
    have f1b:wb.frozen? ⟨go,k * 7 + 1,none⟩ = false:=(hbb.frozen (p:=⟨go,_,none⟩) hgl).trans zzc
    have f3b:wb.frozen? ⟨go,k * 7 + 3,none⟩ = false:=(hbb.frozen (p:=⟨go,_,none⟩) hgl).trans zzd
    have tb:wb.cell? ⟨gb,0,none⟩ = some (.pointer (some ⟨go,k * 7,none⟩)):=(zK ht 0).trans rfl
    have y4b:wb.cell? ⟨g0,0,none⟩ = some (.int .i64 s):=(hbb.cell (p:=⟨g0,0,none⟩) (by show g0 < gb;omega)).trans y4
    have U9:wb.cell? ⟨g0 + 1,0,none⟩ = some (.slice Af l.length cf):=(hbb.cell (p:=⟨g0 + 1,0,none⟩) (by show g0 + 1 < gb;omega)).trans y5
    have Zu:=zx.mk (show Below wr.heap.size wr wb by rw [hgb];exact hbb)
    have mh:=zx.mk (show YM l s x = ⟨x.f0,(Yf l s x).1,x.f2,s,x.f4,x.f5,x.f6⟩ by unfold YM;rw [if_pos (Or.inl hkk)])
    have hbd:ko l s x = (decide (x.f2 < 0) || (decide ((l.length:Int) ≤ x.f2) || !decide ((Yf l s x).2 = 0))):=by unfold ko;rw [hkk];rfl
    have hak:Yf l s x = jB (qY l x.f2) x.f4 s:=by unfold Yf;rw [if_pos hkk]
    have WB:=zx.mk hak
    have Qj:=zx.mk hbd
    have Jz:=zx.mk (show ba = (ko l s x || (bs.drop (k + 1)).any (ko l s)) by rw [HA.out];exact HX.out.2.2)
    clear hak hbd hkk hk0 HA hbb x0 x1 x2 x3 x4 zzc zzd ht
    have Y8:=zx.mk (fun (V:World) (h:Below wb.heap.size wb V)=>(show V.cell? ⟨gb,0,none⟩ = some (.pointer (some ⟨go,k * 7,none⟩)) ∧ V.cell? ⟨go,k * 7 + 2,none⟩ = some (.int .i64 x.f2) ∧ V.cell? ⟨g0 + 1,0,none⟩ = some (.slice Af l.length cf) from
     ⟨(h.cell (World.block_lt_of_cell? wb _ tb)).trans tb,(h.cell (World.block_lt_of_cell? wb _ U8)).trans U8,(h.cell (World.block_lt_of_cell? wb _ U9)).trans U9⟩))
    by_cases hn:x.f2 < 0
    ·have j1:decide (x.f2 < 0) = true:=decide_eq_true hn
     obtain rfl:ba = true:=by rw [Jz.out,Qj.out,j1];rfl
     clear hn
     go_wp2_with fail
     refine RW.rS (n:=14) Y8 shift.QE shift.Xf (by kernel_rfl) rfl rfl (fun w5 jF T U h=>?_)
     refine RW.rT 0 (some 46) T U h ?_
     refine RW.rP 1 (some 47) T ?_
     refine RW.rP 2 (some 48) T ?_
     refine RW.rT 3 (some 49) T U h ?_
     refine RW.rP 4 (some 50) T ?_
     refine RW.rP 5 (some 51) T ?_
     refine RW.rU 6 (some 52) T ?_
     refine RW.rU 7 (some 53) T ?_
     refine RW.rU 8 (some 54) T ?_
     refine RW.rU 9 (some 55) T ?_
     refine RW.rU 10 (some 56) T ?_
     refine RW.rU 11 (some 57) T ?_
     refine RW.rU 12 (some 58) T ?_
     refine RW.rP 13 (some 59) T ?_
     refine xD (qb T.out (by kernel_rfl)) ?_
     clear h
     go_wp2_with fail
     go_ret2
     exact ⟨rfl,by rw [← Qo.out];exact (HW.out.trans (Zu.out.mono HW.out.size)).trans (jF.out.mono (Nat.le_trans HW.out.size Zu.out.size))⟩
    ·have j1:decide (x.f2 < 0) = false:=decide_eq_false hn
     by_cases hm:(l.length:Int) ≤ x.f2
     ·have j2:decide ((l.length:Int) ≤ x.f2) = true:=decide_eq_true hm
      obtain rfl:ba = true:=by rw [Jz.out,Qj.out,j1,j2];rfl
      clear hn hm
      go_wp2_with fail
      refine RW.rS (n:=14) Y8 shift.QE shift.Xf (by kernel_rfl) rfl rfl (fun w5 jF T U h=>?_)
      refine RW.rT 0 (some 46) T U h ?_
      refine RW.rP 1 (some 47) T ?_
      refine RW.rP 2 (some 48) T ?_
      refine RW.rT 3 (some 49) T U h ?_
      refine RW.rP 4 (some 50) T ?_
      refine RW.rP 5 (some 51) T ?_
      refine RW.rT 6 (some 52) T U h ?_
      refine RW.rP 7 (some 53) T ?_
      refine RW.rP 8 (some 54) T ?_
      refine RW.rT 9 (some 55) T U h ?_
      refine RW.rT 10 (some 56) T U h ?_
      refine RW.rP 11 (some 57) T ?_
      refine RW.rP 12 (some 58) T ?_
      refine RW.rP 13 (some 59) T ?_
      refine xD (qb T.out (by kernel_rfl)) ?_
      clear h
      go_wp2_with fail
      go_ret2
      exact ⟨rfl,by rw [← Qo.out];exact (HW.out.trans (Zu.out.mono HW.out.size)).trans (jF.out.mono (Nat.le_trans HW.out.size Zu.out.size))⟩
     ·have j2:decide ((l.length:Int) ≤ x.f2) = false:=decide_eq_false hm
      have hf0:0 ≤ x.f2:=by omega
      have hf1:x.f2 < (l.length:Int):=by omega
      clear hn hm
      go_wp2_with fail
      refine RW.rS (n:=14) Y8 shift.QE shift.Xf (by kernel_rfl) rfl rfl (fun w5 jF T U h=>?_)
      refine RW.rT 0 (some 46) T U h ?_
      refine RW.rP 1 (some 47) T ?_
      refine RW.rP 2 (some 48) T ?_
      refine RW.rT 3 (some 49) T U h ?_
      refine RW.rP 4 (some 50) T ?_
      refine RW.rP 5 (some 51) T ?_
      refine RW.rT 6 (some 52) T U h ?_
      refine RW.rP 7 (some 53) T ?_
      refine RW.rP 8 (some 54) T ?_
      refine RW.rT 9 (some 55) T U h ?_
      refine RW.rT 10 (some 56) T U h ?_
      refine RW.rP 11 (some 57) T ?_
      refine RW.rP 12 (some 58) T ?_
      refine RW.rP 13 (some 59) T ?_
      refine xD (qb T.out (by kernel_rfl)) ?_
      clear h
      have sb:=Zu.out.size
      have Xj:go < wb.heap.size:=by omega
      have gbb:gb < wb.heap.size:=World.block_lt_of_cell? wb _ tb
      have c0:w5.cell? ⟨go,k * 7,none⟩ = some (.int .i64 0):=(jF.out.cell (p:=⟨go,_,none⟩) Xj).trans x0b
      have c1:w5.cell? ⟨go,k * 7 + 1,none⟩ = some (.int .i64 x.f1):=(jF.out.cell (p:=⟨go,_,none⟩) Xj).trans x1b
      have c2:w5.cell? ⟨go,k * 7 + 2,none⟩ = some (.int .i64 x.f2):=(jF.out.cell (p:=⟨go,_,none⟩) Xj).trans U8
      have c3:w5.cell? ⟨go,k * 7 + 3,none⟩ = some (.int .i64 x.f3):=(jF.out.cell (p:=⟨go,_,none⟩) Xj).trans x3b
      have c4:w5.cell? ⟨go,k * 7 + 4,none⟩ = some (.string x.f4):=(jF.out.cell (p:=⟨go,_,none⟩) Xj).trans x4b
      have f1:w5.frozen? ⟨go,k * 7 + 1,none⟩ = false:=(jF.out.frozen (p:=⟨go,_,none⟩) Xj).trans f1b
      have f3:w5.frozen? ⟨go,k * 7 + 3,none⟩ = false:=(jF.out.frozen (p:=⟨go,_,none⟩) Xj).trans f3b
      have t5:w5.cell? ⟨gb,0,none⟩ = some (.pointer (some ⟨go,k * 7,none⟩)):=(jF.out.cell (p:=⟨gb,_,none⟩) gbb).trans tb
      have q4:w5.cell? ⟨g0,0,none⟩ = some (.int .i64 s):=(jF.out.cell (p:=⟨g0,_,none⟩) (by show g0 < wb.heap.size;omega)).trans y4b
      have q5:w5.cell? ⟨g0 + 1,0,none⟩ = some (.slice Af l.length cf):=(jF.out.cell (p:=⟨g0 + 1,_,none⟩) (by show g0 + 1 < wb.heap.size;omega)).trans U9
      clear x0b x1b U8 x3b x4b f1b f3b tb y4b U9 Y8 T U y4 y5
      have QM:Below w.heap.size w w5:=(HW.out.trans (Zu.out.mono HW.out.size)).trans (jF.out.mono (Nat.le_trans HW.out.size Zu.out.size))
      have Xv:=zqo g0 (g0 + 1) gb Af cf l s x.f2 x.f4 go (k * 7) w5 (HG.out.under QM) (Kd.zH HC.out QM) hl hf0 hf1 HV.out ⟨q5,t5,q4⟩ c2 c4
      rw [← WB.out] at Xv
      generalize Yf l s x = av at Xv mh Qj
      obtain ⟨wv,we⟩:=av
      dsimp only at Xv mh Qj
      have Ur:=zx.mk QM
      have s5:=jF.out.size
      clear QM WB
      go_wp2_with fail
      refine Xv.mono ?_;rintro e w6 ⟨rfl,hb6⟩
      have Jq:go < w5.heap.size:=by omega
      have gb5:gb < w5.heap.size:=by omega
      have d1:w6.cell? ⟨go,k * 7 + 1,none⟩ = some (.int .i64 x.f1):=(hb6.cell (p:=⟨go,_,none⟩) Jq).trans c1
      have d3:w6.cell? ⟨go,k * 7 + 3,none⟩ = some (.int .i64 x.f3):=(hb6.cell (p:=⟨go,_,none⟩) Jq).trans c3
      have e1:w6.frozen? ⟨go,k * 7 + 1,none⟩ = false:=(hb6.frozen (p:=⟨go,_,none⟩) Jq).trans f1
      have e3:w6.frozen? ⟨go,k * 7 + 3,none⟩ = false:=(hb6.frozen (p:=⟨go,_,none⟩) Jq).trans f3
      have t6:w6.cell? ⟨gb,0,none⟩ = some (.pointer (some ⟨go,k * 7,none⟩)):=(hb6.cell (p:=⟨gb,_,none⟩) gb5).trans t5
      have r4:w6.cell? ⟨g0,0,none⟩ = some (.int .i64 s):=(hb6.cell (p:=⟨g0,_,none⟩) (by show g0 < w5.heap.size;omega)).trans q4
      have HB6:=zx.mk (Below.trans jF.out (hb6.mono s5))
      have QD:=zx.mk (Ur.out.trans (hb6.mono Ur.out.size))
      clear c0 c1 c2 c3 c4 f1 f3 t5 q4 q5 hb6 Xv
      by_cases he:we = 0
      ·have HE:=Lib.hid he
       subst he
       have mo:=zx.mk (fun (V:World) (h:Below w6.heap.size w6 V)=>(show V.cell? ⟨gb,0,none⟩ = some (.pointer (some ⟨go,k * 7,none⟩)) ∧ V.cell? ⟨g0,0,none⟩ = some (.int .i64 s) from
        ⟨(h.cell (World.block_lt_of_cell? w6 _ t6)).trans t6,(h.cell (World.block_lt_of_cell? w6 _ r4)).trans r4⟩))
       go_wp2_with fail
       refine RW.rSD (n:=10) [9] mo shift.zj5 shift.zqp (by kernel_rfl) rfl rfl (fun w7 H7 T U h=>?_)
       refine RW.rT 0 (some 74) T U h ?_
       refine RW.rT 1 (some 75) T U h ?_
       refine RW.rP 2 (some 76) T ?_
       refine RW.rT 3 (some 77) T U h ?_
       refine RW.rP 4 (some 78) T ?_
       refine RW.rP 5 (some 79) T ?_
       clear h
       have Jj:go < w6.heap.size:=World.block_lt_of_cell? w6 _ d1
       have u1:w7.cell? ⟨go,k * 7 + 1,none⟩ = some (.int .i64 x.f1):=(H7.out.cell (p:=⟨go,_,none⟩) Jj).trans d1
       have v1:w7.frozen? ⟨go,k * 7 + 1,none⟩ = false:=(H7.out.frozen (p:=⟨go,_,none⟩) Jj).trans e1
       have u3:w7.cell? ⟨go,k * 7 + 3,none⟩ = some (.int .i64 x.f3):=(H7.out.cell (p:=⟨go,_,none⟩) Jj).trans d3
       have v3:w7.frozen? ⟨go,k * 7 + 3,none⟩ = false:=(H7.out.frozen (p:=⟨go,_,none⟩) Jj).trans e3
       have mD:=mo.out _ H7.out
       have HW7:=zx.mk (QD.out.trans (H7.out.mono QD.out.size))
       have mE:Below wr.heap.size wr w7:=(Zu.out.trans (HB6.out.mono Zu.out.size)).trans (H7.out.mono (Nat.le_trans Zu.out.size HB6.out.size))
       have mF:=zx.mk mE
       have mG:=zj4 (Kd.zN HI.out mE) hlt (by rw [VJ];exact hlt) wv s x HGX.out
       rw [← mh.out,HX.out.2.1] at mG
       have HN7:=zx.mk mG
       refine Z5 (i:=6) (N:=none) #[true,true,true,true,true,true,true,false,false,false] rfl rfl (jX T.out (by kernel_rfl)) (by decide) (fun K hK=>?_)
       refine Qy (w1:=?_) (by rfl) rfl ?_ ?_
       rotate_left
       ·go_simp
        rfl
       have S8:(w7.setCell ⟨go,k * 7 + 1,none⟩ (.int .i64 wv)).cell? ⟨gb,0,none⟩ = some (.pointer (some ⟨go,k * 7,none⟩)) ∧ (w7.setCell ⟨go,k * 7 + 1,none⟩ (.int .i64 wv)).cell? ⟨g0,0,none⟩ = some (.int .i64 s) :=
        ⟨(U7 (Below.heap_setCell w7 ⟨go,k * 7 + 1,none⟩ (.int .i64 wv) gb (by show gb ≠ go;omega))).trans mD.1,(U7 (Below.heap_setCell w7 ⟨go,k * 7 + 1,none⟩ (.int .i64 wv) g0 (by show g0 ≠ go;omega))).trans mD.2⟩
       refine hK.out _ _ S8 (fun h=>?_)
       clear hK K h mG mE
       refine RW.rP 7 (some 80) T ?_
       refine RW.rP 8 (some 81) T ?_
       have z3:(w7.setCell ⟨go,k * 7 + 1,none⟩ (.int .i64 wv)).cell? ⟨go,k * 7 + 3,none⟩ = some (.int .i64 x.f3):=(World.cell?_setCell_other _ _ _ _ (by intro e;injection e with _ e;omega)).trans u3
       have z4:(w7.setCell ⟨go,k * 7 + 1,none⟩ (.int .i64 wv)).frozen? ⟨go,k * 7 + 3,none⟩ = false:=by simpa using v3
       refine UJ (i:=9) (N:=none) #[true,true,true,true,true,true,true,true,true,true] rfl rfl (jX T.out (by kernel_rfl)) (by decide) (fun K hK=>?_)
       refine Qy (w1:=?_) (by rfl) rfl ?_ ?_
       rotate_left
       ·go_simp
        rfl
       refine hK.out _ _ ?_
       clear hK K
       refine xD (qb T.out (by kernel_rfl)) ?_
       have bI:=zx.mk ((HW7.out.setCell (p:=⟨go,k * 7 + 1,none⟩) (by show w.heap.size ≤ go;rw [Qo.out];omega) (.int .i64 wv)).setCell (p:=⟨go,k * 7 + 3,none⟩) (by show w.heap.size ≤ go;rw [Qo.out];omega) (.int .i64 s))
       have hn0:g0 ≠ go:=by omega
       have hn1:g0 + 1 ≠ go:=by omega
       have H49:=zx.mk ((Below.heap_setCell (w7.setCell ⟨go,k * 7 + 1,none⟩ (.int .i64 wv)) ⟨go,k * 7 + 3,none⟩ (.int .i64 s) g0 hn0).trans ((Below.heap_setCell w7 ⟨go,k * 7 + 1,none⟩ (.int .i64 wv) g0 hn0).trans (zW H4.out mF.out)))
       have H59:=zx.mk ((Below.heap_setCell (w7.setCell ⟨go,k * 7 + 1,none⟩ (.int .i64 wv)) ⟨go,k * 7 + 3,none⟩ (.int .i64 s) (g0 + 1) hn1).trans ((Below.heap_setCell w7 ⟨go,k * 7 + 1,none⟩ (.int .i64 wv) (g0 + 1) hn1).trans (zW H5.out mF.out)))
       have mH:=zx.mk (show w2.heap.size ≤ ((w7.setCell ⟨go,k * 7 + 1,none⟩ (.int .i64 wv)).setCell ⟨go,k * 7 + 3,none⟩ (.int .i64 s)).heap.size by
        have h1:=mF.out.size
        have h2:=HSZ.out
        simp
        omega)
       have HA9:=zx.mk (show ba = (bs.drop (k + 1)).any (ko l s) by rw [Jz.out,Qj.out,j1,j2];rfl)
       generalize (w7.setCell ⟨go,k * 7 + 1,none⟩ (.int .i64 wv)).setCell ⟨go,k * 7 + 3,none⟩ (.int .i64 s) = w9 at HN7 bI H49 H59 mH ⊢
       clear z3 z4 u1 v1 u3 v3 S8 mD d1 d3 e1 e3 t6 r4
       go_wp2_with fail
       go_roundw
       case rel=>exact ⟨k + 1,by omega,by first | rfl | go_num,HN7,bI,H49,H59,HA9,mH⟩
       case measure=>simp [intOf];omega
      ·have j3:(we == 0) = false:=beq_eq_false_iff_ne.2 he
       have j4:(we != 0) = true:=by simpa using he
       have j5:(!(we == 0)) = true:=by simpa using he
       obtain rfl:ba = true:=by rw [Jz.out,Qj.out,j1,j2,decide_eq_false he];rfl
       clear he
       go_wp2_with fail
       go_ret2
       exact ⟨rfl,by rw [← Qo.out];exact QD.out⟩
   ·by_cases hk1:x.f0 = 1
    ·skip
     have hkk:x.f0 = 1:=hk1
     rw [hkk] at x0
     obtain ⟨wb,hwb⟩:∃ wb,wr.alloc (.cells #[.pointer (some ⟨go,k * 7,none⟩)] 123) = wb:=⟨_,rfl⟩
     have hbb:Below wr.heap.size wr wb:=by rw [← hwb];exact (Below.refl _ wr).alloc (Nat.le_refl _) _
     have ht:wb.heap[wr.heap.size]? = some (.cells #[.pointer (some ⟨go,k * 7,none⟩)] 123 (0,0)):=by rw [← hwb];exact uN wr _
     generalize hgb:wr.heap.size = gb at ht hbb hgl
     have U8:wb.cell? ⟨go,k * 7 + 2,none⟩ = some (.int .i64 x.f2):=(hbb.cell (p:=⟨go,_,none⟩) hgl).trans x2
     have x0b:wb.cell? ⟨go,k * 7,none⟩ = some (.int .i64 1):=(hbb.cell (p:=⟨go,_,none⟩) hgl).trans x0
     have x4b:wb.cell? ⟨go,k * 7 + 4,none⟩ = some (.string x.f4):=(hbb.cell (p:=⟨go,_,none⟩) hgl).trans x4
     have x1b:wb.cell? ⟨go,k * 7 + 1,none⟩ = some (.int .i64 x.f1):=(hbb.cell (p:=⟨go,_,none⟩) hgl).trans x1
     have x3b:wb.cell? ⟨go,k * 7 + 3,none⟩ = some (.int .i64 x.f3):=(hbb.cell (p:=⟨go,_,none⟩) hgl).trans x3
     have f1b:wb.frozen? ⟨go,k * 7 + 1,none⟩ = false:=(hbb.frozen (p:=⟨go,_,none⟩) hgl).trans zzc
     have f3b:wb.frozen? ⟨go,k * 7 + 3,none⟩ = false:=(hbb.frozen (p:=⟨go,_,none⟩) hgl).trans zzd
     have tb:wb.cell? ⟨gb,0,none⟩ = some (.pointer (some ⟨go,k * 7,none⟩)):=(zK ht 0).trans rfl
     have y4b:wb.cell? ⟨g0,0,none⟩ = some (.int .i64 s):=(hbb.cell (p:=⟨g0,0,none⟩) (by show g0 < gb;omega)).trans y4
     have U9:wb.cell? ⟨g0 + 1,0,none⟩ = some (.slice Af l.length cf):=(hbb.cell (p:=⟨g0 + 1,0,none⟩) (by show g0 + 1 < gb;omega)).trans y5
     have Zu:=zx.mk (show Below wr.heap.size wr wb by rw [hgb];exact hbb)
     have mh:=zx.mk (show YM l s x = ⟨x.f0,(Yf l s x).1,x.f2,s,x.f4,x.f5,x.f6⟩ by unfold YM;rw [if_pos (Or.inr hkk)])
     have hbd:ko l s x = (decide (x.f2 < 0) || (decide ((l.length:Int) ≤ x.f2) || !decide ((Yf l s x).2 = 0))):=by unfold ko;rw [hkk];rfl
     have hak:Yf l s x = YW (qY l x.f2) s:=by unfold Yf;rw [if_neg hk0]
     have WB:=zx.mk hak
     have Qj:=zx.mk hbd
     have Jz:=zx.mk (show ba = (ko l s x || (bs.drop (k + 1)).any (ko l s)) by rw [HA.out];exact HX.out.2.2)
     clear hak hbd hkk hk0 hk1 HA hbb x0 x1 x2 x3 x4 zzc zzd ht
     have Y8:=zx.mk (fun (V:World) (h:Below wb.heap.size wb V)=>(show V.cell? ⟨gb,0,none⟩ = some (.pointer (some ⟨go,k * 7,none⟩)) ∧ V.cell? ⟨go,k * 7 + 2,none⟩ = some (.int .i64 x.f2) ∧ V.cell? ⟨g0 + 1,0,none⟩ = some (.slice Af l.length cf) from
      ⟨(h.cell (World.block_lt_of_cell? wb _ tb)).trans tb,(h.cell (World.block_lt_of_cell? wb _ U8)).trans U8,(h.cell (World.block_lt_of_cell? wb _ U9)).trans U9⟩))
     by_cases hn:x.f2 < 0
     ·have j1:decide (x.f2 < 0) = true:=decide_eq_true hn
      obtain rfl:ba = true:=by rw [Jz.out,Qj.out,j1];rfl
      clear hn
      go_wp2_with fail
      refine RW.rS (n:=14) Y8 shift.QE shift.Xf (by kernel_rfl) rfl rfl (fun w5 jF T U h=>?_)
      refine RW.rT 0 (some 46) T U h ?_
      refine RW.rP 1 (some 47) T ?_
      refine RW.rP 2 (some 48) T ?_
      refine RW.rT 3 (some 49) T U h ?_
      refine RW.rP 4 (some 50) T ?_
      refine RW.rP 5 (some 51) T ?_
      refine RW.rU 6 (some 52) T ?_
      refine RW.rU 7 (some 53) T ?_
      refine RW.rU 8 (some 54) T ?_
      refine RW.rU 9 (some 55) T ?_
      refine RW.rU 10 (some 56) T ?_
      refine RW.rU 11 (some 57) T ?_
      refine RW.rU 12 (some 58) T ?_
      refine RW.rP 13 (some 59) T ?_
      refine xD (qb T.out (by kernel_rfl)) ?_
      clear h
      go_wp2_with fail
      go_ret2
      exact ⟨rfl,by rw [← Qo.out];exact (HW.out.trans (Zu.out.mono HW.out.size)).trans (jF.out.mono (Nat.le_trans HW.out.size Zu.out.size))⟩
     ·have j1:decide (x.f2 < 0) = false:=decide_eq_false hn
      by_cases hm:(l.length:Int) ≤ x.f2
      ·have j2:decide ((l.length:Int) ≤ x.f2) = true:=decide_eq_true hm
       obtain rfl:ba = true:=by rw [Jz.out,Qj.out,j1,j2];rfl
       clear hn hm
       go_wp2_with fail
       refine RW.rS (n:=14) Y8 shift.QE shift.Xf (by kernel_rfl) rfl rfl (fun w5 jF T U h=>?_)
       refine RW.rT 0 (some 46) T U h ?_
       refine RW.rP 1 (some 47) T ?_
       refine RW.rP 2 (some 48) T ?_
       refine RW.rT 3 (some 49) T U h ?_
       refine RW.rP 4 (some 50) T ?_
       refine RW.rP 5 (some 51) T ?_
       refine RW.rT 6 (some 52) T U h ?_
       refine RW.rP 7 (some 53) T ?_
       refine RW.rP 8 (some 54) T ?_
       refine RW.rT 9 (some 55) T U h ?_
       refine RW.rT 10 (some 56) T U h ?_
       refine RW.rP 11 (some 57) T ?_
       refine RW.rP 12 (some 58) T ?_
       refine RW.rP 13 (some 59) T ?_
       refine xD (qb T.out (by kernel_rfl)) ?_
       clear h
       go_wp2_with fail
       go_ret2
       exact ⟨rfl,by rw [← Qo.out];exact (HW.out.trans (Zu.out.mono HW.out.size)).trans (jF.out.mono (Nat.le_trans HW.out.size Zu.out.size))⟩
      ·have j2:decide ((l.length:Int) ≤ x.f2) = false:=decide_eq_false hm
       have hf0:0 ≤ x.f2:=by omega
       have hf1:x.f2 < (l.length:Int):=by omega
       clear hn hm
       go_wp2_with fail
       refine RW.rS (n:=14) Y8 shift.QE shift.Xf (by kernel_rfl) rfl rfl (fun w5 jF T U h=>?_)
       refine RW.rT 0 (some 46) T U h ?_
       refine RW.rP 1 (some 47) T ?_
       refine RW.rP 2 (some 48) T ?_
       refine RW.rT 3 (some 49) T U h ?_
       refine RW.rP 4 (some 50) T ?_
       refine RW.rP 5 (some 51) T ?_
       refine RW.rT 6 (some 52) T U h ?_
       refine RW.rP 7 (some 53) T ?_
       refine RW.rP 8 (some 54) T ?_
       refine RW.rT 9 (some 55) T U h ?_
       refine RW.rT 10 (some 56) T U h ?_
       refine RW.rP 11 (some 57) T ?_
       refine RW.rP 12 (some 58) T ?_
       refine RW.rP 13 (some 59) T ?_
       refine xD (qb T.out (by kernel_rfl)) ?_
       clear h
       have sb:=Zu.out.size
       have Xj:go < wb.heap.size:=by omega
       have gbb:gb < wb.heap.size:=World.block_lt_of_cell? wb _ tb
       have c0:w5.cell? ⟨go,k * 7,none⟩ = some (.int .i64 1):=(jF.out.cell (p:=⟨go,_,none⟩) Xj).trans x0b
       have c1:w5.cell? ⟨go,k * 7 + 1,none⟩ = some (.int .i64 x.f1):=(jF.out.cell (p:=⟨go,_,none⟩) Xj).trans x1b
       have c2:w5.cell? ⟨go,k * 7 + 2,none⟩ = some (.int .i64 x.f2):=(jF.out.cell (p:=⟨go,_,none⟩) Xj).trans U8
       have c3:w5.cell? ⟨go,k * 7 + 3,none⟩ = some (.int .i64 x.f3):=(jF.out.cell (p:=⟨go,_,none⟩) Xj).trans x3b
       have c4:w5.cell? ⟨go,k * 7 + 4,none⟩ = some (.string x.f4):=(jF.out.cell (p:=⟨go,_,none⟩) Xj).trans x4b
       have f1:w5.frozen? ⟨go,k * 7 + 1,none⟩ = false:=(jF.out.frozen (p:=⟨go,_,none⟩) Xj).trans f1b
       have f3:w5.frozen? ⟨go,k * 7 + 3,none⟩ = false:=(jF.out.frozen (p:=⟨go,_,none⟩) Xj).trans f3b
       have t5:w5.cell? ⟨gb,0,none⟩ = some (.pointer (some ⟨go,k * 7,none⟩)):=(jF.out.cell (p:=⟨gb,_,none⟩) gbb).trans tb
       have q4:w5.cell? ⟨g0,0,none⟩ = some (.int .i64 s):=(jF.out.cell (p:=⟨g0,_,none⟩) (by show g0 < wb.heap.size;omega)).trans y4b
       have q5:w5.cell? ⟨g0 + 1,0,none⟩ = some (.slice Af l.length cf):=(jF.out.cell (p:=⟨g0 + 1,_,none⟩) (by show g0 + 1 < wb.heap.size;omega)).trans U9
       clear x0b x1b U8 x3b x4b f1b f3b tb y4b U9 Y8 T U y4 y5
       have QM:Below w.heap.size w w5:=(HW.out.trans (Zu.out.mono HW.out.size)).trans (jF.out.mono (Nat.le_trans HW.out.size Zu.out.size))
       have Xv:=zqn g0 (g0 + 1) gb Af cf l s x.f2 go (k * 7) w5 (HG.out.under QM) (Kd.zH HC.out QM) hl hf0 hf1 HV.out ⟨q5,t5,q4⟩ c2
       rw [← WB.out] at Xv
       generalize Yf l s x = av at Xv mh Qj
       obtain ⟨wv,we⟩:=av
       dsimp only at Xv mh Qj
       have Ur:=zx.mk QM
       have s5:=jF.out.size
       clear QM WB
       go_wp2_with fail
       refine Xv.mono ?_;rintro e w6 ⟨rfl,hb6⟩
       have Jq:go < w5.heap.size:=by omega
       have gb5:gb < w5.heap.size:=by omega
       have d1:w6.cell? ⟨go,k * 7 + 1,none⟩ = some (.int .i64 x.f1):=(hb6.cell (p:=⟨go,_,none⟩) Jq).trans c1
       have d3:w6.cell? ⟨go,k * 7 + 3,none⟩ = some (.int .i64 x.f3):=(hb6.cell (p:=⟨go,_,none⟩) Jq).trans c3
       have e1:w6.frozen? ⟨go,k * 7 + 1,none⟩ = false:=(hb6.frozen (p:=⟨go,_,none⟩) Jq).trans f1
       have e3:w6.frozen? ⟨go,k * 7 + 3,none⟩ = false:=(hb6.frozen (p:=⟨go,_,none⟩) Jq).trans f3
       have t6:w6.cell? ⟨gb,0,none⟩ = some (.pointer (some ⟨go,k * 7,none⟩)):=(hb6.cell (p:=⟨gb,_,none⟩) gb5).trans t5
       have r4:w6.cell? ⟨g0,0,none⟩ = some (.int .i64 s):=(hb6.cell (p:=⟨g0,_,none⟩) (by show g0 < w5.heap.size;omega)).trans q4
       have HB6:=zx.mk (Below.trans jF.out (hb6.mono s5))
       have QD:=zx.mk (Ur.out.trans (hb6.mono Ur.out.size))
       clear c0 c1 c2 c3 c4 f1 f3 t5 q4 q5 hb6 Xv
       by_cases he:we = 0
       ·have HE:=Lib.hid he
        subst he
        have mo:=zx.mk (fun (V:World) (h:Below w6.heap.size w6 V)=>(show V.cell? ⟨gb,0,none⟩ = some (.pointer (some ⟨go,k * 7,none⟩)) ∧ V.cell? ⟨g0,0,none⟩ = some (.int .i64 s) from
         ⟨(h.cell (World.block_lt_of_cell? w6 _ t6)).trans t6,(h.cell (World.block_lt_of_cell? w6 _ r4)).trans r4⟩))
        go_wp2_with fail
        refine RW.rSD (n:=10) [9] mo shift.zj5 shift.zqp (by kernel_rfl) rfl rfl (fun w7 H7 T U h=>?_)
        refine RW.rT 0 (some 74) T U h ?_
        refine RW.rT 1 (some 75) T U h ?_
        refine RW.rP 2 (some 76) T ?_
        refine RW.rT 3 (some 77) T U h ?_
        refine RW.rP 4 (some 78) T ?_
        refine RW.rP 5 (some 79) T ?_
        clear h
        have Jj:go < w6.heap.size:=World.block_lt_of_cell? w6 _ d1
        have u1:w7.cell? ⟨go,k * 7 + 1,none⟩ = some (.int .i64 x.f1):=(H7.out.cell (p:=⟨go,_,none⟩) Jj).trans d1
        have v1:w7.frozen? ⟨go,k * 7 + 1,none⟩ = false:=(H7.out.frozen (p:=⟨go,_,none⟩) Jj).trans e1
        have u3:w7.cell? ⟨go,k * 7 + 3,none⟩ = some (.int .i64 x.f3):=(H7.out.cell (p:=⟨go,_,none⟩) Jj).trans d3
        have v3:w7.frozen? ⟨go,k * 7 + 3,none⟩ = false:=(H7.out.frozen (p:=⟨go,_,none⟩) Jj).trans e3
        have mD:=mo.out _ H7.out
        have HW7:=zx.mk (QD.out.trans (H7.out.mono QD.out.size))
        have mE:Below wr.heap.size wr w7:=(Zu.out.trans (HB6.out.mono Zu.out.size)).trans (H7.out.mono (Nat.le_trans Zu.out.size HB6.out.size))
        have mF:=zx.mk mE
        have mG:=zj4 (Kd.zN HI.out mE) hlt (by rw [VJ];exact hlt) wv s x HGX.out
        rw [← mh.out,HX.out.2.1] at mG
        have HN7:=zx.mk mG
        refine Z5 (i:=6) (N:=none) #[true,true,true,true,true,true,true,false,false,false] rfl rfl (jX T.out (by kernel_rfl)) (by decide) (fun K hK=>?_)
        refine Qy (w1:=?_) (by rfl) rfl ?_ ?_
        rotate_left
        ·go_simp
         rfl
        have S8:(w7.setCell ⟨go,k * 7 + 1,none⟩ (.int .i64 wv)).cell? ⟨gb,0,none⟩ = some (.pointer (some ⟨go,k * 7,none⟩)) ∧ (w7.setCell ⟨go,k * 7 + 1,none⟩ (.int .i64 wv)).cell? ⟨g0,0,none⟩ = some (.int .i64 s) :=
         ⟨(U7 (Below.heap_setCell w7 ⟨go,k * 7 + 1,none⟩ (.int .i64 wv) gb (by show gb ≠ go;omega))).trans mD.1,(U7 (Below.heap_setCell w7 ⟨go,k * 7 + 1,none⟩ (.int .i64 wv) g0 (by show g0 ≠ go;omega))).trans mD.2⟩
        refine hK.out _ _ S8 (fun h=>?_)
        clear hK K h mG mE
        refine RW.rP 7 (some 80) T ?_
        refine RW.rP 8 (some 81) T ?_
        have z3:(w7.setCell ⟨go,k * 7 + 1,none⟩ (.int .i64 wv)).cell? ⟨go,k * 7 + 3,none⟩ = some (.int .i64 x.f3):=(World.cell?_setCell_other _ _ _ _ (by intro e;injection e with _ e;omega)).trans u3
        have z4:(w7.setCell ⟨go,k * 7 + 1,none⟩ (.int .i64 wv)).frozen? ⟨go,k * 7 + 3,none⟩ = false:=by simpa using v3
        refine UJ (i:=9) (N:=none) #[true,true,true,true,true,true,true,true,true,true] rfl rfl (jX T.out (by kernel_rfl)) (by decide) (fun K hK=>?_)
        refine Qy (w1:=?_) (by rfl) rfl ?_ ?_
        rotate_left
        ·go_simp
         rfl
        refine hK.out _ _ ?_
        clear hK K
        refine xD (qb T.out (by kernel_rfl)) ?_
        have bI:=zx.mk ((HW7.out.setCell (p:=⟨go,k * 7 + 1,none⟩) (by show w.heap.size ≤ go;rw [Qo.out];omega) (.int .i64 wv)).setCell (p:=⟨go,k * 7 + 3,none⟩) (by show w.heap.size ≤ go;rw [Qo.out];omega) (.int .i64 s))
        have hn0:g0 ≠ go:=by omega
        have hn1:g0 + 1 ≠ go:=by omega
        have H49:=zx.mk ((Below.heap_setCell (w7.setCell ⟨go,k * 7 + 1,none⟩ (.int .i64 wv)) ⟨go,k * 7 + 3,none⟩ (.int .i64 s) g0 hn0).trans ((Below.heap_setCell w7 ⟨go,k * 7 + 1,none⟩ (.int .i64 wv) g0 hn0).trans (zW H4.out mF.out)))
        have H59:=zx.mk ((Below.heap_setCell (w7.setCell ⟨go,k * 7 + 1,none⟩ (.int .i64 wv)) ⟨go,k * 7 + 3,none⟩ (.int .i64 s) (g0 + 1) hn1).trans ((Below.heap_setCell w7 ⟨go,k * 7 + 1,none⟩ (.int .i64 wv) (g0 + 1) hn1).trans (zW H5.out mF.out)))
        have mH:=zx.mk (show w2.heap.size ≤ ((w7.setCell ⟨go,k * 7 + 1,none⟩ (.int .i64 wv)).setCell ⟨go,k * 7 + 3,none⟩ (.int .i64 s)).heap.size by
         have h1:=mF.out.size
         have h2:=HSZ.out
         simp
         omega)
        have HA9:=zx.mk (show ba = (bs.drop (k + 1)).any (ko l s) by rw [Jz.out,Qj.out,j1,j2];rfl)
        generalize (w7.setCell ⟨go,k * 7 + 1,none⟩ (.int .i64 wv)).setCell ⟨go,k * 7 + 3,none⟩ (.int .i64 s) = w9 at HN7 bI H49 H59 mH ⊢
        clear z3 z4 u1 v1 u3 v3 S8 mD d1 d3 e1 e3 t6 r4
        go_wp2_with fail
        go_roundw
        case rel=>exact ⟨k + 1,by omega,by first | rfl | go_num,HN7,bI,H49,H59,HA9,mH⟩
        case measure=>simp [intOf];omega
       ·have j3:(we == 0) = false:=beq_eq_false_iff_ne.2 he
        have j4:(we != 0) = true:=by simpa using he
        have j5:(!(we == 0)) = true:=by simpa using he
        obtain rfl:ba = true:=by rw [Jz.out,Qj.out,j1,j2,decide_eq_false he];rfl
        clear he
        go_wp2_with fail
        go_ret2
        exact ⟨rfl,by rw [← Qo.out];exact QD.out⟩
    ·have n0:(x.f0 == 0) = false:=beq_eq_false_iff_ne.2 hk0
     have n1:(x.f0 == 1) = false:=beq_eq_false_iff_ne.2 hk1
     have m0:(x.f0 != 0) = true:=by simpa using hk0
     have m1:(x.f0 != 1) = true:=by simpa using hk1
     have p0:(!(x.f0 == 0)) = true:=by simpa using hk0
     have p1:(!(x.f0 == 1)) = true:=by simpa using hk1
     have hsh:YM l s x = x:=by unfold YM;rw [if_neg (fun h=>h.elim hk0 hk1)]
     have hbd:ko l s x = false:=by unfold ko;rw [decide_eq_false hk0,decide_eq_false hk1];rfl
     have hS1:=zx.mk (HX.out.1 hsh)
     have hA1:=zx.mk (show ba = (bs.drop (k + 1)).any (ko l s) by rw [HA.out,HX.out.2.2,hbd];rfl)
     clear hsh hbd hk0 hk1
     have hba:Below wr.heap.size wr (wr.alloc (.cells #[.pointer (some ⟨go,k * 7,none⟩)] 123)):=(Below.refl _ wr).alloc (Nat.le_refl _) _
     have mI:=zx.mk hba
     clear hba
     go_wp2_with fail
     go_roundw
     case rel=>exact ⟨k + 1,by omega,by first | rfl | go_num,⟨by rw [← hS1.out];exact Kd.zN HI.out mI.out⟩,⟨HW.out.trans (mI.out.mono HW.out.size)⟩,⟨zW H4.out mI.out⟩,⟨zW H5.out mI.out⟩,hA1,⟨Nat.le_trans HSZ.out mI.out.size⟩⟩
     case measure=>simp [intOf];omega
  ·obtain rfl:k = bs.length:=by omega
   have hA:=HA.out
   rw [List.drop_eq_nil_of_le (Nat.le_refl _)] at hA
   obtain rfl:ba = false:=hA
   clear HA
   go_wp2_with fail
   go_ret2
   refine ⟨?_,by rw [← Qo.out];exact HW.out⟩
   exact ⟨_,rfl,by rw [← zvT];exact Kd.jg (Kd.qG HI.out (by omega)) (fun k hk=>trivial)⟩
def zze (bs:List vJ) (l:List yM):Bool:=decide (bs.length ≤ 1000000) && (bs.all (fun b=>decide (b.f6.length ≤ 1000000)) && (decide (l.length ≤ 1000000) && l.all (fun x=>decide (x.f3.length ≤ 1000000) && (decide (x.f4.length ≤ 1000000) && decide (x.f5.length ≤ 1000000)))))
def xU.f (bs:List vJ) (s:Int) (l:List kV):Option (List vJ × Int):=if zze bs l = true then some (mg l s bs) else none
theorem xU.calls (A0:Option Addr) (c0:Nat) (l0:List vJ) (a1:Int) (A2:Option Addr) (c2:Nat) (l2:List kV) (r1:List vJ) (r2:Int) (w:World) (hr0:Kd.C xS w A0 l0.length l0) (hc0:l0.length ≤ c0) (hr2:Kd.C jh w A2 l2.length l2) (hc2:l2.length ≤ c2) (hG:GW w) (h:xU.f l0 a1 l2 = some (r1,r2)) :
  Calls Tryz.prog 25 #[.slice A0 l0.length c0,.int .i64 a1,.slice A2 l2.length c2] w fun e w'=>∃ XK,e = .returned (.tuple #[XK,.int .i64 r2]) ∧ xS.S 53 w' w.heap.size (fun _=>True) XK r1 ∧ Below w.heap.size w w':=by
 unfold xU.f at h
 split at h
 case isFalse=>cases h
 case isTrue hz =>
  unfold zze at hz
  simp only [Bool.and_eq_true,decide_eq_true_eq,List.all_eq_true] at hz
  obtain ⟨z1,z2,z3,z4⟩:=hz
  have hz4:∀ x ∈ l2,x.f3.length ≤ 1000000000 ∧ x.f4.length ≤ 1000000000 ∧ x.f5.length ≤ 1000000000:=fun x hx=>by
   have:=z4 x hx
   omega
  injection h with h
  unfold mg at h
  cases hrf:Yr l2 a1 with
  | true =>
   rw [hrf,if_pos rfl] at h
   injection h with h1 h2
   subst h1 h2
   exact (zx3 A0 c0 l0 a1 A2 c2 l2 w hG hr2 (by omega) hz4 hrf).mono fun e w' ⟨e1,e2⟩=>⟨_,e1,Kd.UY _ _ _ _ _,e2⟩
  | false =>
   rw [hrf,if_neg Bool.false_ne_true] at h
   have hy:=zqr A0 c0 l0 a1 A2 c2 l2 w hG hr0 z1 (fun b hb=>by have:=z2 b hb;omega) hr2 (by omega) hz4 hrf
   cases hb:l0.any (ko l2 a1) with
   | true =>
    rw [hb,if_pos rfl] at h
    injection h with h1 h2
    subst h1 h2
    exact hy.mono fun e w' ⟨e1,e2⟩=>⟨_,by rw [hb,if_pos rfl] at e1;exact e1,Kd.UY _ _ _ _ _,e2⟩
   | false =>
    rw [hb,if_neg Bool.false_ne_true] at h
    injection h with h1 h2
    subst h1 h2
    refine hy.mono fun e w' ⟨e1,e2⟩=>?_
    rw [hb,if_neg Bool.false_ne_true] at e1
    obtain ⟨v,e3,e4⟩:=e1
    exact ⟨v,e3,e4,e2⟩
end Go.Proofs.YtggifbbiiickmaaGreatDoor
namespace Go.Proofs.YtggifbbiiickmaaGreatDoor.PX
open Go.RowKit Go.Proofs.zk.zm Go.Proofs.zk.yK Go.Proofs.zk.yc
attribute [local go_sem] uf ug jW jc vL vM uh um   -- for this text's walks alone
set_option linter.unusedVariables false
set_option linter.unusedSimpArgs false
namespace zyb
end zyb
open zyb
def zX.f (k:Nat) (zi:ByteArray) (zY:Int) (zQ:Int) (zl:Int):Option (Bool):=if (zi.size:Int) > 200 then ((yC.f).bind fun WJ=>(some WJ)) else ((yJ.f).bind fun uE=>((zO.f k zi).bind fun uK=>((yR.f uE (wrap64 (Int.tmod zl 5)) (wrap64 (1 + (wrap64 (zY)))) false false uK ([]:List (uj))).bind fun Yv=>(if Yv.2.2 = 0 then ((yJ.f).bind fun uy=>((xU.f Yv.1 (wrap64 (1 + (wrap64 (zQ)))) uy).bind fun kL=>((yJ.f).bind fun jf=>((zO.f k zi).bind fun jK=>((yR.f jf (wrap64 (Int.tmod zl 5)) (wrap64 (1 + (wrap64 (zQ)))) false false jK ([]:List (uj))).bind fun uI=>(if kL.2 = 0 then (if uI.2.2 = 0 then ((zM.f k kL.1 uI.1).bind fun kD=>(if kD = true then ((yC.f).bind fun jG=>(some jG)) else (some false))) else (some false)) else (some false))))))) else ((yC.f).bind fun YI=>(some YI))))))
def zX.T1:Bool × List (List Nat × List Nat):=(true,[([],[]),([0],[0]),([],[]),([2],[2]),([],[]),([4],[4]),([],[]),([6],[6]),([1,0,1],[1]),([3,8,0,1,2,3,8],[3]),([5,9,0,1,2,3,4,5,8,9],[5]),([7,10,0,1,2,3,4,5,6,7,8,9,10],[7])])
def zX.B1:List Nat:=[0,1,0,4,0,16,0,64,3,271,831,2047]
theorem zX.Yb:xJ .any (opsOf Tryz.f8 1) = zX.T1:=by kernel_rfl
theorem zX.ZV:vv zX.T1.2 zX.B1 = true:=by kernel_rfl
def zX.T5:Bool × List (List Nat × List Nat):=(true,[([],[]),([],[]),([],[]),([2,0],[2]),([0,1,3,3],[0,1,3]),([4],[4]),([5],[5]),([5],[5]),([5],[5]),([6,4,0,1,2,3,4,5,6],[6]),([7,9,0,1,2,3,4,5,6,7,9],[7]),([8,10,0,1,2,3,4,5,6,7,8,9,10],[8])])
def zX.B5:List Nat:=[0,0,0,5,15,31,63,63,63,127,767,2047]
theorem zX.QK:xJ .any (opsOf Tryz.f8 5) = zX.T5:=by kernel_rfl
theorem zX.QY:vv zX.T5.2 zX.B5 = true:=by kernel_rfl
def zX.T10:Bool × List (List Nat × List Nat):=(true,[([],[]),([],[]),([],[]),([2,0],[2]),([0,1,3,3],[0,1,3]),([4],[4]),([5],[5]),([5],[5]),([5],[5]),([6,4,0,1,2,3,4,5,6],[6]),([7,9,0,1,2,3,4,5,6,7,9],[7]),([8,10,0,1,2,3,4,5,6,7,8,9,10],[8])])
def zX.B10:List Nat:=[0,0,0,5,15,31,63,63,63,127,767,2047]
theorem zX.Ph:xJ .any (opsOf Tryz.f8 10) = zX.T10:=by kernel_rfl
theorem zX.Jv:vv zX.T10.2 zX.B10 = true:=by kernel_rfl
set_option maxHeartbeats 8000000 in
set_option maxRecDepth 100000 in
theorem zX.calls (k:Nat) (zi:ByteArray) (zY:Int) (zQ:Int) (zl:Int) (r:Bool) (w:World) (hG:GW w) (h:zX.f k zi zY zQ zl = some r) :
  Calls Tryz.prog 8 #[.agg #[.string zi,.int .u8 zY,.int .u8 zQ,.int .u8 zl]] w fun e w'=>e = .returned (.bool r) ∧ Below w.heap.size w w':=by
 have zYw:=Tryz.underlying69
 have zxo:=Tryz.underlying26
 have HG:=zx.mk hG
 clear hG
 have HB:=zx.mk (Below.refl w.heap.size w)
 have H:(if (zi.size:Int) > 200 then ((yC.f).bind fun WJ=>(some WJ)) else ((yJ.f).bind fun uE=>((zO.f k zi).bind fun uK=>((yR.f uE (wrap64 (Int.tmod zl 5)) (wrap64 (1 + (wrap64 (zY)))) false false uK ([]:List (uj))).bind fun Yv=>(if Yv.2.2 = 0 then ((yJ.f).bind fun uy=>((xU.f Yv.1 (wrap64 (1 + (wrap64 (zQ)))) uy).bind fun kL=>((yJ.f).bind fun jf=>((zO.f k zi).bind fun jK=>((yR.f jf (wrap64 (Int.tmod zl 5)) (wrap64 (1 + (wrap64 (zQ)))) false false jK ([]:List (uj))).bind fun uI=>(if kL.2 = 0 then (if uI.2.2 = 0 then ((zM.f k kL.1 uI.1).bind fun kD=>(if kD = true then ((yC.f).bind fun jG=>(some jG)) else (some false))) else (some false)) else (some false))))))) else ((yC.f).bind fun YI=>(some YI))))))) = some r:=h
 clear h
 by_cases c2:(zi.size:Int) > 200
 ·rw [if_pos c2] at H
  have P5:decide (200 < (zi.size:Int)) = true:=decide_eq_true c2
  have zXz:decide (200 < zi.size) = true:=decide_eq_true (by omega)
  clear c2
  replace H:=Option.bind_eq_some_iff.mp H
  obtain ⟨WJ,QA,H⟩:=H
  replace H:(some WJ) = some r:=H
  have A3:=zx.mk QA
  clear QA
  obtain rfl:=Option.some.inj H
  go_enter Tryz.func8,Tryz.ntmps8
  try go_wp2_with (first | ((with_reducible refine y9 (N:=1) rfl ?_);refine qQ ?hg (N:=1) ?hd (cs:=#[.string zi,.int .u8 zY,.int .u8 zQ,.int .u8 zl]) (t:=69) ?hr ?_;(case hd=>rfl);(case hg=>rfl);(case hr=>first | (go_simp;done) | (go_simp;rfl));intro zT hg w4 qj hb;have zJ:=zx.mk (zn (zB HB.out) hb);have za:=zx.mk (qj);have zh:=zx.mk ((by rw [hg];exact (zf (zB HB.out)):w.heap.size ≤ zT));have zo:=zx.mk ((by rw [hg];exact (zf (zB HB.out)):w.heap.size ≤ zT));clear HB;have HB:=zJ;have zV:=za;have Jk:=zh;have Yk:=zo;clear zJ za zh zo;clear hb qj hg))
  have zJ:=zx.mk (yQ zV.out)
  have za:=zx.mk (yj HB.out)
  clear zV HB
  have zV:=zJ
  have HB:=za
  clear zJ za
  refine uq (n:=12) (S:=fun w'=>w'.cell? ⟨zT,0,none⟩ = some (.string zi) ∧ w'.cell? ⟨zT,1,none⟩ = some (.int .u8 zY) ∧ w'.cell? ⟨zT,2,none⟩ = some (.int .u8 zQ) ∧ w'.cell? ⟨zT,3,none⟩ = some (.int .u8 zl)) (ds:=[]) #[false,false,false,false,false,false,false,false,false,false,false,false] (by kernel_rfl) rfl rfl ⟨ze zV 0,ze zV 1,ze zV 2,ze zV 3⟩ (fun hHeld=>?_);refine vY zX.Yb zX.ZV (fun zC vW=>?_)
  generalize w4.drew = w5 at zV HB hHeld ⊢
  refine yT 0 (some 14) zC ?_
  refine yT 2 (some 16) zC ?_
  refine yT 4 (some 18) zC ?_
  refine yT 6 (some 20) zC ?_
  refine jR 1 (some 15) zC vW hHeld ?_
  refine yT 8 (some 3) zC ?_
  refine jR 3 (some 17) zC vW hHeld ?_
  refine yT 9 (some 4) zC ?_
  refine jR 5 (some 19) zC vW hHeld ?_
  refine yT 10 (some 5) zC ?_
  refine jR 7 (some 21) zC vW hHeld ?_
  refine yT 11 (some 6) zC ?_
  refine xD (qb zC.out (by kernel_rfl)) ?_
  try go_wp2_with (first | ((with_reducible refine yu (f:=11) rfl ?_);refine jq (some 25) Tryz.func11 #[] ?_;(with_reducible refine (yC.calls  WJ _ ?yX A3.out).mono ?_);(case yX=>exact GW.under HG.out (zB HB.out));rintro e w6 ⟨rfl,hb⟩;refine ⟨_,rfl,?_⟩;have zJ:=zx.mk (zW (g:=zT) (o:=.cells #[.string zi,.int .u8 zY,.int .u8 zQ,.int .u8 zl] 69 (0,0)) (yL zV.out) hb);have za:=zx.mk (zn (zB HB.out) hb);clear zV;clear HB;have zV:=zJ;have HB:=za;clear zJ za;(try clear hb);(try clear hk);(try clear hi)))
  go_ret
  exact ⟨by first | rfl | (simp [yw,yZ] <;> rfl) | (simp [*,yw,yZ] <;> rfl),by repeat (first | (with_reducible first | exact HB.out | apply yI | apply yg | apply yj | refine qB ?_ Yk.out) | exact HB.out)⟩
 ·rw [if_neg c2] at H
  have P5:decide (200 < (zi.size:Int)) = false:=decide_eq_false c2
  have zXz:decide (200 < zi.size) = false:=decide_eq_false (by omega)
  clear c2
  replace H:=Option.bind_eq_some_iff.mp H
  obtain ⟨uE,Wo,H⟩:=H
  replace H:((zO.f k zi).bind fun uK=>((yR.f uE (wrap64 (Int.tmod zl 5)) (wrap64 (1 + (wrap64 (zY)))) false false uK ([]:List (uj))).bind fun Yv=>(if Yv.2.2 = 0 then ((yJ.f).bind fun uy=>((xU.f Yv.1 (wrap64 (1 + (wrap64 (zQ)))) uy).bind fun kL=>((yJ.f).bind fun jf=>((zO.f k zi).bind fun jK=>((yR.f jf (wrap64 (Int.tmod zl 5)) (wrap64 (1 + (wrap64 (zQ)))) false false jK ([]:List (uj))).bind fun uI=>(if kL.2 = 0 then (if uI.2.2 = 0 then ((zM.f k kL.1 uI.1).bind fun kD=>(if kD = true then ((yC.f).bind fun jG=>(some jG)) else (some false))) else (some false)) else (some false))))))) else ((yC.f).bind fun YI=>(some YI))))) = some r:=H
  have A7:=zx.mk Wo
  clear Wo
  replace H:=Option.bind_eq_some_iff.mp H
  obtain ⟨uK,A80,H⟩:=H
  replace H:((yR.f uE (wrap64 (Int.tmod zl 5)) (wrap64 (1 + (wrap64 (zY)))) false false uK ([]:List (uj))).bind fun Yv=>(if Yv.2.2 = 0 then ((yJ.f).bind fun uy=>((xU.f Yv.1 (wrap64 (1 + (wrap64 (zQ)))) uy).bind fun kL=>((yJ.f).bind fun jf=>((zO.f k zi).bind fun jK=>((yR.f jf (wrap64 (Int.tmod zl 5)) (wrap64 (1 + (wrap64 (zQ)))) false false jK ([]:List (uj))).bind fun uI=>(if kL.2 = 0 then (if uI.2.2 = 0 then ((zM.f k kL.1 uI.1).bind fun kD=>(if kD = true then ((yC.f).bind fun jG=>(some jG)) else (some false))) else (some false)) else (some false))))))) else ((yC.f).bind fun YI=>(some YI)))) = some r:=H
  have A8:=zx.mk A80
  clear A80
  replace H:=Option.bind_eq_some_iff.mp H
  obtain ⟨⟨jo,Qf,Xk⟩,A90,H⟩:=H
  replace H:(if Xk = 0 then ((yJ.f).bind fun uy=>((xU.f jo (wrap64 (1 + (wrap64 (zQ)))) uy).bind fun kL=>((yJ.f).bind fun jf=>((zO.f k zi).bind fun jK=>((yR.f jf (wrap64 (Int.tmod zl 5)) (wrap64 (1 + (wrap64 (zQ)))) false false jK ([]:List (uj))).bind fun uI=>(if kL.2 = 0 then (if uI.2.2 = 0 then ((zM.f k kL.1 uI.1).bind fun kD=>(if kD = true then ((yC.f).bind fun jG=>(some jG)) else (some false))) else (some false)) else (some false))))))) else ((yC.f).bind fun YI=>(some YI))) = some r:=H
  have A9:=zx.mk A90
  clear A90
  by_cases c10:Xk = 0
  ·rw [if_pos c10] at H
   have U5:(Xk == 0) = true:=beq_iff_eq.mpr c10
   have U6:(Xk != 0) = false:=bne_eq_false_iff_eq.mpr c10
   clear c10
   replace H:=Option.bind_eq_some_iff.mp H
   obtain ⟨uy,zyc,H⟩:=H
   replace H:((xU.f jo (wrap64 (1 + (wrap64 (zQ)))) uy).bind fun kL=>((yJ.f).bind fun jf=>((zO.f k zi).bind fun jK=>((yR.f jf (wrap64 (Int.tmod zl 5)) (wrap64 (1 + (wrap64 (zQ)))) false false jK ([]:List (uj))).bind fun uI=>(if kL.2 = 0 then (if uI.2.2 = 0 then ((zM.f k kL.1 uI.1).bind fun kD=>(if kD = true then ((yC.f).bind fun jG=>(some jG)) else (some false))) else (some false)) else (some false)))))) = some r:=H
   have A11:=zx.mk zyc
   clear zyc
   replace H:=Option.bind_eq_some_iff.mp H
   obtain ⟨⟨Yy,Yg⟩,zyd,H⟩:=H
   replace H:((yJ.f).bind fun jf=>((zO.f k zi).bind fun jK=>((yR.f jf (wrap64 (Int.tmod zl 5)) (wrap64 (1 + (wrap64 (zQ)))) false false jK ([]:List (uj))).bind fun uI=>(if Yg = 0 then (if uI.2.2 = 0 then ((zM.f k Yy uI.1).bind fun kD=>(if kD = true then ((yC.f).bind fun jG=>(some jG)) else (some false))) else (some false)) else (some false))))) = some r:=H
   have QT:=zx.mk zyd
   clear zyd
   replace H:=Option.bind_eq_some_iff.mp H
   obtain ⟨jf,zye,H⟩:=H
   replace H:((zO.f k zi).bind fun jK=>((yR.f jf (wrap64 (Int.tmod zl 5)) (wrap64 (1 + (wrap64 (zQ)))) false false jK ([]:List (uj))).bind fun uI=>(if Yg = 0 then (if uI.2.2 = 0 then ((zM.f k Yy uI.1).bind fun kD=>(if kD = true then ((yC.f).bind fun jG=>(some jG)) else (some false))) else (some false)) else (some false)))) = some r:=H
   have WL:=zx.mk zye
   clear zye
   replace H:=Option.bind_eq_some_iff.mp H
   obtain ⟨jK,zyf,H⟩:=H
   replace H:((yR.f jf (wrap64 (Int.tmod zl 5)) (wrap64 (1 + (wrap64 (zQ)))) false false jK ([]:List (uj))).bind fun uI=>(if Yg = 0 then (if uI.2.2 = 0 then ((zM.f k Yy uI.1).bind fun kD=>(if kD = true then ((yC.f).bind fun jG=>(some jG)) else (some false))) else (some false)) else (some false))) = some r:=H
   have A14:=zx.mk zyf
   clear zyf
   replace H:=Option.bind_eq_some_iff.mp H
   obtain ⟨⟨Ux,zzf,XD⟩,zyg,H⟩:=H
   replace H:(if Yg = 0 then (if XD = 0 then ((zM.f k Yy Ux).bind fun kD=>(if kD = true then ((yC.f).bind fun jG=>(some jG)) else (some false))) else (some false)) else (some false)) = some r:=H
   have A15:=zx.mk zyg
   clear zyg
   by_cases c16:Yg = 0
   ·rw [if_pos c16] at H
    have zZY:(Yg == 0) = true:=beq_iff_eq.mpr c16
    have zZW:(Yg != 0) = false:=bne_eq_false_iff_eq.mpr c16
    clear c16
    by_cases c17:XD = 0
    ·rw [if_pos c17] at H
     have zZa:(XD == 0) = true:=beq_iff_eq.mpr c17
     have zZb:(XD != 0) = false:=bne_eq_false_iff_eq.mpr c17
     clear c17
     replace H:=Option.bind_eq_some_iff.mp H
     obtain ⟨kD,zyh,H⟩:=H
     replace H:(if kD = true then ((yC.f).bind fun jG=>(some jG)) else (some false)) = some r:=H
     have A18:=zx.mk zyh
     clear zyh
     by_cases c19:kD = true
     ·subst c19
      have H1:((yC.f).bind fun jG=>(some jG)) = some r:=by rw [if_pos rfl] at H;exact H
      clear H
      have H:=H1
      clear H1
      replace H:=Option.bind_eq_some_iff.mp H
      obtain ⟨jG,zyi,H⟩:=H
      replace H:(some jG) = some r:=H
      have A20:=zx.mk zyi
      clear zyi
      obtain rfl:=Option.some.inj H
      go_enter Tryz.func8,Tryz.ntmps8
      try go_wp2_with (first | ((with_reducible refine y9 (N:=1) rfl ?_);refine qQ ?hg (N:=1) ?hd (cs:=#[.string zi,.int .u8 zY,.int .u8 zQ,.int .u8 zl]) (t:=69) ?hr ?_;(case hd=>rfl);(case hg=>rfl);(case hr=>first | (go_simp;done) | (go_simp;rfl));intro zT hg w21 qj hb;have zJ:=zx.mk (zn (zB HB.out) hb);have za:=zx.mk (qj);have zh:=zx.mk ((by rw [hg];exact (zf (zB HB.out)):w.heap.size ≤ zT));have zo:=zx.mk ((by rw [hg];exact (zf (zB HB.out)):w.heap.size ≤ zT));clear HB;have HB:=zJ;have zV:=za;have Jk:=zh;have Yk:=zo;clear zJ za zh zo;clear hb qj hg))
      have zJ:=zx.mk (yQ zV.out)
      have za:=zx.mk (yj HB.out)
      clear zV HB
      have zV:=zJ
      have HB:=za
      clear zJ za
      refine uq (n:=12) (S:=fun w'=>w'.cell? ⟨zT,0,none⟩ = some (.string zi) ∧ w'.cell? ⟨zT,1,none⟩ = some (.int .u8 zY) ∧ w'.cell? ⟨zT,2,none⟩ = some (.int .u8 zQ) ∧ w'.cell? ⟨zT,3,none⟩ = some (.int .u8 zl)) (ds:=[]) #[false,false,false,false,false,false,false,false,false,false,false,false] (by kernel_rfl) rfl rfl ⟨ze zV 0,ze zV 1,ze zV 2,ze zV 3⟩ (fun hHeld=>?_);refine vY zX.Yb zX.ZV (fun zC vW=>?_)
      generalize w21.drew = bV at zV HB hHeld ⊢
      refine yT 0 (some 14) zC ?_
      refine yT 2 (some 16) zC ?_
      refine yT 4 (some 18) zC ?_
      refine yT 6 (some 20) zC ?_
      refine jR 1 (some 15) zC vW hHeld ?_
      refine yT 8 (some 3) zC ?_
      refine jR 3 (some 17) zC vW hHeld ?_
      refine yT 9 (some 4) zC ?_
      refine jR 5 (some 19) zC vW hHeld ?_
      refine yT 10 (some 5) zC ?_
      refine jR 7 (some 21) zC vW hHeld ?_
      refine yT 11 (some 6) zC ?_
      refine xD (qb zC.out (by kernel_rfl)) ?_
      try go_wp2_with (first | ((with_reducible refine y9 (N:=7) rfl ?_);refine qQ ?hg (N:=7) ?hd (cs:=#[.int .i64 0,.int .i64 0,.bool false,.bool false]) (t:=26) ?hr ?_;(case hd=>rfl);(case hg=>rfl);(case hr=>first | (go_simp;done) | (go_simp;rfl));intro zZ hg U0 qj hb;have zJ:=zx.mk (zW (g:=zT) (o:=.cells #[.string zi,.int .u8 zY,.int .u8 zQ,.int .u8 zl] 69 (0,0)) (yL zV.out) hb);have za:=zx.mk (zn (zB HB.out) hb);have zh:=zx.mk (qj);have zo:=zx.mk ((by rw [hg];exact (zf (zB HB.out)):w.heap.size ≤ zZ));have z8:=zx.mk ((by rw [hg];exact (zf (zB HB.out)):w.heap.size ≤ zZ));have yD:=zx.mk ((by rw [hg];exact Nat.ne_of_lt (vU (g:=zT) (o:=.cells #[.string zi,.int .u8 zY,.int .u8 zQ,.int .u8 zl] 69 (0,0)) (yL zV.out)):zT ≠ zZ));have yH:=zx.mk ((by rw [hg];exact Nat.ne_of_gt (vU (g:=zT) (o:=.cells #[.string zi,.int .u8 zY,.int .u8 zQ,.int .u8 zl] 69 (0,0)) (yL zV.out)):zZ ≠ zT));clear zV;clear HB;have zV:=zJ;have HB:=za;have zw:=zh;have Pm:=zo;have YR:=z8;have kM:=yD;have kN:=yH;clear zJ za zh zo z8 yD yH;clear hb qj hg;have zZk:=kN.out;have zZy:=kM.out;have K8:U0.cell? ⟨zZ,0,none⟩ = some (.int .i64 0):=ze zw 0;have Wz:U0.cell? ⟨zZ,1,none⟩ = some (.int .i64 0):=ze zw 1;have Wq:U0.cell? ⟨zZ,2,none⟩ = some (.bool false):=ze zw 2;have Wx:U0.cell? ⟨zZ,3,none⟩ = some (.bool false):=ze zw 3;have Wj:=zy zw.out 0;have Wv:=zy zw.out 1;have Wy:=zy zw.out 2;have Ww:=zy zw.out 3))
      have zJ:zx (((((U0.setCell ⟨zZ,0,none⟩ (.int .i64 (wrap64 (Int.tmod zl 5)))).setCell ⟨zZ,1,none⟩ (.int .i64 (wrap64 (1 + (wrap64 (zY)))))).setCell ⟨zZ,2,none⟩ (.bool false)).setCell ⟨zZ,3,none⟩ (.bool false)).heap[zT]? = some (.cells #[.string zi,.int .u8 zY,.int .u8 zQ,.int .u8 zl] 69 (0,0))):=⟨Uf zV.out⟩
      have za:zx (((((U0.setCell ⟨zZ,0,none⟩ (.int .i64 (wrap64 (Int.tmod zl 5)))).setCell ⟨zZ,1,none⟩ (.int .i64 (wrap64 (1 + (wrap64 (zY)))))).setCell ⟨zZ,2,none⟩ (.bool false)).setCell ⟨zZ,3,none⟩ (.bool false)).heap[zZ]? = some (.cells #[.int .i64 (wrap64 (Int.tmod zl 5)),.int .i64 (wrap64 (1 + (wrap64 (zY)))),.bool false,.bool false] 26 (0,0))):=⟨by (with_reducible repeat (first | refine qz ?_ _ | refine yQ ?_ | refine yG ?_ _));refine y8 (cs:=#[.int .i64 (wrap64 (Int.tmod zl 5)),.int .i64 (wrap64 (1 + (wrap64 (zY)))),.bool false,.bool false]) ?_ 3 _ rfl;(with_reducible repeat (first | refine qz ?_ _ | refine yQ ?_ | refine yG ?_ _));refine y8 (cs:=#[.int .i64 (wrap64 (Int.tmod zl 5)),.int .i64 (wrap64 (1 + (wrap64 (zY)))),.bool false,.bool false]) ?_ 2 _ rfl;(with_reducible repeat (first | refine qz ?_ _ | refine yQ ?_ | refine yG ?_ _));refine y8 (cs:=#[.int .i64 (wrap64 (Int.tmod zl 5)),.int .i64 0,.bool false,.bool false]) ?_ 1 _ rfl;(with_reducible repeat (first | refine qz ?_ _ | refine yQ ?_ | refine yG ?_ _));refine y8 (cs:=#[.int .i64 0,.int .i64 0,.bool false,.bool false]) ?_ 0 _ rfl;(with_reducible repeat (first | refine qz ?_ _ | refine yQ ?_ | refine yG ?_ _));exact zw.out⟩
      have zh:zx (Below w.heap.size w ((((U0.setCell ⟨zZ,0,none⟩ (.int .i64 (wrap64 (Int.tmod zl 5)))).setCell ⟨zZ,1,none⟩ (.int .i64 (wrap64 (1 + (wrap64 (zY)))))).setCell ⟨zZ,2,none⟩ (.bool false)).setCell ⟨zZ,3,none⟩ (.bool false))):=⟨zB HB.out⟩
      (try clear zV)
      (try clear zw)
      (try clear HB)
      generalize ((((U0.setCell ⟨zZ,0,none⟩ (.int .i64 (wrap64 (Int.tmod zl 5)))).setCell ⟨zZ,1,none⟩ (.int .i64 (wrap64 (1 + (wrap64 (zY)))))).setCell ⟨zZ,2,none⟩ (.bool false)).setCell ⟨zZ,3,none⟩ (.bool false)) = w26 at zJ za zh ⊢
      have zV:=zJ
      have zw:=za
      have HB:=zh
      clear zJ za zh
      have zJ:=zx.mk (yQ zV.out)
      have za:=zx.mk (yQ zw.out)
      have zh:=zx.mk (yj HB.out)
      clear zV zw HB
      have zV:=zJ
      have zw:=za
      have HB:=zh
      clear zJ za zh
      refine uq (n:=12) (S:=fun w'=>w'.cell? ⟨zZ,0,none⟩ = some (.int .i64 (wrap64 (Int.tmod zl 5))) ∧ w'.cell? ⟨zZ,1,none⟩ = some (.int .i64 (wrap64 (1 + (wrap64 (zY))))) ∧ w'.cell? ⟨zZ,2,none⟩ = some (.bool false) ∧ w'.cell? ⟨zZ,3,none⟩ = some (.bool false)) (ds:=[]) #[false,false,false,false,false,false,false,false,false,false,false,false] (by kernel_rfl) rfl rfl ⟨ze zw 0,ze zw 1,ze zw 2,ze zw 3⟩ (fun hHeld=>?_);refine vY zX.QK zX.QY (fun zC vW=>?_)
      generalize w26.drew = w27 at zV zw HB hHeld ⊢
      refine yT 2 (some 36) zC ?_
      refine jR 1 (some 35) zC vW hHeld ?_
      refine wQ 0 (some 34) zC (fun K hK=>?_)
      refine vI Tryz.func19 (by kernel_rfl) rfl #[] (by rfl) rfl rfl (by (try simp only [List.map_toArray,List.map_cons,List.map_nil]);first | done | rfl | (simp only [List.length_drop,List.length_take];rfl)) ?_
      with_reducible refine (yJ.calls  uE _ ?yX A7.out).mono ?_
      (case yX=>exact GW.under HG.out (zB HB.out))
      rintro e w28 ⟨zzg,rfl,ho0,hb⟩
      refine ⟨_,rfl,?_⟩
      have zJ:=zx.mk (Kd.qG ho0 (zf (zB HB.out)))
      have za:=zx.mk (zW (g:=zT) (o:=.cells #[.string zi,.int .u8 zY,.int .u8 zQ,.int .u8 zl] 69 (0,0)) (yL zV.out) hb)
      have zh:=zx.mk (zW (g:=zZ) (o:=.cells #[.int .i64 (wrap64 (Int.tmod zl 5)),.int .i64 (wrap64 (1 + (wrap64 (zY)))),.bool false,.bool false] 26 (0,0)) (yL zw.out) hb)
      have zo:=zx.mk (zn (zB HB.out) hb)
      clear zV zw HB
      have zD:=zJ
      have zV:=za
      have zw:=zh
      have HB:=zo
      clear zJ za zh zo
      (try clear hb)
      (try clear hk)
      (try clear ho0)
      refine hK.out _ _ ⟨ze zw 0,ze zw 1,ze zw 2,ze zw 3⟩ (fun hHeld=>?_)
      clear hK K
      refine wZ (some 34) ?_
      refine wQ 3 (some 37) zC (fun K hK=>?_)
      refine vI Tryz.func20 (by kernel_rfl) rfl #[.string zi] (by rfl) rfl rfl (by (try simp only [List.map_toArray,List.map_cons,List.map_nil]);first | done | rfl | (simp only [List.length_drop,List.length_take];rfl)) ?_
      with_reducible refine (zO.calls k zi uK _ A8.out).mono ?_
      rintro e w29 ⟨zzh,rfl,ho0,hb⟩
      refine ⟨_,rfl,?_⟩
      have zJ:=zx.mk (Kd.zN (yS zD.out) hb)
      have za:=zx.mk (Kd.ql ho0 (zf (zB HB.out)))
      have zh:=zx.mk (zW (g:=zT) (o:=.cells #[.string zi,.int .u8 zY,.int .u8 zQ,.int .u8 zl] 69 (0,0)) (yL zV.out) hb)
      have zo:=zx.mk (zW (g:=zZ) (o:=.cells #[.int .i64 (wrap64 (Int.tmod zl 5)),.int .i64 (wrap64 (1 + (wrap64 (zY)))),.bool false,.bool false] 26 (0,0)) (yL zw.out) hb)
      have z8:=zx.mk (zn (zB HB.out) hb)
      clear zD zV zw HB
      have zD:=zJ
      have zG:=za
      have zV:=zh
      have zw:=zo
      have HB:=z8
      clear zJ za zh zo z8
      (try clear hb)
      (try clear hk)
      (try clear ho0)
      obtain ⟨zx4,zx5,zyl⟩:=Kd.xq zD.out
      (first | subst zyl | (injection zyl with vB jH vC;have jI:=vB.symm;have jL:=vC.symm;clear vB jH vC;subst jI;subst jL))
      obtain ⟨zx6,zx7,zym⟩:=Kd.qD zG.out
      (first | subst zym | (injection zym with vB jH vC;have jI:=vB.symm;have jL:=vC.symm;clear vB jH vC;subst jI;subst jL))
      refine hK.out _ _ ⟨ze zw 0,ze zw 1,ze zw 2,ze zw 3⟩ (fun hHeld=>?_)
      clear hK K
      refine wZ (some 37) ?_
      refine wQ 4 (some 38) zC (fun K hK=>?_)
      refine vI Tryz.func13 (by kernel_rfl) rfl #[.slice zx4 uE.length zx5,.agg #[.int .i64 (wrap64 (Int.tmod zl 5)),.int .i64 (wrap64 (1 + (wrap64 (zY)))),.bool false,.bool false],.slice zx6 uK.length zx7,.slice none 0 0] (by rfl) rfl rfl (by (try simp only [List.map_toArray,List.map_cons,List.map_nil]);first | done | rfl | (simp only [List.length_drop,List.length_take];rfl)) ?_
      refine (yR.calls _ _ uE (wrap64 (Int.tmod zl 5)) (wrap64 (1 + (wrap64 (zY)))) false false _ _ uK _ _ ([]:List (uj)) jo Qf Xk _ ?yX ?qy ?qw ?qZ ?qh ?qO ?qP A9.out).mono ?_
      (case yX=>exact q8 ((Kd.yF zD.out).2.2))
      (case qy=>exact (Kd.yF zD.out).2.1)
      (case qw=>exact q8 ((Kd.qW zG.out).2.2))
      (case qZ=>exact (Kd.qW zG.out).2.1)
      (case qh=>exact Kd.pz _ _)
      (case qO=>exact Nat.le_refl _)
      (case qP=>exact GW.under HG.out (zB HB.out))
      rintro e w32 ⟨zzi,YL,rfl,ho0,ho1,hb⟩
      refine ⟨_,rfl,?_⟩
      have zJ:=zx.mk (Kd.zN (yS zD.out) hb)
      have za:=zx.mk (Kd.qL (qJ zG.out) (Kd.xE ho1) hb)
      have zh:=zx.mk (Kd.qG ho0 (zf (zB HB.out)))
      have zo:=zx.mk (Kd.ql (Kd.xI ho1 (Kd.jQ (qJ zG.out))) (zf (zB HB.out)))
      have z8:=zx.mk (zW (g:=zT) (o:=.cells #[.string zi,.int .u8 zY,.int .u8 zQ,.int .u8 zl] 69 (0,0)) (yL zV.out) hb)
      have yD:=zx.mk (zW (g:=zZ) (o:=.cells #[.int .i64 (wrap64 (Int.tmod zl 5)),.int .i64 (wrap64 (1 + (wrap64 (zY)))),.bool false,.bool false] 26 (0,0)) (yL zw.out) hb)
      have yH:=zx.mk (zn (zB HB.out) hb)
      clear zD zG zV zw HB
      have zD:=zJ
      have zG:=za
      have zR:=zh
      have zU:=zo
      have zV:=z8
      have zw:=yD
      have HB:=yH
      clear zJ za zh zo z8 yD yH
      (try clear hb)
      (try clear hk)
      (try clear ho0)
      (try clear ho1)
      refine hK.out _ _ ⟨ze zw 0,ze zw 1,ze zw 2,ze zw 3⟩ (fun hHeld=>?_)
      clear hK K
      refine wZ (some 38) ?_
      refine yT 5 (some 33) zC ?_
      refine yT 6 (some 39) zC ?_
      refine yT 7 (some 40) zC ?_
      refine yT 8 (some 41) zC ?_
      refine yT 9 (some 8) zC ?_
      refine yT 10 (some 9) zC ?_
      refine yT 11 (some 10) zC ?_
      refine xD (qb zC.out (by kernel_rfl)) ?_
      try go_wp2_with (first | ((with_reducible refine yu (f:=19) rfl ?_);refine jq (some 50) Tryz.func19 #[] ?_;(with_reducible refine (yJ.calls  uy _ ?yX A11.out).mono ?_);(case yX=>exact GW.under HG.out (zB HB.out));rintro e w33 ⟨zx8,rfl,ho0,hb⟩;refine ⟨_,rfl,?_⟩;have zJ:=zx.mk (Kd.xV (yS zD.out) (Kd.vR ho0) hb);have za:=zx.mk (Kd.yO (qJ zG.out) hb);have zh:=zx.mk (Kd.zN (yS zR.out) hb);have zo:=zx.mk (Kd.yO (qJ zU.out) hb);have z8:=zx.mk (Kd.qG (Kd.vS ho0 (Kd.jT (yS zD.out))) (zf (zB HB.out)));have yD:=zx.mk (zW (g:=zT) (o:=.cells #[.string zi,.int .u8 zY,.int .u8 zQ,.int .u8 zl] 69 (0,0)) (yL zV.out) hb);have yH:=zx.mk (zW (g:=zZ) (o:=.cells #[.int .i64 (wrap64 (Int.tmod zl 5)),.int .i64 (wrap64 (1 + (wrap64 (zY)))),.bool false,.bool false] 26 (0,0)) (yL zw.out) hb);have qV:=zx.mk (zn (zB HB.out) hb);clear zD;clear zG;clear zR;clear zU;clear zV;clear zw;clear HB;have zD:=zJ;have zG:=za;have zR:=zh;have zU:=zo;have yx:=z8;have zV:=yD;have zw:=yH;have HB:=qV;clear zJ za zh zo z8 yD yH qV;(try clear hb);(try clear hk);(try clear ho0);obtain ⟨mX,mJ,zxG⟩:=Kd.xq zR.out;subst zxG;obtain ⟨zx9,zjz,zXq⟩:=Kd.xq yx.out;subst zXq) | ((with_reducible refine yu (f:=25) rfl ?_);refine jq (some 51) Tryz.func25 #[.slice mX jo.length mJ,.int .i64 (wrap64 (1 + (wrap64 (zQ)))),.slice zx9 uy.length zjz] ?_;(with_reducible refine (xU.calls _ _ jo (wrap64 (1 + (wrap64 (zQ)))) _ _ uy Yy Yg _ ?yX ?qy ?qw ?qZ ?qh QT.out).mono ?_);(case yX=>exact q8 ((Kd.yF zR.out).2.2));(case qy=>exact (Kd.yF zR.out).2.1);(case qw=>exact q8 ((Kd.yF yx.out).2.2));(case qZ=>exact (Kd.yF yx.out).2.1);(case qh=>exact GW.under HG.out (zB HB.out));rintro e Xn ⟨Xy,rfl,ho0,hb⟩;refine ⟨_,rfl,?_⟩;have zJ:=zx.mk (Kd.zN (yS zD.out) hb);have za:=zx.mk (Kd.yO (qJ zG.out) hb);have zh:=zx.mk (Kd.xV (yS zR.out) (Kd.vR ho0) hb);have zo:=zx.mk (Kd.yO (qJ zU.out) hb);have z8:=zx.mk (Kd.zN (yS yx.out) hb);have yD:=zx.mk (Kd.qG (Kd.vS ho0 (Kd.jT (yS zR.out))) (zf (zB HB.out)));have yH:=zx.mk (zW (g:=zT) (o:=.cells #[.string zi,.int .u8 zY,.int .u8 zQ,.int .u8 zl] 69 (0,0)) (yL zV.out) hb);have qV:=zx.mk (zW (g:=zZ) (o:=.cells #[.int .i64 (wrap64 (Int.tmod zl 5)),.int .i64 (wrap64 (1 + (wrap64 (zY)))),.bool false,.bool false] 26 (0,0)) (yL zw.out) hb);have qF:=zx.mk (zn (zB HB.out) hb);clear zD;clear zG;clear zR;clear zU;clear yx;clear zV;clear zw;clear HB;have zD:=zJ;have zG:=za;have zR:=zh;have zU:=zo;have yx:=z8;have yE:=yD;have zV:=yH;have zw:=qV;have HB:=qF;clear zJ za zh zo z8 yD yH qV qF;(try clear hb);(try clear hk);(try clear ho0);have zVn:Xn.cell? ⟨zZ,0,none⟩ = some (.int .i64 (wrap64 (Int.tmod zl 5))):=ze zw 0;have zVo:Xn.cell? ⟨zZ,1,none⟩ = some (.int .i64 (wrap64 (1 + (wrap64 (zY))))):=ze zw 1;have zVp:Xn.cell? ⟨zZ,2,none⟩ = some (.bool false):=ze zw 2;have zVr:Xn.cell? ⟨zZ,3,none⟩ = some (.bool false):=ze zw 3;have zVs:=zy zw.out 0;have zVt:=zy zw.out 1;have zVu:=zy zw.out 2;have zVA:=zy zw.out 3))
      have zJ:zx (Kd.S jh 60 (Xn.setCell ⟨zZ,1,none⟩ (.int .i64 (wrap64 (1 + (wrap64 (zQ)))))) w.heap.size (fun k_=>some k_ ≠ (.slice zx9 uy.length zjz:Value).ownBlock) (.slice zx4 uE.length zx5) uE):=⟨by (with_reducible repeat (first | apply Kd.xL | apply Kd.xM | apply Kd.qH));exact Kd.jg (Kd.kS (p:=⟨zZ,1,none⟩) (Kd.jY zD.out zw.out (by decide)) (fun _ hk=>hk.2) (.int .i64 (wrap64 (1 + (wrap64 (zQ)))))) (fun _ hk=>hk.1.2)⟩
      have za:zx (Kd.R Kd.string 9 (Xn.setCell ⟨zZ,1,none⟩ (.int .i64 (wrap64 (1 + (wrap64 (zQ)))))) w.heap.size (fun k_=>some k_ ≠ (YL:Value).ownBlock) (.slice zx6 uK.length zx7) uK):=⟨by (with_reducible repeat (first | apply Kd.kU | apply Kd.wz | apply Kd.uR));exact Kd.vX (Kd.jr (p:=⟨zZ,1,none⟩) (Kd.kE zG.out zw.out (by decide)) (fun _ hk=>hk.2) (.int .i64 (wrap64 (1 + (wrap64 (zQ)))))) (fun _ hk=>hk.1.2)⟩
      have zh:zx (Kd.S xS 53 (Xn.setCell ⟨zZ,1,none⟩ (.int .i64 (wrap64 (1 + (wrap64 (zQ)))))) w.heap.size (fun k_=>some k_ ≠ (Xy:Value).ownBlock) (.slice mX jo.length mJ) jo):=⟨by (with_reducible repeat (first | apply Kd.xL | apply Kd.xM | apply Kd.qH));exact Kd.jg (Kd.kS (p:=⟨zZ,1,none⟩) (Kd.jY zR.out zw.out (by decide)) (fun _ hk=>hk.2) (.int .i64 (wrap64 (1 + (wrap64 (zQ)))))) (fun _ hk=>hk.1.2)⟩
      have zo:zx (Kd.R Kd.string 9 (Xn.setCell ⟨zZ,1,none⟩ (.int .i64 (wrap64 (1 + (wrap64 (zQ)))))) w.heap.size (fun k_=>some k_ ≠ (.slice zx6 uK.length zx7:Value).ownBlock) YL Qf):=⟨by (with_reducible repeat (first | apply Kd.kU | apply Kd.wz | apply Kd.uR));exact Kd.vX (Kd.jr (p:=⟨zZ,1,none⟩) (Kd.kE zU.out zw.out (by decide)) (fun _ hk=>hk.2) (.int .i64 (wrap64 (1 + (wrap64 (zQ)))))) (fun _ hk=>hk.1.2)⟩
      have z8:zx (Kd.S jh 60 (Xn.setCell ⟨zZ,1,none⟩ (.int .i64 (wrap64 (1 + (wrap64 (zQ)))))) w.heap.size (fun k_=>some k_ ≠ (.slice zx4 uE.length zx5:Value).ownBlock) (.slice zx9 uy.length zjz) uy):=⟨by (with_reducible repeat (first | apply Kd.xL | apply Kd.xM | apply Kd.qH));exact Kd.jg (Kd.kS (p:=⟨zZ,1,none⟩) (Kd.jY yx.out zw.out (by decide)) (fun _ hk=>hk.2) (.int .i64 (wrap64 (1 + (wrap64 (zQ)))))) (fun _ hk=>hk.1.2)⟩
      have yD:zx (Kd.S xS 53 (Xn.setCell ⟨zZ,1,none⟩ (.int .i64 (wrap64 (1 + (wrap64 (zQ)))))) w.heap.size (fun k_=>some k_ ≠ (.slice mX jo.length mJ:Value).ownBlock) Xy Yy):=⟨by (with_reducible repeat (first | apply Kd.xL | apply Kd.xM | apply Kd.qH));exact Kd.jg (Kd.kS (p:=⟨zZ,1,none⟩) (Kd.jY yE.out zw.out (by decide)) (fun _ hk=>hk.2) (.int .i64 (wrap64 (1 + (wrap64 (zQ)))))) (fun _ hk=>hk.1.2)⟩
      have yH:zx ((Xn.setCell ⟨zZ,1,none⟩ (.int .i64 (wrap64 (1 + (wrap64 (zQ)))))).heap[zT]? = some (.cells #[.string zi,.int .u8 zY,.int .u8 zQ,.int .u8 zl] 69 (0,0))):=⟨Uf zV.out⟩
      have qV:zx ((Xn.setCell ⟨zZ,1,none⟩ (.int .i64 (wrap64 (1 + (wrap64 (zQ)))))).heap[zZ]? = some (.cells #[.int .i64 (wrap64 (Int.tmod zl 5)),.int .i64 (wrap64 (1 + (wrap64 (zQ)))),.bool false,.bool false] 26 (0,0))):=⟨by (with_reducible repeat (first | refine qz ?_ _ | refine yQ ?_ | refine yG ?_ _));refine y8 (cs:=#[.int .i64 (wrap64 (Int.tmod zl 5)),.int .i64 (wrap64 (1 + (wrap64 (zY)))),.bool false,.bool false]) ?_ 1 _ rfl;(with_reducible repeat (first | refine qz ?_ _ | refine yQ ?_ | refine yG ?_ _));exact zw.out⟩
      have qF:zx (Below w.heap.size w (Xn.setCell ⟨zZ,1,none⟩ (.int .i64 (wrap64 (1 + (wrap64 (zQ))))))):=⟨zB HB.out⟩
      (try clear zD)
      (try clear zG)
      (try clear zR)
      (try clear zU)
      (try clear yx)
      (try clear yE)
      (try clear zV)
      (try clear zw)
      (try clear HB)
      generalize (Xn.setCell ⟨zZ,1,none⟩ (.int .i64 (wrap64 (1 + (wrap64 (zQ)))))) = w38 at zJ za zh zo z8 yD yH qV qF ⊢
      have zD:=zJ
      have zG:=za
      have zR:=zh
      have zU:=zo
      have yx:=z8
      have yE:=yD
      have zV:=yH
      have zw:=qV
      have HB:=qF
      clear zJ za zh zo z8 yD yH qV qF
      have zJ:=zx.mk (Kd.qH zD.out)
      have za:=zx.mk (Kd.uR zG.out)
      have zh:=zx.mk (Kd.qH zR.out)
      have zo:=zx.mk (Kd.uR zU.out)
      have z8:=zx.mk (Kd.qH yx.out)
      have yD:=zx.mk (Kd.qH yE.out)
      have yH:=zx.mk (yQ zV.out)
      have qV:=zx.mk (yQ zw.out)
      have qF:=zx.mk (yj HB.out)
      clear zD zG zR zU yx yE zV zw HB
      have zD:=zJ
      have zG:=za
      have zR:=zh
      have zU:=zo
      have yx:=z8
      have yE:=yD
      have zV:=yH
      have zw:=qV
      have HB:=qF
      clear zJ za zh zo z8 yD yH qV qF
      refine uq (n:=12) (S:=fun w'=>w'.cell? ⟨zZ,0,none⟩ = some (.int .i64 (wrap64 (Int.tmod zl 5))) ∧ w'.cell? ⟨zZ,1,none⟩ = some (.int .i64 (wrap64 (1 + (wrap64 (zQ))))) ∧ w'.cell? ⟨zZ,2,none⟩ = some (.bool false) ∧ w'.cell? ⟨zZ,3,none⟩ = some (.bool false)) (ds:=[]) #[false,false,false,false,false,false,false,false,false,false,false,false] (by kernel_rfl) rfl rfl ⟨ze zw 0,ze zw 1,ze zw 2,ze zw 3⟩ (fun hHeld=>?_);refine vY zX.Ph zX.Jv (fun zC vW=>?_)
      generalize w38.drew = w39 at zD zG zR zU yx yE zV zw HB hHeld ⊢
      refine yT 2 (some 61) zC ?_
      refine jR 1 (some 60) zC vW hHeld ?_
      refine wQ 0 (some 59) zC (fun K hK=>?_)
      refine vI Tryz.func19 (by kernel_rfl) rfl #[] (by rfl) rfl rfl (by (try simp only [List.map_toArray,List.map_cons,List.map_nil]);first | done | rfl | (simp only [List.length_drop,List.length_take];rfl)) ?_
      with_reducible refine (yJ.calls  jf _ ?yX WL.out).mono ?_
      (case yX=>exact GW.under HG.out (zB HB.out))
      rintro e w40 ⟨zjq,rfl,ho0,hb⟩
      refine ⟨_,rfl,?_⟩
      have zJ:=zx.mk (Kd.xV (yS zD.out) (Kd.vR ho0) hb)
      have za:=zx.mk (Kd.yO (qJ zG.out) hb)
      have zh:=zx.mk (Kd.zN (yS zR.out) hb)
      have zo:=zx.mk (Kd.yO (qJ zU.out) hb)
      have z8:=zx.mk (Kd.xV (yS yx.out) (Kd.vR ho0) hb)
      have yD:=zx.mk (Kd.zN (yS yE.out) hb)
      have yH:=zx.mk (Kd.qG (Kd.vS (Kd.vS ho0 (Kd.jT (yS zD.out))) (Kd.jT (yS yx.out))) (zf (zB HB.out)))
      have qV:=zx.mk (zW (g:=zT) (o:=.cells #[.string zi,.int .u8 zY,.int .u8 zQ,.int .u8 zl] 69 (0,0)) (yL zV.out) hb)
      have qF:=zx.mk (zW (g:=zZ) (o:=.cells #[.int .i64 (wrap64 (Int.tmod zl 5)),.int .i64 (wrap64 (1 + (wrap64 (zQ)))),.bool false,.bool false] 26 (0,0)) (yL zw.out) hb)
      have uL:=zx.mk (zn (zB HB.out) hb)
      clear zD zG zR zU yx yE zV zw HB
      have zD:=zJ
      have zG:=za
      have zR:=zh
      have zU:=zo
      have yx:=z8
      have yE:=yD
      have qM:=yH
      have zV:=qV
      have zw:=qF
      have HB:=uL
      clear zJ za zh zo z8 yD yH qV qF uL
      (try clear hb)
      (try clear hk)
      (try clear ho0)
      refine hK.out _ _ ⟨ze zw 0,ze zw 1,ze zw 2,ze zw 3⟩ (fun hHeld=>?_)
      clear hK K
      refine wZ (some 59) ?_
      refine wQ 3 (some 62) zC (fun K hK=>?_)
      refine vI Tryz.func20 (by kernel_rfl) rfl #[.string zi] (by rfl) rfl rfl (by (try simp only [List.map_toArray,List.map_cons,List.map_nil]);first | done | rfl | (simp only [List.length_drop,List.length_take];rfl)) ?_
      with_reducible refine (zO.calls k zi jK _ A14.out).mono ?_
      rintro e w41 ⟨zjx,rfl,ho0,hb⟩
      refine ⟨_,rfl,?_⟩
      have zJ:=zx.mk (Kd.zN (yS zD.out) hb)
      have za:=zx.mk (Kd.qL (qJ zG.out) (Kd.xE ho0) hb)
      have zh:=zx.mk (Kd.zN (yS zR.out) hb)
      have zo:=zx.mk (Kd.qL (qJ zU.out) (Kd.xE ho0) hb)
      have z8:=zx.mk (Kd.zN (yS yx.out) hb)
      have yD:=zx.mk (Kd.zN (yS yE.out) hb)
      have yH:=zx.mk (Kd.zN (yS qM.out) hb)
      have qV:=zx.mk (Kd.ql (Kd.xI (Kd.xI ho0 (Kd.jQ (qJ zG.out))) (Kd.jQ (qJ zU.out))) (zf (zB HB.out)))
      have qF:=zx.mk (zW (g:=zT) (o:=.cells #[.string zi,.int .u8 zY,.int .u8 zQ,.int .u8 zl] 69 (0,0)) (yL zV.out) hb)
      have uL:=zx.mk (zW (g:=zZ) (o:=.cells #[.int .i64 (wrap64 (Int.tmod zl 5)),.int .i64 (wrap64 (1 + (wrap64 (zQ)))),.bool false,.bool false] 26 (0,0)) (yL zw.out) hb)
      have uS:=zx.mk (zn (zB HB.out) hb)
      clear zD zG zR zU yx yE qM zV zw HB
      have zD:=zJ
      have zG:=za
      have zR:=zh
      have zU:=zo
      have yx:=z8
      have yE:=yD
      have qM:=yH
      have xQ:=qV
      have zV:=qF
      have zw:=uL
      have HB:=uS
      clear zJ za zh zo z8 yD yH qV qF uL uS
      (try clear hb)
      (try clear hk)
      (try clear ho0)
      obtain ⟨zXx,zXj,zyn⟩:=Kd.xq qM.out
      (first | subst zyn | (injection zyn with vB jH vC;have jI:=vB.symm;have jL:=vC.symm;clear vB jH vC;subst jI;subst jL))
      obtain ⟨zXv,zXk,zyo⟩:=Kd.qD xQ.out
      (first | subst zyo | (injection zyo with vB jH vC;have jI:=vB.symm;have jL:=vC.symm;clear vB jH vC;subst jI;subst jL))
      refine hK.out _ _ ⟨ze zw 0,ze zw 1,ze zw 2,ze zw 3⟩ (fun hHeld=>?_)
      clear hK K
      refine wZ (some 62) ?_
      refine wQ 4 (some 63) zC (fun K hK=>?_)
      refine vI Tryz.func13 (by kernel_rfl) rfl #[.slice zXx jf.length zXj,.agg #[.int .i64 (wrap64 (Int.tmod zl 5)),.int .i64 (wrap64 (1 + (wrap64 (zQ)))),.bool false,.bool false],.slice zXv jK.length zXk,.slice none 0 0] (by rfl) rfl rfl (by (try simp only [List.map_toArray,List.map_cons,List.map_nil]);first | done | rfl | (simp only [List.length_drop,List.length_take];rfl)) ?_
      refine (yR.calls _ _ jf (wrap64 (Int.tmod zl 5)) (wrap64 (1 + (wrap64 (zQ)))) false false _ _ jK _ _ ([]:List (uj)) Ux zzf XD _ ?yX ?qy ?qw ?qZ ?qh ?qO ?qP A15.out).mono ?_
      (case yX=>exact q8 ((Kd.yF qM.out).2.2))
      (case qy=>exact (Kd.yF qM.out).2.1)
      (case qw=>exact q8 ((Kd.qW xQ.out).2.2))
      (case qZ=>exact (Kd.qW xQ.out).2.1)
      (case qh=>exact Kd.pz _ _)
      (case qO=>exact Nat.le_refl _)
      (case qP=>exact GW.under HG.out (zB HB.out))
      rintro e w44 ⟨zjj,zjv,rfl,ho0,ho1,hb⟩
      refine ⟨_,rfl,?_⟩
      have zJ:=zx.mk (Kd.zN (yS zD.out) hb)
      have za:=zx.mk (Kd.qL (qJ zG.out) (Kd.xE ho1) hb)
      have zh:=zx.mk (Kd.xV (yS zR.out) (Kd.vR ho0) hb)
      have zo:=zx.mk (Kd.qL (qJ zU.out) (Kd.xE ho1) hb)
      have z8:=zx.mk (Kd.zN (yS yx.out) hb)
      have yD:=zx.mk (Kd.xV (yS yE.out) (Kd.vR ho0) hb)
      have yH:=zx.mk (Kd.zN (yS qM.out) hb)
      have qV:=zx.mk (Kd.qL (qJ xQ.out) (Kd.xE ho1) hb)
      have qF:=zx.mk (Kd.qG (Kd.vS (Kd.vS ho0 (Kd.jT (yS zR.out))) (Kd.jT (yS yE.out))) (zf (zB HB.out)))
      have uL:=zx.mk (Kd.ql (Kd.xI (Kd.xI (Kd.xI ho1 (Kd.jQ (qJ zG.out))) (Kd.jQ (qJ zU.out))) (Kd.jQ (qJ xQ.out))) (zf (zB HB.out)))
      have uS:=zx.mk (zW (g:=zT) (o:=.cells #[.string zi,.int .u8 zY,.int .u8 zQ,.int .u8 zl] 69 (0,0)) (yL zV.out) hb)
      have wI:=zx.mk (zW (g:=zZ) (o:=.cells #[.int .i64 (wrap64 (Int.tmod zl 5)),.int .i64 (wrap64 (1 + (wrap64 (zQ)))),.bool false,.bool false] 26 (0,0)) (yL zw.out) hb)
      have wL:=zx.mk (zn (zB HB.out) hb)
      clear zD zG zR zU yx yE qM xQ zV zw HB
      have zD:=zJ
      have zG:=za
      have zR:=zh
      have zU:=zo
      have yx:=z8
      have yE:=yD
      have qM:=yH
      have xQ:=qV
      have kr:=qF
      have ZF:=uL
      have zV:=uS
      have zw:=wI
      have HB:=wL
      clear zJ za zh zo z8 yD yH qV qF uL uS wI wL
      (try clear hb)
      (try clear hk)
      (try clear ho0)
      (try clear ho1)
      refine hK.out _ _ ⟨ze zw 0,ze zw 1,ze zw 2,ze zw 3⟩ (fun hHeld=>?_)
      clear hK K
      refine wZ (some 63) ?_
      refine yT 5 (some 58) zC ?_
      refine yT 6 (some 64) zC ?_
      refine yT 7 (some 65) zC ?_
      refine yT 8 (some 66) zC ?_
      refine yT 9 (some 11) zC ?_
      refine yT 10 (some 12) zC ?_
      refine yT 11 (some 13) zC ?_
      refine xD (qb zC.out (by kernel_rfl)) ?_
      obtain ⟨zYZ,zYQ,zXy⟩:=Kd.xq yE.out
      subst zXy
      obtain ⟨zYX,zYJ,zXw⟩:=Kd.xq kr.out
      subst zXw
      try go_wp2_with (first | (go_at_call 18;(with_reducible refine (zM.calls k _ _ Yy _ _ Ux true _ ?yX ?qy ?qw ?qZ A18.out).mono ?_);(case yX=>exact q8 ((Kd.yF yE.out).2.2));(case qy=>exact (Kd.yF yE.out).2.1);(case qw=>exact q8 ((Kd.yF kr.out).2.2));(case qZ=>exact (Kd.yF kr.out).2.1);rintro e w47 ⟨rfl,hb⟩;have zJ:=zx.mk (Kd.zN (yS zD.out) hb);have za:=zx.mk (Kd.yO (qJ zG.out) hb);have zh:=zx.mk (Kd.zN (yS zR.out) hb);have zo:=zx.mk (Kd.yO (qJ zU.out) hb);have z8:=zx.mk (Kd.zN (yS yx.out) hb);have yD:=zx.mk (Kd.zN (yS yE.out) hb);have yH:=zx.mk (Kd.zN (yS qM.out) hb);have qV:=zx.mk (Kd.yO (qJ xQ.out) hb);have qF:=zx.mk (Kd.zN (yS kr.out) hb);have uL:=zx.mk (Kd.yO (qJ ZF.out) hb);have uS:=zx.mk (zW (g:=zT) (o:=.cells #[.string zi,.int .u8 zY,.int .u8 zQ,.int .u8 zl] 69 (0,0)) (yL zV.out) hb);have wI:=zx.mk (zW (g:=zZ) (o:=.cells #[.int .i64 (wrap64 (Int.tmod zl 5)),.int .i64 (wrap64 (1 + (wrap64 (zQ)))),.bool false,.bool false] 26 (0,0)) (yL zw.out) hb);have wL:=zx.mk (zn (zB HB.out) hb);clear zD;clear zG;clear zR;clear zU;clear yx;clear yE;clear qM;clear xQ;clear kr;clear ZF;clear zV;clear zw;clear HB;have zD:=zJ;have zG:=za;have zR:=zh;have zU:=zo;have yx:=z8;have yE:=yD;have qM:=yH;have xQ:=qV;have kr:=qF;have ZF:=uL;have zV:=uS;have zw:=wI;have HB:=wL;clear zJ za zh zo z8 yD yH qV qF uL uS wI wL;(try clear hb);(try clear hk);(try clear hi)) | (go_at_call 11;(with_reducible refine (yC.calls  jG _ ?yX A20.out).mono ?_);(case yX=>exact GW.under HG.out (zB HB.out));rintro e w48 ⟨rfl,hb⟩;have zJ:=zx.mk (Kd.zN (yS zD.out) hb);have za:=zx.mk (Kd.yO (qJ zG.out) hb);have zh:=zx.mk (Kd.zN (yS zR.out) hb);have zo:=zx.mk (Kd.yO (qJ zU.out) hb);have z8:=zx.mk (Kd.zN (yS yx.out) hb);have yD:=zx.mk (Kd.zN (yS yE.out) hb);have yH:=zx.mk (Kd.zN (yS qM.out) hb);have qV:=zx.mk (Kd.yO (qJ xQ.out) hb);have qF:=zx.mk (Kd.zN (yS kr.out) hb);have uL:=zx.mk (Kd.yO (qJ ZF.out) hb);have uS:=zx.mk (zW (g:=zT) (o:=.cells #[.string zi,.int .u8 zY,.int .u8 zQ,.int .u8 zl] 69 (0,0)) (yL zV.out) hb);have wI:=zx.mk (zW (g:=zZ) (o:=.cells #[.int .i64 (wrap64 (Int.tmod zl 5)),.int .i64 (wrap64 (1 + (wrap64 (zQ)))),.bool false,.bool false] 26 (0,0)) (yL zw.out) hb);have wL:=zx.mk (zn (zB HB.out) hb);clear zD;clear zG;clear zR;clear zU;clear yx;clear yE;clear qM;clear xQ;clear kr;clear ZF;clear zV;clear zw;clear HB;have zD:=zJ;have zG:=za;have zR:=zh;have zU:=zo;have yx:=z8;have yE:=yD;have qM:=yH;have xQ:=qV;have kr:=qF;have ZF:=uL;have zV:=uS;have zw:=wI;have HB:=wL;clear zJ za zh zo z8 yD yH qV qF uL uS wI wL;(try clear hb);(try clear hk);(try clear hi)))
      go_ret
      exact ⟨by first | rfl | (simp [yw,yZ] <;> rfl) | (simp [*,yw,yZ] <;> rfl),by repeat (first | (with_reducible first | exact HB.out | apply yI | apply yg | apply yj | refine qB ?_ Yk.out | refine qB ?_ YR.out) | exact HB.out)⟩
     ·replace c19:=Bool.eq_false_iff.mpr c19
      subst c19
      have H1:(some false) = some r:=by rw [if_neg (show ¬ (false = true) by decide)] at H;exact H
      clear H
      have H:=H1
      clear H1
      obtain rfl:=Option.some.inj H
      go_enter Tryz.func8,Tryz.ntmps8
      try go_wp2_with (first | ((with_reducible refine y9 (N:=1) rfl ?_);refine qQ ?hg (N:=1) ?hd (cs:=#[.string zi,.int .u8 zY,.int .u8 zQ,.int .u8 zl]) (t:=69) ?hr ?_;(case hd=>rfl);(case hg=>rfl);(case hr=>first | (go_simp;done) | (go_simp;rfl));intro zT hg w49 qj hb;have zJ:=zx.mk (zn (zB HB.out) hb);have za:=zx.mk (qj);have zh:=zx.mk ((by rw [hg];exact (zf (zB HB.out)):w.heap.size ≤ zT));have zo:=zx.mk ((by rw [hg];exact (zf (zB HB.out)):w.heap.size ≤ zT));clear HB;have HB:=zJ;have zV:=za;have Jk:=zh;have Yk:=zo;clear zJ za zh zo;clear hb qj hg))
      have zJ:=zx.mk (yQ zV.out)
      have za:=zx.mk (yj HB.out)
      clear zV HB
      have zV:=zJ
      have HB:=za
      clear zJ za
      refine uq (n:=12) (S:=fun w'=>w'.cell? ⟨zT,0,none⟩ = some (.string zi) ∧ w'.cell? ⟨zT,1,none⟩ = some (.int .u8 zY) ∧ w'.cell? ⟨zT,2,none⟩ = some (.int .u8 zQ) ∧ w'.cell? ⟨zT,3,none⟩ = some (.int .u8 zl)) (ds:=[]) #[false,false,false,false,false,false,false,false,false,false,false,false] (by kernel_rfl) rfl rfl ⟨ze zV 0,ze zV 1,ze zV 2,ze zV 3⟩ (fun hHeld=>?_);refine vY zX.Yb zX.ZV (fun zC vW=>?_)
      generalize w49.drew = w50 at zV HB hHeld ⊢
      refine yT 0 (some 14) zC ?_
      refine yT 2 (some 16) zC ?_
      refine yT 4 (some 18) zC ?_
      refine yT 6 (some 20) zC ?_
      refine jR 1 (some 15) zC vW hHeld ?_
      refine yT 8 (some 3) zC ?_
      refine jR 3 (some 17) zC vW hHeld ?_
      refine yT 9 (some 4) zC ?_
      refine jR 5 (some 19) zC vW hHeld ?_
      refine yT 10 (some 5) zC ?_
      refine jR 7 (some 21) zC vW hHeld ?_
      refine yT 11 (some 6) zC ?_
      refine xD (qb zC.out (by kernel_rfl)) ?_
      try go_wp2_with (first | ((with_reducible refine y9 (N:=7) rfl ?_);refine qQ ?hg (N:=7) ?hd (cs:=#[.int .i64 0,.int .i64 0,.bool false,.bool false]) (t:=26) ?hr ?_;(case hd=>rfl);(case hg=>rfl);(case hr=>first | (go_simp;done) | (go_simp;rfl));intro zZ hg Pz qj hb;have zJ:=zx.mk (zW (g:=zT) (o:=.cells #[.string zi,.int .u8 zY,.int .u8 zQ,.int .u8 zl] 69 (0,0)) (yL zV.out) hb);have za:=zx.mk (zn (zB HB.out) hb);have zh:=zx.mk (qj);have zo:=zx.mk ((by rw [hg];exact (zf (zB HB.out)):w.heap.size ≤ zZ));have z8:=zx.mk ((by rw [hg];exact (zf (zB HB.out)):w.heap.size ≤ zZ));have yD:=zx.mk ((by rw [hg];exact Nat.ne_of_lt (vU (g:=zT) (o:=.cells #[.string zi,.int .u8 zY,.int .u8 zQ,.int .u8 zl] 69 (0,0)) (yL zV.out)):zT ≠ zZ));have yH:=zx.mk ((by rw [hg];exact Nat.ne_of_gt (vU (g:=zT) (o:=.cells #[.string zi,.int .u8 zY,.int .u8 zQ,.int .u8 zl] 69 (0,0)) (yL zV.out)):zZ ≠ zT));clear zV;clear HB;have zV:=zJ;have HB:=za;have zw:=zh;have Pm:=zo;have YR:=z8;have kM:=yD;have kN:=yH;clear zJ za zh zo z8 yD yH;clear hb qj hg;have zKG:=kN.out;have zKH:=kM.out;have zVB:Pz.cell? ⟨zZ,0,none⟩ = some (.int .i64 0):=ze zw 0;have zVC:Pz.cell? ⟨zZ,1,none⟩ = some (.int .i64 0):=ze zw 1;have zVD:Pz.cell? ⟨zZ,2,none⟩ = some (.bool false):=ze zw 2;have zVE:Pz.cell? ⟨zZ,3,none⟩ = some (.bool false):=ze zw 3;have zVF:=zy zw.out 0;have zVG:=zy zw.out 1;have zVH:=zy zw.out 2;have zVI:=zy zw.out 3))
      have zJ:zx (((((Pz.setCell ⟨zZ,0,none⟩ (.int .i64 (wrap64 (Int.tmod zl 5)))).setCell ⟨zZ,1,none⟩ (.int .i64 (wrap64 (1 + (wrap64 (zY)))))).setCell ⟨zZ,2,none⟩ (.bool false)).setCell ⟨zZ,3,none⟩ (.bool false)).heap[zT]? = some (.cells #[.string zi,.int .u8 zY,.int .u8 zQ,.int .u8 zl] 69 (0,0))):=⟨Uf zV.out⟩
      have za:zx (((((Pz.setCell ⟨zZ,0,none⟩ (.int .i64 (wrap64 (Int.tmod zl 5)))).setCell ⟨zZ,1,none⟩ (.int .i64 (wrap64 (1 + (wrap64 (zY)))))).setCell ⟨zZ,2,none⟩ (.bool false)).setCell ⟨zZ,3,none⟩ (.bool false)).heap[zZ]? = some (.cells #[.int .i64 (wrap64 (Int.tmod zl 5)),.int .i64 (wrap64 (1 + (wrap64 (zY)))),.bool false,.bool false] 26 (0,0))):=⟨by (with_reducible repeat (first | refine qz ?_ _ | refine yQ ?_ | refine yG ?_ _));refine y8 (cs:=#[.int .i64 (wrap64 (Int.tmod zl 5)),.int .i64 (wrap64 (1 + (wrap64 (zY)))),.bool false,.bool false]) ?_ 3 _ rfl;(with_reducible repeat (first | refine qz ?_ _ | refine yQ ?_ | refine yG ?_ _));refine y8 (cs:=#[.int .i64 (wrap64 (Int.tmod zl 5)),.int .i64 (wrap64 (1 + (wrap64 (zY)))),.bool false,.bool false]) ?_ 2 _ rfl;(with_reducible repeat (first | refine qz ?_ _ | refine yQ ?_ | refine yG ?_ _));refine y8 (cs:=#[.int .i64 (wrap64 (Int.tmod zl 5)),.int .i64 0,.bool false,.bool false]) ?_ 1 _ rfl;(with_reducible repeat (first | refine qz ?_ _ | refine yQ ?_ | refine yG ?_ _));refine y8 (cs:=#[.int .i64 0,.int .i64 0,.bool false,.bool false]) ?_ 0 _ rfl;(with_reducible repeat (first | refine qz ?_ _ | refine yQ ?_ | refine yG ?_ _));exact zw.out⟩
      have zh:zx (Below w.heap.size w ((((Pz.setCell ⟨zZ,0,none⟩ (.int .i64 (wrap64 (Int.tmod zl 5)))).setCell ⟨zZ,1,none⟩ (.int .i64 (wrap64 (1 + (wrap64 (zY)))))).setCell ⟨zZ,2,none⟩ (.bool false)).setCell ⟨zZ,3,none⟩ (.bool false))):=⟨zB HB.out⟩
      (try clear zV)
      (try clear zw)
      (try clear HB)
      generalize ((((Pz.setCell ⟨zZ,0,none⟩ (.int .i64 (wrap64 (Int.tmod zl 5)))).setCell ⟨zZ,1,none⟩ (.int .i64 (wrap64 (1 + (wrap64 (zY)))))).setCell ⟨zZ,2,none⟩ (.bool false)).setCell ⟨zZ,3,none⟩ (.bool false)) = w54 at zJ za zh ⊢
      have zV:=zJ
      have zw:=za
      have HB:=zh
      clear zJ za zh
      have zJ:=zx.mk (yQ zV.out)
      have za:=zx.mk (yQ zw.out)
      have zh:=zx.mk (yj HB.out)
      clear zV zw HB
      have zV:=zJ
      have zw:=za
      have HB:=zh
      clear zJ za zh
      refine uq (n:=12) (S:=fun w'=>w'.cell? ⟨zZ,0,none⟩ = some (.int .i64 (wrap64 (Int.tmod zl 5))) ∧ w'.cell? ⟨zZ,1,none⟩ = some (.int .i64 (wrap64 (1 + (wrap64 (zY))))) ∧ w'.cell? ⟨zZ,2,none⟩ = some (.bool false) ∧ w'.cell? ⟨zZ,3,none⟩ = some (.bool false)) (ds:=[]) #[false,false,false,false,false,false,false,false,false,false,false,false] (by kernel_rfl) rfl rfl ⟨ze zw 0,ze zw 1,ze zw 2,ze zw 3⟩ (fun hHeld=>?_);refine vY zX.QK zX.QY (fun zC vW=>?_)
      generalize w54.drew = w55 at zV zw HB hHeld ⊢
      refine yT 2 (some 36) zC ?_
      refine jR 1 (some 35) zC vW hHeld ?_
      refine wQ 0 (some 34) zC (fun K hK=>?_)
      refine vI Tryz.func19 (by kernel_rfl) rfl #[] (by rfl) rfl rfl (by (try simp only [List.map_toArray,List.map_cons,List.map_nil]);first | done | rfl | (simp only [List.length_drop,List.length_take];rfl)) ?_
      with_reducible refine (yJ.calls  uE _ ?yX A7.out).mono ?_
      (case yX=>exact GW.under HG.out (zB HB.out))
      rintro e w56 ⟨zzg,rfl,ho0,hb⟩
      refine ⟨_,rfl,?_⟩
      have zJ:=zx.mk (Kd.qG ho0 (zf (zB HB.out)))
      have za:=zx.mk (zW (g:=zT) (o:=.cells #[.string zi,.int .u8 zY,.int .u8 zQ,.int .u8 zl] 69 (0,0)) (yL zV.out) hb)
      have zh:=zx.mk (zW (g:=zZ) (o:=.cells #[.int .i64 (wrap64 (Int.tmod zl 5)),.int .i64 (wrap64 (1 + (wrap64 (zY)))),.bool false,.bool false] 26 (0,0)) (yL zw.out) hb)
      have zo:=zx.mk (zn (zB HB.out) hb)
      clear zV zw HB
      have zD:=zJ
      have zV:=za
      have zw:=zh
      have HB:=zo
      clear zJ za zh zo
      (try clear hb)
      (try clear hk)
      (try clear ho0)
      refine hK.out _ _ ⟨ze zw 0,ze zw 1,ze zw 2,ze zw 3⟩ (fun hHeld=>?_)
      clear hK K
      refine wZ (some 34) ?_
      refine wQ 3 (some 37) zC (fun K hK=>?_)
      refine vI Tryz.func20 (by kernel_rfl) rfl #[.string zi] (by rfl) rfl rfl (by (try simp only [List.map_toArray,List.map_cons,List.map_nil]);first | done | rfl | (simp only [List.length_drop,List.length_take];rfl)) ?_
      with_reducible refine (zO.calls k zi uK _ A8.out).mono ?_
      rintro e w57 ⟨zzh,rfl,ho0,hb⟩
      refine ⟨_,rfl,?_⟩
      have zJ:=zx.mk (Kd.zN (yS zD.out) hb)
      have za:=zx.mk (Kd.ql ho0 (zf (zB HB.out)))
      have zh:=zx.mk (zW (g:=zT) (o:=.cells #[.string zi,.int .u8 zY,.int .u8 zQ,.int .u8 zl] 69 (0,0)) (yL zV.out) hb)
      have zo:=zx.mk (zW (g:=zZ) (o:=.cells #[.int .i64 (wrap64 (Int.tmod zl 5)),.int .i64 (wrap64 (1 + (wrap64 (zY)))),.bool false,.bool false] 26 (0,0)) (yL zw.out) hb)
      have z8:=zx.mk (zn (zB HB.out) hb)
      clear zD zV zw HB
      have zD:=zJ
      have zG:=za
      have zV:=zh
      have zw:=zo
      have HB:=z8
      clear zJ za zh zo z8
      (try clear hb)
      (try clear hk)
      (try clear ho0)
      obtain ⟨zjk,zjy,zyp⟩:=Kd.xq zD.out
      (first | subst zyp | (injection zyp with vB jH vC;have jI:=vB.symm;have jL:=vC.symm;clear vB jH vC;subst jI;subst jL))
      obtain ⟨zjw,zjZ,zyr⟩:=Kd.qD zG.out
      (first | subst zyr | (injection zyr with vB jH vC;have jI:=vB.symm;have jL:=vC.symm;clear vB jH vC;subst jI;subst jL))
      refine hK.out _ _ ⟨ze zw 0,ze zw 1,ze zw 2,ze zw 3⟩ (fun hHeld=>?_)
      clear hK K
      refine wZ (some 37) ?_
      refine wQ 4 (some 38) zC (fun K hK=>?_)
      refine vI Tryz.func13 (by kernel_rfl) rfl #[.slice zjk uE.length zjy,.agg #[.int .i64 (wrap64 (Int.tmod zl 5)),.int .i64 (wrap64 (1 + (wrap64 (zY)))),.bool false,.bool false],.slice zjw uK.length zjZ,.slice none 0 0] (by rfl) rfl rfl (by (try simp only [List.map_toArray,List.map_cons,List.map_nil]);first | done | rfl | (simp only [List.length_drop,List.length_take];rfl)) ?_
      refine (yR.calls _ _ uE (wrap64 (Int.tmod zl 5)) (wrap64 (1 + (wrap64 (zY)))) false false _ _ uK _ _ ([]:List (uj)) jo Qf Xk _ ?yX ?qy ?qw ?qZ ?qh ?qO ?qP A9.out).mono ?_
      (case yX=>exact q8 ((Kd.yF zD.out).2.2))
      (case qy=>exact (Kd.yF zD.out).2.1)
      (case qw=>exact q8 ((Kd.qW zG.out).2.2))
      (case qZ=>exact (Kd.qW zG.out).2.1)
      (case qh=>exact Kd.pz _ _)
      (case qO=>exact Nat.le_refl _)
      (case qP=>exact GW.under HG.out (zB HB.out))
      rintro e w60 ⟨zzi,YL,rfl,ho0,ho1,hb⟩
      refine ⟨_,rfl,?_⟩
      have zJ:=zx.mk (Kd.zN (yS zD.out) hb)
      have za:=zx.mk (Kd.qL (qJ zG.out) (Kd.xE ho1) hb)
      have zh:=zx.mk (Kd.qG ho0 (zf (zB HB.out)))
      have zo:=zx.mk (Kd.ql (Kd.xI ho1 (Kd.jQ (qJ zG.out))) (zf (zB HB.out)))
      have z8:=zx.mk (zW (g:=zT) (o:=.cells #[.string zi,.int .u8 zY,.int .u8 zQ,.int .u8 zl] 69 (0,0)) (yL zV.out) hb)
      have yD:=zx.mk (zW (g:=zZ) (o:=.cells #[.int .i64 (wrap64 (Int.tmod zl 5)),.int .i64 (wrap64 (1 + (wrap64 (zY)))),.bool false,.bool false] 26 (0,0)) (yL zw.out) hb)
      have yH:=zx.mk (zn (zB HB.out) hb)
      clear zD zG zV zw HB
      have zD:=zJ
      have zG:=za
      have zR:=zh
      have zU:=zo
      have zV:=z8
      have zw:=yD
      have HB:=yH
      clear zJ za zh zo z8 yD yH
      (try clear hb)
      (try clear hk)
      (try clear ho0)
      (try clear ho1)
      refine hK.out _ _ ⟨ze zw 0,ze zw 1,ze zw 2,ze zw 3⟩ (fun hHeld=>?_)
      clear hK K
      refine wZ (some 38) ?_
      refine yT 5 (some 33) zC ?_
      refine yT 6 (some 39) zC ?_
      refine yT 7 (some 40) zC ?_
      refine yT 8 (some 41) zC ?_
      refine yT 9 (some 8) zC ?_
      refine yT 10 (some 9) zC ?_
      refine yT 11 (some 10) zC ?_
      refine xD (qb zC.out (by kernel_rfl)) ?_
      try go_wp2_with (first | ((with_reducible refine yu (f:=19) rfl ?_);refine jq (some 50) Tryz.func19 #[] ?_;(with_reducible refine (yJ.calls  uy _ ?yX A11.out).mono ?_);(case yX=>exact GW.under HG.out (zB HB.out));rintro e w61 ⟨zx8,rfl,ho0,hb⟩;refine ⟨_,rfl,?_⟩;have zJ:=zx.mk (Kd.xV (yS zD.out) (Kd.vR ho0) hb);have za:=zx.mk (Kd.yO (qJ zG.out) hb);have zh:=zx.mk (Kd.zN (yS zR.out) hb);have zo:=zx.mk (Kd.yO (qJ zU.out) hb);have z8:=zx.mk (Kd.qG (Kd.vS ho0 (Kd.jT (yS zD.out))) (zf (zB HB.out)));have yD:=zx.mk (zW (g:=zT) (o:=.cells #[.string zi,.int .u8 zY,.int .u8 zQ,.int .u8 zl] 69 (0,0)) (yL zV.out) hb);have yH:=zx.mk (zW (g:=zZ) (o:=.cells #[.int .i64 (wrap64 (Int.tmod zl 5)),.int .i64 (wrap64 (1 + (wrap64 (zY)))),.bool false,.bool false] 26 (0,0)) (yL zw.out) hb);have qV:=zx.mk (zn (zB HB.out) hb);clear zD;clear zG;clear zR;clear zU;clear zV;clear zw;clear HB;have zD:=zJ;have zG:=za;have zR:=zh;have zU:=zo;have yx:=z8;have zV:=yD;have zw:=yH;have HB:=qV;clear zJ za zh zo z8 yD yH qV;(try clear hb);(try clear hk);(try clear ho0);obtain ⟨zjQ,zjX,zXZ⟩:=Kd.xq zR.out;subst zXZ;obtain ⟨zjJ,zjV,zXQ⟩:=Kd.xq yx.out;subst zXQ) | ((with_reducible refine yu (f:=25) rfl ?_);refine jq (some 51) Tryz.func25 #[.slice zjQ jo.length zjX,.int .i64 (wrap64 (1 + (wrap64 (zQ)))),.slice zjJ uy.length zjV] ?_;(with_reducible refine (xU.calls _ _ jo (wrap64 (1 + (wrap64 (zQ)))) _ _ uy Yy Yg _ ?yX ?qy ?qw ?qZ ?qh QT.out).mono ?_);(case yX=>exact q8 ((Kd.yF zR.out).2.2));(case qy=>exact (Kd.yF zR.out).2.1);(case qw=>exact q8 ((Kd.yF yx.out).2.2));(case qZ=>exact (Kd.yF yx.out).2.1);(case qh=>exact GW.under HG.out (zB HB.out));rintro e ji ⟨Xy,rfl,ho0,hb⟩;refine ⟨_,rfl,?_⟩;have zJ:=zx.mk (Kd.zN (yS zD.out) hb);have za:=zx.mk (Kd.yO (qJ zG.out) hb);have zh:=zx.mk (Kd.xV (yS zR.out) (Kd.vR ho0) hb);have zo:=zx.mk (Kd.yO (qJ zU.out) hb);have z8:=zx.mk (Kd.zN (yS yx.out) hb);have yD:=zx.mk (Kd.qG (Kd.vS ho0 (Kd.jT (yS zR.out))) (zf (zB HB.out)));have yH:=zx.mk (zW (g:=zT) (o:=.cells #[.string zi,.int .u8 zY,.int .u8 zQ,.int .u8 zl] 69 (0,0)) (yL zV.out) hb);have qV:=zx.mk (zW (g:=zZ) (o:=.cells #[.int .i64 (wrap64 (Int.tmod zl 5)),.int .i64 (wrap64 (1 + (wrap64 (zY)))),.bool false,.bool false] 26 (0,0)) (yL zw.out) hb);have qF:=zx.mk (zn (zB HB.out) hb);clear zD;clear zG;clear zR;clear zU;clear yx;clear zV;clear zw;clear HB;have zD:=zJ;have zG:=za;have zR:=zh;have zU:=zo;have yx:=z8;have yE:=yD;have zV:=yH;have zw:=qV;have HB:=qF;clear zJ za zh zo z8 yD yH qV qF;(try clear hb);(try clear hk);(try clear ho0);have zVL:ji.cell? ⟨zZ,0,none⟩ = some (.int .i64 (wrap64 (Int.tmod zl 5))):=ze zw 0;have zVM:ji.cell? ⟨zZ,1,none⟩ = some (.int .i64 (wrap64 (1 + (wrap64 (zY))))):=ze zw 1;have zVN:ji.cell? ⟨zZ,2,none⟩ = some (.bool false):=ze zw 2;have zVO:ji.cell? ⟨zZ,3,none⟩ = some (.bool false):=ze zw 3;have zVP:=zy zw.out 0;have zVR:=zy zw.out 1;have zVS:=zy zw.out 2;have zVT:=zy zw.out 3))
      have zJ:zx (Kd.S jh 60 (ji.setCell ⟨zZ,1,none⟩ (.int .i64 (wrap64 (1 + (wrap64 (zQ)))))) w.heap.size (fun k_=>some k_ ≠ (.slice zjJ uy.length zjV:Value).ownBlock) (.slice zjk uE.length zjy) uE):=⟨by (with_reducible repeat (first | apply Kd.xL | apply Kd.xM | apply Kd.qH));exact Kd.jg (Kd.kS (p:=⟨zZ,1,none⟩) (Kd.jY zD.out zw.out (by decide)) (fun _ hk=>hk.2) (.int .i64 (wrap64 (1 + (wrap64 (zQ)))))) (fun _ hk=>hk.1.2)⟩
      have za:zx (Kd.R Kd.string 9 (ji.setCell ⟨zZ,1,none⟩ (.int .i64 (wrap64 (1 + (wrap64 (zQ)))))) w.heap.size (fun k_=>some k_ ≠ (YL:Value).ownBlock) (.slice zjw uK.length zjZ) uK):=⟨by (with_reducible repeat (first | apply Kd.kU | apply Kd.wz | apply Kd.uR));exact Kd.vX (Kd.jr (p:=⟨zZ,1,none⟩) (Kd.kE zG.out zw.out (by decide)) (fun _ hk=>hk.2) (.int .i64 (wrap64 (1 + (wrap64 (zQ)))))) (fun _ hk=>hk.1.2)⟩
      have zh:zx (Kd.S xS 53 (ji.setCell ⟨zZ,1,none⟩ (.int .i64 (wrap64 (1 + (wrap64 (zQ)))))) w.heap.size (fun k_=>some k_ ≠ (Xy:Value).ownBlock) (.slice zjQ jo.length zjX) jo):=⟨by (with_reducible repeat (first | apply Kd.xL | apply Kd.xM | apply Kd.qH));exact Kd.jg (Kd.kS (p:=⟨zZ,1,none⟩) (Kd.jY zR.out zw.out (by decide)) (fun _ hk=>hk.2) (.int .i64 (wrap64 (1 + (wrap64 (zQ)))))) (fun _ hk=>hk.1.2)⟩
      have zo:zx (Kd.R Kd.string 9 (ji.setCell ⟨zZ,1,none⟩ (.int .i64 (wrap64 (1 + (wrap64 (zQ)))))) w.heap.size (fun k_=>some k_ ≠ (.slice zjw uK.length zjZ:Value).ownBlock) YL Qf):=⟨by (with_reducible repeat (first | apply Kd.kU | apply Kd.wz | apply Kd.uR));exact Kd.vX (Kd.jr (p:=⟨zZ,1,none⟩) (Kd.kE zU.out zw.out (by decide)) (fun _ hk=>hk.2) (.int .i64 (wrap64 (1 + (wrap64 (zQ)))))) (fun _ hk=>hk.1.2)⟩
      have z8:zx (Kd.S jh 60 (ji.setCell ⟨zZ,1,none⟩ (.int .i64 (wrap64 (1 + (wrap64 (zQ)))))) w.heap.size (fun k_=>some k_ ≠ (.slice zjk uE.length zjy:Value).ownBlock) (.slice zjJ uy.length zjV) uy):=⟨by (with_reducible repeat (first | apply Kd.xL | apply Kd.xM | apply Kd.qH));exact Kd.jg (Kd.kS (p:=⟨zZ,1,none⟩) (Kd.jY yx.out zw.out (by decide)) (fun _ hk=>hk.2) (.int .i64 (wrap64 (1 + (wrap64 (zQ)))))) (fun _ hk=>hk.1.2)⟩
      have yD:zx (Kd.S xS 53 (ji.setCell ⟨zZ,1,none⟩ (.int .i64 (wrap64 (1 + (wrap64 (zQ)))))) w.heap.size (fun k_=>some k_ ≠ (.slice zjQ jo.length zjX:Value).ownBlock) Xy Yy):=⟨by (with_reducible repeat (first | apply Kd.xL | apply Kd.xM | apply Kd.qH));exact Kd.jg (Kd.kS (p:=⟨zZ,1,none⟩) (Kd.jY yE.out zw.out (by decide)) (fun _ hk=>hk.2) (.int .i64 (wrap64 (1 + (wrap64 (zQ)))))) (fun _ hk=>hk.1.2)⟩
      have yH:zx ((ji.setCell ⟨zZ,1,none⟩ (.int .i64 (wrap64 (1 + (wrap64 (zQ)))))).heap[zT]? = some (.cells #[.string zi,.int .u8 zY,.int .u8 zQ,.int .u8 zl] 69 (0,0))):=⟨Uf zV.out⟩
      have qV:zx ((ji.setCell ⟨zZ,1,none⟩ (.int .i64 (wrap64 (1 + (wrap64 (zQ)))))).heap[zZ]? = some (.cells #[.int .i64 (wrap64 (Int.tmod zl 5)),.int .i64 (wrap64 (1 + (wrap64 (zQ)))),.bool false,.bool false] 26 (0,0))):=⟨by (with_reducible repeat (first | refine qz ?_ _ | refine yQ ?_ | refine yG ?_ _));refine y8 (cs:=#[.int .i64 (wrap64 (Int.tmod zl 5)),.int .i64 (wrap64 (1 + (wrap64 (zY)))),.bool false,.bool false]) ?_ 1 _ rfl;(with_reducible repeat (first | refine qz ?_ _ | refine yQ ?_ | refine yG ?_ _));exact zw.out⟩
      have qF:zx (Below w.heap.size w (ji.setCell ⟨zZ,1,none⟩ (.int .i64 (wrap64 (1 + (wrap64 (zQ))))))):=⟨zB HB.out⟩
      (try clear zD)
      (try clear zG)
      (try clear zR)
      (try clear zU)
      (try clear yx)
      (try clear yE)
      (try clear zV)
      (try clear zw)
      (try clear HB)
      generalize (ji.setCell ⟨zZ,1,none⟩ (.int .i64 (wrap64 (1 + (wrap64 (zQ)))))) = w66 at zJ za zh zo z8 yD yH qV qF ⊢
      have zD:=zJ
      have zG:=za
      have zR:=zh
      have zU:=zo
      have yx:=z8
      have yE:=yD
      have zV:=yH
      have zw:=qV
      have HB:=qF
      clear zJ za zh zo z8 yD yH qV qF
      have zJ:=zx.mk (Kd.qH zD.out)
      have za:=zx.mk (Kd.uR zG.out)
      have zh:=zx.mk (Kd.qH zR.out)
      have zo:=zx.mk (Kd.uR zU.out)
      have z8:=zx.mk (Kd.qH yx.out)
      have yD:=zx.mk (Kd.qH yE.out)
      have yH:=zx.mk (yQ zV.out)
      have qV:=zx.mk (yQ zw.out)
      have qF:=zx.mk (yj HB.out)
      clear zD zG zR zU yx yE zV zw HB
      have zD:=zJ
      have zG:=za
      have zR:=zh
      have zU:=zo
      have yx:=z8
      have yE:=yD
      have zV:=yH
      have zw:=qV
      have HB:=qF
      clear zJ za zh zo z8 yD yH qV qF
      refine uq (n:=12) (S:=fun w'=>w'.cell? ⟨zZ,0,none⟩ = some (.int .i64 (wrap64 (Int.tmod zl 5))) ∧ w'.cell? ⟨zZ,1,none⟩ = some (.int .i64 (wrap64 (1 + (wrap64 (zQ))))) ∧ w'.cell? ⟨zZ,2,none⟩ = some (.bool false) ∧ w'.cell? ⟨zZ,3,none⟩ = some (.bool false)) (ds:=[]) #[false,false,false,false,false,false,false,false,false,false,false,false] (by kernel_rfl) rfl rfl ⟨ze zw 0,ze zw 1,ze zw 2,ze zw 3⟩ (fun hHeld=>?_);refine vY zX.Ph zX.Jv (fun zC vW=>?_)
      generalize w66.drew = w67 at zD zG zR zU yx yE zV zw HB hHeld ⊢
      refine yT 2 (some 61) zC ?_
      refine jR 1 (some 60) zC vW hHeld ?_
      refine wQ 0 (some 59) zC (fun K hK=>?_)
      refine vI Tryz.func19 (by kernel_rfl) rfl #[] (by rfl) rfl rfl (by (try simp only [List.map_toArray,List.map_cons,List.map_nil]);first | done | rfl | (simp only [List.length_drop,List.length_take];rfl)) ?_
      with_reducible refine (yJ.calls  jf _ ?yX WL.out).mono ?_
      (case yX=>exact GW.under HG.out (zB HB.out))
      rintro e w68 ⟨zjq,rfl,ho0,hb⟩
      refine ⟨_,rfl,?_⟩
      have zJ:=zx.mk (Kd.xV (yS zD.out) (Kd.vR ho0) hb)
      have za:=zx.mk (Kd.yO (qJ zG.out) hb)
      have zh:=zx.mk (Kd.zN (yS zR.out) hb)
      have zo:=zx.mk (Kd.yO (qJ zU.out) hb)
      have z8:=zx.mk (Kd.xV (yS yx.out) (Kd.vR ho0) hb)
      have yD:=zx.mk (Kd.zN (yS yE.out) hb)
      have yH:=zx.mk (Kd.qG (Kd.vS (Kd.vS ho0 (Kd.jT (yS zD.out))) (Kd.jT (yS yx.out))) (zf (zB HB.out)))
      have qV:=zx.mk (zW (g:=zT) (o:=.cells #[.string zi,.int .u8 zY,.int .u8 zQ,.int .u8 zl] 69 (0,0)) (yL zV.out) hb)
      have qF:=zx.mk (zW (g:=zZ) (o:=.cells #[.int .i64 (wrap64 (Int.tmod zl 5)),.int .i64 (wrap64 (1 + (wrap64 (zQ)))),.bool false,.bool false] 26 (0,0)) (yL zw.out) hb)
      have uL:=zx.mk (zn (zB HB.out) hb)
      clear zD zG zR zU yx yE zV zw HB
      have zD:=zJ
      have zG:=za
      have zR:=zh
      have zU:=zo
      have yx:=z8
      have yE:=yD
      have qM:=yH
      have zV:=qV
      have zw:=qF
      have HB:=uL
      clear zJ za zh zo z8 yD yH qV qF uL
      (try clear hb)
      (try clear hk)
      (try clear ho0)
      refine hK.out _ _ ⟨ze zw 0,ze zw 1,ze zw 2,ze zw 3⟩ (fun hHeld=>?_)
      clear hK K
      refine wZ (some 59) ?_
      refine wQ 3 (some 62) zC (fun K hK=>?_)
      refine vI Tryz.func20 (by kernel_rfl) rfl #[.string zi] (by rfl) rfl rfl (by (try simp only [List.map_toArray,List.map_cons,List.map_nil]);first | done | rfl | (simp only [List.length_drop,List.length_take];rfl)) ?_
      with_reducible refine (zO.calls k zi jK _ A14.out).mono ?_
      rintro e w69 ⟨zjx,rfl,ho0,hb⟩
      refine ⟨_,rfl,?_⟩
      have zJ:=zx.mk (Kd.zN (yS zD.out) hb)
      have za:=zx.mk (Kd.qL (qJ zG.out) (Kd.xE ho0) hb)
      have zh:=zx.mk (Kd.zN (yS zR.out) hb)
      have zo:=zx.mk (Kd.qL (qJ zU.out) (Kd.xE ho0) hb)
      have z8:=zx.mk (Kd.zN (yS yx.out) hb)
      have yD:=zx.mk (Kd.zN (yS yE.out) hb)
      have yH:=zx.mk (Kd.zN (yS qM.out) hb)
      have qV:=zx.mk (Kd.ql (Kd.xI (Kd.xI ho0 (Kd.jQ (qJ zG.out))) (Kd.jQ (qJ zU.out))) (zf (zB HB.out)))
      have qF:=zx.mk (zW (g:=zT) (o:=.cells #[.string zi,.int .u8 zY,.int .u8 zQ,.int .u8 zl] 69 (0,0)) (yL zV.out) hb)
      have uL:=zx.mk (zW (g:=zZ) (o:=.cells #[.int .i64 (wrap64 (Int.tmod zl 5)),.int .i64 (wrap64 (1 + (wrap64 (zQ)))),.bool false,.bool false] 26 (0,0)) (yL zw.out) hb)
      have uS:=zx.mk (zn (zB HB.out) hb)
      clear zD zG zR zU yx yE qM zV zw HB
      have zD:=zJ
      have zG:=za
      have zR:=zh
      have zU:=zo
      have yx:=z8
      have yE:=yD
      have qM:=yH
      have xQ:=qV
      have zV:=qF
      have zw:=uL
      have HB:=uS
      clear zJ za zh zo z8 yD yH qV qF uL uS
      (try clear hb)
      (try clear hk)
      (try clear ho0)
      obtain ⟨zXX,zXJ,zys⟩:=Kd.xq qM.out
      (first | subst zys | (injection zys with vB jH vC;have jI:=vB.symm;have jL:=vC.symm;clear vB jH vC;subst jI;subst jL))
      obtain ⟨zXV,zXK,zyt⟩:=Kd.qD xQ.out
      (first | subst zyt | (injection zyt with vB jH vC;have jI:=vB.symm;have jL:=vC.symm;clear vB jH vC;subst jI;subst jL))
      refine hK.out _ _ ⟨ze zw 0,ze zw 1,ze zw 2,ze zw 3⟩ (fun hHeld=>?_)
      clear hK K
      refine wZ (some 62) ?_
      refine wQ 4 (some 63) zC (fun K hK=>?_)
      refine vI Tryz.func13 (by kernel_rfl) rfl #[.slice zXX jf.length zXJ,.agg #[.int .i64 (wrap64 (Int.tmod zl 5)),.int .i64 (wrap64 (1 + (wrap64 (zQ)))),.bool false,.bool false],.slice zXV jK.length zXK,.slice none 0 0] (by rfl) rfl rfl (by (try simp only [List.map_toArray,List.map_cons,List.map_nil]);first | done | rfl | (simp only [List.length_drop,List.length_take];rfl)) ?_
      refine (yR.calls _ _ jf (wrap64 (Int.tmod zl 5)) (wrap64 (1 + (wrap64 (zQ)))) false false _ _ jK _ _ ([]:List (uj)) Ux zzf XD _ ?yX ?qy ?qw ?qZ ?qh ?qO ?qP A15.out).mono ?_
      (case yX=>exact q8 ((Kd.yF qM.out).2.2))
      (case qy=>exact (Kd.yF qM.out).2.1)
      (case qw=>exact q8 ((Kd.qW xQ.out).2.2))
      (case qZ=>exact (Kd.qW xQ.out).2.1)
      (case qh=>exact Kd.pz _ _)
      (case qO=>exact Nat.le_refl _)
      (case qP=>exact GW.under HG.out (zB HB.out))
      rintro e w72 ⟨zjj,zjv,rfl,ho0,ho1,hb⟩
      refine ⟨_,rfl,?_⟩
      have zJ:=zx.mk (Kd.zN (yS zD.out) hb)
      have za:=zx.mk (Kd.qL (qJ zG.out) (Kd.xE ho1) hb)
      have zh:=zx.mk (Kd.xV (yS zR.out) (Kd.vR ho0) hb)
      have zo:=zx.mk (Kd.qL (qJ zU.out) (Kd.xE ho1) hb)
      have z8:=zx.mk (Kd.zN (yS yx.out) hb)
      have yD:=zx.mk (Kd.xV (yS yE.out) (Kd.vR ho0) hb)
      have yH:=zx.mk (Kd.zN (yS qM.out) hb)
      have qV:=zx.mk (Kd.qL (qJ xQ.out) (Kd.xE ho1) hb)
      have qF:=zx.mk (Kd.qG (Kd.vS (Kd.vS ho0 (Kd.jT (yS zR.out))) (Kd.jT (yS yE.out))) (zf (zB HB.out)))
      have uL:=zx.mk (Kd.ql (Kd.xI (Kd.xI (Kd.xI ho1 (Kd.jQ (qJ zG.out))) (Kd.jQ (qJ zU.out))) (Kd.jQ (qJ xQ.out))) (zf (zB HB.out)))
      have uS:=zx.mk (zW (g:=zT) (o:=.cells #[.string zi,.int .u8 zY,.int .u8 zQ,.int .u8 zl] 69 (0,0)) (yL zV.out) hb)
      have wI:=zx.mk (zW (g:=zZ) (o:=.cells #[.int .i64 (wrap64 (Int.tmod zl 5)),.int .i64 (wrap64 (1 + (wrap64 (zQ)))),.bool false,.bool false] 26 (0,0)) (yL zw.out) hb)
      have wL:=zx.mk (zn (zB HB.out) hb)
      clear zD zG zR zU yx yE qM xQ zV zw HB
      have zD:=zJ
      have zG:=za
      have zR:=zh
      have zU:=zo
      have yx:=z8
      have yE:=yD
      have qM:=yH
      have xQ:=qV
      have kr:=qF
      have ZF:=uL
      have zV:=uS
      have zw:=wI
      have HB:=wL
      clear zJ za zh zo z8 yD yH qV qF uL uS wI wL
      (try clear hb)
      (try clear hk)
      (try clear ho0)
      (try clear ho1)
      refine hK.out _ _ ⟨ze zw 0,ze zw 1,ze zw 2,ze zw 3⟩ (fun hHeld=>?_)
      clear hK K
      refine wZ (some 63) ?_
      refine yT 5 (some 58) zC ?_
      refine yT 6 (some 64) zC ?_
      refine yT 7 (some 65) zC ?_
      refine yT 8 (some 66) zC ?_
      refine yT 9 (some 11) zC ?_
      refine yT 10 (some 12) zC ?_
      refine yT 11 (some 13) zC ?_
      refine xD (qb zC.out (by kernel_rfl)) ?_
      obtain ⟨zYV,zYK,zXY⟩:=Kd.xq yE.out
      subst zXY
      obtain ⟨zYY,zYW,zXW⟩:=Kd.xq kr.out
      subst zXW
      try go_wp2_with (first | (go_at_call 18;(with_reducible refine (zM.calls k _ _ Yy _ _ Ux false _ ?yX ?qy ?qw ?qZ A18.out).mono ?_);(case yX=>exact q8 ((Kd.yF yE.out).2.2));(case qy=>exact (Kd.yF yE.out).2.1);(case qw=>exact q8 ((Kd.yF kr.out).2.2));(case qZ=>exact (Kd.yF kr.out).2.1);rintro e w75 ⟨rfl,hb⟩;have zJ:=zx.mk (Kd.zN (yS zD.out) hb);have za:=zx.mk (Kd.yO (qJ zG.out) hb);have zh:=zx.mk (Kd.zN (yS zR.out) hb);have zo:=zx.mk (Kd.yO (qJ zU.out) hb);have z8:=zx.mk (Kd.zN (yS yx.out) hb);have yD:=zx.mk (Kd.zN (yS yE.out) hb);have yH:=zx.mk (Kd.zN (yS qM.out) hb);have qV:=zx.mk (Kd.yO (qJ xQ.out) hb);have qF:=zx.mk (Kd.zN (yS kr.out) hb);have uL:=zx.mk (Kd.yO (qJ ZF.out) hb);have uS:=zx.mk (zW (g:=zT) (o:=.cells #[.string zi,.int .u8 zY,.int .u8 zQ,.int .u8 zl] 69 (0,0)) (yL zV.out) hb);have wI:=zx.mk (zW (g:=zZ) (o:=.cells #[.int .i64 (wrap64 (Int.tmod zl 5)),.int .i64 (wrap64 (1 + (wrap64 (zQ)))),.bool false,.bool false] 26 (0,0)) (yL zw.out) hb);have wL:=zx.mk (zn (zB HB.out) hb);clear zD;clear zG;clear zR;clear zU;clear yx;clear yE;clear qM;clear xQ;clear kr;clear ZF;clear zV;clear zw;clear HB;have zD:=zJ;have zG:=za;have zR:=zh;have zU:=zo;have yx:=z8;have yE:=yD;have qM:=yH;have xQ:=qV;have kr:=qF;have ZF:=uL;have zV:=uS;have zw:=wI;have HB:=wL;clear zJ za zh zo z8 yD yH qV qF uL uS wI wL;(try clear hb);(try clear hk);(try clear hi)))
      go_ret
      exact ⟨by first | rfl | (simp [yw,yZ] <;> rfl) | (simp [*,yw,yZ] <;> rfl),by repeat (first | (with_reducible first | exact HB.out | apply yI | apply yg | apply yj | refine qB ?_ Yk.out | refine qB ?_ YR.out) | exact HB.out)⟩
    ·rw [if_neg c17] at H
     have zZa:(XD == 0) = false:=beq_eq_false_iff_ne.mpr c17
     have zZb:(XD != 0) = true:=bne_iff_ne.mpr c17
     obtain rfl:=Option.some.inj H
     go_enter Tryz.func8,Tryz.ntmps8
     try go_wp2_with (first | ((with_reducible refine y9 (N:=1) rfl ?_);refine qQ ?hg (N:=1) ?hd (cs:=#[.string zi,.int .u8 zY,.int .u8 zQ,.int .u8 zl]) (t:=69) ?hr ?_;(case hd=>rfl);(case hg=>rfl);(case hr=>first | (go_simp;done) | (go_simp;rfl));intro zT hg w76 qj hb;have zJ:=zx.mk (zn (zB HB.out) hb);have za:=zx.mk (qj);have zh:=zx.mk ((by rw [hg];exact (zf (zB HB.out)):w.heap.size ≤ zT));have zo:=zx.mk ((by rw [hg];exact (zf (zB HB.out)):w.heap.size ≤ zT));clear HB;have HB:=zJ;have zV:=za;have Jk:=zh;have Yk:=zo;clear zJ za zh zo;clear hb qj hg))
     have zJ:=zx.mk (yQ zV.out)
     have za:=zx.mk (yj HB.out)
     clear zV HB
     have zV:=zJ
     have HB:=za
     clear zJ za
     refine uq (n:=12) (S:=fun w'=>w'.cell? ⟨zT,0,none⟩ = some (.string zi) ∧ w'.cell? ⟨zT,1,none⟩ = some (.int .u8 zY) ∧ w'.cell? ⟨zT,2,none⟩ = some (.int .u8 zQ) ∧ w'.cell? ⟨zT,3,none⟩ = some (.int .u8 zl)) (ds:=[]) #[false,false,false,false,false,false,false,false,false,false,false,false] (by kernel_rfl) rfl rfl ⟨ze zV 0,ze zV 1,ze zV 2,ze zV 3⟩ (fun hHeld=>?_);refine vY zX.Yb zX.ZV (fun zC vW=>?_)
     generalize w76.drew = w77 at zV HB hHeld ⊢
     refine yT 0 (some 14) zC ?_
     refine yT 2 (some 16) zC ?_
     refine yT 4 (some 18) zC ?_
     refine yT 6 (some 20) zC ?_
     refine jR 1 (some 15) zC vW hHeld ?_
     refine yT 8 (some 3) zC ?_
     refine jR 3 (some 17) zC vW hHeld ?_
     refine yT 9 (some 4) zC ?_
     refine jR 5 (some 19) zC vW hHeld ?_
     refine yT 10 (some 5) zC ?_
     refine jR 7 (some 21) zC vW hHeld ?_
     refine yT 11 (some 6) zC ?_
     refine xD (qb zC.out (by kernel_rfl)) ?_
     try go_wp2_with (first | ((with_reducible refine y9 (N:=7) rfl ?_);refine qQ ?hg (N:=7) ?hd (cs:=#[.int .i64 0,.int .i64 0,.bool false,.bool false]) (t:=26) ?hr ?_;(case hd=>rfl);(case hg=>rfl);(case hr=>first | (go_simp;done) | (go_simp;rfl));intro zZ hg Pq qj hb;have zJ:=zx.mk (zW (g:=zT) (o:=.cells #[.string zi,.int .u8 zY,.int .u8 zQ,.int .u8 zl] 69 (0,0)) (yL zV.out) hb);have za:=zx.mk (zn (zB HB.out) hb);have zh:=zx.mk (qj);have zo:=zx.mk ((by rw [hg];exact (zf (zB HB.out)):w.heap.size ≤ zZ));have z8:=zx.mk ((by rw [hg];exact (zf (zB HB.out)):w.heap.size ≤ zZ));have yD:=zx.mk ((by rw [hg];exact Nat.ne_of_lt (vU (g:=zT) (o:=.cells #[.string zi,.int .u8 zY,.int .u8 zQ,.int .u8 zl] 69 (0,0)) (yL zV.out)):zT ≠ zZ));have yH:=zx.mk ((by rw [hg];exact Nat.ne_of_gt (vU (g:=zT) (o:=.cells #[.string zi,.int .u8 zY,.int .u8 zQ,.int .u8 zl] 69 (0,0)) (yL zV.out)):zZ ≠ zT));clear zV;clear HB;have zV:=zJ;have HB:=za;have zw:=zh;have Pm:=zo;have YR:=z8;have kM:=yD;have kN:=yH;clear zJ za zh zo z8 yD yH;clear hb qj hg;have zKI:=kN.out;have zKL:=kM.out;have zVU:Pq.cell? ⟨zZ,0,none⟩ = some (.int .i64 0):=ze zw 0;have zV0:Pq.cell? ⟨zZ,1,none⟩ = some (.int .i64 0):=ze zw 1;have zV1:Pq.cell? ⟨zZ,2,none⟩ = some (.bool false):=ze zw 2;have zV2:Pq.cell? ⟨zZ,3,none⟩ = some (.bool false):=ze zw 3;have zV3:=zy zw.out 0;have zV4:=zy zw.out 1;have zV5:=zy zw.out 2;have zV6:=zy zw.out 3))
     have zJ:zx (((((Pq.setCell ⟨zZ,0,none⟩ (.int .i64 (wrap64 (Int.tmod zl 5)))).setCell ⟨zZ,1,none⟩ (.int .i64 (wrap64 (1 + (wrap64 (zY)))))).setCell ⟨zZ,2,none⟩ (.bool false)).setCell ⟨zZ,3,none⟩ (.bool false)).heap[zT]? = some (.cells #[.string zi,.int .u8 zY,.int .u8 zQ,.int .u8 zl] 69 (0,0))):=⟨Uf zV.out⟩
     have za:zx (((((Pq.setCell ⟨zZ,0,none⟩ (.int .i64 (wrap64 (Int.tmod zl 5)))).setCell ⟨zZ,1,none⟩ (.int .i64 (wrap64 (1 + (wrap64 (zY)))))).setCell ⟨zZ,2,none⟩ (.bool false)).setCell ⟨zZ,3,none⟩ (.bool false)).heap[zZ]? = some (.cells #[.int .i64 (wrap64 (Int.tmod zl 5)),.int .i64 (wrap64 (1 + (wrap64 (zY)))),.bool false,.bool false] 26 (0,0))):=⟨by (with_reducible repeat (first | refine qz ?_ _ | refine yQ ?_ | refine yG ?_ _));refine y8 (cs:=#[.int .i64 (wrap64 (Int.tmod zl 5)),.int .i64 (wrap64 (1 + (wrap64 (zY)))),.bool false,.bool false]) ?_ 3 _ rfl;(with_reducible repeat (first | refine qz ?_ _ | refine yQ ?_ | refine yG ?_ _));refine y8 (cs:=#[.int .i64 (wrap64 (Int.tmod zl 5)),.int .i64 (wrap64 (1 + (wrap64 (zY)))),.bool false,.bool false]) ?_ 2 _ rfl;(with_reducible repeat (first | refine qz ?_ _ | refine yQ ?_ | refine yG ?_ _));refine y8 (cs:=#[.int .i64 (wrap64 (Int.tmod zl 5)),.int .i64 0,.bool false,.bool false]) ?_ 1 _ rfl;(with_reducible repeat (first | refine qz ?_ _ | refine yQ ?_ | refine yG ?_ _));refine y8 (cs:=#[.int .i64 0,.int .i64 0,.bool false,.bool false]) ?_ 0 _ rfl;(with_reducible repeat (first | refine qz ?_ _ | refine yQ ?_ | refine yG ?_ _));exact zw.out⟩
     have zh:zx (Below w.heap.size w ((((Pq.setCell ⟨zZ,0,none⟩ (.int .i64 (wrap64 (Int.tmod zl 5)))).setCell ⟨zZ,1,none⟩ (.int .i64 (wrap64 (1 + (wrap64 (zY)))))).setCell ⟨zZ,2,none⟩ (.bool false)).setCell ⟨zZ,3,none⟩ (.bool false))):=⟨zB HB.out⟩
     (try clear zV)
     (try clear zw)
     (try clear HB)
     generalize ((((Pq.setCell ⟨zZ,0,none⟩ (.int .i64 (wrap64 (Int.tmod zl 5)))).setCell ⟨zZ,1,none⟩ (.int .i64 (wrap64 (1 + (wrap64 (zY)))))).setCell ⟨zZ,2,none⟩ (.bool false)).setCell ⟨zZ,3,none⟩ (.bool false)) = w81 at zJ za zh ⊢
     have zV:=zJ
     have zw:=za
     have HB:=zh
     clear zJ za zh
     have zJ:=zx.mk (yQ zV.out)
     have za:=zx.mk (yQ zw.out)
     have zh:=zx.mk (yj HB.out)
     clear zV zw HB
     have zV:=zJ
     have zw:=za
     have HB:=zh
     clear zJ za zh
     refine uq (n:=12) (S:=fun w'=>w'.cell? ⟨zZ,0,none⟩ = some (.int .i64 (wrap64 (Int.tmod zl 5))) ∧ w'.cell? ⟨zZ,1,none⟩ = some (.int .i64 (wrap64 (1 + (wrap64 (zY))))) ∧ w'.cell? ⟨zZ,2,none⟩ = some (.bool false) ∧ w'.cell? ⟨zZ,3,none⟩ = some (.bool false)) (ds:=[]) #[false,false,false,false,false,false,false,false,false,false,false,false] (by kernel_rfl) rfl rfl ⟨ze zw 0,ze zw 1,ze zw 2,ze zw 3⟩ (fun hHeld=>?_);refine vY zX.QK zX.QY (fun zC vW=>?_)
     generalize w81.drew = w82 at zV zw HB hHeld ⊢
     refine yT 2 (some 36) zC ?_
     refine jR 1 (some 35) zC vW hHeld ?_
     refine wQ 0 (some 34) zC (fun K hK=>?_)
     refine vI Tryz.func19 (by kernel_rfl) rfl #[] (by rfl) rfl rfl (by (try simp only [List.map_toArray,List.map_cons,List.map_nil]);first | done | rfl | (simp only [List.length_drop,List.length_take];rfl)) ?_
     with_reducible refine (yJ.calls  uE _ ?yX A7.out).mono ?_
     (case yX=>exact GW.under HG.out (zB HB.out))
     rintro e w83 ⟨zzg,rfl,ho0,hb⟩
     refine ⟨_,rfl,?_⟩
     have zJ:=zx.mk (Kd.qG ho0 (zf (zB HB.out)))
     have za:=zx.mk (zW (g:=zT) (o:=.cells #[.string zi,.int .u8 zY,.int .u8 zQ,.int .u8 zl] 69 (0,0)) (yL zV.out) hb)
     have zh:=zx.mk (zW (g:=zZ) (o:=.cells #[.int .i64 (wrap64 (Int.tmod zl 5)),.int .i64 (wrap64 (1 + (wrap64 (zY)))),.bool false,.bool false] 26 (0,0)) (yL zw.out) hb)
     have zo:=zx.mk (zn (zB HB.out) hb)
     clear zV zw HB
     have zD:=zJ
     have zV:=za
     have zw:=zh
     have HB:=zo
     clear zJ za zh zo
     (try clear hb)
     (try clear hk)
     (try clear ho0)
     refine hK.out _ _ ⟨ze zw 0,ze zw 1,ze zw 2,ze zw 3⟩ (fun hHeld=>?_)
     clear hK K
     refine wZ (some 34) ?_
     refine wQ 3 (some 37) zC (fun K hK=>?_)
     refine vI Tryz.func20 (by kernel_rfl) rfl #[.string zi] (by rfl) rfl rfl (by (try simp only [List.map_toArray,List.map_cons,List.map_nil]);first | done | rfl | (simp only [List.length_drop,List.length_take];rfl)) ?_
     with_reducible refine (zO.calls k zi uK _ A8.out).mono ?_
     rintro e w84 ⟨zzh,rfl,ho0,hb⟩
     refine ⟨_,rfl,?_⟩
     have zJ:=zx.mk (Kd.zN (yS zD.out) hb)
     have za:=zx.mk (Kd.ql ho0 (zf (zB HB.out)))
     have zh:=zx.mk (zW (g:=zT) (o:=.cells #[.string zi,.int .u8 zY,.int .u8 zQ,.int .u8 zl] 69 (0,0)) (yL zV.out) hb)
     have zo:=zx.mk (zW (g:=zZ) (o:=.cells #[.int .i64 (wrap64 (Int.tmod zl 5)),.int .i64 (wrap64 (1 + (wrap64 (zY)))),.bool false,.bool false] 26 (0,0)) (yL zw.out) hb)
     have z8:=zx.mk (zn (zB HB.out) hb)
     clear zD zV zw HB
     have zD:=zJ
     have zG:=za
     have zV:=zh
     have zw:=zo
     have HB:=z8
     clear zJ za zh zo z8
     (try clear hb)
     (try clear hk)
     (try clear ho0)
     obtain ⟨zjK,zjY,zyu⟩:=Kd.xq zD.out
     (first | subst zyu | (injection zyu with vB jH vC;have jI:=vB.symm;have jL:=vC.symm;clear vB jH vC;subst jI;subst jL))
     obtain ⟨zjW,zja,zyA⟩:=Kd.qD zG.out
     (first | subst zyA | (injection zyA with vB jH vC;have jI:=vB.symm;have jL:=vC.symm;clear vB jH vC;subst jI;subst jL))
     refine hK.out _ _ ⟨ze zw 0,ze zw 1,ze zw 2,ze zw 3⟩ (fun hHeld=>?_)
     clear hK K
     refine wZ (some 37) ?_
     refine wQ 4 (some 38) zC (fun K hK=>?_)
     refine vI Tryz.func13 (by kernel_rfl) rfl #[.slice zjK uE.length zjY,.agg #[.int .i64 (wrap64 (Int.tmod zl 5)),.int .i64 (wrap64 (1 + (wrap64 (zY)))),.bool false,.bool false],.slice zjW uK.length zja,.slice none 0 0] (by rfl) rfl rfl (by (try simp only [List.map_toArray,List.map_cons,List.map_nil]);first | done | rfl | (simp only [List.length_drop,List.length_take];rfl)) ?_
     refine (yR.calls _ _ uE (wrap64 (Int.tmod zl 5)) (wrap64 (1 + (wrap64 (zY)))) false false _ _ uK _ _ ([]:List (uj)) jo Qf Xk _ ?yX ?qy ?qw ?qZ ?qh ?qO ?qP A9.out).mono ?_
     (case yX=>exact q8 ((Kd.yF zD.out).2.2))
     (case qy=>exact (Kd.yF zD.out).2.1)
     (case qw=>exact q8 ((Kd.qW zG.out).2.2))
     (case qZ=>exact (Kd.qW zG.out).2.1)
     (case qh=>exact Kd.pz _ _)
     (case qO=>exact Nat.le_refl _)
     (case qP=>exact GW.under HG.out (zB HB.out))
     rintro e w87 ⟨zzi,YL,rfl,ho0,ho1,hb⟩
     refine ⟨_,rfl,?_⟩
     have zJ:=zx.mk (Kd.zN (yS zD.out) hb)
     have za:=zx.mk (Kd.qL (qJ zG.out) (Kd.xE ho1) hb)
     have zh:=zx.mk (Kd.qG ho0 (zf (zB HB.out)))
     have zo:=zx.mk (Kd.ql (Kd.xI ho1 (Kd.jQ (qJ zG.out))) (zf (zB HB.out)))
     have z8:=zx.mk (zW (g:=zT) (o:=.cells #[.string zi,.int .u8 zY,.int .u8 zQ,.int .u8 zl] 69 (0,0)) (yL zV.out) hb)
     have yD:=zx.mk (zW (g:=zZ) (o:=.cells #[.int .i64 (wrap64 (Int.tmod zl 5)),.int .i64 (wrap64 (1 + (wrap64 (zY)))),.bool false,.bool false] 26 (0,0)) (yL zw.out) hb)
     have yH:=zx.mk (zn (zB HB.out) hb)
     clear zD zG zV zw HB
     have zD:=zJ
     have zG:=za
     have zR:=zh
     have zU:=zo
     have zV:=z8
     have zw:=yD
     have HB:=yH
     clear zJ za zh zo z8 yD yH
     (try clear hb)
     (try clear hk)
     (try clear ho0)
     (try clear ho1)
     refine hK.out _ _ ⟨ze zw 0,ze zw 1,ze zw 2,ze zw 3⟩ (fun hHeld=>?_)
     clear hK K
     refine wZ (some 38) ?_
     refine yT 5 (some 33) zC ?_
     refine yT 6 (some 39) zC ?_
     refine yT 7 (some 40) zC ?_
     refine yT 8 (some 41) zC ?_
     refine yT 9 (some 8) zC ?_
     refine yT 10 (some 9) zC ?_
     refine yT 11 (some 10) zC ?_
     refine xD (qb zC.out (by kernel_rfl)) ?_
     try go_wp2_with (first | ((with_reducible refine yu (f:=19) rfl ?_);refine jq (some 50) Tryz.func19 #[] ?_;(with_reducible refine (yJ.calls  uy _ ?yX A11.out).mono ?_);(case yX=>exact GW.under HG.out (zB HB.out));rintro e w88 ⟨zx8,rfl,ho0,hb⟩;refine ⟨_,rfl,?_⟩;have zJ:=zx.mk (Kd.xV (yS zD.out) (Kd.vR ho0) hb);have za:=zx.mk (Kd.yO (qJ zG.out) hb);have zh:=zx.mk (Kd.zN (yS zR.out) hb);have zo:=zx.mk (Kd.yO (qJ zU.out) hb);have z8:=zx.mk (Kd.qG (Kd.vS ho0 (Kd.jT (yS zD.out))) (zf (zB HB.out)));have yD:=zx.mk (zW (g:=zT) (o:=.cells #[.string zi,.int .u8 zY,.int .u8 zQ,.int .u8 zl] 69 (0,0)) (yL zV.out) hb);have yH:=zx.mk (zW (g:=zZ) (o:=.cells #[.int .i64 (wrap64 (Int.tmod zl 5)),.int .i64 (wrap64 (1 + (wrap64 (zY)))),.bool false,.bool false] 26 (0,0)) (yL zw.out) hb);have qV:=zx.mk (zn (zB HB.out) hb);clear zD;clear zG;clear zR;clear zU;clear zV;clear zw;clear HB;have zD:=zJ;have zG:=za;have zR:=zh;have zU:=zo;have yx:=z8;have zV:=yD;have zw:=yH;have HB:=qV;clear zJ za zh zo z8 yD yH qV;(try clear hb);(try clear hk);(try clear ho0);obtain ⟨zjb,zjc,zXa⟩:=Kd.xq zR.out;subst zXa;obtain ⟨zjd,zje,zXb⟩:=Kd.xq yx.out;subst zXb) | ((with_reducible refine yu (f:=25) rfl ?_);refine jq (some 51) Tryz.func25 #[.slice zjb jo.length zjc,.int .i64 (wrap64 (1 + (wrap64 (zQ)))),.slice zjd uy.length zje] ?_;(with_reducible refine (xU.calls _ _ jo (wrap64 (1 + (wrap64 (zQ)))) _ _ uy Yy Yg _ ?yX ?qy ?qw ?qZ ?qh QT.out).mono ?_);(case yX=>exact q8 ((Kd.yF zR.out).2.2));(case qy=>exact (Kd.yF zR.out).2.1);(case qw=>exact q8 ((Kd.yF yx.out).2.2));(case qZ=>exact (Kd.yF yx.out).2.1);(case qh=>exact GW.under HG.out (zB HB.out));rintro e Xo ⟨Xy,rfl,ho0,hb⟩;refine ⟨_,rfl,?_⟩;have zJ:=zx.mk (Kd.zN (yS zD.out) hb);have za:=zx.mk (Kd.yO (qJ zG.out) hb);have zh:=zx.mk (Kd.xV (yS zR.out) (Kd.vR ho0) hb);have zo:=zx.mk (Kd.yO (qJ zU.out) hb);have z8:=zx.mk (Kd.zN (yS yx.out) hb);have yD:=zx.mk (Kd.qG (Kd.vS ho0 (Kd.jT (yS zR.out))) (zf (zB HB.out)));have yH:=zx.mk (zW (g:=zT) (o:=.cells #[.string zi,.int .u8 zY,.int .u8 zQ,.int .u8 zl] 69 (0,0)) (yL zV.out) hb);have qV:=zx.mk (zW (g:=zZ) (o:=.cells #[.int .i64 (wrap64 (Int.tmod zl 5)),.int .i64 (wrap64 (1 + (wrap64 (zY)))),.bool false,.bool false] 26 (0,0)) (yL zw.out) hb);have qF:=zx.mk (zn (zB HB.out) hb);clear zD;clear zG;clear zR;clear zU;clear yx;clear zV;clear zw;clear HB;have zD:=zJ;have zG:=za;have zR:=zh;have zU:=zo;have yx:=z8;have yE:=yD;have zV:=yH;have zw:=qV;have HB:=qF;clear zJ za zh zo z8 yD yH qV qF;(try clear hb);(try clear hk);(try clear ho0);have zV7:Xo.cell? ⟨zZ,0,none⟩ = some (.int .i64 (wrap64 (Int.tmod zl 5))):=ze zw 0;have zV8:Xo.cell? ⟨zZ,1,none⟩ = some (.int .i64 (wrap64 (1 + (wrap64 (zY))))):=ze zw 1;have zV9:Xo.cell? ⟨zZ,2,none⟩ = some (.bool false):=ze zw 2;have zKz:Xo.cell? ⟨zZ,3,none⟩ = some (.bool false):=ze zw 3;have zKq:=zy zw.out 0;have zKx:=zy zw.out 1;have zKj:=zy zw.out 2;have zKv:=zy zw.out 3))
     have zJ:zx (Kd.S jh 60 (Xo.setCell ⟨zZ,1,none⟩ (.int .i64 (wrap64 (1 + (wrap64 (zQ)))))) w.heap.size (fun k_=>some k_ ≠ (.slice zjd uy.length zje:Value).ownBlock) (.slice zjK uE.length zjY) uE):=⟨by (with_reducible repeat (first | apply Kd.xL | apply Kd.xM | apply Kd.qH));exact Kd.jg (Kd.kS (p:=⟨zZ,1,none⟩) (Kd.jY zD.out zw.out (by decide)) (fun _ hk=>hk.2) (.int .i64 (wrap64 (1 + (wrap64 (zQ)))))) (fun _ hk=>hk.1.2)⟩
     have za:zx (Kd.R Kd.string 9 (Xo.setCell ⟨zZ,1,none⟩ (.int .i64 (wrap64 (1 + (wrap64 (zQ)))))) w.heap.size (fun k_=>some k_ ≠ (YL:Value).ownBlock) (.slice zjW uK.length zja) uK):=⟨by (with_reducible repeat (first | apply Kd.kU | apply Kd.wz | apply Kd.uR));exact Kd.vX (Kd.jr (p:=⟨zZ,1,none⟩) (Kd.kE zG.out zw.out (by decide)) (fun _ hk=>hk.2) (.int .i64 (wrap64 (1 + (wrap64 (zQ)))))) (fun _ hk=>hk.1.2)⟩
     have zh:zx (Kd.S xS 53 (Xo.setCell ⟨zZ,1,none⟩ (.int .i64 (wrap64 (1 + (wrap64 (zQ)))))) w.heap.size (fun k_=>some k_ ≠ (Xy:Value).ownBlock) (.slice zjb jo.length zjc) jo):=⟨by (with_reducible repeat (first | apply Kd.xL | apply Kd.xM | apply Kd.qH));exact Kd.jg (Kd.kS (p:=⟨zZ,1,none⟩) (Kd.jY zR.out zw.out (by decide)) (fun _ hk=>hk.2) (.int .i64 (wrap64 (1 + (wrap64 (zQ)))))) (fun _ hk=>hk.1.2)⟩
     have zo:zx (Kd.R Kd.string 9 (Xo.setCell ⟨zZ,1,none⟩ (.int .i64 (wrap64 (1 + (wrap64 (zQ)))))) w.heap.size (fun k_=>some k_ ≠ (.slice zjW uK.length zja:Value).ownBlock) YL Qf):=⟨by (with_reducible repeat (first | apply Kd.kU | apply Kd.wz | apply Kd.uR));exact Kd.vX (Kd.jr (p:=⟨zZ,1,none⟩) (Kd.kE zU.out zw.out (by decide)) (fun _ hk=>hk.2) (.int .i64 (wrap64 (1 + (wrap64 (zQ)))))) (fun _ hk=>hk.1.2)⟩
     have z8:zx (Kd.S jh 60 (Xo.setCell ⟨zZ,1,none⟩ (.int .i64 (wrap64 (1 + (wrap64 (zQ)))))) w.heap.size (fun k_=>some k_ ≠ (.slice zjK uE.length zjY:Value).ownBlock) (.slice zjd uy.length zje) uy):=⟨by (with_reducible repeat (first | apply Kd.xL | apply Kd.xM | apply Kd.qH));exact Kd.jg (Kd.kS (p:=⟨zZ,1,none⟩) (Kd.jY yx.out zw.out (by decide)) (fun _ hk=>hk.2) (.int .i64 (wrap64 (1 + (wrap64 (zQ)))))) (fun _ hk=>hk.1.2)⟩
     have yD:zx (Kd.S xS 53 (Xo.setCell ⟨zZ,1,none⟩ (.int .i64 (wrap64 (1 + (wrap64 (zQ)))))) w.heap.size (fun k_=>some k_ ≠ (.slice zjb jo.length zjc:Value).ownBlock) Xy Yy):=⟨by (with_reducible repeat (first | apply Kd.xL | apply Kd.xM | apply Kd.qH));exact Kd.jg (Kd.kS (p:=⟨zZ,1,none⟩) (Kd.jY yE.out zw.out (by decide)) (fun _ hk=>hk.2) (.int .i64 (wrap64 (1 + (wrap64 (zQ)))))) (fun _ hk=>hk.1.2)⟩
     have yH:zx ((Xo.setCell ⟨zZ,1,none⟩ (.int .i64 (wrap64 (1 + (wrap64 (zQ)))))).heap[zT]? = some (.cells #[.string zi,.int .u8 zY,.int .u8 zQ,.int .u8 zl] 69 (0,0))):=⟨Uf zV.out⟩
     have qV:zx ((Xo.setCell ⟨zZ,1,none⟩ (.int .i64 (wrap64 (1 + (wrap64 (zQ)))))).heap[zZ]? = some (.cells #[.int .i64 (wrap64 (Int.tmod zl 5)),.int .i64 (wrap64 (1 + (wrap64 (zQ)))),.bool false,.bool false] 26 (0,0))):=⟨by (with_reducible repeat (first | refine qz ?_ _ | refine yQ ?_ | refine yG ?_ _));refine y8 (cs:=#[.int .i64 (wrap64 (Int.tmod zl 5)),.int .i64 (wrap64 (1 + (wrap64 (zY)))),.bool false,.bool false]) ?_ 1 _ rfl;(with_reducible repeat (first | refine qz ?_ _ | refine yQ ?_ | refine yG ?_ _));exact zw.out⟩
     have qF:zx (Below w.heap.size w (Xo.setCell ⟨zZ,1,none⟩ (.int .i64 (wrap64 (1 + (wrap64 (zQ))))))):=⟨zB HB.out⟩
     (try clear zD)
     (try clear zG)
     (try clear zR)
     (try clear zU)
     (try clear yx)
     (try clear yE)
     (try clear zV)
     (try clear zw)
     (try clear HB)
     generalize (Xo.setCell ⟨zZ,1,none⟩ (.int .i64 (wrap64 (1 + (wrap64 (zQ)))))) = w93 at zJ za zh zo z8 yD yH qV qF ⊢
     have zD:=zJ
     have zG:=za
     have zR:=zh
     have zU:=zo
     have yx:=z8
     have yE:=yD
     have zV:=yH
     have zw:=qV
     have HB:=qF
     clear zJ za zh zo z8 yD yH qV qF
     have zJ:=zx.mk (Kd.qH zD.out)
     have za:=zx.mk (Kd.uR zG.out)
     have zh:=zx.mk (Kd.qH zR.out)
     have zo:=zx.mk (Kd.uR zU.out)
     have z8:=zx.mk (Kd.qH yx.out)
     have yD:=zx.mk (Kd.qH yE.out)
     have yH:=zx.mk (yQ zV.out)
     have qV:=zx.mk (yQ zw.out)
     have qF:=zx.mk (yj HB.out)
     clear zD zG zR zU yx yE zV zw HB
     have zD:=zJ
     have zG:=za
     have zR:=zh
     have zU:=zo
     have yx:=z8
     have yE:=yD
     have zV:=yH
     have zw:=qV
     have HB:=qF
     clear zJ za zh zo z8 yD yH qV qF
     refine uq (n:=12) (S:=fun w'=>w'.cell? ⟨zZ,0,none⟩ = some (.int .i64 (wrap64 (Int.tmod zl 5))) ∧ w'.cell? ⟨zZ,1,none⟩ = some (.int .i64 (wrap64 (1 + (wrap64 (zQ))))) ∧ w'.cell? ⟨zZ,2,none⟩ = some (.bool false) ∧ w'.cell? ⟨zZ,3,none⟩ = some (.bool false)) (ds:=[]) #[false,false,false,false,false,false,false,false,false,false,false,false] (by kernel_rfl) rfl rfl ⟨ze zw 0,ze zw 1,ze zw 2,ze zw 3⟩ (fun hHeld=>?_);refine vY zX.Ph zX.Jv (fun zC vW=>?_)
     generalize w93.drew = w94 at zD zG zR zU yx yE zV zw HB hHeld ⊢
     refine yT 2 (some 61) zC ?_
     refine jR 1 (some 60) zC vW hHeld ?_
     refine wQ 0 (some 59) zC (fun K hK=>?_)
     refine vI Tryz.func19 (by kernel_rfl) rfl #[] (by rfl) rfl rfl (by (try simp only [List.map_toArray,List.map_cons,List.map_nil]);first | done | rfl | (simp only [List.length_drop,List.length_take];rfl)) ?_
     with_reducible refine (yJ.calls  jf _ ?yX WL.out).mono ?_
     (case yX=>exact GW.under HG.out (zB HB.out))
     rintro e w95 ⟨zjq,rfl,ho0,hb⟩
     refine ⟨_,rfl,?_⟩
     have zJ:=zx.mk (Kd.xV (yS zD.out) (Kd.vR ho0) hb)
     have za:=zx.mk (Kd.yO (qJ zG.out) hb)
     have zh:=zx.mk (Kd.zN (yS zR.out) hb)
     have zo:=zx.mk (Kd.yO (qJ zU.out) hb)
     have z8:=zx.mk (Kd.xV (yS yx.out) (Kd.vR ho0) hb)
     have yD:=zx.mk (Kd.zN (yS yE.out) hb)
     have yH:=zx.mk (Kd.qG (Kd.vS (Kd.vS ho0 (Kd.jT (yS zD.out))) (Kd.jT (yS yx.out))) (zf (zB HB.out)))
     have qV:=zx.mk (zW (g:=zT) (o:=.cells #[.string zi,.int .u8 zY,.int .u8 zQ,.int .u8 zl] 69 (0,0)) (yL zV.out) hb)
     have qF:=zx.mk (zW (g:=zZ) (o:=.cells #[.int .i64 (wrap64 (Int.tmod zl 5)),.int .i64 (wrap64 (1 + (wrap64 (zQ)))),.bool false,.bool false] 26 (0,0)) (yL zw.out) hb)
     have uL:=zx.mk (zn (zB HB.out) hb)
     clear zD zG zR zU yx yE zV zw HB
     have zD:=zJ
     have zG:=za
     have zR:=zh
     have zU:=zo
     have yx:=z8
     have yE:=yD
     have qM:=yH
     have zV:=qV
     have zw:=qF
     have HB:=uL
     clear zJ za zh zo z8 yD yH qV qF uL
     (try clear hb)
     (try clear hk)
     (try clear ho0)
     refine hK.out _ _ ⟨ze zw 0,ze zw 1,ze zw 2,ze zw 3⟩ (fun hHeld=>?_)
     clear hK K
     refine wZ (some 59) ?_
     refine wQ 3 (some 62) zC (fun K hK=>?_)
     refine vI Tryz.func20 (by kernel_rfl) rfl #[.string zi] (by rfl) rfl rfl (by (try simp only [List.map_toArray,List.map_cons,List.map_nil]);first | done | rfl | (simp only [List.length_drop,List.length_take];rfl)) ?_
     with_reducible refine (zO.calls k zi jK _ A14.out).mono ?_
     rintro e w96 ⟨zjx,rfl,ho0,hb⟩
     refine ⟨_,rfl,?_⟩
     have zJ:=zx.mk (Kd.zN (yS zD.out) hb)
     have za:=zx.mk (Kd.qL (qJ zG.out) (Kd.xE ho0) hb)
     have zh:=zx.mk (Kd.zN (yS zR.out) hb)
     have zo:=zx.mk (Kd.qL (qJ zU.out) (Kd.xE ho0) hb)
     have z8:=zx.mk (Kd.zN (yS yx.out) hb)
     have yD:=zx.mk (Kd.zN (yS yE.out) hb)
     have yH:=zx.mk (Kd.zN (yS qM.out) hb)
     have qV:=zx.mk (Kd.ql (Kd.xI (Kd.xI ho0 (Kd.jQ (qJ zG.out))) (Kd.jQ (qJ zU.out))) (zf (zB HB.out)))
     have qF:=zx.mk (zW (g:=zT) (o:=.cells #[.string zi,.int .u8 zY,.int .u8 zQ,.int .u8 zl] 69 (0,0)) (yL zV.out) hb)
     have uL:=zx.mk (zW (g:=zZ) (o:=.cells #[.int .i64 (wrap64 (Int.tmod zl 5)),.int .i64 (wrap64 (1 + (wrap64 (zQ)))),.bool false,.bool false] 26 (0,0)) (yL zw.out) hb)
     have uS:=zx.mk (zn (zB HB.out) hb)
     clear zD zG zR zU yx yE qM zV zw HB
     have zD:=zJ
     have zG:=za
     have zR:=zh
     have zU:=zo
     have yx:=z8
     have yE:=yD
     have qM:=yH
     have xQ:=qV
     have zV:=qF
     have zw:=uL
     have HB:=uS
     clear zJ za zh zo z8 yD yH qV qF uL uS
     (try clear hb)
     (try clear hk)
     (try clear ho0)
     obtain ⟨zXc,zXd,zyB⟩:=Kd.xq qM.out
     (first | subst zyB | (injection zyB with vB jH vC;have jI:=vB.symm;have jL:=vC.symm;clear vB jH vC;subst jI;subst jL))
     obtain ⟨zXe,zXf,zyC⟩:=Kd.qD xQ.out
     (first | subst zyC | (injection zyC with vB jH vC;have jI:=vB.symm;have jL:=vC.symm;clear vB jH vC;subst jI;subst jL))
     refine hK.out _ _ ⟨ze zw 0,ze zw 1,ze zw 2,ze zw 3⟩ (fun hHeld=>?_)
     clear hK K
     refine wZ (some 62) ?_
     refine wQ 4 (some 63) zC (fun K hK=>?_)
     refine vI Tryz.func13 (by kernel_rfl) rfl #[.slice zXc jf.length zXd,.agg #[.int .i64 (wrap64 (Int.tmod zl 5)),.int .i64 (wrap64 (1 + (wrap64 (zQ)))),.bool false,.bool false],.slice zXe jK.length zXf,.slice none 0 0] (by rfl) rfl rfl (by (try simp only [List.map_toArray,List.map_cons,List.map_nil]);first | done | rfl | (simp only [List.length_drop,List.length_take];rfl)) ?_
     refine (yR.calls _ _ jf (wrap64 (Int.tmod zl 5)) (wrap64 (1 + (wrap64 (zQ)))) false false _ _ jK _ _ ([]:List (uj)) Ux zzf XD _ ?yX ?qy ?qw ?qZ ?qh ?qO ?qP A15.out).mono ?_
     (case yX=>exact q8 ((Kd.yF qM.out).2.2))
     (case qy=>exact (Kd.yF qM.out).2.1)
     (case qw=>exact q8 ((Kd.qW xQ.out).2.2))
     (case qZ=>exact (Kd.qW xQ.out).2.1)
     (case qh=>exact Kd.pz _ _)
     (case qO=>exact Nat.le_refl _)
     (case qP=>exact GW.under HG.out (zB HB.out))
     rintro e w99 ⟨zjj,zjv,rfl,ho0,ho1,hb⟩
     refine ⟨_,rfl,?_⟩
     have zJ:=zx.mk (Kd.zN (yS zD.out) hb)
     have za:=zx.mk (Kd.qL (qJ zG.out) (Kd.xE ho1) hb)
     have zh:=zx.mk (Kd.xV (yS zR.out) (Kd.vR ho0) hb)
     have zo:=zx.mk (Kd.qL (qJ zU.out) (Kd.xE ho1) hb)
     have z8:=zx.mk (Kd.zN (yS yx.out) hb)
     have yD:=zx.mk (Kd.xV (yS yE.out) (Kd.vR ho0) hb)
     have yH:=zx.mk (Kd.zN (yS qM.out) hb)
     have qV:=zx.mk (Kd.qL (qJ xQ.out) (Kd.xE ho1) hb)
     have qF:=zx.mk (Kd.qG (Kd.vS (Kd.vS ho0 (Kd.jT (yS zR.out))) (Kd.jT (yS yE.out))) (zf (zB HB.out)))
     have uL:=zx.mk (Kd.ql (Kd.xI (Kd.xI (Kd.xI ho1 (Kd.jQ (qJ zG.out))) (Kd.jQ (qJ zU.out))) (Kd.jQ (qJ xQ.out))) (zf (zB HB.out)))
     have uS:=zx.mk (zW (g:=zT) (o:=.cells #[.string zi,.int .u8 zY,.int .u8 zQ,.int .u8 zl] 69 (0,0)) (yL zV.out) hb)
     have wI:=zx.mk (zW (g:=zZ) (o:=.cells #[.int .i64 (wrap64 (Int.tmod zl 5)),.int .i64 (wrap64 (1 + (wrap64 (zQ)))),.bool false,.bool false] 26 (0,0)) (yL zw.out) hb)
     have wL:=zx.mk (zn (zB HB.out) hb)
     clear zD zG zR zU yx yE qM xQ zV zw HB
     have zD:=zJ
     have zG:=za
     have zR:=zh
     have zU:=zo
     have yx:=z8
     have yE:=yD
     have qM:=yH
     have xQ:=qV
     have kr:=qF
     have ZF:=uL
     have zV:=uS
     have zw:=wI
     have HB:=wL
     clear zJ za zh zo z8 yD yH qV qF uL uS wI wL
     (try clear hb)
     (try clear hk)
     (try clear ho0)
     (try clear ho1)
     refine hK.out _ _ ⟨ze zw 0,ze zw 1,ze zw 2,ze zw 3⟩ (fun hHeld=>?_)
     clear hK K
     refine wZ (some 63) ?_
     refine yT 5 (some 58) zC ?_
     refine yT 6 (some 64) zC ?_
     refine yT 7 (some 65) zC ?_
     refine yT 8 (some 66) zC ?_
     refine yT 9 (some 11) zC ?_
     refine yT 10 (some 12) zC ?_
     refine yT 11 (some 13) zC ?_
     refine xD (qb zC.out (by kernel_rfl)) ?_
     try go_wp2
     go_ret
     exact ⟨by first | rfl | (simp [yw,yZ] <;> rfl) | (simp [*,yw,yZ] <;> rfl),by repeat (first | (with_reducible first | exact HB.out | apply yI | apply yg | apply yj | refine qB ?_ Yk.out | refine qB ?_ YR.out) | exact HB.out)⟩
   ·rw [if_neg c16] at H
    have zZY:(Yg == 0) = false:=beq_eq_false_iff_ne.mpr c16
    have zZW:(Yg != 0) = true:=bne_iff_ne.mpr c16
    obtain rfl:=Option.some.inj H
    go_enter Tryz.func8,Tryz.ntmps8
    try go_wp2_with (first | ((with_reducible refine y9 (N:=1) rfl ?_);refine qQ ?hg (N:=1) ?hd (cs:=#[.string zi,.int .u8 zY,.int .u8 zQ,.int .u8 zl]) (t:=69) ?hr ?_;(case hd=>rfl);(case hg=>rfl);(case hr=>first | (go_simp;done) | (go_simp;rfl));intro zT hg zXg qj hb;have zJ:=zx.mk (zn (zB HB.out) hb);have za:=zx.mk (qj);have zh:=zx.mk ((by rw [hg];exact (zf (zB HB.out)):w.heap.size ≤ zT));have zo:=zx.mk ((by rw [hg];exact (zf (zB HB.out)):w.heap.size ≤ zT));clear HB;have HB:=zJ;have zV:=za;have Jk:=zh;have Yk:=zo;clear zJ za zh zo;clear hb qj hg))
    have zJ:=zx.mk (yQ zV.out)
    have za:=zx.mk (yj HB.out)
    clear zV HB
    have zV:=zJ
    have HB:=za
    clear zJ za
    refine uq (n:=12) (S:=fun w'=>w'.cell? ⟨zT,0,none⟩ = some (.string zi) ∧ w'.cell? ⟨zT,1,none⟩ = some (.int .u8 zY) ∧ w'.cell? ⟨zT,2,none⟩ = some (.int .u8 zQ) ∧ w'.cell? ⟨zT,3,none⟩ = some (.int .u8 zl)) (ds:=[]) #[false,false,false,false,false,false,false,false,false,false,false,false] (by kernel_rfl) rfl rfl ⟨ze zV 0,ze zV 1,ze zV 2,ze zV 3⟩ (fun hHeld=>?_);refine vY zX.Yb zX.ZV (fun zC vW=>?_)
    generalize zXg.drew = zYa at zV HB hHeld ⊢
    refine yT 0 (some 14) zC ?_
    refine yT 2 (some 16) zC ?_
    refine yT 4 (some 18) zC ?_
    refine yT 6 (some 20) zC ?_
    refine jR 1 (some 15) zC vW hHeld ?_
    refine yT 8 (some 3) zC ?_
    refine jR 3 (some 17) zC vW hHeld ?_
    refine yT 9 (some 4) zC ?_
    refine jR 5 (some 19) zC vW hHeld ?_
    refine yT 10 (some 5) zC ?_
    refine jR 7 (some 21) zC vW hHeld ?_
    refine yT 11 (some 6) zC ?_
    refine xD (qb zC.out (by kernel_rfl)) ?_
    try go_wp2_with (first | ((with_reducible refine y9 (N:=7) rfl ?_);refine qQ ?hg (N:=7) ?hd (cs:=#[.int .i64 0,.int .i64 0,.bool false,.bool false]) (t:=26) ?hr ?_;(case hd=>rfl);(case hg=>rfl);(case hr=>first | (go_simp;done) | (go_simp;rfl));intro zZ hg Q9 qj hb;have zJ:=zx.mk (zW (g:=zT) (o:=.cells #[.string zi,.int .u8 zY,.int .u8 zQ,.int .u8 zl] 69 (0,0)) (yL zV.out) hb);have za:=zx.mk (zn (zB HB.out) hb);have zh:=zx.mk (qj);have zo:=zx.mk ((by rw [hg];exact (zf (zB HB.out)):w.heap.size ≤ zZ));have z8:=zx.mk ((by rw [hg];exact (zf (zB HB.out)):w.heap.size ≤ zZ));have yD:=zx.mk ((by rw [hg];exact Nat.ne_of_lt (vU (g:=zT) (o:=.cells #[.string zi,.int .u8 zY,.int .u8 zQ,.int .u8 zl] 69 (0,0)) (yL zV.out)):zT ≠ zZ));have yH:=zx.mk ((by rw [hg];exact Nat.ne_of_gt (vU (g:=zT) (o:=.cells #[.string zi,.int .u8 zY,.int .u8 zQ,.int .u8 zl] 69 (0,0)) (yL zV.out)):zZ ≠ zT));clear zV;clear HB;have zV:=zJ;have HB:=za;have zw:=zh;have Pm:=zo;have YR:=z8;have kM:=yD;have kN:=yH;clear zJ za zh zo z8 yD yH;clear hb qj hg;have zKw:=kN.out;have zKZ:=kM.out;have zXh:Q9.cell? ⟨zZ,0,none⟩ = some (.int .i64 0):=ze zw 0;have zXi:Q9.cell? ⟨zZ,1,none⟩ = some (.int .i64 0):=ze zw 1;have zXl:Q9.cell? ⟨zZ,2,none⟩ = some (.bool false):=ze zw 2;have zXm:Q9.cell? ⟨zZ,3,none⟩ = some (.bool false):=ze zw 3;have zXn:=zy zw.out 0;have zXo:=zy zw.out 1;have zXp:=zy zw.out 2;have zXr:=zy zw.out 3))
    have zJ:zx (((((Q9.setCell ⟨zZ,0,none⟩ (.int .i64 (wrap64 (Int.tmod zl 5)))).setCell ⟨zZ,1,none⟩ (.int .i64 (wrap64 (1 + (wrap64 (zY)))))).setCell ⟨zZ,2,none⟩ (.bool false)).setCell ⟨zZ,3,none⟩ (.bool false)).heap[zT]? = some (.cells #[.string zi,.int .u8 zY,.int .u8 zQ,.int .u8 zl] 69 (0,0))):=⟨Uf zV.out⟩
    have za:zx (((((Q9.setCell ⟨zZ,0,none⟩ (.int .i64 (wrap64 (Int.tmod zl 5)))).setCell ⟨zZ,1,none⟩ (.int .i64 (wrap64 (1 + (wrap64 (zY)))))).setCell ⟨zZ,2,none⟩ (.bool false)).setCell ⟨zZ,3,none⟩ (.bool false)).heap[zZ]? = some (.cells #[.int .i64 (wrap64 (Int.tmod zl 5)),.int .i64 (wrap64 (1 + (wrap64 (zY)))),.bool false,.bool false] 26 (0,0))):=⟨by (with_reducible repeat (first | refine qz ?_ _ | refine yQ ?_ | refine yG ?_ _));refine y8 (cs:=#[.int .i64 (wrap64 (Int.tmod zl 5)),.int .i64 (wrap64 (1 + (wrap64 (zY)))),.bool false,.bool false]) ?_ 3 _ rfl;(with_reducible repeat (first | refine qz ?_ _ | refine yQ ?_ | refine yG ?_ _));refine y8 (cs:=#[.int .i64 (wrap64 (Int.tmod zl 5)),.int .i64 (wrap64 (1 + (wrap64 (zY)))),.bool false,.bool false]) ?_ 2 _ rfl;(with_reducible repeat (first | refine qz ?_ _ | refine yQ ?_ | refine yG ?_ _));refine y8 (cs:=#[.int .i64 (wrap64 (Int.tmod zl 5)),.int .i64 0,.bool false,.bool false]) ?_ 1 _ rfl;(with_reducible repeat (first | refine qz ?_ _ | refine yQ ?_ | refine yG ?_ _));refine y8 (cs:=#[.int .i64 0,.int .i64 0,.bool false,.bool false]) ?_ 0 _ rfl;(with_reducible repeat (first | refine qz ?_ _ | refine yQ ?_ | refine yG ?_ _));exact zw.out⟩
    have zh:zx (Below w.heap.size w ((((Q9.setCell ⟨zZ,0,none⟩ (.int .i64 (wrap64 (Int.tmod zl 5)))).setCell ⟨zZ,1,none⟩ (.int .i64 (wrap64 (1 + (wrap64 (zY)))))).setCell ⟨zZ,2,none⟩ (.bool false)).setCell ⟨zZ,3,none⟩ (.bool false))):=⟨zB HB.out⟩
    (try clear zV)
    (try clear zw)
    (try clear HB)
    generalize ((((Q9.setCell ⟨zZ,0,none⟩ (.int .i64 (wrap64 (Int.tmod zl 5)))).setCell ⟨zZ,1,none⟩ (.int .i64 (wrap64 (1 + (wrap64 (zY)))))).setCell ⟨zZ,2,none⟩ (.bool false)).setCell ⟨zZ,3,none⟩ (.bool false)) = zXs at zJ za zh ⊢
    have zV:=zJ
    have zw:=za
    have HB:=zh
    clear zJ za zh
    have zJ:=zx.mk (yQ zV.out)
    have za:=zx.mk (yQ zw.out)
    have zh:=zx.mk (yj HB.out)
    clear zV zw HB
    have zV:=zJ
    have zw:=za
    have HB:=zh
    clear zJ za zh
    refine uq (n:=12) (S:=fun w'=>w'.cell? ⟨zZ,0,none⟩ = some (.int .i64 (wrap64 (Int.tmod zl 5))) ∧ w'.cell? ⟨zZ,1,none⟩ = some (.int .i64 (wrap64 (1 + (wrap64 (zY))))) ∧ w'.cell? ⟨zZ,2,none⟩ = some (.bool false) ∧ w'.cell? ⟨zZ,3,none⟩ = some (.bool false)) (ds:=[]) #[false,false,false,false,false,false,false,false,false,false,false,false] (by kernel_rfl) rfl rfl ⟨ze zw 0,ze zw 1,ze zw 2,ze zw 3⟩ (fun hHeld=>?_);refine vY zX.QK zX.QY (fun zC vW=>?_)
    generalize zXs.drew = zYb at zV zw HB hHeld ⊢
    refine yT 2 (some 36) zC ?_
    refine jR 1 (some 35) zC vW hHeld ?_
    refine wQ 0 (some 34) zC (fun K hK=>?_)
    refine vI Tryz.func19 (by kernel_rfl) rfl #[] (by rfl) rfl rfl (by (try simp only [List.map_toArray,List.map_cons,List.map_nil]);first | done | rfl | (simp only [List.length_drop,List.length_take];rfl)) ?_
    with_reducible refine (yJ.calls  uE _ ?yX A7.out).mono ?_
    (case yX=>exact GW.under HG.out (zB HB.out))
    rintro e zYc ⟨zzg,rfl,ho0,hb⟩
    refine ⟨_,rfl,?_⟩
    have zJ:=zx.mk (Kd.qG ho0 (zf (zB HB.out)))
    have za:=zx.mk (zW (g:=zT) (o:=.cells #[.string zi,.int .u8 zY,.int .u8 zQ,.int .u8 zl] 69 (0,0)) (yL zV.out) hb)
    have zh:=zx.mk (zW (g:=zZ) (o:=.cells #[.int .i64 (wrap64 (Int.tmod zl 5)),.int .i64 (wrap64 (1 + (wrap64 (zY)))),.bool false,.bool false] 26 (0,0)) (yL zw.out) hb)
    have zo:=zx.mk (zn (zB HB.out) hb)
    clear zV zw HB
    have zD:=zJ
    have zV:=za
    have zw:=zh
    have HB:=zo
    clear zJ za zh zo
    (try clear hb)
    (try clear hk)
    (try clear ho0)
    refine hK.out _ _ ⟨ze zw 0,ze zw 1,ze zw 2,ze zw 3⟩ (fun hHeld=>?_)
    clear hK K
    refine wZ (some 34) ?_
    refine wQ 3 (some 37) zC (fun K hK=>?_)
    refine vI Tryz.func20 (by kernel_rfl) rfl #[.string zi] (by rfl) rfl rfl (by (try simp only [List.map_toArray,List.map_cons,List.map_nil]);first | done | rfl | (simp only [List.length_drop,List.length_take];rfl)) ?_
    with_reducible refine (zO.calls k zi uK _ A8.out).mono ?_
    rintro e zYd ⟨zzh,rfl,ho0,hb⟩
    refine ⟨_,rfl,?_⟩
    have zJ:=zx.mk (Kd.zN (yS zD.out) hb)
    have za:=zx.mk (Kd.ql ho0 (zf (zB HB.out)))
    have zh:=zx.mk (zW (g:=zT) (o:=.cells #[.string zi,.int .u8 zY,.int .u8 zQ,.int .u8 zl] 69 (0,0)) (yL zV.out) hb)
    have zo:=zx.mk (zW (g:=zZ) (o:=.cells #[.int .i64 (wrap64 (Int.tmod zl 5)),.int .i64 (wrap64 (1 + (wrap64 (zY)))),.bool false,.bool false] 26 (0,0)) (yL zw.out) hb)
    have z8:=zx.mk (zn (zB HB.out) hb)
    clear zD zV zw HB
    have zD:=zJ
    have zG:=za
    have zV:=zh
    have zw:=zo
    have HB:=z8
    clear zJ za zh zo z8
    (try clear hb)
    (try clear hk)
    (try clear ho0)
    obtain ⟨zzl,zzm,zj6⟩:=Kd.xq zD.out
    (first | subst zj6 | (injection zj6 with vB jH vC;have jI:=vB.symm;have jL:=vC.symm;clear vB jH vC;subst jI;subst jL))
    obtain ⟨zzn,zzo,zj7⟩:=Kd.qD zG.out
    (first | subst zj7 | (injection zj7 with vB jH vC;have jI:=vB.symm;have jL:=vC.symm;clear vB jH vC;subst jI;subst jL))
    refine hK.out _ _ ⟨ze zw 0,ze zw 1,ze zw 2,ze zw 3⟩ (fun hHeld=>?_)
    clear hK K
    refine wZ (some 37) ?_
    refine wQ 4 (some 38) zC (fun K hK=>?_)
    refine vI Tryz.func13 (by kernel_rfl) rfl #[.slice zzl uE.length zzm,.agg #[.int .i64 (wrap64 (Int.tmod zl 5)),.int .i64 (wrap64 (1 + (wrap64 (zY)))),.bool false,.bool false],.slice zzn uK.length zzo,.slice none 0 0] (by rfl) rfl rfl (by (try simp only [List.map_toArray,List.map_cons,List.map_nil]);first | done | rfl | (simp only [List.length_drop,List.length_take];rfl)) ?_
    refine (yR.calls _ _ uE (wrap64 (Int.tmod zl 5)) (wrap64 (1 + (wrap64 (zY)))) false false _ _ uK _ _ ([]:List (uj)) jo Qf Xk _ ?yX ?qy ?qw ?qZ ?qh ?qO ?qP A9.out).mono ?_
    (case yX=>exact q8 ((Kd.yF zD.out).2.2))
    (case qy=>exact (Kd.yF zD.out).2.1)
    (case qw=>exact q8 ((Kd.qW zG.out).2.2))
    (case qZ=>exact (Kd.qW zG.out).2.1)
    (case qh=>exact Kd.pz _ _)
    (case qO=>exact Nat.le_refl _)
    (case qP=>exact GW.under HG.out (zB HB.out))
    rintro e zYe ⟨zzi,YL,rfl,ho0,ho1,hb⟩
    refine ⟨_,rfl,?_⟩
    have zJ:=zx.mk (Kd.zN (yS zD.out) hb)
    have za:=zx.mk (Kd.qL (qJ zG.out) (Kd.xE ho1) hb)
    have zh:=zx.mk (Kd.qG ho0 (zf (zB HB.out)))
    have zo:=zx.mk (Kd.ql (Kd.xI ho1 (Kd.jQ (qJ zG.out))) (zf (zB HB.out)))
    have z8:=zx.mk (zW (g:=zT) (o:=.cells #[.string zi,.int .u8 zY,.int .u8 zQ,.int .u8 zl] 69 (0,0)) (yL zV.out) hb)
    have yD:=zx.mk (zW (g:=zZ) (o:=.cells #[.int .i64 (wrap64 (Int.tmod zl 5)),.int .i64 (wrap64 (1 + (wrap64 (zY)))),.bool false,.bool false] 26 (0,0)) (yL zw.out) hb)
    have yH:=zx.mk (zn (zB HB.out) hb)
    clear zD zG zV zw HB
    have zD:=zJ
    have zG:=za
    have zR:=zh
    have zU:=zo
    have zV:=z8
    have zw:=yD
    have HB:=yH
    clear zJ za zh zo z8 yD yH
    (try clear hb)
    (try clear hk)
    (try clear ho0)
    (try clear ho1)
    refine hK.out _ _ ⟨ze zw 0,ze zw 1,ze zw 2,ze zw 3⟩ (fun hHeld=>?_)
    clear hK K
    refine wZ (some 38) ?_
    refine yT 5 (some 33) zC ?_
    refine yT 6 (some 39) zC ?_
    refine yT 7 (some 40) zC ?_
    refine yT 8 (some 41) zC ?_
    refine yT 9 (some 8) zC ?_
    refine yT 10 (some 9) zC ?_
    refine yT 11 (some 10) zC ?_
    refine xD (qb zC.out (by kernel_rfl)) ?_
    try go_wp2_with (first | ((with_reducible refine yu (f:=19) rfl ?_);refine jq (some 50) Tryz.func19 #[] ?_;(with_reducible refine (yJ.calls  uy _ ?yX A11.out).mono ?_);(case yX=>exact GW.under HG.out (zB HB.out));rintro e zYf ⟨zx8,rfl,ho0,hb⟩;refine ⟨_,rfl,?_⟩;have zJ:=zx.mk (Kd.xV (yS zD.out) (Kd.vR ho0) hb);have za:=zx.mk (Kd.yO (qJ zG.out) hb);have zh:=zx.mk (Kd.zN (yS zR.out) hb);have zo:=zx.mk (Kd.yO (qJ zU.out) hb);have z8:=zx.mk (Kd.qG (Kd.vS ho0 (Kd.jT (yS zD.out))) (zf (zB HB.out)));have yD:=zx.mk (zW (g:=zT) (o:=.cells #[.string zi,.int .u8 zY,.int .u8 zQ,.int .u8 zl] 69 (0,0)) (yL zV.out) hb);have yH:=zx.mk (zW (g:=zZ) (o:=.cells #[.int .i64 (wrap64 (Int.tmod zl 5)),.int .i64 (wrap64 (1 + (wrap64 (zY)))),.bool false,.bool false] 26 (0,0)) (yL zw.out) hb);have qV:=zx.mk (zn (zB HB.out) hb);clear zD;clear zG;clear zR;clear zU;clear zV;clear zw;clear HB;have zD:=zJ;have zG:=za;have zR:=zh;have zU:=zo;have yx:=z8;have zV:=yD;have zw:=yH;have HB:=qV;clear zJ za zh zo z8 yD yH qV;(try clear hb);(try clear hk);(try clear ho0);obtain ⟨zzp,zzr,zZc⟩:=Kd.xq zR.out;subst zZc;obtain ⟨zzs,zzt,zZd⟩:=Kd.xq yx.out;subst zZd) | ((with_reducible refine yu (f:=25) rfl ?_);refine jq (some 51) Tryz.func25 #[.slice zzp jo.length zzr,.int .i64 (wrap64 (1 + (wrap64 (zQ)))),.slice zzs uy.length zzt] ?_;(with_reducible refine (xU.calls _ _ jo (wrap64 (1 + (wrap64 (zQ)))) _ _ uy Yy Yg _ ?yX ?qy ?qw ?qZ ?qh QT.out).mono ?_);(case yX=>exact q8 ((Kd.yF zR.out).2.2));(case qy=>exact (Kd.yF zR.out).2.1);(case qw=>exact q8 ((Kd.yF yx.out).2.2));(case qZ=>exact (Kd.yF yx.out).2.1);(case qh=>exact GW.under HG.out (zB HB.out));rintro e Yw ⟨Xy,rfl,ho0,hb⟩;refine ⟨_,rfl,?_⟩;have zJ:=zx.mk (Kd.zN (yS zD.out) hb);have za:=zx.mk (Kd.yO (qJ zG.out) hb);have zh:=zx.mk (Kd.xV (yS zR.out) (Kd.vR ho0) hb);have zo:=zx.mk (Kd.yO (qJ zU.out) hb);have z8:=zx.mk (Kd.zN (yS yx.out) hb);have yD:=zx.mk (Kd.qG (Kd.vS ho0 (Kd.jT (yS zR.out))) (zf (zB HB.out)));have yH:=zx.mk (zW (g:=zT) (o:=.cells #[.string zi,.int .u8 zY,.int .u8 zQ,.int .u8 zl] 69 (0,0)) (yL zV.out) hb);have qV:=zx.mk (zW (g:=zZ) (o:=.cells #[.int .i64 (wrap64 (Int.tmod zl 5)),.int .i64 (wrap64 (1 + (wrap64 (zY)))),.bool false,.bool false] 26 (0,0)) (yL zw.out) hb);have qF:=zx.mk (zn (zB HB.out) hb);clear zD;clear zG;clear zR;clear zU;clear yx;clear zV;clear zw;clear HB;have zD:=zJ;have zG:=za;have zR:=zh;have zU:=zo;have yx:=z8;have yE:=yD;have zV:=yH;have zw:=qV;have HB:=qF;clear zJ za zh zo z8 yD yH qV qF;(try clear hb);(try clear hk);(try clear ho0);have zXt:Yw.cell? ⟨zZ,0,none⟩ = some (.int .i64 (wrap64 (Int.tmod zl 5))):=ze zw 0;have zXu:Yw.cell? ⟨zZ,1,none⟩ = some (.int .i64 (wrap64 (1 + (wrap64 (zY))))):=ze zw 1;have zXA:Yw.cell? ⟨zZ,2,none⟩ = some (.bool false):=ze zw 2;have zXB:Yw.cell? ⟨zZ,3,none⟩ = some (.bool false):=ze zw 3;have zXC:=zy zw.out 0;have zXD:=zy zw.out 1;have zXE:=zy zw.out 2;have zXF:=zy zw.out 3))
    have zJ:zx (Kd.S jh 60 (Yw.setCell ⟨zZ,1,none⟩ (.int .i64 (wrap64 (1 + (wrap64 (zQ)))))) w.heap.size (fun k_=>some k_ ≠ (.slice zzs uy.length zzt:Value).ownBlock) (.slice zzl uE.length zzm) uE):=⟨by (with_reducible repeat (first | apply Kd.xL | apply Kd.xM | apply Kd.qH));exact Kd.jg (Kd.kS (p:=⟨zZ,1,none⟩) (Kd.jY zD.out zw.out (by decide)) (fun _ hk=>hk.2) (.int .i64 (wrap64 (1 + (wrap64 (zQ)))))) (fun _ hk=>hk.1.2)⟩
    have za:zx (Kd.R Kd.string 9 (Yw.setCell ⟨zZ,1,none⟩ (.int .i64 (wrap64 (1 + (wrap64 (zQ)))))) w.heap.size (fun k_=>some k_ ≠ (YL:Value).ownBlock) (.slice zzn uK.length zzo) uK):=⟨by (with_reducible repeat (first | apply Kd.kU | apply Kd.wz | apply Kd.uR));exact Kd.vX (Kd.jr (p:=⟨zZ,1,none⟩) (Kd.kE zG.out zw.out (by decide)) (fun _ hk=>hk.2) (.int .i64 (wrap64 (1 + (wrap64 (zQ)))))) (fun _ hk=>hk.1.2)⟩
    have zh:zx (Kd.S xS 53 (Yw.setCell ⟨zZ,1,none⟩ (.int .i64 (wrap64 (1 + (wrap64 (zQ)))))) w.heap.size (fun k_=>some k_ ≠ (Xy:Value).ownBlock) (.slice zzp jo.length zzr) jo):=⟨by (with_reducible repeat (first | apply Kd.xL | apply Kd.xM | apply Kd.qH));exact Kd.jg (Kd.kS (p:=⟨zZ,1,none⟩) (Kd.jY zR.out zw.out (by decide)) (fun _ hk=>hk.2) (.int .i64 (wrap64 (1 + (wrap64 (zQ)))))) (fun _ hk=>hk.1.2)⟩
    have zo:zx (Kd.R Kd.string 9 (Yw.setCell ⟨zZ,1,none⟩ (.int .i64 (wrap64 (1 + (wrap64 (zQ)))))) w.heap.size (fun k_=>some k_ ≠ (.slice zzn uK.length zzo:Value).ownBlock) YL Qf):=⟨by (with_reducible repeat (first | apply Kd.kU | apply Kd.wz | apply Kd.uR));exact Kd.vX (Kd.jr (p:=⟨zZ,1,none⟩) (Kd.kE zU.out zw.out (by decide)) (fun _ hk=>hk.2) (.int .i64 (wrap64 (1 + (wrap64 (zQ)))))) (fun _ hk=>hk.1.2)⟩
    have z8:zx (Kd.S jh 60 (Yw.setCell ⟨zZ,1,none⟩ (.int .i64 (wrap64 (1 + (wrap64 (zQ)))))) w.heap.size (fun k_=>some k_ ≠ (.slice zzl uE.length zzm:Value).ownBlock) (.slice zzs uy.length zzt) uy):=⟨by (with_reducible repeat (first | apply Kd.xL | apply Kd.xM | apply Kd.qH));exact Kd.jg (Kd.kS (p:=⟨zZ,1,none⟩) (Kd.jY yx.out zw.out (by decide)) (fun _ hk=>hk.2) (.int .i64 (wrap64 (1 + (wrap64 (zQ)))))) (fun _ hk=>hk.1.2)⟩
    have yD:zx (Kd.S xS 53 (Yw.setCell ⟨zZ,1,none⟩ (.int .i64 (wrap64 (1 + (wrap64 (zQ)))))) w.heap.size (fun k_=>some k_ ≠ (.slice zzp jo.length zzr:Value).ownBlock) Xy Yy):=⟨by (with_reducible repeat (first | apply Kd.xL | apply Kd.xM | apply Kd.qH));exact Kd.jg (Kd.kS (p:=⟨zZ,1,none⟩) (Kd.jY yE.out zw.out (by decide)) (fun _ hk=>hk.2) (.int .i64 (wrap64 (1 + (wrap64 (zQ)))))) (fun _ hk=>hk.1.2)⟩
    have yH:zx ((Yw.setCell ⟨zZ,1,none⟩ (.int .i64 (wrap64 (1 + (wrap64 (zQ)))))).heap[zT]? = some (.cells #[.string zi,.int .u8 zY,.int .u8 zQ,.int .u8 zl] 69 (0,0))):=⟨Uf zV.out⟩
    have qV:zx ((Yw.setCell ⟨zZ,1,none⟩ (.int .i64 (wrap64 (1 + (wrap64 (zQ)))))).heap[zZ]? = some (.cells #[.int .i64 (wrap64 (Int.tmod zl 5)),.int .i64 (wrap64 (1 + (wrap64 (zQ)))),.bool false,.bool false] 26 (0,0))):=⟨by (with_reducible repeat (first | refine qz ?_ _ | refine yQ ?_ | refine yG ?_ _));refine y8 (cs:=#[.int .i64 (wrap64 (Int.tmod zl 5)),.int .i64 (wrap64 (1 + (wrap64 (zY)))),.bool false,.bool false]) ?_ 1 _ rfl;(with_reducible repeat (first | refine qz ?_ _ | refine yQ ?_ | refine yG ?_ _));exact zw.out⟩
    have qF:zx (Below w.heap.size w (Yw.setCell ⟨zZ,1,none⟩ (.int .i64 (wrap64 (1 + (wrap64 (zQ))))))):=⟨zB HB.out⟩
    (try clear zD)
    (try clear zG)
    (try clear zR)
    (try clear zU)
    (try clear yx)
    (try clear yE)
    (try clear zV)
    (try clear zw)
    (try clear HB)
    generalize (Yw.setCell ⟨zZ,1,none⟩ (.int .i64 (wrap64 (1 + (wrap64 (zQ)))))) = zXG at zJ za zh zo z8 yD yH qV qF ⊢
    have zD:=zJ
    have zG:=za
    have zR:=zh
    have zU:=zo
    have yx:=z8
    have yE:=yD
    have zV:=yH
    have zw:=qV
    have HB:=qF
    clear zJ za zh zo z8 yD yH qV qF
    have zJ:=zx.mk (Kd.qH zD.out)
    have za:=zx.mk (Kd.uR zG.out)
    have zh:=zx.mk (Kd.qH zR.out)
    have zo:=zx.mk (Kd.uR zU.out)
    have z8:=zx.mk (Kd.qH yx.out)
    have yD:=zx.mk (Kd.qH yE.out)
    have yH:=zx.mk (yQ zV.out)
    have qV:=zx.mk (yQ zw.out)
    have qF:=zx.mk (yj HB.out)
    clear zD zG zR zU yx yE zV zw HB
    have zD:=zJ
    have zG:=za
    have zR:=zh
    have zU:=zo
    have yx:=z8
    have yE:=yD
    have zV:=yH
    have zw:=qV
    have HB:=qF
    clear zJ za zh zo z8 yD yH qV qF
    refine uq (n:=12) (S:=fun w'=>w'.cell? ⟨zZ,0,none⟩ = some (.int .i64 (wrap64 (Int.tmod zl 5))) ∧ w'.cell? ⟨zZ,1,none⟩ = some (.int .i64 (wrap64 (1 + (wrap64 (zQ))))) ∧ w'.cell? ⟨zZ,2,none⟩ = some (.bool false) ∧ w'.cell? ⟨zZ,3,none⟩ = some (.bool false)) (ds:=[]) #[false,false,false,false,false,false,false,false,false,false,false,false] (by kernel_rfl) rfl rfl ⟨ze zw 0,ze zw 1,ze zw 2,ze zw 3⟩ (fun hHeld=>?_);refine vY zX.Ph zX.Jv (fun zC vW=>?_)
    generalize zXG.drew = zYg at zD zG zR zU yx yE zV zw HB hHeld ⊢
    refine yT 2 (some 61) zC ?_
    refine jR 1 (some 60) zC vW hHeld ?_
    refine wQ 0 (some 59) zC (fun K hK=>?_)
    refine vI Tryz.func19 (by kernel_rfl) rfl #[] (by rfl) rfl rfl (by (try simp only [List.map_toArray,List.map_cons,List.map_nil]);first | done | rfl | (simp only [List.length_drop,List.length_take];rfl)) ?_
    with_reducible refine (yJ.calls  jf _ ?yX WL.out).mono ?_
    (case yX=>exact GW.under HG.out (zB HB.out))
    rintro e zYh ⟨zjq,rfl,ho0,hb⟩
    refine ⟨_,rfl,?_⟩
    have zJ:=zx.mk (Kd.xV (yS zD.out) (Kd.vR ho0) hb)
    have za:=zx.mk (Kd.yO (qJ zG.out) hb)
    have zh:=zx.mk (Kd.zN (yS zR.out) hb)
    have zo:=zx.mk (Kd.yO (qJ zU.out) hb)
    have z8:=zx.mk (Kd.xV (yS yx.out) (Kd.vR ho0) hb)
    have yD:=zx.mk (Kd.zN (yS yE.out) hb)
    have yH:=zx.mk (Kd.qG (Kd.vS (Kd.vS ho0 (Kd.jT (yS zD.out))) (Kd.jT (yS yx.out))) (zf (zB HB.out)))
    have qV:=zx.mk (zW (g:=zT) (o:=.cells #[.string zi,.int .u8 zY,.int .u8 zQ,.int .u8 zl] 69 (0,0)) (yL zV.out) hb)
    have qF:=zx.mk (zW (g:=zZ) (o:=.cells #[.int .i64 (wrap64 (Int.tmod zl 5)),.int .i64 (wrap64 (1 + (wrap64 (zQ)))),.bool false,.bool false] 26 (0,0)) (yL zw.out) hb)
    have uL:=zx.mk (zn (zB HB.out) hb)
    clear zD zG zR zU yx yE zV zw HB
    have zD:=zJ
    have zG:=za
    have zR:=zh
    have zU:=zo
    have yx:=z8
    have yE:=yD
    have qM:=yH
    have zV:=qV
    have zw:=qF
    have HB:=uL
    clear zJ za zh zo z8 yD yH qV qF uL
    (try clear hb)
    (try clear hk)
    (try clear ho0)
    refine hK.out _ _ ⟨ze zw 0,ze zw 1,ze zw 2,ze zw 3⟩ (fun hHeld=>?_)
    clear hK K
    refine wZ (some 59) ?_
    refine wQ 3 (some 62) zC (fun K hK=>?_)
    refine vI Tryz.func20 (by kernel_rfl) rfl #[.string zi] (by rfl) rfl rfl (by (try simp only [List.map_toArray,List.map_cons,List.map_nil]);first | done | rfl | (simp only [List.length_drop,List.length_take];rfl)) ?_
    with_reducible refine (zO.calls k zi jK _ A14.out).mono ?_
    rintro e zYi ⟨zjx,rfl,ho0,hb⟩
    refine ⟨_,rfl,?_⟩
    have zJ:=zx.mk (Kd.zN (yS zD.out) hb)
    have za:=zx.mk (Kd.qL (qJ zG.out) (Kd.xE ho0) hb)
    have zh:=zx.mk (Kd.zN (yS zR.out) hb)
    have zo:=zx.mk (Kd.qL (qJ zU.out) (Kd.xE ho0) hb)
    have z8:=zx.mk (Kd.zN (yS yx.out) hb)
    have yD:=zx.mk (Kd.zN (yS yE.out) hb)
    have yH:=zx.mk (Kd.zN (yS qM.out) hb)
    have qV:=zx.mk (Kd.ql (Kd.xI (Kd.xI ho0 (Kd.jQ (qJ zG.out))) (Kd.jQ (qJ zU.out))) (zf (zB HB.out)))
    have qF:=zx.mk (zW (g:=zT) (o:=.cells #[.string zi,.int .u8 zY,.int .u8 zQ,.int .u8 zl] 69 (0,0)) (yL zV.out) hb)
    have uL:=zx.mk (zW (g:=zZ) (o:=.cells #[.int .i64 (wrap64 (Int.tmod zl 5)),.int .i64 (wrap64 (1 + (wrap64 (zQ)))),.bool false,.bool false] 26 (0,0)) (yL zw.out) hb)
    have uS:=zx.mk (zn (zB HB.out) hb)
    clear zD zG zR zU yx yE qM zV zw HB
    have zD:=zJ
    have zG:=za
    have zR:=zh
    have zU:=zo
    have yx:=z8
    have yE:=yD
    have qM:=yH
    have xQ:=qV
    have zV:=qF
    have zw:=uL
    have HB:=uS
    clear zJ za zh zo z8 yD yH qV qF uL uS
    (try clear hb)
    (try clear hk)
    (try clear ho0)
    obtain ⟨zZe,zZf,zj8⟩:=Kd.xq qM.out
    (first | subst zj8 | (injection zj8 with vB jH vC;have jI:=vB.symm;have jL:=vC.symm;clear vB jH vC;subst jI;subst jL))
    obtain ⟨zZg,zZh,zj9⟩:=Kd.qD xQ.out
    (first | subst zj9 | (injection zj9 with vB jH vC;have jI:=vB.symm;have jL:=vC.symm;clear vB jH vC;subst jI;subst jL))
    refine hK.out _ _ ⟨ze zw 0,ze zw 1,ze zw 2,ze zw 3⟩ (fun hHeld=>?_)
    clear hK K
    refine wZ (some 62) ?_
    refine wQ 4 (some 63) zC (fun K hK=>?_)
    refine vI Tryz.func13 (by kernel_rfl) rfl #[.slice zZe jf.length zZf,.agg #[.int .i64 (wrap64 (Int.tmod zl 5)),.int .i64 (wrap64 (1 + (wrap64 (zQ)))),.bool false,.bool false],.slice zZg jK.length zZh,.slice none 0 0] (by rfl) rfl rfl (by (try simp only [List.map_toArray,List.map_cons,List.map_nil]);first | done | rfl | (simp only [List.length_drop,List.length_take];rfl)) ?_
    refine (yR.calls _ _ jf (wrap64 (Int.tmod zl 5)) (wrap64 (1 + (wrap64 (zQ)))) false false _ _ jK _ _ ([]:List (uj)) Ux zzf XD _ ?yX ?qy ?qw ?qZ ?qh ?qO ?qP A15.out).mono ?_
    (case yX=>exact q8 ((Kd.yF qM.out).2.2))
    (case qy=>exact (Kd.yF qM.out).2.1)
    (case qw=>exact q8 ((Kd.qW xQ.out).2.2))
    (case qZ=>exact (Kd.qW xQ.out).2.1)
    (case qh=>exact Kd.pz _ _)
    (case qO=>exact Nat.le_refl _)
    (case qP=>exact GW.under HG.out (zB HB.out))
    rintro e zYl ⟨zjj,zjv,rfl,ho0,ho1,hb⟩
    refine ⟨_,rfl,?_⟩
    have zJ:=zx.mk (Kd.zN (yS zD.out) hb)
    have za:=zx.mk (Kd.qL (qJ zG.out) (Kd.xE ho1) hb)
    have zh:=zx.mk (Kd.xV (yS zR.out) (Kd.vR ho0) hb)
    have zo:=zx.mk (Kd.qL (qJ zU.out) (Kd.xE ho1) hb)
    have z8:=zx.mk (Kd.zN (yS yx.out) hb)
    have yD:=zx.mk (Kd.xV (yS yE.out) (Kd.vR ho0) hb)
    have yH:=zx.mk (Kd.zN (yS qM.out) hb)
    have qV:=zx.mk (Kd.qL (qJ xQ.out) (Kd.xE ho1) hb)
    have qF:=zx.mk (Kd.qG (Kd.vS (Kd.vS ho0 (Kd.jT (yS zR.out))) (Kd.jT (yS yE.out))) (zf (zB HB.out)))
    have uL:=zx.mk (Kd.ql (Kd.xI (Kd.xI (Kd.xI ho1 (Kd.jQ (qJ zG.out))) (Kd.jQ (qJ zU.out))) (Kd.jQ (qJ xQ.out))) (zf (zB HB.out)))
    have uS:=zx.mk (zW (g:=zT) (o:=.cells #[.string zi,.int .u8 zY,.int .u8 zQ,.int .u8 zl] 69 (0,0)) (yL zV.out) hb)
    have wI:=zx.mk (zW (g:=zZ) (o:=.cells #[.int .i64 (wrap64 (Int.tmod zl 5)),.int .i64 (wrap64 (1 + (wrap64 (zQ)))),.bool false,.bool false] 26 (0,0)) (yL zw.out) hb)
    have wL:=zx.mk (zn (zB HB.out) hb)
    clear zD zG zR zU yx yE qM xQ zV zw HB
    have zD:=zJ
    have zG:=za
    have zR:=zh
    have zU:=zo
    have yx:=z8
    have yE:=yD
    have qM:=yH
    have xQ:=qV
    have kr:=qF
    have ZF:=uL
    have zV:=uS
    have zw:=wI
    have HB:=wL
    clear zJ za zh zo z8 yD yH qV qF uL uS wI wL
    (try clear hb)
    (try clear hk)
    (try clear ho0)
    (try clear ho1)
    refine hK.out _ _ ⟨ze zw 0,ze zw 1,ze zw 2,ze zw 3⟩ (fun hHeld=>?_)
    clear hK K
    refine wZ (some 63) ?_
    refine yT 5 (some 58) zC ?_
    refine yT 6 (some 64) zC ?_
    refine yT 7 (some 65) zC ?_
    refine yT 8 (some 66) zC ?_
    refine yT 9 (some 11) zC ?_
    refine yT 10 (some 12) zC ?_
    refine yT 11 (some 13) zC ?_
    refine xD (qb zC.out (by kernel_rfl)) ?_
    try go_wp2
    go_ret
    exact ⟨by first | rfl | (simp [yw,yZ] <;> rfl) | (simp [*,yw,yZ] <;> rfl),by repeat (first | (with_reducible first | exact HB.out | apply yI | apply yg | apply yj | refine qB ?_ Yk.out | refine qB ?_ YR.out) | exact HB.out)⟩
  ·rw [if_neg c10] at H
   have U5:(Xk == 0) = false:=beq_eq_false_iff_ne.mpr c10
   have U6:(Xk != 0) = true:=bne_iff_ne.mpr c10
   replace H:=Option.bind_eq_some_iff.mp H
   obtain ⟨YI,zvz,H⟩:=H
   replace H:(some YI) = some r:=H
   have zXH:=zx.mk zvz
   clear zvz
   obtain rfl:=Option.some.inj H
   go_enter Tryz.func8,Tryz.ntmps8
   try go_wp2_with (first | ((with_reducible refine y9 (N:=1) rfl ?_);refine qQ ?hg (N:=1) ?hd (cs:=#[.string zi,.int .u8 zY,.int .u8 zQ,.int .u8 zl]) (t:=69) ?hr ?_;(case hd=>rfl);(case hg=>rfl);(case hr=>first | (go_simp;done) | (go_simp;rfl));intro zT hg zXI qj hb;have zJ:=zx.mk (zn (zB HB.out) hb);have za:=zx.mk (qj);have zh:=zx.mk ((by rw [hg];exact (zf (zB HB.out)):w.heap.size ≤ zT));have zo:=zx.mk ((by rw [hg];exact (zf (zB HB.out)):w.heap.size ≤ zT));clear HB;have HB:=zJ;have zV:=za;have Jk:=zh;have Yk:=zo;clear zJ za zh zo;clear hb qj hg))
   have zJ:=zx.mk (yQ zV.out)
   have za:=zx.mk (yj HB.out)
   clear zV HB
   have zV:=zJ
   have HB:=za
   clear zJ za
   refine uq (n:=12) (S:=fun w'=>w'.cell? ⟨zT,0,none⟩ = some (.string zi) ∧ w'.cell? ⟨zT,1,none⟩ = some (.int .u8 zY) ∧ w'.cell? ⟨zT,2,none⟩ = some (.int .u8 zQ) ∧ w'.cell? ⟨zT,3,none⟩ = some (.int .u8 zl)) (ds:=[]) #[false,false,false,false,false,false,false,false,false,false,false,false] (by kernel_rfl) rfl rfl ⟨ze zV 0,ze zV 1,ze zV 2,ze zV 3⟩ (fun hHeld=>?_);refine vY zX.Yb zX.ZV (fun zC vW=>?_)
   generalize zXI.drew = zYm at zV HB hHeld ⊢
   refine yT 0 (some 14) zC ?_
   refine yT 2 (some 16) zC ?_
   refine yT 4 (some 18) zC ?_
   refine yT 6 (some 20) zC ?_
   refine jR 1 (some 15) zC vW hHeld ?_
   refine yT 8 (some 3) zC ?_
   refine jR 3 (some 17) zC vW hHeld ?_
   refine yT 9 (some 4) zC ?_
   refine jR 5 (some 19) zC vW hHeld ?_
   refine yT 10 (some 5) zC ?_
   refine jR 7 (some 21) zC vW hHeld ?_
   refine yT 11 (some 6) zC ?_
   refine xD (qb zC.out (by kernel_rfl)) ?_
   try go_wp2_with (first | ((with_reducible refine y9 (N:=7) rfl ?_);refine qQ ?hg (N:=7) ?hd (cs:=#[.int .i64 0,.int .i64 0,.bool false,.bool false]) (t:=26) ?hr ?_;(case hd=>rfl);(case hg=>rfl);(case hr=>first | (go_simp;done) | (go_simp;rfl));intro zZ hg Vz qj hb;have zJ:=zx.mk (zW (g:=zT) (o:=.cells #[.string zi,.int .u8 zY,.int .u8 zQ,.int .u8 zl] 69 (0,0)) (yL zV.out) hb);have za:=zx.mk (zn (zB HB.out) hb);have zh:=zx.mk (qj);have zo:=zx.mk ((by rw [hg];exact (zf (zB HB.out)):w.heap.size ≤ zZ));have z8:=zx.mk ((by rw [hg];exact (zf (zB HB.out)):w.heap.size ≤ zZ));have yD:=zx.mk ((by rw [hg];exact Nat.ne_of_lt (vU (g:=zT) (o:=.cells #[.string zi,.int .u8 zY,.int .u8 zQ,.int .u8 zl] 69 (0,0)) (yL zV.out)):zT ≠ zZ));have yH:=zx.mk ((by rw [hg];exact Nat.ne_of_gt (vU (g:=zT) (o:=.cells #[.string zi,.int .u8 zY,.int .u8 zQ,.int .u8 zl] 69 (0,0)) (yL zV.out)):zZ ≠ zT));clear zV;clear HB;have zV:=zJ;have HB:=za;have zw:=zh;have Pm:=zo;have YR:=z8;have kM:=yD;have kN:=yH;clear zJ za zh zo z8 yD yH;clear hb qj hg;have zKQ:=kN.out;have zKX:=kM.out;have zXL:Vz.cell? ⟨zZ,0,none⟩ = some (.int .i64 0):=ze zw 0;have zXM:Vz.cell? ⟨zZ,1,none⟩ = some (.int .i64 0):=ze zw 1;have zXN:Vz.cell? ⟨zZ,2,none⟩ = some (.bool false):=ze zw 2;have zXO:Vz.cell? ⟨zZ,3,none⟩ = some (.bool false):=ze zw 3;have zXP:=zy zw.out 0;have zXR:=zy zw.out 1;have zXS:=zy zw.out 2;have zXT:=zy zw.out 3))
   have zJ:zx (((((Vz.setCell ⟨zZ,0,none⟩ (.int .i64 (wrap64 (Int.tmod zl 5)))).setCell ⟨zZ,1,none⟩ (.int .i64 (wrap64 (1 + (wrap64 (zY)))))).setCell ⟨zZ,2,none⟩ (.bool false)).setCell ⟨zZ,3,none⟩ (.bool false)).heap[zT]? = some (.cells #[.string zi,.int .u8 zY,.int .u8 zQ,.int .u8 zl] 69 (0,0))):=⟨Uf zV.out⟩
   have za:zx (((((Vz.setCell ⟨zZ,0,none⟩ (.int .i64 (wrap64 (Int.tmod zl 5)))).setCell ⟨zZ,1,none⟩ (.int .i64 (wrap64 (1 + (wrap64 (zY)))))).setCell ⟨zZ,2,none⟩ (.bool false)).setCell ⟨zZ,3,none⟩ (.bool false)).heap[zZ]? = some (.cells #[.int .i64 (wrap64 (Int.tmod zl 5)),.int .i64 (wrap64 (1 + (wrap64 (zY)))),.bool false,.bool false] 26 (0,0))):=⟨by (with_reducible repeat (first | refine qz ?_ _ | refine yQ ?_ | refine yG ?_ _));refine y8 (cs:=#[.int .i64 (wrap64 (Int.tmod zl 5)),.int .i64 (wrap64 (1 + (wrap64 (zY)))),.bool false,.bool false]) ?_ 3 _ rfl;(with_reducible repeat (first | refine qz ?_ _ | refine yQ ?_ | refine yG ?_ _));refine y8 (cs:=#[.int .i64 (wrap64 (Int.tmod zl 5)),.int .i64 (wrap64 (1 + (wrap64 (zY)))),.bool false,.bool false]) ?_ 2 _ rfl;(with_reducible repeat (first | refine qz ?_ _ | refine yQ ?_ | refine yG ?_ _));refine y8 (cs:=#[.int .i64 (wrap64 (Int.tmod zl 5)),.int .i64 0,.bool false,.bool false]) ?_ 1 _ rfl;(with_reducible repeat (first | refine qz ?_ _ | refine yQ ?_ | refine yG ?_ _));refine y8 (cs:=#[.int .i64 0,.int .i64 0,.bool false,.bool false]) ?_ 0 _ rfl;(with_reducible repeat (first | refine qz ?_ _ | refine yQ ?_ | refine yG ?_ _));exact zw.out⟩
   have zh:zx (Below w.heap.size w ((((Vz.setCell ⟨zZ,0,none⟩ (.int .i64 (wrap64 (Int.tmod zl 5)))).setCell ⟨zZ,1,none⟩ (.int .i64 (wrap64 (1 + (wrap64 (zY)))))).setCell ⟨zZ,2,none⟩ (.bool false)).setCell ⟨zZ,3,none⟩ (.bool false))):=⟨zB HB.out⟩
   (try clear zV)
   (try clear zw)
   (try clear HB)
   generalize ((((Vz.setCell ⟨zZ,0,none⟩ (.int .i64 (wrap64 (Int.tmod zl 5)))).setCell ⟨zZ,1,none⟩ (.int .i64 (wrap64 (1 + (wrap64 (zY)))))).setCell ⟨zZ,2,none⟩ (.bool false)).setCell ⟨zZ,3,none⟩ (.bool false)) = zXU at zJ za zh ⊢
   have zV:=zJ
   have zw:=za
   have HB:=zh
   clear zJ za zh
   have zJ:=zx.mk (yQ zV.out)
   have za:=zx.mk (yQ zw.out)
   have zh:=zx.mk (yj HB.out)
   clear zV zw HB
   have zV:=zJ
   have zw:=za
   have HB:=zh
   clear zJ za zh
   refine uq (n:=12) (S:=fun w'=>w'.cell? ⟨zZ,0,none⟩ = some (.int .i64 (wrap64 (Int.tmod zl 5))) ∧ w'.cell? ⟨zZ,1,none⟩ = some (.int .i64 (wrap64 (1 + (wrap64 (zY))))) ∧ w'.cell? ⟨zZ,2,none⟩ = some (.bool false) ∧ w'.cell? ⟨zZ,3,none⟩ = some (.bool false)) (ds:=[]) #[false,false,false,false,false,false,false,false,false,false,false,false] (by kernel_rfl) rfl rfl ⟨ze zw 0,ze zw 1,ze zw 2,ze zw 3⟩ (fun hHeld=>?_);refine vY zX.QK zX.QY (fun zC vW=>?_)
   generalize zXU.drew = zYn at zV zw HB hHeld ⊢
   refine yT 2 (some 36) zC ?_
   refine jR 1 (some 35) zC vW hHeld ?_
   refine wQ 0 (some 34) zC (fun K hK=>?_)
   refine vI Tryz.func19 (by kernel_rfl) rfl #[] (by rfl) rfl rfl (by (try simp only [List.map_toArray,List.map_cons,List.map_nil]);first | done | rfl | (simp only [List.length_drop,List.length_take];rfl)) ?_
   with_reducible refine (yJ.calls  uE _ ?yX A7.out).mono ?_
   (case yX=>exact GW.under HG.out (zB HB.out))
   rintro e zYo ⟨zzg,rfl,ho0,hb⟩
   refine ⟨_,rfl,?_⟩
   have zJ:=zx.mk (Kd.qG ho0 (zf (zB HB.out)))
   have za:=zx.mk (zW (g:=zT) (o:=.cells #[.string zi,.int .u8 zY,.int .u8 zQ,.int .u8 zl] 69 (0,0)) (yL zV.out) hb)
   have zh:=zx.mk (zW (g:=zZ) (o:=.cells #[.int .i64 (wrap64 (Int.tmod zl 5)),.int .i64 (wrap64 (1 + (wrap64 (zY)))),.bool false,.bool false] 26 (0,0)) (yL zw.out) hb)
   have zo:=zx.mk (zn (zB HB.out) hb)
   clear zV zw HB
   have zD:=zJ
   have zV:=za
   have zw:=zh
   have HB:=zo
   clear zJ za zh zo
   (try clear hb)
   (try clear hk)
   (try clear ho0)
   refine hK.out _ _ ⟨ze zw 0,ze zw 1,ze zw 2,ze zw 3⟩ (fun hHeld=>?_)
   clear hK K
   refine wZ (some 34) ?_
   refine wQ 3 (some 37) zC (fun K hK=>?_)
   refine vI Tryz.func20 (by kernel_rfl) rfl #[.string zi] (by rfl) rfl rfl (by (try simp only [List.map_toArray,List.map_cons,List.map_nil]);first | done | rfl | (simp only [List.length_drop,List.length_take];rfl)) ?_
   with_reducible refine (zO.calls k zi uK _ A8.out).mono ?_
   rintro e zYp ⟨zzh,rfl,ho0,hb⟩
   refine ⟨_,rfl,?_⟩
   have zJ:=zx.mk (Kd.zN (yS zD.out) hb)
   have za:=zx.mk (Kd.ql ho0 (zf (zB HB.out)))
   have zh:=zx.mk (zW (g:=zT) (o:=.cells #[.string zi,.int .u8 zY,.int .u8 zQ,.int .u8 zl] 69 (0,0)) (yL zV.out) hb)
   have zo:=zx.mk (zW (g:=zZ) (o:=.cells #[.int .i64 (wrap64 (Int.tmod zl 5)),.int .i64 (wrap64 (1 + (wrap64 (zY)))),.bool false,.bool false] 26 (0,0)) (yL zw.out) hb)
   have z8:=zx.mk (zn (zB HB.out) hb)
   clear zD zV zw HB
   have zD:=zJ
   have zG:=za
   have zV:=zh
   have zw:=zo
   have HB:=z8
   clear zJ za zh zo z8
   (try clear hb)
   (try clear hk)
   (try clear ho0)
   obtain ⟨zZi,zZl,zvq⟩:=Kd.xq zD.out
   (first | subst zvq | (injection zvq with vB jH vC;have jI:=vB.symm;have jL:=vC.symm;clear vB jH vC;subst jI;subst jL))
   obtain ⟨zZm,zZn,zvx⟩:=Kd.qD zG.out
   (first | subst zvx | (injection zvx with vB jH vC;have jI:=vB.symm;have jL:=vC.symm;clear vB jH vC;subst jI;subst jL))
   refine hK.out _ _ ⟨ze zw 0,ze zw 1,ze zw 2,ze zw 3⟩ (fun hHeld=>?_)
   clear hK K
   refine wZ (some 37) ?_
   refine wQ 4 (some 38) zC (fun K hK=>?_)
   refine vI Tryz.func13 (by kernel_rfl) rfl #[.slice zZi uE.length zZl,.agg #[.int .i64 (wrap64 (Int.tmod zl 5)),.int .i64 (wrap64 (1 + (wrap64 (zY)))),.bool false,.bool false],.slice zZm uK.length zZn,.slice none 0 0] (by rfl) rfl rfl (by (try simp only [List.map_toArray,List.map_cons,List.map_nil]);first | done | rfl | (simp only [List.length_drop,List.length_take];rfl)) ?_
   refine (yR.calls _ _ uE (wrap64 (Int.tmod zl 5)) (wrap64 (1 + (wrap64 (zY)))) false false _ _ uK _ _ ([]:List (uj)) jo Qf Xk _ ?yX ?qy ?qw ?qZ ?qh ?qO ?qP A9.out).mono ?_
   (case yX=>exact q8 ((Kd.yF zD.out).2.2))
   (case qy=>exact (Kd.yF zD.out).2.1)
   (case qw=>exact q8 ((Kd.qW zG.out).2.2))
   (case qZ=>exact (Kd.qW zG.out).2.1)
   (case qh=>exact Kd.pz _ _)
   (case qO=>exact Nat.le_refl _)
   (case qP=>exact GW.under HG.out (zB HB.out))
   rintro e zYr ⟨zzi,YL,rfl,ho0,ho1,hb⟩
   refine ⟨_,rfl,?_⟩
   have zJ:=zx.mk (Kd.zN (yS zD.out) hb)
   have za:=zx.mk (Kd.qL (qJ zG.out) (Kd.xE ho1) hb)
   have zh:=zx.mk (Kd.qG ho0 (zf (zB HB.out)))
   have zo:=zx.mk (Kd.ql (Kd.xI ho1 (Kd.jQ (qJ zG.out))) (zf (zB HB.out)))
   have z8:=zx.mk (zW (g:=zT) (o:=.cells #[.string zi,.int .u8 zY,.int .u8 zQ,.int .u8 zl] 69 (0,0)) (yL zV.out) hb)
   have yD:=zx.mk (zW (g:=zZ) (o:=.cells #[.int .i64 (wrap64 (Int.tmod zl 5)),.int .i64 (wrap64 (1 + (wrap64 (zY)))),.bool false,.bool false] 26 (0,0)) (yL zw.out) hb)
   have yH:=zx.mk (zn (zB HB.out) hb)
   clear zD zG zV zw HB
   have zD:=zJ
   have zG:=za
   have zR:=zh
   have zU:=zo
   have zV:=z8
   have zw:=yD
   have HB:=yH
   clear zJ za zh zo z8 yD yH
   (try clear hb)
   (try clear hk)
   (try clear ho0)
   (try clear ho1)
   refine hK.out _ _ ⟨ze zw 0,ze zw 1,ze zw 2,ze zw 3⟩ (fun hHeld=>?_)
   clear hK K
   refine wZ (some 38) ?_
   refine yT 5 (some 33) zC ?_
   refine yT 6 (some 39) zC ?_
   refine yT 7 (some 40) zC ?_
   refine yT 8 (some 41) zC ?_
   refine yT 9 (some 8) zC ?_
   refine yT 10 (some 9) zC ?_
   refine yT 11 (some 10) zC ?_
   refine xD (qb zC.out (by kernel_rfl)) ?_
   try go_wp2_with (first | ((with_reducible refine yu (f:=11) rfl ?_);refine jq (some 44) Tryz.func11 #[] ?_;(with_reducible refine (yC.calls  YI _ ?yX zXH.out).mono ?_);(case yX=>exact GW.under HG.out (zB HB.out));rintro e zYs ⟨rfl,hb⟩;refine ⟨_,rfl,?_⟩;have zJ:=zx.mk (Kd.zN (yS zD.out) hb);have za:=zx.mk (Kd.yO (qJ zG.out) hb);have zh:=zx.mk (Kd.zN (yS zR.out) hb);have zo:=zx.mk (Kd.yO (qJ zU.out) hb);have z8:=zx.mk (zW (g:=zT) (o:=.cells #[.string zi,.int .u8 zY,.int .u8 zQ,.int .u8 zl] 69 (0,0)) (yL zV.out) hb);have yD:=zx.mk (zW (g:=zZ) (o:=.cells #[.int .i64 (wrap64 (Int.tmod zl 5)),.int .i64 (wrap64 (1 + (wrap64 (zY)))),.bool false,.bool false] 26 (0,0)) (yL zw.out) hb);have yH:=zx.mk (zn (zB HB.out) hb);clear zD;clear zG;clear zR;clear zU;clear zV;clear zw;clear HB;have zD:=zJ;have zG:=za;have zR:=zh;have zU:=zo;have zV:=z8;have zw:=yD;have HB:=yH;clear zJ za zh zo z8 yD yH;(try clear hb);(try clear hk);(try clear hi)))
   go_ret
   exact ⟨by first | rfl | (simp [yw,yZ] <;> rfl) | (simp [*,yw,yZ] <;> rfl),by repeat (first | (with_reducible first | exact HB.out | apply yI | apply yg | apply yj | refine qB ?_ Yk.out | refine qB ?_ YR.out) | exact HB.out)⟩
end Go.Proofs.YtggifbbiiickmaaGreatDoor.PX
namespace Go.Proofs.YtggifbbiiickmaaGreatDoor
open Go.RowKit Go.Proofs.zk.zm Go.Proofs.zk.yK Go.Proofs.zk.yc Go.Proofs.YtggifbbiiickmaaGreatDoor.PX
set_option linter.unusedSimpArgs false
set_option linter.unusedVariables false
theorem Px (l:List yM) (f s:Int) (n:ByteArray) (r:List ByteArray):(jy l f s false (n :: r)).1 = (jC l f s false ([],[]) n).1 ++ (jy l f s false r).1:=by
 have h:=zxT l f s [n] r
 rw [List.singleton_append] at h
 rw [h];rfl
theorem Pj (l:List yM) (f s1 s2:Int) (hf0:0 ≤ f) (hf1:f < (l.length:Int)) (hv:∀ x ∈ l,qK x = true) (h1:1 ≤ s2) (h2:s2 ≤ 1000):∀ ns:List ByteArray,(jy l f s1 false ns).1.map (YM l s2) = (jy l f s2 false ns).1 ∧ ∀ b ∈ (jy l f s1 false ns).1,ko l s2 b = false
 | []=>⟨rfl,fun b hb=>by cases hb⟩
 | n :: r=>by
  obtain ⟨i1,i2⟩:=Pj l f s1 s2 hf0 hf1 hv h1 h2 r
  rw [Px,Px,List.map_append,i1]
  unfold jC
  by_cases h:vT l f n < 0
  ·rw [if_pos h,if_pos h]
   exact ⟨rfl,fun b hb=>i2 b (by simpa using hb)⟩
  ·rw [if_neg h,if_neg h,Yp,Yp]
   have hlt:=VO (l:=l) n hf0 hf1
   have hh:=WO (l:=l) (f:=f) (n:=n) (by omega)
   generalize vT l f n = a at h hlt hh ⊢
   have ha0:0 ≤ a:=by omega
   have ha1:a < (l.length:Int):=by omega
   refine ⟨rfl,fun b hb=>?_⟩
   rcases List.mem_append.1 hb with hb | hb
   ·have hb2:b = YH (jB (qY l a) n s1).1 a s1 n:=by simpa using hb
    subst hb2
    have hk:=zxL (n:=n) (wX hv ha0 ha1) h1 h2 hh
    unfold ko
    have e1:(YH (jB (qY l a) n s1).1 a s1 n).f2 = a:=rfl
    have e2:Yf l s2 (YH (jB (qY l a) n s1).1 a s1 n) = jB (qY l a) n s2:=rfl
    rw [e1,e2,hk,decide_eq_false (by omega:¬ a < 0),decide_eq_false (by omega:¬ (l.length:Int) ≤ a)]
    rfl
   ·exact i2 b hb
theorem Vn (l:List yM) (f s:Int) (x:List ByteArray) (hf0:0 ≤ f) (hf1:f < (l.length:Int)) (h1:1 ≤ s) (h2:s ≤ 1000) (hx:x.length ≤ 2000):Ya l f s x [] = ((l.any fun y=>!qK y) || x.any wT):=by
 rw [QW]
 have e1:jl l.length f s = false:=by
  unfold jl
  rw [decide_eq_false (by omega:¬ f < 0),decide_eq_false (by omega:¬ (l.length:Int) ≤ f),decide_eq_false (by omega:¬ s < 1),decide_eq_false (by omega:¬ 1000 < s)];rfl
 rw [e1,decide_eq_false (by omega:¬ 2000 < x.length),decide_eq_false (by simp:¬ 100 < ([]:List kZ).length)]
 simp
theorem zyD (bs:List vH) (h1:bs.length ≤ 1000000) (h2:∀ b ∈ bs,b.f6 = []):zze bs jm = true:=by
 unfold zze
 have h3:(decide (jm.length ≤ 1000000) && jm.all (fun x=>decide (x.f3.length ≤ 1000000) && (decide (x.f4.length ≤ 1000000) && decide (x.f5.length ≤ 1000000)))) = true:=by decide +kernel
 have h4:(bs.all (fun b=>decide (b.f6.length ≤ 1000000))) = true:=List.all_eq_true.2 fun b hb=>by rw [h2 b hb];rfl
 rw [h3,h4,decide_eq_true h1];rfl
theorem zv1 (s:Int) (h1:1 ≤ s) (h2:s ≤ 1000):Yr jm s = false:=by
 unfold Yr
 have h3:(jm.any fun x=>!qK x) = false:=List.any_eq_false.2 fun x hx=>by rw [WM x hx];simp
 rw [h3,decide_eq_false (by omega:¬ s < 1),decide_eq_false (by omega:¬ 1000 < s)];rfl
theorem zyE (a:Int) (h0:0 ≤ a) (h1:a ≤ 255):∃ i:Nat,i < 5 ∧ wrap64 (a.tmod 5) = (i:Int):=by
 rw [Int.tmod_eq_emod_of_nonneg h0]
 have e0:=Int.emod_nonneg a (by decide:(5:Int) ≠ 0)
 have e1:=Int.emod_lt_of_pos a (by decide:(0:Int) < 5)
 generalize a % 5 = r at e0 e1
 exact ⟨r.toNat,by omega,by rw [ji (by omega) (by omega)];omega⟩
theorem zjf (t:ByteArray) (a1 a2 a3:Int) (h10:0 ≤ a1) (h11:a1 ≤ 255) (h20:0 ≤ a2) (h21:a2 ≤ 255) (h30:0 ≤ a3) (h31:a3 ≤ 255):Ev (fun k=>zX.f k t a1 a2 a3) true:=by
 by_cases hs:(t.size:Int) > 200
 ·exact Ev.congr (fun k=>by rw [zX.f]) (xH hs (Yl mV (Ev.now _)))
 ·obtain ⟨i,hi,ei⟩:=zyE a3 h30 h31
  have w1:wrap64 (1 + wrap64 a1) = 1 + a1:=by
   have e:wrap64 a1 = a1:=ji (by omega) (by omega)
   rw [e];exact ji (by omega) (by omega)
  have w2:wrap64 (1 + wrap64 a2) = 1 + a2:=by
   have e:wrap64 a2 = a2:=ji (by omega) (by omega)
   rw [e];exact ji (by omega) (by omega)
  have hcl:=Qe t
  have q1:(jZ t).length ≤ 2000:=by omega
  have q2:1 ≤ 1 + a1:=by omega
  have q3:1 + a1 ≤ 1000:=by omega
  have q4:1 ≤ 1 + a2:=by omega
  have q5:1 + a2 ≤ 1000:=by omega
  have q6:(0:Int) ≤ (i:Int):=Int.natCast_nonneg _
  have q7:(i:Int) < (jm.length:Int):=by rw [KF];omega
  generalize h1e:1 + a1 = s1 at w1 q2 q3
  generalize h2e:1 + a2 = s2 at w2 q4 q5
  have hc:=zxI t (by omega)
  have hb1:=rO jm (i:Int) s1 false false (jZ t) [] rM (by rw [KF];decide) (by omega) (Nat.zero_le _)
  have hb2:=rO jm (i:Int) s2 false false (jZ t) [] rM (by rw [KF];decide) (by omega) (Nat.zero_le _)
  unfold UE at hb1 hb2
  rw [nJ] at hb1 hb2
  rw [Vn jm _ _ _ q6 q7 q2 q3 q1] at hb1
  rw [Vn jm _ _ _ q6 q7 q4 q5 q1] at hb2
  refine Ev.congr (fun k=>by rw [zX.f,ei,w1,w2]) (Z7 hs (Yl (x:=yJ.f) rfl (Ev.bind hc (Yl hb1 ?_))))
  generalize ((jm.any fun y=>!qK y) || (jZ t).any wT) = rf at hb1 hb2 ⊢
  cases rf with
  | true =>
   rw [if_pos rfl]
   exact Z7 (by decide) (Yl mV (Ev.now _))
  | false =>
   rw [if_neg Bool.false_ne_true] at hb2 ⊢
   have l1:=mK jm (i:Int) s1 false (jZ t)
   have l2:=mK jm (i:Int) s2 false (jZ t)
   have f1:=zqi jm (i:Int) s1 false (jZ t) q6 q7
   have f2:=zqi jm (i:Int) s2 false (jZ t) q6 q7
   obtain ⟨m1,m2⟩:=Pj jm (i:Int) s1 s2 q6 q7 WM q4 q5 (jZ t)
   generalize jy jm (i:Int) s1 false (jZ t) = R1 at hb1 l1 f1 m1 m2 ⊢
   generalize jy jm (i:Int) s2 false (jZ t) = R2 at hb2 l2 f2 m1
   have hsh:xU.f R1.1 s2 jm = some (R2.1,0):=by
    unfold xU.f
    rw [if_pos (zyD R1.1 (by omega) f1)]
    unfold mg
    rw [zv1 s2 q4 q5,if_neg Bool.false_ne_true,if_neg (by rw [List.any_eq_false.2 (fun b hb=>by rw [m2 b hb];simp)];simp),m1]
   have hsame:=zqh R2.1 (by omega) (fun b hb=>by rw [f2 b hb];exact Nat.zero_le _)
   refine xH rfl (Yl (x:=yJ.f) rfl (Yl hsh (Yl (x:=yJ.f) rfl (Ev.bind hc (Yl hb2 (xH rfl (xH rfl (Ev.bind hsame (xH rfl (Yl mV (Ev.now _)))))))))))
theorem nV (t:ByteArray) (a1 a2 a3:Int) (w:World) (hG:GW w) (h10:0 ≤ a1) (h11:a1 ≤ 255) (h20:0 ≤ a2) (h21:a2 ≤ 255) (h30:0 ≤ a3) (h31:a3 ≤ 255):Calls Tryz.prog 8 #[.agg #[.string t,.int .u8 a1,.int .u8 a2,.int .u8 a3]] w fun e w'=>e = .returned (.bool true) ∧ Below w.heap.size w w':=by
 obtain ⟨k,hk⟩:=(zjf t a1 a2 a3 h10 h11 h20 h21 h30 h31).rounds
 exact zX.calls k t a1 a2 a3 true w hG hk
end Go.Proofs.YtggifbbiiickmaaGreatDoor
namespace Go.Proofs.YtggifbbiiickmaaGreatDoor
open Go.ChangeShapes Go.WideShapes Go.RowKit Go.Deep Go.Proofs.zk.zm
section
variable {H:Type} {enc:TypeId × Value → H} {P:Program} {w:World} {sp:Nat → Bool} {held:Bool} {α:Type}
end
end Go.Proofs.YtggifbbiiickmaaGreatDoor
namespace Go.Proofs.YtggifbbiiickmaaGreatDoor
open Go.ChangeShapes Go.WideShapes Go.RowKit Go.Deep Go.Proofs.zk.zm Go.Proofs.YtggifbbiiickmaaGreatDoor.PX
set_option linter.unusedSimpArgs false
set_option linter.unusedVariables false
section
variable {H:Type} {enc:TypeId × Value → H} {w:World} {sp:Nat → Bool} {held:Bool}
theorem zzu {n:Int} (h:(Lit.int .u8 n).wf = true):0 ≤ n ∧ n ≤ 255:=by
 simp only [Lit.wf,Bool.and_eq_true,decide_eq_true_eq] at h
 exact h
set_option maxRecDepth 100000 in
theorem zzA {r:Reach} {b0:Nat} {v:Value} {d0:DataW H} {ps:List MemPlace}
  (hval:Value.okWide Tryz.prog w r b0 69 v) (h:DataW.Trod enc Tryz.prog w 0 sp held 69 v d0 ps) :
  ∃ (s:ByteArray) (a b c:Int),v = .agg #[.string s,.int .u8 a,.int .u8 b,.int .u8 c] ∧ (0 ≤ a ∧ a ≤ 255) ∧ (0 ≤ b ∧ b ≤ 255) ∧ (0 ≤ c ∧ c ≤ 255):=by
 obtain ⟨cs,rfl,hsz⟩:=okWide_struct Tryz.underlying69 hval
 obtain ⟨fuel,hf0⟩:=h
 obtain ⟨xs,k,hk,hxy,hcl,hxl,hf⟩:=DataW.trod_struct Tryz.underlying69 hf0
 have c50:Tryz.prog.cellsOf 69 = 4:=by kernel_rfl
 have c3:Tryz.prog.cellsOf 9 = 1:=by kernel_rfl
 have c4:Tryz.prog.cellsOf 5 = 1:=by kernel_rfl
 have hcs:(Value.agg cs).cells.toList = cs.toList:=by simp [Value.cells]
 rw [hcs] at hf hcl
 rw [c50] at hcl
 have hcc:cs = ⟨cs.toList⟩:=rfl
 generalize cs.toList = L at hf hcl hcc
 subst hcc
 match xs,hxl,L,hcl with
 | [z0,z1,z2,z3],_,[v0,v1,v2,v3],_ =>
  have f0:=hf 0 _ rfl
  have f1:=hf 1 _ rfl
  have f2:=hf 2 _ rfl
  have f3:=hf 3 _ rfl
  simp [c3,c4] at f0 f1 f2 f3
  obtain ⟨n0,e0,_⟩:=DataW.trod_string Tryz.underlying9 f0
  obtain ⟨n1,e1,_,b1⟩:=DataW.trod_int Tryz.underlying5 f1
  obtain ⟨n2,e2,_,b2⟩:=DataW.trod_int Tryz.underlying5 f2
  obtain ⟨n3,e3,_,b3⟩:=DataW.trod_int Tryz.underlying5 f3
  cases e0;cases e1;cases e2;cases e3
  exact ⟨n0,n1,n2,n3,rfl,zzu b1,zzu b2,zzu b3⟩
end
end Go.Proofs.YtggifbbiiickmaaGreatDoor
namespace Go.Proofs.YtggifbbiiickmaaGreatDoor
open Go.RowKit Go.ChangeShapes Go.WideShapes Go.Proofs.zk.zm
theorem Qp {P:Program} {w:World} {l:List (String × DataW Unit)} {n nm:String} {d:DataW Unit} {g:Nat} {t:TypeId} {ms:Array (String × TypeId)} (h:laidMet P l w) (hm:(n,.iface nm d) ∈ l)
  (hg:P.globalNamed n = some g) (ht:(P.globals[g]?).map (·.type) = some t) (hu:P.underlying t = some (.interface ms)):∃ tp p,w.var? P n = some #[.iface tp p]:=by
 obtain ⟨g',t',cs,fuel,p,e1,e2,e3,e4⟩:=Lib.laidMet.reads h hm
 obtain rfl:g' = g:=Option.some.inj (e1.symm.trans hg)
 obtain rfl:t' = t:=Option.some.inj (e2.symm.trans ht)
 cases fuel with
 | zero=>simp [DataW.trod] at e4
 | succ k =>
  unfold DataW.trod at e4
  rw [hu] at e4
  obtain ⟨cl⟩:=cs
  rw [e3]
  match cl,e4 with
  | [],e4=>simp at e4
  | [v],e4 =>
   cases v <;> simp at e4
   exact ⟨_,_,rfl⟩
  | _ :: _ :: _,e4=>simp at e4
theorem zZo {W:World} {l:List (String × DataW Unit)} {ds:DataW Unit} {dr:DataW Unit} {n1 n2:String} (h:laidMet Tryz.prog l W) (hsh:W.ShapedOpen Tryz.prog) (h1:("internal/strconv.uint64pow10",Lib.tabData .u64 Lib.pow10Tab) ∈ l) (h2:("strconv.ErrSyntax",.iface n1 ds) ∈ l) (h3:("strconv.ErrRange",.iface n2 dr) ∈ l) (h4:("strings.asciiSpace",Lib.tabData .u8 Lib.asciiSpaceTab) ∈ l):GW W:=by
 have htab:Lib.TabIs Tryz.prog W "internal/strconv.uint64pow10" .u64 Lib.pow10Tab:=Ql (g:=7) (t:=270) (e:=214) (n:=20) (by kernel_rfl) (by kernel_rfl) Tryz.underlying270 Tryz.underlying214 (by kernel_rfl) (by kernel_rfl) h h1
 have zX0:Lib.TabIs Tryz.prog W "strings.asciiSpace" .u8 Lib.asciiSpaceTab:=Ql (g:=0) (t:=169) (e:=5) (n:=256) (by kernel_rfl) (by kernel_rfl) Tryz.underlying169 Tryz.underlying5 (by kernel_rfl) (by kernel_rfl) h h4
 refine ⟨htab,Qp (g:=3) h h2 (by kernel_rfl) (t:=133) (by kernel_rfl) Tryz.underlying133,Qp (g:=4) h h3 (by kernel_rfl) (t:=133) (by kernel_rfl) Tryz.underlying133,zX0,
  cell_of_shapedOpen_int (t:=3) (zero:=#[.int .i64 0]) hsh (of_decide_eq_true (by kernel_rfl)) (by kernel_rfl) rfl (by kernel_rfl) (by kernel_rfl) Tryz.underlying3,?_⟩
 obtain ⟨o,_,h4,_⟩:=hsh.2 11 (of_decide_eq_true (by kernel_rfl)) (of_decide_eq_true (by kernel_rfl))
 rcases Nat.lt_or_ge 11 W.heap.size with h5 | h5
 ·omega
 ·rw [Array.getElem?_eq_none h5] at h4;cases h4
end Go.Proofs.YtggifbbiiickmaaGreatDoor
