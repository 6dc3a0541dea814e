/-
  Texts that lean on one another, laid in one file. No condition.
-/
import Derived.Test.YtggifbbiiickmaaGreatDoorGSH3
import Derived.Deep.DeepCutAuto
import Derived.WalkLawsBesides
import Derived.RangeFuncNested
import Derived.RangeFuncBound
import Derived.RangeFuncCalls
import Derived.RangeFuncLeaves
import Derived.RangeFuncBox
import Derived.OwnWalkIn
import Derived.TacticsInMore
import Derived.LoopNIn
import Derived.LoopIn
import Derived.WalkKit
import Derived.WalkSpells
import Derived.WideLaws
import Derived.Test.YtggifbbiiickmaaGreatDoorGSH1
import Derived.Maps.Own
import Derived.Maps.OwnOps
import Derived.Maps.Views
import Derived.Maps.StringElems
import Derived.StringKeys
import Derived.RangeFuncRecord
import Derived.Deep.CutBlock
import Derived.Test.YtggifbbiiickmaaGreatDoorGSH2
import Derived.Shelf.SlSortCmp.WholeK
import Derived.Ground.SlsfProg
import Derived.Sort.OwnSortedInts
import Derived.Laws.Runes
import Derived.ChangeAlike
namespace Go.Proofs.YtggifbbiiickmaaGreatDoor
open Go.RowKit Go.Proofs.zk.za Go.Proofs.zk.zS Go.Proofs.zk.zR Go.Proofs.YtggifbbiiickmaaGreatDoor.PX
set_option linter.unusedSimpArgs false
set_option linter.unusedVariables false
def dH (base g:Nat) (W:World) (Af:Option Addr) (cf:Nat) (l:List y8) (f s:Int) (yE yw:Bool) (vo vl:Value) (st:List jR × List ByteArray):Prop :=
 W.heap[g]? = some (.cells #[.slice Af l.length cf,.int .i64 f,.int .i64 s,.bool yE,.bool yw,vo,vl] 90 (0,0)) ∧ Kd.R (Kd.bare uj) 53 W base (fun _=>True) vo st.1 ∧ Kd.R Kd.string 9 W base (fun _=>True) vl st.2
def Wj (base g:Nat) (W:World) (Af:Option Addr) (cf:Nat) (l:List y8) (f s:Int) (yE yw:Bool) (st:List jR × List ByteArray):Prop:=∃ vo vl,dH base g W Af cf l f s yE yw vo vl st
section
variable {base g:Nat} {W:World} {Af:Option Addr} {cf:Nat} {l:List y8} {f s:Int} {yE yw:Bool} {vo vl:Value} {st:List jR × List ByteArray}
theorem dH.below {W':World} (h:dH base g W Af cf l f s yE yw vo vl st) (hb:Below W.heap.size W W'):dH base g W' Af cf l f s yE yw vo vl st:=⟨zM h.1 hb,Kd.ku h.2.1 hb,Kd.ku h.2.2 hb⟩
theorem zZD {α β:Type} {d:Kd α} {e:TypeId} {dx:Kd β} {ex:TypeId} {W W':World} {v vx:Value} {xs:List α} {ys:List β} (h:d.R e W base (fun _=>True) v xs) (hx:dx.R ex W base (fun _=>True) vx ys) (hg:W.grownBy W' vx.ownBlock) (hE:∀ q,q ∈ e :: d.E → q ≠ ex):d.R e W' base (fun _=>True) v xs:=by
 obtain ⟨inn,hown⟩:=Kd.cO hx
 exact Kd.qO (Kd.lg (Kd.qO (Kd.pY h) (ok':=fun k=>some k ≠ vx.ownBlock) (fun k hk e=>by
  obtain ⟨_,_,_,p,hp,cs,hc⟩:=hk
  obtain ⟨cs',hc'⟩:=QS hown k e.symm
  rw [hc] at hc'
  injection hc' with hc'
  injection hc' with _ hc'
  exact absurd hc' (hE p hp))) hg (fun k hk=>hk)) (ok':=fun _=>True) (fun _ _=>trivial)
theorem zeV (x:Int) (W:World) (b:Nat) (ok:Nat → Prop):(Kd.bare uj).M W b ok (iX x) [.int .i64 2,.int .i64 x,.int .i64 0,.int .i64 0,.string ⟨#[]⟩,.string ⟨#[]⟩,.slice none 0 0]:=Q6 _ _ (fun _=>False) (iX x) (Kd.jC _ _ _ _ _)
theorem zeK (x f s:Int) (n:ByteArray) (W:World) (b:Nat) (ok:Nat → Prop):(Kd.bare uj).M W b ok (zjJ x f s n) [.int .i64 0,.int .i64 x,.int .i64 f,.int .i64 s,.string n,.string ⟨#[]⟩,.slice none 0 0]:=Q6 _ _ (fun _=>False) (zjJ x f s n) (Kd.jC _ _ _ _ _)
theorem zZE {W1 W2:World} {Ao:Option Addr} {co:Nat} {out:List jR} (h:dH base g W Af cf l f s yE yw vo vl st) (hW:Below W.heap.size W W1) (hg:W1.grownBy W2 vo.ownBlock) (ho:Kd.R (Kd.bare uj) 53 W2 base (fun _=>True) (.slice Ao out.length co) out) (hb:base ≤ W.heap.size) :
  Wj base g (W2.setCell ⟨g,5,none⟩ (.slice Ao out.length co)) Af cf l f s yE yw (out,st.2) ∧ uO base g W (W2.setCell ⟨g,5,none⟩ (.slice Ao out.length co)) ∧ W2.cell? ⟨g,5,none⟩ = some vo ∧ W2.frozen? ⟨g,5,none⟩ = false ∧ W2.heap[g]? = some (.cells #[.slice Af l.length cf,.int .i64 f,.int .i64 s,.bool yE,.bool yw,vo,vl] 90 (0,0)):=by
 obtain ⟨h0,hO,hL⟩:=h.below hW
 have hb1:=Nat.le_trans hb hW.size
 have B2:=uK h0 hg (Kd.Qu hO h0 (by decide))
 obtain ⟨inn,hown⟩:=Kd.cO hO
 have L2:=zZD hL hO hg (by decide)
 refine ⟨⟨_,vl,qz (cs':=#[.slice Af l.length cf,.int .i64 f,.int .i64 s,.bool yE,.bool yw,.slice Ao out.length co,vl]) B2 5 (.slice Ao out.length co) rfl,Kd.Xl ho B2 (by decide) 5 _,Kd.Xl L2 B2 (by decide) 5 _⟩,
  ((uO.below (B:=g) hW hb).trans (uO.grown (B:=g) hown hg hb1)).trans (uO.set B2 5 _),(zX B2 5).trans rfl,zw B2 5,B2⟩
theorem zYD {W1 W2:World} {Ao:Option Addr} {co:Nat} {lost:List ByteArray} (h:dH base g W Af cf l f s yE yw vo vl st) (hW:Below W.heap.size W W1) (hg:W1.grownBy W2 vl.ownBlock) (ho:Kd.R Kd.string 9 W2 base (fun _=>True) (.slice Ao lost.length co) lost) (hb:base ≤ W.heap.size) :
  Wj base g (W2.setCell ⟨g,6,none⟩ (.slice Ao lost.length co)) Af cf l f s yE yw (st.1,lost) ∧ uO base g W (W2.setCell ⟨g,6,none⟩ (.slice Ao lost.length co)) ∧ W2.cell? ⟨g,6,none⟩ = some vl ∧ W2.frozen? ⟨g,6,none⟩ = false ∧ W2.heap[g]? = some (.cells #[.slice Af l.length cf,.int .i64 f,.int .i64 s,.bool yE,.bool yw,vo,vl] 90 (0,0)):=by
 obtain ⟨h0,hO,hL⟩:=h.below hW
 have hb1:=Nat.le_trans hb hW.size
 have B2:=uK h0 hg (Kd.Qu hL h0 (by decide))
 obtain ⟨inn,hown⟩:=Kd.cO hL
 have L2:=zZD hO hL hg (by decide)
 refine ⟨⟨vo,_,qz (cs':=#[.slice Af l.length cf,.int .i64 f,.int .i64 s,.bool yE,.bool yw,vo,.slice Ao lost.length co]) B2 6 (.slice Ao lost.length co) rfl,Kd.Xl L2 B2 (by decide) 6 _,Kd.Xl ho B2 (by decide) 6 _⟩,
  ((uO.below (B:=g) hW hb).trans (uO.grown (B:=g) hown hg hb1)).trans (uO.set B2 6 _),(zX B2 6).trans rfl,zw B2 6,B2⟩
end
def put.T5:Bool × List (List Nat × List Nat):=(true,[([],[]),([0],[0]),([1],[1]),([2],[2]),([],[]),([3,4],[3,4]),([5],[5]),([],[]),([7],[7]),([8],[8]),([9],[9]),([],[]),([11],[11]),([10,12],[10,12]),([13],[13]),([14],[14]),([],[]),([],[]),([17],[17]),([18],[18]),([19],[19]),([20],[20]),([6,15,16,21],[6,15,16,21]),([22],[22]),([23],[23]),([23],[23]),([24,22,0,1,2,3,4,5,6,7,8,9,10,11,12,13,14,15,16,17,18,19,20,21,22,23,24],[24]),([25,26,0,1,2,3,4,5,6,7,8,9,10,11,12,13,14,15,16,17,18,19,20,21,22,23,24,25,26],[25])])
def put.B5:List Nat:=[0,1,3,7,0,31,63,0,128,384,896,0,2048,8064,16256,32640,0,0,131072,393216,917504,1966080,4194303,8388607,16777215,16777215,33554431,134217727]
theorem put.zkH:vZ .any (opsOf Tryz.f46 5) = put.T5:=by kernel_rfl
theorem put.zJk:vW put.T5.2 put.B5 = true:=by kernel_rfl
def put.T8:Bool × List (List Nat × List Nat):=(true,[([],[]),([0],[0]),([1],[1]),([2],[2]),([],[]),([3,4],[3,4]),([5],[5]),([],[]),([],[]),([8],[8]),([9],[9]),([10],[10]),([11],[11]),([6,7,12],[6,7,12]),([13],[13]),([14],[14]),([14],[14]),([15,13,0,1,2,3,4,5,6,7,8,9,10,11,12,13,14,15],[15]),([16,17,0,1,2,3,4,5,6,7,8,9,10,11,12,13,14,15,16,17],[16])])
def put.B8:List Nat:=[0,1,3,7,0,31,63,0,0,256,768,1792,3840,8191,16383,32767,32767,65535,262143]
theorem put.zia:vZ .any (opsOf Tryz.f46 8) = put.T8:=by kernel_rfl
theorem put.zgk:vW put.T8.2 put.B8 = true:=by kernel_rfl
def put.T9:Bool × List (List Nat × List Nat):=(true,[([],[]),([],[]),([1],[1]),([2],[2]),([3],[3]),([],[]),([],[]),([],[]),([7],[7]),([8],[8]),([9],[9]),([10],[10]),([],[]),([5,6,11,12],[5,6,11,12]),([13],[13]),([4,14],[4,14]),([0,0,1,2,3,4,5,6,7,8,9,10,11,12,13,14,15],[0]),([16,0,1,2,3,4,5,6,7,8,9,10,11,12,13,14,15],[16]),([17,15,15,0,1,2,3,4,5,6,7,8,9,10,11,12,13,14,15],[15,17])])
def put.B9:List Nat:=[0,0,2,6,14,0,0,0,128,384,896,1920,0,8160,16352,32766,65535,131071,262143]
theorem put.gV:vZ .any (opsOf Tryz.f46 9) = put.T9:=by kernel_rfl
theorem put.Wx:vW put.T9.2 put.B9 = true:=by kernel_rfl
set_option maxRecDepth 100000 in
set_option maxHeartbeats 8000000 in
theorem zeY (w0:World) (base g:Nat) (Af:Option Addr) (cf:Nat) (l:List y8) (f s:Int) (yE yw:Bool) (st:List jR × List ByteArray) (n:ByteArray) (w:World) (hG:GW w0) (hC:Kd.C kP w0 Af l.length l) (hl:l.length ≤ 1000000000) (hf0:0 ≤ f) (hf1:f < (l.length:Int)) (hv:∀ x ∈ l,xu x = true) (hgb:g < base) (hb:base ≤ w.heap.size) (hg0:w0.heap.size ≤ g) (hw:Below w0.heap.size w0 w) (hlo:st.1.length ≤ 1000000) (hll:st.2.length ≤ 1000000) (vo vl:Value) (hS:dH base g w Af cf l f s yE yw vo vl st) (ha:pq l f n < 0) :
  Calls Tryz.prog 46 #[.pointer (some ⟨g,0,none⟩),.string n] w fun e w'=>(∃ v,e = .returned v) ∧ Wj base g w' Af cf l f s yE yw (st.1,st.2 ++ [n]) ∧ uO base g w w':=by
 have hhome:=zyb w0 g Af cf l f s yE yw vo vl n w hG hC hl hf0 hf1 hv hw hS.1
 generalize pq l f n = a at hhome ha
 have d0:decide (a < 0) = true:=decide_eq_true ha
 have HS:=zx.mk hS
 clear hS hv hC hG hw
 go_enter Tryz.func46,Tryz.ntmps46
 go_wp2_with (first | (go_at_call 105;refine hhome.mono ?_;rintro e w1 ⟨rfl,hb1⟩;have S1:=HS.out.below hb1;have k6:w1.cell? ⟨g,6,none⟩ = some vl:=(zX S1.1 6).trans rfl;have HS1:=zx.mk S1;have HB1:=zx.mk hb1;clear S1 hb1) | ((with_reducible refine jG (b:=.append) (xs:=#[.tmp 19,.tmp 21]) rfl ?_);at_builtin;refine Kd.zzd Kd.string (w0:=w1) base rfl (.tmp 19) (.tmp 21) 27 9 (.string ⟨#[]⟩) 16 rfl Tryz.underlying27 zfi rfl (by decide) (by omega) vl st.2 n [.string n] (fun _=>True) (fun _=>False) rfl rfl ?aP (fun _ hk=>hk.elim) ?aF ?aO ?aB ?aS ?aL ?_;(case aP=>exact rfl);(case aF=>exact fun _ _=>trivial);(case aO=>exact HS1.out.2.2);(case aB=>exact Below.refl _ _);(case aS=>exact Nat.le_trans hb HB1.out.size);(case aL=>omega);intro v1 w2 ho hbw hg hat;obtain ⟨Ao,co,rfl⟩:=Kd.xA ho;have hp:=zYD HS1.out (Below.refl _ _) hg ho (Nat.le_trans hb HB1.out.size);obtain ⟨p1,p2,k7,z7,B7⟩:=hp;have P1:=zx.mk p1;have P2:=zx.mk p2;clear p1 p2 B7 ho hbw hg hat k6;generalize hnn:(st.2 ++ [n]).length = nn at P1 P2 ⊢))
 refine bodyPost_ret (results_none rfl _ _ _) rfl ?_
 exact ⟨⟨_,rfl⟩,P1.out,(uO.below HB1.out hb).trans P2.out⟩
set_option maxRecDepth 100000 in
set_option maxHeartbeats 16000000 in
theorem zb0 (w0:World) (base g:Nat) (Af:Option Addr) (cf:Nat) (l:List y8) (f s:Int) (yE yw:Bool) (st:List jR × List ByteArray) (n:ByteArray) (w:World) (hG:GW w0) (hC:Kd.C kP w0 Af l.length l) (hl:l.length ≤ 1000000000) (hf0:0 ≤ f) (hf1:f < (l.length:Int)) (hv:∀ x ∈ l,xu x = true) (hgb:g < base) (hb:base ≤ w.heap.size) (hg0:w0.heap.size ≤ g) (hw:Below w0.heap.size w0 w) (hlo:st.1.length ≤ 1000000) (hll:st.2.length ≤ 1000000) (vo vl:Value) (hS:dH base g w Af cf l f s yE yw vo vl st) (ha:0 ≤ pq l f n) (hs0:1 ≤ s) (hs1:s ≤ 1000) :
  Calls Tryz.prog 46 #[.pointer (some ⟨g,0,none⟩),.string n] w fun e w'=>(∃ v,e = .returned v) ∧ Wj base g w' Af cf l f s yE yw (st.1 ++ WM l s yw st.1 (pq l f n) n ++ [zjJ (YB (vS l (pq l f n)) n s).1 (pq l f n) s n],st.2) ∧ uO base g w w':=by
 have hhome:=zyb w0 g Af cf l f s yE yw vo vl n w hG hC hl hf0 hf1 hv hw hS.1
 have hlt:=zYA n hf0 hf1
 generalize pq l f n = a at hhome ha hlt ⊢
 have ha1:a < (l.length:Int):=by omega
 have d0:decide (a < 0) = false:=decide_eq_false (by omega)
 clear hlt
 have hx:=Xe hv ha ha1
 have hz:=XG hx
 obtain ⟨ad,A3,c3,A4,c4,A5,c5,e,x0,x1,x2,x3,x4,x5,g3,q3,g4,q4,g5,q5⟩:=jw hC a ha (by omega)
 subst e
 have e:zV l a = vS l a:=rfl
 rw [e] at x0 x1 x2 x3 x4 x5 g3 q3 g4 q4 g5 q5
 clear e
 have hnil:st.1 = [] → WM l s yw st.1 a n = []:=fun h=>by unfold WM;rw [h];rfl
 have hlast:∀ b,st.1.getLast? = some b → WM l s yw st.1 a n = if yw && decide (b.f2 = a) then (if (WL (vS l a) b.f4 n s).1 = 0 then [] else [iX (WL (vS l a) b.f4 n s).1]) else []:=fun b h=>by unfold WM;rw [h]
 generalize WM l s yw st.1 a n = kb at hnil hlast ⊢
 generalize vS l a = x at x0 x1 x2 x3 x4 x5 g3 q3 g4 q4 g5 q5 hx hz hlast ⊢
 obtain ⟨Ao,co,evo⟩:=Kd.xA hS.2.1
 subst evo
 obtain ⟨cb,hcb⟩:∃ cb:Bool,cb = (match st.1.getLast? with | none=>false | some b=>yw && decide (b.f2 = a)):=⟨_,rfl⟩
 have zW4:∀ (m:ByteArray) (W:World),Below w0.heap.size w0 W → Calls Tryz.prog 21 #[.agg #[.string x.f0,.bool x.f1,.int .i64 x.f2,.slice A3 x.f3.length c3,.slice A4 x.f4.length c4,.slice A5 x.f5.length c5],.string m,.string n,.int .i64 s] W fun e w'=>e = .returned (.tuple #[.int .i64 (WL x m n s).1,.int .i64 (WL x m n s).2]) ∧ Below W.heap.size W w':=fun m W h =>
  zyN x.f0 x.f1 x.f2 A3 c3 x.f3 A4 c4 x.f4 A5 c5 x.f5 m n s W (hG.under h) (Kd.zh q3 h) g3 (Kd.zh q4 h) g4 (Kd.zh q5 h) g5 (by omega) (by omega) (by omega)
 have hwide:∀ (W:World),Below w0.heap.size w0 W → Calls Tryz.prog 22 #[.agg #[.string x.f0,.bool x.f1,.int .i64 x.f2,.slice A3 x.f3.length c3,.slice A4 x.f4.length c4,.slice A5 x.f5.length c5],.string n,.int .i64 s] W fun e w'=>e = .returned (.tuple #[.int .i64 (YB x n s).1,.int .i64 (YB x n s).2]) ∧ Below W.heap.size W w':=fun W h =>
  Xu.calls x.f0 x.f1 x.f2 A3 c3 x.f3 A4 c4 x.f4 A5 c5 x.f5 n s _ _ W (Kd.zh q3 h) g3 (Kd.zh q4 h) g4 (Kd.zh q5 h) g5 (hG.under h) (zV7 x.f0 x.f1 x.f2 x.f3 x.f4 x.f5 n s (by omega) (by omega) (by omega))
 have zW5:∀ (W:World),Below w0.heap.size w0 W → W.cell? (ad.add (a.toNat * 6)) = some (.string x.f0) ∧ W.cell? ⟨(ad.add (a.toNat * 6)).block,(ad.add (a.toNat * 6)).off + 1,none⟩ = some (.bool x.f1) ∧ W.cell? ⟨(ad.add (a.toNat * 6)).block,(ad.add (a.toNat * 6)).off + 2,none⟩ = some (.int .i64 x.f2) ∧ W.cell? ⟨(ad.add (a.toNat * 6)).block,(ad.add (a.toNat * 6)).off + 3,none⟩ = some (.slice A3 x.f3.length c3) ∧ W.cell? ⟨(ad.add (a.toNat * 6)).block,(ad.add (a.toNat * 6)).off + 4,none⟩ = some (.slice A4 x.f4.length c4) ∧ W.cell? ⟨(ad.add (a.toNat * 6)).block,(ad.add (a.toNat * 6)).off + 5,none⟩ = some (.slice A5 x.f5.length c5):=fun W h=>⟨(h.cell (World.block_lt_of_cell? w0 _ x0)).trans x0,(h.cell (World.block_lt_of_cell? w0 _ x1)).trans x1,(h.cell (World.block_lt_of_cell? w0 _ x2)).trans x2,(h.cell (World.block_lt_of_cell? w0 _ x3)).trans x3,(h.cell (World.block_lt_of_cell? w0 _ x4)).trans x4,(h.cell (World.block_lt_of_cell? w0 _ x5)).trans x5⟩
 have HKN:=zx.mk zW4
 have HWD:=zx.mk hwide
 have HFT:=zx.mk zW5
 have HNL:=zx.mk hnil
 have HLS:=zx.mk hlast
 have HS:=zx.mk hS
 have HW:=zx.mk hw
 have HHO:=zx.mk hhome
 have HCB:=zx.mk hcb
 clear hcb zW4 hwide zW5 hnil hlast hS hw x0 x1 x2 x3 x4 x5 q3 q4 q5 g3 g4 g5 hx hz hv hC hG hhome
 go_enter Tryz.func46,Tryz.ntmps46
 go_upto_region 4 with (go_at_call 105;refine HHO.out.mono ?_;rintro e w1 ⟨rfl,hb1⟩;have S1:=HS.out.below hb1;have k5:w1.cell? ⟨g,5,none⟩ = some (.slice Ao st.1.length co):=(zX S1.1 5).trans rfl;have k4:w1.cell? ⟨g,4,none⟩ = some (.bool yw):=(zX S1.1 4).trans rfl;have HS1:=zx.mk S1;have HB1:=zx.mk hb1;clear hb1 S1)
 have HW1:=zx.mk (HW.out.trans (HB1.out.mono HW.out.size))
 have hb1:base ≤ w1.heap.size:=Nat.le_trans hb HB1.out.size
 go_cut [51] (fun s51 wx=>s51 = .bool cb ∧ w1 = wx)
 case first =>
  cases Zk:st.1.getLast? with
  | none =>
   have hn0:st.1 = []:=List.getLast?_eq_none_iff.1 Zk
   have hz0:st.1.length = 0:=by rw [hn0];rfl
   have hcb:=HCB.out
   rw [Zk] at hcb
   subst hcb
   have i0:decide (0 < (st.1.length:Int)) = false:=decide_eq_false (by omega)
   have i00:decide (0 < st.1.length) = false:=decide_eq_false (by omega)
   clear hz0 hn0 Zk
   go_wp2_with fail
   go_meet
   exact ⟨rfl,rfl⟩
  | some b =>
   have hpos:0 < st.1.length:=by
    rcases Nat.eq_zero_or_pos st.1.length with h | h
    ·rw [List.eq_nil_of_length_eq_zero h] at Zk;cases Zk
    ·exact h
   have hget:st.1[st.1.length - 1]? = some b:=by rw [← List.getLast?_eq_getElem?];exact Zk
   obtain ⟨_,gO,CO⟩:=Kd.jE HS1.out.2.1
   obtain ⟨bd,A6,c6,e,y0,y1,y2,y3,y4,y5,y6,_,_⟩:=kQ (show Kd.C uj _ _ _ _ from CO) ((st.1.length:Int) - 1) (by omega) (by omega)
   subst e
   have e1:((st.1.length:Int) - 1).toNat = st.1.length - 1:=by omega
   have e2:zy st.1 ((st.1.length:Int) - 1) = b:=by unfold zy;rw [e1,List.getD_eq_getElem?_getD,hget];rfl
   rw [e2] at y2
   rw [e1] at y2
   have hcb:=HCB.out
   rw [Zk] at hcb
   dsimp only at hcb
   clear y0 y1 y3 y4 y5 y6 e2 CO gO hget Zk e1
   have i0:decide (0 < (st.1.length:Int)) = true:=decide_eq_true (by omega)
   have i1:(0:Int) ≤ (st.1.length:Int) - 1:=by omega
   have i11:(1:Int) ≤ (st.1.length:Int):=by omega
   have i2:(st.1.length:Int) - 1 < (st.1.length:Int):=by omega
   have i3:wrap64 ((st.1.length:Int) - 1) = (st.1.length:Int) - 1:=jA (by omega) (by omega)
   have zYE:=zx.mk hcb
   clear hcb
   cases yw with
   | false =>
    clear y2
    go_wp2_with fail
    go_meet
    exact ⟨by rw [zYE.out];rfl,rfl⟩
   | true =>
    by_cases hba:b.f2 = a
    case neg =>
     have i4:(b.f2 == a) = false:=beq_eq_false_iff_ne.2 hba
     have i5:decide (b.f2 = a) = false:=decide_eq_false hba
     have HC2:=zx.mk (show cb = false by rw [zYE.out,i5];rfl)
     clear hba
     go_wp2_with fail
     go_meet
     exact ⟨by rw [HC2.out],rfl⟩
    case pos =>
     have i4:(b.f2 == a) = true:=beq_iff_eq.2 hba
     have i5:decide (b.f2 = a) = true:=decide_eq_true hba
     have HC2:=zx.mk (show cb = true by rw [zYE.out,i5];rfl)
     clear hba
     go_wp2_with fail
     go_meet
     exact ⟨by rw [HC2.out],rfl⟩
 case rest =>
 obtain ⟨rfl,rfl⟩:=hcut
 clear k5 k4
 go_upto_if 51 with (fail)
 go_cut [5] (fun _ wx=>zx (Wj base g wx (some ad) cf l f s yE yw (st.1 ++ kb,st.2)) ∧ zx (uO base g w wx))
 case first =>
  cases cb with
  | false =>
   have hkb:kb = []:=by
    have hcb:=HCB.out
    cases Zk:st.1.getLast? with
    | none=>exact HNL.out (List.getLast?_eq_none_iff.1 Zk)
    | some b =>
     rw [Zk] at hcb
     dsimp only at hcb
     rw [HLS.out b Zk,← hcb];rfl
   subst hkb
   go_wp2_with fail
   go_meet
   exact ⟨⟨_,vl,by rw [List.append_nil];exact HS1.out⟩,⟨uO.below HB1.out hb⟩⟩
  | true =>
   obtain ⟨b,Zk⟩:∃ b,st.1.getLast? = some b:=by
    have hcb:=HCB.out
    cases Zk:st.1.getLast? with
    | none=>rw [Zk] at hcb;cases hcb
    | some b=>exact ⟨b,rfl⟩
   have hcb:=HCB.out
   rw [Zk] at hcb
   dsimp only at hcb
   have hkb:kb = if (WL x b.f4 n s).1 = 0 then [] else [iX (WL x b.f4 n s).1]:=by rw [HLS.out b Zk,← hcb];rfl
   have hpos:0 < st.1.length:=by
    rcases Nat.eq_zero_or_pos st.1.length with h | h
    ·rw [List.eq_nil_of_length_eq_zero h] at Zk;cases Zk
    ·exact h
   have hget:st.1[st.1.length - 1]? = some b:=by rw [← List.getLast?_eq_getElem?];exact Zk
   obtain ⟨_,gO,CO⟩:=Kd.jE HS1.out.2.1
   obtain ⟨bd,A6,c6,e,y0,y1,y2,y3,y4,y5,y6,_,_⟩:=kQ (show Kd.C uj _ _ _ _ from CO) ((st.1.length:Int) - 1) (by omega) (by omega)
   subst e
   have e1:((st.1.length:Int) - 1).toNat = st.1.length - 1:=by omega
   have e2:zy st.1 ((st.1.length:Int) - 1) = b:=by unfold zy;rw [e1,List.getD_eq_getElem?_getD,hget];rfl
   rw [e2] at y4
   rw [e1] at y4
   have i1:(0:Int) ≤ (st.1.length:Int) - 1:=by omega
   have i11:(1:Int) ≤ (st.1.length:Int):=by omega
   have i2:(st.1.length:Int) - 1 < (st.1.length:Int):=by omega
   have i3:wrap64 ((st.1.length:Int) - 1) = (st.1.length:Int) - 1:=jA (by omega) (by omega)
   have zeW:=zx.mk (HKN.out b.f4)
   generalize WL x b.f4 n s = kp at hkb zeW
   obtain ⟨by_,er⟩:=kp
   have HKB:=zx.mk hkb
   have HY4:=zx.mk y4
   clear hkb y0 y1 y2 y3 y4 y5 y6 e2 CO gO hget Zk e1 hcb
   go_wp2_with fail
   have ks0:w1.cell? ⟨g,0,none⟩ = some (.slice (some ad) l.length cf):=(zX HS1.out.1 0).trans rfl
   have iK:w1.cell? ⟨g,2,none⟩ = some (.int .i64 s):=(zX HS1.out.1 2).trans rfl
   have ks5:w1.cell? ⟨g,5,none⟩ = some (.slice (some bd) st.1.length co):=(zX HS1.out.1 5).trans rfl
   have kb4:=HY4.out
   have fA:=zx.mk (fun (W:World) (h:Below w1.heap.size w1 W)=>(show W.cell? ⟨g,0,none⟩ = some (.slice (some ad) l.length cf) ∧ W.cell? ⟨g,2,none⟩ = some (.int .i64 s) ∧ W.cell? ⟨g,5,none⟩ = some (.slice (some bd) st.1.length co) ∧ W.cell? ⟨(bd.add ((st.1.length - 1) * 7)).block,(bd.add ((st.1.length - 1) * 7)).off + 4,none⟩ = some (.string b.f4) ∧ (W.cell? (ad.add (a.toNat * 6)) = some (.string x.f0) ∧ W.cell? ⟨(ad.add (a.toNat * 6)).block,(ad.add (a.toNat * 6)).off + 1,none⟩ = some (.bool x.f1) ∧ W.cell? ⟨(ad.add (a.toNat * 6)).block,(ad.add (a.toNat * 6)).off + 2,none⟩ = some (.int .i64 x.f2) ∧ W.cell? ⟨(ad.add (a.toNat * 6)).block,(ad.add (a.toNat * 6)).off + 3,none⟩ = some (.slice A3 x.f3.length c3) ∧ W.cell? ⟨(ad.add (a.toNat * 6)).block,(ad.add (a.toNat * 6)).off + 4,none⟩ = some (.slice A4 x.f4.length c4) ∧ W.cell? ⟨(ad.add (a.toNat * 6)).block,(ad.add (a.toNat * 6)).off + 5,none⟩ = some (.slice A5 x.f5.length c5)) from
    ⟨(h.cell (World.block_lt_of_cell? w1 _ ks0)).trans ks0,(h.cell (World.block_lt_of_cell? w1 _ iK)).trans iK,(h.cell (World.block_lt_of_cell? w1 _ ks5)).trans ks5,(h.cell (World.block_lt_of_cell? w1 _ kb4)).trans kb4,HFT.out W (HW1.out.trans (h.mono HW1.out.size))⟩))
   clear ks0 iK ks5 kb4
   refine RW.rS (n:=28) fA put.zkH put.zJk (by kernel_rfl) rfl rfl (fun w3 H0 T U h=>?_)
   refine RW.rP 0 (some 53) T ?_
   refine RW.rP 1 (some 54) T ?_
   refine RW.rP 2 (some 55) T ?_
   refine RW.rT 3 (some 56) T U h ?_
   refine RW.rP 4 (some 57) T ?_
   refine RW.rP 5 (some 58) T ?_
   refine RW.rT 6 (some 59) T U h ?_
   refine RW.rP 7 (some 60) T ?_
   refine RW.rP 8 (some 61) T ?_
   refine RW.rP 9 (some 62) T ?_
   refine RW.rT 10 (some 63) T U h ?_
   refine RW.rP 11 (some 64) T ?_
   refine RW.rP 12 (some 65) T ?_
   refine RW.rP 13 (some 66) T ?_
   refine RW.rP 14 (some 67) T ?_
   refine RW.rT 15 (some 68) T U h ?_
   refine RW.rP 16 (some 69) T ?_
   refine RW.rP 17 (some 70) T ?_
   refine RW.rP 18 (some 71) T ?_
   refine RW.rP 19 (some 72) T ?_
   refine RW.rP 20 (some 73) T ?_
   refine RW.rT 21 (some 74) T U h ?_
   clear h
   refine RW.rC 22 (some 75) T fA H0 Tryz.func21 (zeW.out _ (HW1.out.trans (H0.out.mono HW1.out.size))) (fun w4 H4 h=>?_) (by kernel_rfl)
   refine RW.rP 23 (some 52) T ?_
   refine RW.rP 24 (some 76) T ?_
   refine RW.rP 25 (some 77) T ?_
   refine RW.rP 26 (some 6) T ?_
   refine RW.rP 27 (some 7) T ?_
   refine xE (qW T.out (by kernel_rfl)) ?_
   clear h
   have S4:=HS1.out.below H4.out
   have hb4:=Nat.le_trans hb1 H4.out.size
   have LK4:=zx.mk ((uO.below (B:=g) HB1.out hb).trans (uO.below (B:=g) H4.out hb1))
   have HS4:=zx.mk S4
   have k5:w4.cell? ⟨g,5,none⟩ = some (.slice (some bd) st.1.length co):=(zX S4.1 5).trans rfl
   clear S4
   by_cases h0:by_ = 0
   ·subst h0
    have hkb:kb = []:=by rw [HKB.out];rfl
    subst hkb
    go_wp2_with fail
    go_meet
    exact ⟨⟨_,vl,by rw [List.append_nil];exact HS4.out⟩,LK4⟩
   ·have hkb:kb = [iX by_]:=by rw [HKB.out];exact if_neg h0
    subst hkb
    have j0:(by_ != 0) = true:=by simpa using h0
    have j1:(!(by_ == 0)) = true:=by simpa using h0
    have j2:(by_ == 0) = false:=by simpa using h0
    clear h0
    go_wp2_with ((with_reducible refine jG (b:=.append) (xs:=#[.tmp 84,.tmp 87]) rfl ?_);at_builtin;refine Kd.zzd (Kd.bare uj) (w0:=w4) base rfl (.tmp 84) (.tmp 87) 34 53 (.agg #[.int .i64 0,.int .i64 0,.int .i64 0,.int .i64 0,.string ⟨#[]⟩,.string ⟨#[]⟩,.slice none 0 0]) 88 rfl Tryz.underlying34 gL rfl (by decide) (by omega) (.slice (some bd) st.1.length co) st.1 (iX by_) [.int .i64 2,.int .i64 by_,.int .i64 0,.int .i64 0,.string ⟨#[]⟩,.string ⟨#[]⟩,.slice none 0 0] (fun _=>True) (fun _=>False) rfl rfl ?aP (fun _ hk=>hk.elim) ?aF ?aO ?aB ?aS ?aL ?_;(case aP=>exact zeV _ _ _ _);(case aF=>exact fun _ _=>trivial);(case aO=>exact HS4.out.2.1);(case aB=>exact Below.refl _ _);(case aS=>exact hb4);(case aL=>omega);intro v1 w5 ho hbw hg hat;obtain ⟨Ao,co,rfl⟩:=Kd.xA ho;have hp:=zZE HS4.out (Below.refl _ _) hg ho hb4;obtain ⟨p1,p2,k7,z7,B7⟩:=hp;have P1:=zx.mk p1;have P2:=zx.mk p2;clear p1 p2 B7 ho hbw hg hat k5;generalize hnn:(st.1 ++ [iX by_]).length = nn at P1 P2 ⊢)
    go_meet
    exact ⟨P1,⟨LK4.out.trans P2.out⟩⟩
 case rest =>
  obtain ⟨HS2,HL2⟩:=hcut
  obtain ⟨vo2,vl2,S2⟩:=HS2.out
  have hkl:kb.length ≤ 1:=by
   cases Zk:st.1.getLast? with
   | none=>rw [HNL.out (List.getLast?_eq_none_iff.1 Zk)];exact Nat.zero_le _
   | some b =>
    rw [HLS.out b Zk]
    repeat' split
    all_goals first | exact Nat.zero_le _ | exact Nat.le_refl _
  have hw2:Below w0.heap.size w0 wc:=HW.out.trans (zza HL2.out hg0 (by omega))
  have hb2:base ≤ wc.heap.size:=Nat.le_trans hb HL2.out.1.size
  have ks0:wc.cell? ⟨g,0,none⟩ = some (.slice (some ad) l.length cf):=(zX S2.1 0).trans rfl
  have iK:wc.cell? ⟨g,2,none⟩ = some (.int .i64 s):=(zX S2.1 2).trans rfl
  have fA:=zx.mk (fun (W:World) (h:Below wc.heap.size wc W)=>(show W.cell? ⟨g,0,none⟩ = some (.slice (some ad) l.length cf) ∧ W.cell? ⟨g,2,none⟩ = some (.int .i64 s) ∧ (W.cell? (ad.add (a.toNat * 6)) = some (.string x.f0) ∧ W.cell? ⟨(ad.add (a.toNat * 6)).block,(ad.add (a.toNat * 6)).off + 1,none⟩ = some (.bool x.f1) ∧ W.cell? ⟨(ad.add (a.toNat * 6)).block,(ad.add (a.toNat * 6)).off + 2,none⟩ = some (.int .i64 x.f2) ∧ W.cell? ⟨(ad.add (a.toNat * 6)).block,(ad.add (a.toNat * 6)).off + 3,none⟩ = some (.slice A3 x.f3.length c3) ∧ W.cell? ⟨(ad.add (a.toNat * 6)).block,(ad.add (a.toNat * 6)).off + 4,none⟩ = some (.slice A4 x.f4.length c4) ∧ W.cell? ⟨(ad.add (a.toNat * 6)).block,(ad.add (a.toNat * 6)).off + 5,none⟩ = some (.slice A5 x.f5.length c5)) from
   ⟨(h.cell (World.block_lt_of_cell? wc _ ks0)).trans ks0,(h.cell (World.block_lt_of_cell? wc _ iK)).trans iK,HFT.out W (hw2.trans (h.mono hw2.size))⟩))
  have HW2:=zx.mk hw2
  have HT2:=zx.mk S2
  clear hw2 S2 ks0 iK HS2
  obtain ⟨wd,hwd⟩:∃ wd,YB x n s = wd:=⟨_,rfl⟩
  rw [hwd] at HWD
  have HWE:=zx.mk hwd
  clear hwd
  obtain ⟨wv,we⟩:=wd
  go_wp2_with fail
  refine RW.rS (n:=19) fA put.zia put.zgk (by kernel_rfl) rfl rfl (fun w3 H0 T U h=>?_)
  refine RW.rP 0 (some 92) T ?_
  refine RW.rP 1 (some 93) T ?_
  refine RW.rP 2 (some 94) T ?_
  refine RW.rT 3 (some 95) T U h ?_
  refine RW.rP 4 (some 96) T ?_
  refine RW.rP 5 (some 97) T ?_
  refine RW.rT 6 (some 98) T U h ?_
  refine RW.rP 7 (some 99) T ?_
  refine RW.rP 8 (some 100) T ?_
  refine RW.rP 9 (some 101) T ?_
  refine RW.rP 10 (some 102) T ?_
  refine RW.rP 11 (some 103) T ?_
  refine RW.rT 12 (some 104) T U h ?_
  clear h
  refine RW.rC 13 (some 105) T fA H0 Tryz.func22 (HWD.out _ (HW2.out.trans (H0.out.mono HW2.out.size))) (fun w4 H4 h=>?_) (by kernel_rfl)
  refine RW.rP 14 (some 91) T ?_
  refine RW.rP 15 (some 106) T ?_
  refine RW.rP 16 (some 107) T ?_
  refine RW.rP 17 (some 8) T ?_
  refine RW.rP 18 (some 9) T ?_
  refine xE (qW T.out (by kernel_rfl)) ?_
  clear h
  have S4:=HT2.out.below H4.out
  have hb4:=Nat.le_trans hb2 H4.out.size
  have LK4:=zx.mk (HL2.out.trans (uO.below (B:=g) H4.out hb2))
  have ks5:w4.cell? ⟨g,5,none⟩ = some vo2:=(zX S4.1 5).trans rfl
  have iK:w4.cell? ⟨g,2,none⟩ = some (.int .i64 s):=(zX S4.1 2).trans rfl
  have bg:=zx.mk (fun (W:World) (h:Below w4.heap.size w4 W)=>(show W.cell? ⟨g,5,none⟩ = some vo2 ∧ W.cell? ⟨g,2,none⟩ = some (.int .i64 s) from ⟨(h.cell (World.block_lt_of_cell? w4 _ ks5)).trans ks5,(h.cell (World.block_lt_of_cell? w4 _ iK)).trans iK⟩))
  have HS4:=zx.mk S4
  clear S4 ks5 iK T U
  go_wp2_with fail
  refine RW.rSD (n:=19) [18] bg put.gV put.Wx (by kernel_rfl) rfl rfl (fun w5 H5 T U h=>?_)
  refine RW.rP 0 (some 108) T ?_
  refine RW.rP 1 (some 109) T ?_
  refine RW.rP 2 (some 110) T ?_
  refine RW.rP 3 (some 111) T ?_
  refine RW.rT 4 (some 112) T U h ?_
  refine RW.rP 5 (some 113) T ?_
  refine RW.rP 6 (some 114) T ?_
  refine RW.rP 7 (some 115) T ?_
  refine RW.rP 8 (some 116) T ?_
  refine RW.rP 9 (some 117) T ?_
  refine RW.rP 10 (some 118) T ?_
  refine RW.rT 11 (some 119) T U h ?_
  refine RW.rP 12 (some 120) T ?_
  refine RW.rP 13 (some 121) T ?_
  have S5:=HS4.out.below H5.out
  have hb5:=Nat.le_trans hb4 H5.out.size
  clear h
  refine Xb (i:=14) (N:=some 122) #[true,true,true,true,true,true,true,true,true,true,true,true,true,true,true,false,false,false,false] rfl rfl (jF T.out (by kernel_rfl)) (by decide) (fun K hK=>?_)
  refine zqV (w1:=?_) (v:=?_) (by rfl) rfl ?_ ?_
  rotate_left 2
  ·have h:=bg.out _ H5.out
   go_simp
   constructor
   ·rfl
   ·rfl
  refine hK.out _ _ (bg.out _ (H5.out.alloc H5.out.size _)) (fun h=>?_)
  clear hK K h
  refine Xn (a':=?_) ?_ ?_
  rotate_left
  ·show Act.put _ (some 122) _ = _
   simp only [Act.put,List.setIfInBounds_toArray,List.set_cons_zero,List.set_cons_succ]
   rfl
  refine Xb (i:=15) (N:=some 123) #[true,true,true,true,true,true,true,true,true,true,true,true,true,true,true,true,false,false,false] rfl rfl (jF T.out (by kernel_rfl)) (by decide) (fun K hK=>?_)
  refine Kd.Zi (Kd.bare uj) (w0:=w5) base (by rfl) (.tmp 112) (.tmp 122) 34 53 (.agg #[.int .i64 0,.int .i64 0,.int .i64 0,.int .i64 0,.string ⟨#[]⟩,.string ⟨#[]⟩,.slice none 0 0]) 88 rfl Tryz.underlying34 gL rfl (by decide) (by omega) vo2 (st.1 ++ kb) (zjJ wv a s n) [.int .i64 0,.int .i64 wv,.int .i64 a,.int .i64 s,.string n,.string ⟨#[]⟩,.slice none 0 0] (fun _=>True) (fun _=>False) rfl rfl ?aP (fun _ hk=>hk.elim) ?aF ?aO ?aB ?aS ?aL ?_
  (case aP=>exact zeK _ _ _ _ _ _ _)
  (case aF=>exact fun _ _=>trivial)
  (case aO=>exact S5.2.1)
  (case aB=>exact Below.refl base w5)
  (case aS=>exact hb5)
  (case aL=>rw [List.length_append];omega)
  intro v1 w6 ho hbw hg hat
  obtain ⟨Ao,co,eo⟩:=Kd.xA ho
  subst eo
  obtain ⟨p1,p2,k6,z6,B6⟩:=zZE S5 (Below.refl _ _) hg ho hb5
  have S6:w6.cell? ⟨g,5,none⟩ = some vo2 ∧ w6.cell? ⟨g,2,none⟩ = some (.int .i64 s):=⟨k6,(zX B6 2).trans rfl⟩
  have P1:=zx.mk p1
  have P2:=zx.mk ((LK4.out.trans (uO.below (B:=g) H5.out hb4)).trans p2)
  refine hK.out _ _ S6 (fun h=>?_)
  clear hK K h p1 p2 ho hbw hg hat B6 S5 S6
  generalize hnn:(st.1 ++ kb ++ [zjJ wv a s n]).length = nn at P1 P2 ⊢
  refine Xn (a':=?_) ?_ ?_
  rotate_left
  ·show Act.put _ (some 123) _ = _
   simp only [Act.put,List.setIfInBounds_toArray,List.set_cons_zero,List.set_cons_succ]
   rfl
  refine RW.rP 16 (some 124) T ?_
  refine RW.rP 17 (some 125) T ?_
  refine dZ (i:=18) (N:=none) #[true,true,true,true,true,true,true,true,true,true,true,true,true,true,true,true,true,true,true] rfl rfl (jF T.out (by kernel_rfl)) (by decide) (fun K hK=>?_)
  refine U9 (w1:=?_) (by rfl) rfl ?_ ?_
  rotate_left
  ·go_simp
   rfl
  refine hK.out _ _ ?_
  clear hK K
  refine xE (qW T.out (by kernel_rfl)) ?_
  clear k6 z6
  generalize w6.setCell ⟨g,5,none⟩ (.slice Ao nn co) = w7 at P1 P2 ⊢
  go_wp2_with fail
  go_end0
  refine ⟨⟨_,rfl⟩,?_,P2.out⟩
  rw [← List.append_assoc,HWE.out]
  exact P1.out
end Go.Proofs.YtggifbbiiickmaaGreatDoor
namespace Go.Proofs.YtggifbbiiickmaaGreatDoor
open Go.RowKit
def ZB {β:Type} (Bs:Nat) (J:β → World → Prop):Prop:=∀ s W u,J s W → J s (W.setCell ⟨Bs,0,none⟩ u)
theorem ZB.and {β:Type} {Bs:Nat} {I I':β → World → Prop} (h:ZB Bs I) (h':ZB Bs I'):ZB Bs (fun s W=>I s W ∧ I' s W):=fun s W u hs=>⟨h s W u hs.1,h' s W u hs.2⟩
theorem Qp {W:World} {Bs k:Nat} {o:Obj} (u:Value) (h:W.heap[k]? = some o) (hne:k ≠ Bs):(W.setCell ⟨Bs,0,none⟩ u).heap[k]? = some o:=(Below.heap_setCell W ⟨Bs,0,none⟩ u k hne).trans h
def zKy {α:Type} (F:Fence) (n:Nat) (P:Program) (g:Nat) (lb:Array Value) (encs:α → Array Value) (Bs:Nat) (Kp:World → World → Prop) (S Sp:List α → Prop) (N:Nat) (w:World):Prop :=
 ∀ (l:Nat) (J Jx:List α → World → Prop) (W:World),Below w.heap.size w W → AbidesFrom W.heap.size J → AbidesFrom W.heap.size Jx → ZB Bs J → ZB Bs Jx →
  (∀ pre x W1,J pre W1 → pre.length < N → YieldAt F (n - 1) P l (encs x) W1 fun e W' =>
   (e = .returned (.bool true) ∧ J (pre ++ [x]) W' ∧ Kp W1 W') ∨ (e = .returned (.bool false) ∧ Jx (pre ++ [x]) W')) →
  J [] W →
  CallsIn F n P g (#[.func (.yield l) #[] #[]] ++ lb) W fun e W'=>(∃ v,e = .returned v) ∧ ((∃ xs,S xs ∧ J xs W') ∨ (∃ pre,Sp pre ∧ Jx pre W'))
def zb1 {α:Type} (B:Nat) (Kp:World → World → Prop) (I Ix:List α → World → Prop) (xs:List α) (W:World):Exit → Act → World → Prop
 | .normal,_,W'=>KeepsFrom B W W' ∧ Kp W W' ∧ I xs W'
 | .ret,_,W'=>KeepsFrom B W W' ∧ Ix xs W'
 | _,_,_=>False
variable {F:Fence} {n:Nat} {P:Program}
theorem zv5 {α:Type} {g:Operand} {ps:Array Tmp} {assign body:Code} {Q:Exit → Act → World → Prop} {a:Act} {w:World}
  (hro:F.round = none) (h1:1 ≤ n) {gf:Nat} {lb:Array Value} (hg:a.eval g = .func (.func gf) #[] lb) (hFg:F.fn gf) (eg:∀ args w,(callFunc gf args).run P w = .ok (.enter gf args) w)
  {encs:α → Array Value} {Bs:Nat} {Kp:World → World → Prop} {S Sp:List α → Prop} {N:Nat} (hseq:zKy F (n - 1) P gf lb encs Bs Kp S Sp N w) (hBs:Bs < w.heap.size)
  (hKt:∀ {A B C:World},Kp A B → Kp B C → Kp A C) (hKb:∀ (W:World) (l:Nat) (o o':Obj),w.heap.size ≤ l → W.heap[l]? = some o → o.isCells = false → o.isWalk = false → Kp W (W.putObj l o')) (hps:∀ x,(encs x).size = ps.size)
  (I Ix:List α → World → Prop) (hI:OwnFrom w.heap.size I) (hIx:OwnFrom w.heap.size Ix) (hIb:ZB Bs I) (zib:ZB Bs Ix) (h0:I [] w)
  (Ax:α → Act → World → Prop) (hAx:∀ x a',OwnFrom w.heap.size (fun (_:Unit) W=>Ax x a' W))
  (hassign:∀ (l:Nat) (pre:List α) (x:α) (W:World) (K:Act → World → Prop),I pre W → (∀ a' W',KeepsFrom w.heap.size W W' → Kp W W' → I pre W' → Ax x a' W' → K a' W') →
   assign.wpIn (F.inRound l) (n - 1 - 1) P (Exit.then K (fun _ _ _=>False)) { tmps:=(ps.zip (encs x)).foldl (fun t (p,v)=>t.setIfInBounds p v) a.tmps,defers:=[] } W)
  (hbody:∀ (l:Nat) (pre:List α) (x:α) (a':Act) (W:World),w.heap.size ≤ l → (∃ r,W.heap[l]? = some (.loop r)) → I pre W → Ax x a' W → pre.length < N → body.wpIn (F.inRound l) (n - 1 - 1) P (zb1 w.heap.size Kp I Ix (pre ++ [x]) W) a' W)
  (hdone:∀ (D:Nat) (xs:List α) (W:World),w.heap.size ≤ D → S xs → I xs W → W.heap[D]? = some (.deferred (some [])) → Q .normal { a with defers:={ target:=.collected D,args:=#[] } :: a.defers } W)
  (hstop:∀ (D:Nat) (pre:List α) (W:World),w.heap.size ≤ D → Sp pre → Ix pre W → W.heap[D]? = some (.deferred (some [])) → Code.ret.wpIn F n P Q { a with defers:={ target:=.collected D,args:=#[] } :: a.defers } W) :
  (Code.rangeFunc g ps assign body).wpIn F n P Q a w:=by
 refine wpIn_rangeFunc ?_
 intro fn hfn
 rw [hro]
 obtain ⟨rec,hrec⟩:∃ rec:LoopState → Option Code → Loop,rec = fun st pe=>{ state:=st,pending:=pe,fn,tmps:=a.tmps,params:=ps,assign,body,defers:=w.heap.size }:=⟨_,rfl⟩
 obtain ⟨W1,hW1⟩:∃ W1,(w.alloc (.deferred (some []))).alloc (.loop (rec .ready none)) = W1:=⟨_,rfl⟩
 have hL1:W1.heap[w.heap.size + 1]? = some (.loop (rec .ready none)):=by
  rw [← hW1];have:=World.alloc_heap_new (w.alloc (.deferred (some []))) (.loop (rec .ready none));rwa [World.size_alloc] at this
 have hK1:W1.heap[w.heap.size]? = some (.deferred (some [])):=by
  rw [← hW1];exact (Below.heap_alloc _ _ _ (by simp)).trans (World.alloc_heap_new w _)
 have hI1:I [] W1:=by rw [← hW1];exact hI.alloc _ (hI.alloc _ h0)
 have hb1:Below w.heap.size w W1:=by
  rw [← hW1];exact ((Below.refl _ w).alloc (Nat.le_refl _) _).alloc (by simp) _
 have hz1:W1.heap.size = w.heap.size + 2:=by rw [← hW1];simp
 refine ⟨w.heap.size + 1,[{ target:=.collected w.heap.size,args:=#[] }],W1,{ target:=.fn (.func gf) lb,args:=#[.func (.yield (w.heap.size + 1)) #[] #[]] },W1,gf,
  #[.func (.yield (w.heap.size + 1)) #[] #[]] ++ lb,W1,?_,?_,?_,?_,fun _=>h1,?_⟩
 ·rw [← hW1,hrec];exact run_enterLoop_outer _ _ _ _ _
 ·simp only [resolve,hg]
  simp [go_sem]
 ·intro f' hf';simp [Target.leads] at hf';subst hf';exact hFg
 ·simp [invoke,go_sem,eg]
 ·have hnw:∀ {A B:World} {row:Option Nat},(∀ r,row = some r → W1.heap.size ≤ r ∧ ∃ o:Obj,A.heap[r]? = some o ∧ o.isWalk = true) → (∀ r,row = some r → w.heap.size ≤ r ∧ ∃ o:Obj,A.heap[r]? = some o ∧ o.isCells = false) :=
   fun hr r e=>by obtain ⟨hB,o,ho,hw⟩:=hr r e;exact ⟨by omega,o,ho,Obj.not_cells_of_walk hw⟩
  refine (hseq (w.heap.size + 1)
   (fun pre W=>I pre W ∧ W.heap[w.heap.size + 1]? = some (.loop (rec .ready none)) ∧ W.heap[w.heap.size]? = some (.deferred (some [])))
   (fun pre W=>Ix pre W ∧ W.heap[w.heap.size + 1]? = some (.loop (rec .done (some .ret))) ∧ W.heap[w.heap.size]? = some (.deferred (some [])))
   W1 hb1
   (fun s A B row hs hg' hr=>⟨hI s A B row hs.1 hg' (hnw (B:=B) hr),(grownBy_keeps hg' (fun r e=>(hr r e).2) hs.2.1 rfl).trans hs.2.1,(grownBy_keeps hg' (fun r e=>(hr r e).2) hs.2.2 rfl).trans hs.2.2⟩)
   (fun s A B row hs hg' hr=>⟨hIx s A B row hs.1 hg' (hnw (B:=B) hr),(grownBy_keeps hg' (fun r e=>(hr r e).2) hs.2.1 rfl).trans hs.2.1,(grownBy_keeps hg' (fun r e=>(hr r e).2) hs.2.2 rfl).trans hs.2.2⟩)
   (fun s A u hs=>⟨hIb s A u hs.1,Qp u hs.2.1 (by omega),Qp u hs.2.2 (by omega)⟩)
   (fun s A u hs=>⟨zib s A u hs.1,Qp u hs.2.1 (by omega),Qp u hs.2.2 (by omega)⟩)
   ?_ ⟨hI1,hL1,hK1⟩).mono ?_
  ·rintro pre x W ⟨hi,hl,hk⟩ hlen
   have hlt:w.heap.size + 1 < W.heap.size:=(Array.getElem?_eq_some_iff.1 hl).1
   have hy:=run_yield (P:=P) (args:=encs x) hl (by rw [hrec];exact hps x)
   rw [hrec] at hy
   refine ⟨fn,_,assign,body,hy,roundIn_of_wpIn hfn (hassign _ pre x W _ hi ?_)⟩
   clear hy
   intro a' Wa hkfa hkpa hia hax
   replace hl:=hkfa.same _ _ (by omega) hl rfl
   replace hk:=hkfa.same _ _ (Nat.le_refl _) hk rfl
   replace hlt:w.heap.size + 1 < Wa.heap.size:=(Array.getElem?_eq_some_iff.1 hl).1
   refine ⟨_,run_beginRound hl (by rw [hrec]),?_⟩
   have hl2:(Wa.putObj (w.heap.size + 1) (.loop { rec .ready none with state:=.busy })).heap[w.heap.size + 1]? = some (.loop { rec .ready none with state:=.busy }):=World.putObj_heap_same hlt
   have hk2:(Wa.putObj (w.heap.size + 1) (.loop { rec .ready none with state:=.busy })).heap[w.heap.size]? = some (.deferred (some [])):=(World.putObj_heap_other (by omega)).trans hk
   have hw2:Kp Wa (Wa.putObj (w.heap.size + 1) (.loop { rec .ready none with state:=.busy })):=hKb _ _ _ _ (by omega) hl rfl rfl
   refine wpIn_mono (hbody _ pre x a' _ (by omega) ⟨_,hl2⟩ (hI.putObj _ hia (by omega) hl rfl) ((hAx x a').putObj (s:=()) _ hax (by omega) hl rfl) hlen) ?_
   have fin:∀ (jump:Option Code) (W3:World),KeepsFrom w.heap.size (Wa.putObj (w.heap.size + 1) (.loop { rec .ready none with state:=.busy })) W3 →
     (Instr.endRound (w.heap.size + 1) jump).run P W3 = .ok (.bool jump.isNone) (W3.putObj (w.heap.size + 1) (.loop (rec (if jump.isNone then .ready else .done) jump))) ∧
     W3.heap[w.heap.size + 1]? = some (.loop { rec .ready none with state:=.busy }) ∧
     (W3.putObj (w.heap.size + 1) (.loop (rec (if jump.isNone then .ready else .done) jump))).heap[w.heap.size + 1]? = some (.loop (rec (if jump.isNone then .ready else .done) jump)) ∧
     (W3.putObj (w.heap.size + 1) (.loop (rec (if jump.isNone then .ready else .done) jump))).heap[w.heap.size]? = some (.deferred (some [])):=fun jump W3 hk3=>by
    have hl3:=hk3.same _ _ (by omega) hl2 rfl
    have:=run_endRound (P:=P) jump hl3
    rw [hrec] at this ⊢
    exact ⟨this,by rw [hrec] at hl3;exact hl3,World.putObj_heap_same (Array.getElem?_eq_some_iff.1 hl3).1,(World.putObj_heap_other (by omega)).trans (hk3.same _ _ (Nat.le_refl _) hk2 rfl)⟩
   rintro e a3 W3 hp
   cases e with
   | normal =>
    obtain ⟨hk3,hkp3,hi3⟩:=hp
    obtain ⟨hr,hl3,hl4,hk4⟩:=fin none W3 hk3
    exact ⟨_,_,hr,.inl ⟨rfl,⟨hI.putObj _ hi3 (by omega) hl3 rfl,hl4,hk4⟩,hKt hkpa (hKt (hKt hw2 hkp3) (hKb _ _ _ _ (by omega) hl3 rfl rfl))⟩⟩
   | ret =>
    obtain ⟨hk3,hi3⟩:=hp
    obtain ⟨hr,hl3,hl4,hk4⟩:=fin (some .ret) W3 hk3
    exact ⟨_,_,hr,.inr ⟨rfl,hIx.putObj _ hi3 (by omega) hl3 rfl,hl4,hk4⟩⟩
   | exit id=>exact hp.elim
   | goto t=>exact hp.elim
   | panic ch=>exact hp.elim
   | outgrown=>exact hp.elim
  ·rintro e W2 ⟨⟨v,rfl⟩,(⟨xs,hS,hi,hl,hk⟩ | ⟨pre,hSp,hi,hl,hk⟩)⟩
   ·exact ⟨none,_,by have:=run_endLoop (P:=P) hl (by rw [hrec];simp);rw [hrec] at this;exact this,hdone _ xs _ (Nat.le_refl _) hS (hI.putObj _ hi (by omega) hl rfl) ((World.putObj_heap_other (by omega)).trans hk)⟩
   ·exact ⟨some .ret,_,by have:=run_endLoop (P:=P) hl (by rw [hrec];simp);rw [hrec] at this;exact this,hstop _ pre _ (Nat.le_refl _) hSp (hIx.putObj _ hi (by omega) hl rfl) ((World.putObj_heap_other (by omega)).trans hk)⟩
end Go.Proofs.YtggifbbiiickmaaGreatDoor
namespace Go.Proofs.YtggifbbiiickmaaGreatDoor
open Go.RowKit Go.Proofs.zk.za Go.Proofs.zk.zS Go.Proofs.zk.zR Go.Proofs.YtggifbbiiickmaaGreatDoor.PX
attribute [local go_sem] Oper.semAt_some
set_option linter.unusedSimpArgs false
set_option linter.unusedVariables false
abbrev PS:={ p:Yi // p.f0.size ≤ maxLen ∧ p.f1.size ≤ maxLen }
def zPS:PS:=⟨z80,Nat.zero_le _,Nat.zero_le _⟩
abbrev iY:=Nat × PS
def zkj (x:iY):Array Value:=#[.int .i64 (x.1:Int),.agg #[.string x.2.1.f0,.string x.2.1.f1]]
def ig (pre:List iY):ByteArray → Option ByteArray:=pre.foldl (fun f x s=>if s = x.2.1.f0 then some x.2.1.f1 else f s) (fun _=>none)
theorem zKw (pre:List iY) (x:iY):ig (pre ++ [x]) = fun s=>if s = x.2.1.f0 then some x.2.1.f1 else ig pre s:=by
 unfold ig
 rw [List.foldl_append]
 rfl
def ZL (zs:List PS):Nat → List iY
 | 0=>[]
 | k + 1=>(k,zs.getD k zPS) :: ZL zs k
def Qi (zs:List PS) (k:Nat):List iY:=(ZL zs zs.length).take (zs.length - k)
theorem iA (zs:List PS):∀ k,(ZL zs k).length = k
 | 0=>rfl
 | k + 1=>by rw [ZL,List.length_cons,iA zs k]
theorem zvS (zs:List PS):∀ (n j:Nat) (h:j < n),(ZL zs n)[n - 1 - j]? = some (j,zs.getD j zPS)
 | 0,_,h=>absurd h (Nat.not_lt_zero _)
 | n + 1,j,h=>by
  by_cases e:j = n
  ·subst e
   rw [show j + 1 - 1 - j = 0 by omega];rfl
  ·rw [show n + 1 - 1 - j = (n - 1 - j) + 1 by omega,ZL,List.getElem?_cons_succ]
   exact zvS zs n j (by omega)
theorem zyO (zs:List PS) (k:Nat) (h:k < zs.length):Qi zs k = Qi zs (k + 1) ++ [(k,zs.getD k zPS)]:=by
 have h1:=zvS zs zs.length k h
 unfold Qi
 rw [show zs.length - k = (zs.length - (k + 1)) + 1 by omega,List.take_add_one,show zs.length - (k + 1) = zs.length - 1 - k by omega,h1]
 rfl
theorem zJo (zs:List PS):Qi zs 0 = ZL zs zs.length:=by
 unfold Qi
 rw [Nat.sub_zero,List.take_of_length_le (by rw [iA];exact Nat.le_refl _)]
theorem zyP (zs:List PS):Qi zs zs.length = []:=by
 unfold Qi
 rw [Nat.sub_self,List.take_zero]
theorem zJp (zs:List PS) (k:Nat) (h:k ≤ zs.length):(Qi zs k).length = zs.length - k:=by
 unfold Qi
 rw [List.length_take,iA]
 omega
def dI (n₀ Bs:Nat) (W W':World):Prop:=Below n₀ W W' ∧ W'.heap[Bs]? = W.heap[Bs]?
theorem zZF {n₀ Bs:Nat} {A B C:World} (h:dI n₀ Bs A B) (k:dI n₀ Bs B C):dI n₀ Bs A C:=⟨h.1.trans k.1,k.2.trans h.2⟩
theorem zb2 {n₀ Bs:Nat} {w:World} (hn:n₀ ≤ w.heap.size) (hB:Bs < w.heap.size) (W:World) (l:Nat) (o o':Obj) (hl:w.heap.size ≤ l) (h:W.heap[l]? = some o) (h1:o.isCells = false) (h2:o.isWalk = false):dI n₀ Bs W (W.putObj l o') :=
 ⟨belowK_b hn W l o o' hl h h1 h2,World.putObj_heap_other (by omega)⟩
theorem zKZ {n₀ Bs:Nat} {t:TypeId} {v:Value} {W W':World} (h:dI n₀ Bs W W') (hb:Boxed W Bs t v):Boxed W' Bs t v:=h.2.trans hb
theorem zvT (zs:List PS) (s:ByteArray):∀ (k:Nat),k ≤ zs.length → ∀ g:ByteArray → Option ByteArray,(ZL zs k).foldl (fun f x s=>if s = x.2.1.f0 then some x.2.1.f1 else f s) g s = match (zs.take k).find? (fun p=>decide (p.1.f0 = s)) with | some p=>some p.1.f1 | none=>g s
 | 0,_,g=>by rw [List.take_zero];rfl
 | k + 1,hk,g=>by
  have hlt:k < zs.length:=by omega
  have hg:zs.getD k zPS = zs[k]:=by rw [List.getD_eq_getElem?_getD,List.getElem?_eq_getElem hlt];rfl
  rw [ZL,List.foldl_cons,zvT zs s k (by omega),List.take_add_one,List.getElem?_eq_getElem hlt,Option.toList_some,List.find?_append]
  cases hf:(zs.take k).find? (fun p=>decide (p.1.f0 = s)) with
  | some p=>rfl
  | none =>
   dsimp only
   rw [hg,Option.none_or,List.find?_cons]
   by_cases h:zs[k].1.f0 = s
   ·rw [if_pos h.symm,decide_eq_true h]
   ·rw [if_neg (fun e=>h e.symm),decide_eq_false h]
    rfl
theorem zYF (zs:List PS) (s:ByteArray):ig (ZL zs zs.length) s = match (zs.map (·.1)).find? (fun p=>decide (p.f0 = s)) with | some p=>some p.f1 | none=>none:=by
 unfold ig
 rw [zvT zs s zs.length (Nat.le_refl _),List.take_of_length_le (Nat.le_refl _),List.find?_map]
 simp only [Function.comp_def]
 cases zs.find? (fun p=>decide (p.1.f0 = s)) <;> rfl
set_option maxRecDepth 100000 in
set_option maxHeartbeats 4000000 in
theorem zYG (F:Fence) (n:Nat) (h7:F.fn 104) (hro:F.round = none) (hn:1 ≤ n) (l Bs:Nat) (A0:Option Addr) (c0:Nat) (zs:List PS) (hl:zs.length ≤ 1000000000) (w0:World) (hC:Kd.C JX w0 A0 zs.length (zs.map (·.1))) (J Jx:List iY → World → Prop)
  (hY:∀ pre x W,J pre W → pre.length < zs.length → YieldAt F (n - 1) Tryz.prog l (zkj x) W fun e W' =>
   (e = .returned (.bool true) ∧ J (pre ++ [x]) W' ∧ dI w0.heap.size Bs W W') ∨ (e = .returned (.bool false) ∧ Jx (pre ++ [x]) W'))
  (W:World) (hb:Below w0.heap.size w0 W) (hBs:Boxed W Bs 28 (.slice A0 zs.length c0)) (h0:J [] W) :
  CallsIn F n Tryz.prog 104 #[.func (.yield l) #[] #[],.pointer (some ⟨Bs,0,none⟩)] W fun e W'=>(∃ v,e = .returned v) ∧
   ((∃ ys,ys = ZL zs zs.length ∧ J ys W') ∨ (∃ pre,True ∧ Jx pre W')):=by
 have HC:=zx.mk hC
 have HY:=zx.mk hY
 have HX:=zx.mk hBs
 have hx0:W.cell? ⟨Bs,0,none⟩ = some (.slice A0 zs.length c0):=hBs.cell
 clear hC hY hBs
 refine callsIn_of_wp Tryz.func104 rfl h7 ?_ hro
 simp only [Tryz.ntmps104,List.size_toArray,List.length_cons,List.length_nil,Nat.reduceAdd,Nat.reduceSub,Array.replicate_succ,Array.replicate_zero,List.push_toArray,List.append_toArray,List.nil_append,List.cons_append]
 gi_wp2
 gi_loopw [3] (fun i wr=>∃ k:Nat,k ≤ zs.length ∧ i = .int .i64 ((k:Int) - 1) ∧ zx (J (Qi zs k) wr) ∧ zx (dI w0.heap.size Bs W wr)) (fun i _=>(intOf i + 1).toNat)
 case atStart=>exact ⟨zs.length,Nat.le_refl _,rfl,⟨by rw [zyP];exact h0⟩,⟨Below.refl _ _,rfl⟩⟩
 case round =>
  clear hx0
  obtain ⟨k,hk,rfl,HJ,HB⟩:=hrel
  have hs:wr.cell? ⟨Bs,0,none⟩ = some (.slice A0 zs.length c0):=(zKZ HB.out HX.out).cell
  by_cases hlt:1 ≤ k
  ·obtain ⟨j,rfl⟩:∃ j,k = j + 1:=⟨k - 1,by omega⟩
   have ej:(((j + 1:Nat):Int) - 1) = (j:Int):=by omega
   rw [ej]
   obtain ⟨ad,e,x0,x1⟩:=zVt (Kd.zh HC.out (hb.trans HB.out.1)) (j:Int) (by omega) (by omega)
   cases e
   rw [Int.toNat_natCast] at x0 x1
   have e:gM (zs.map (·.1)) (j:Int) = (zs.getD j zPS).1:=by
    have hj:j < zs.length:=by omega
    simp [gM,List.getD_eq_getElem?_getD,hj]
   rw [e] at x0 x1
   clear e
   obtain ⟨fn,tmps,assign,body,hy,hR⟩:=HY.out _ (j,zs.getD j zPS) wr HJ.out (by rw [zJp zs (j + 1) hk];omega)
   unfold zkj at hy
   dsimp only at hy
   have hst:=zx.mk (zyO zs j (by omega))
   generalize zs.getD j zPS = x at x0 x1 hy hR hst
   have q0:(0:Int) ≤ (j:Int):=by omega
   have q1:(j:Int) < (zs.length:Int):=by omega
   have q3:((j:Int)).toNat = j:=Int.toNat_natCast j
   clear ej
   gi_wp2
   refine hR.mono ?_
   rintro e W3 (⟨rfl,hJ3,hk3⟩ | ⟨rfl,hJx3⟩)
   ·have WA:=zx.mk hJ3
    have fK:=zx.mk hk3
    clear hJ3 hk3
    gi_wp2
    go_roundw
    case rel=>exact ⟨j,by omega,rfl,⟨by rw [hst.out];exact WA.out⟩,⟨zZF HB.out fK.out⟩⟩
    case measure=>simp [intOf]
   ·have WA:=zx.mk hJx3
    clear hJx3
    gi_wp2
    refine bodyPost_ret (results_none rfl _ _ _) rfl ?_
    exact ⟨⟨_,rfl⟩,.inr ⟨_,trivial,WA.out⟩⟩
  ·obtain rfl:k = 0:=by omega
   gi_wp2
   go_end0
   exact ⟨⟨_,rfl⟩,.inl ⟨_,rfl,by rw [← zJo];exact HJ.out⟩⟩
set_option maxHeartbeats 1000000 in
theorem zb3 (F:Fence) (n:Nat) (h5:F.fn 43) (hro:F.round = none) (a:Option Addr) (len cap:Nat) (w:World) :
  CallsIn F n Tryz.prog 43 #[.slice a len cap] w fun e w'=>e = .returned (.func (.func 104) #[] #[.pointer (some ⟨w.heap.size,0,none⟩)]) ∧ w' = w.alloc (.cells #[.slice a len cap] 28):=by
 refine callsIn_of_wp Tryz.func43 rfl h5 ?_ hro
 simp only [Tryz.ntmps43,List.size_toArray,List.length_cons,List.length_nil,Nat.reduceAdd,Nat.reduceSub,Array.replicate_succ,Array.replicate_zero,List.push_toArray,List.append_toArray,List.nil_append,List.cons_append]
 gi_wp2
 go_ret
 exact ⟨rfl,rfl⟩
theorem zYH (F:Fence) (n:Nat) (h7:F.fn 104) (hro:F.round = none) (hn:1 ≤ n) (Bs:Nat) (A0:Option Addr) (c0:Nat) (zs:List PS) (hl:zs.length ≤ 1000000000) (w0 w:World) (hC:Kd.C JX w0 A0 zs.length (zs.map (·.1))) (hw:Below w0.heap.size w0 w) (hBs:Boxed w Bs 28 (.slice A0 zs.length c0)) :
  zKy F n Tryz.prog 104 #[.pointer (some ⟨Bs,0,none⟩)] zkj Bs (dI w0.heap.size Bs) (fun ys=>ys = ZL zs zs.length) (fun _=>True) zs.length w:=fun l J Jx W hW _ _ _ _ hY h0 =>
 zYG F n h7 hro hn l Bs A0 c0 zs hl w0 hC J Jx hY W (hw.trans (hW.mono hw.size)) ((hW.block Bs (Boxed.lt hBs)).trans hBs) h0
end Go.Proofs.YtggifbbiiickmaaGreatDoor
namespace Go.Proofs.YtggifbbiiickmaaGreatDoor
open Go.RowKit Go.Proofs.zk.za Go.Proofs.zk.zS Go.Proofs.zk.zR Go.Proofs.YtggifbbiiickmaaGreatDoor.PX
set_option linter.unusedSimpArgs false
set_option linter.unusedVariables false
set_option maxRecDepth 100000 in
set_option maxHeartbeats 4000000 in
theorem zYI (A0:Option Addr) (c0:Nat) (l:List ByteArray) (w:World) (hr:Kd.C Kd.string w A0 l.length l) (hl:l.length ≤ 1000000000) (p:ByteArray → Bool) (g:Nat) (lb:Array Value) (eg:∀ args w,(callFunc g args).run Tryz.prog w = .ok (.enter g args) w)
  (hp:∀ (W:World) (x:ByteArray),x ∈ l → Below w.heap.size w W → Calls Tryz.prog g (#[.string x] ++ lb) W fun e w'=>e = .returned (.bool (p x)) ∧ Below w.heap.size w w') :
  Calls Tryz.prog 102 #[.slice A0 l.length c0,.func (.func g) #[] lb] w fun e w'=>e = .returned (.int .i64 (ZW p l 0)) ∧ Below w.heap.size w w':=by
 have H:=zx.mk hr
 have HP:=zx.mk hp
 clear hr hp
 generalize hR:ZW p l 0 = R
 have HR:=zx.mk hR
 clear hR
 go_enter Tryz.func102,Tryz.ntmps102
 go_wp2
 go_loopw [8] (fun i W=>∃ k:Nat,k ≤ l.length ∧ i = .int .i64 (k:Int) ∧ zx (ZW p l 0 = ZW p (l.drop k) k) ∧ zx (Below w.heap.size w W)) (fun i _=>l.length - (intOf i).toNat)
 case atStart=>exact ⟨0,Nat.zero_le _,rfl,⟨by rw [List.drop_zero]⟩,⟨Below.refl _ _⟩⟩
 case round =>
  obtain ⟨k,hk,rfl,HI,HB⟩:=hrel
  by_cases hlt:k < l.length
  ·obtain ⟨ad,e,x0⟩:=Kd.WZ (Kd.zh H.out HB.out) (k:Int) (by omega) (by omega)
   cases e
   have e:Qt ByteArray.empty l (k:Int) = l[k]:=by simp [Qt,List.getD_eq_getElem?_getD,hlt]
   rw [Int.toNat_natCast] at x0
   rw [e] at x0
   clear e
   have hi:=HI.out
   rw [List.drop_eq_getElem_cons hlt,dG] at hi
   have hm:l[k] ∈ l:=List.getElem_mem hlt
   generalize l[k] = x at x0 hi hm
   have hcall:=HP.out wr x hm HB.out
   clear hm
   cases hq:p x with
   | true =>
    rw [hq] at hcall
    rw [if_pos hq] at hi
    have HI2:=zx.mk (HR.out.symm.trans hi)
    clear hi hq HI
    go_wp2_with fail
    refine hcall.mono ?_;rintro e w' ⟨rfl,hb'⟩
    go_wp2_with fail
    go_ret
    exact ⟨by rw [HI2.out];rfl,hb'⟩
   | false =>
    rw [hq] at hcall
    rw [if_neg (by rw [hq];exact Bool.false_ne_true)] at hi
    have HI2:=zx.mk hi
    clear hi hq HI
    go_wp2_with fail
    refine hcall.mono ?_;rintro e w' ⟨rfl,hb'⟩
    go_wp2_with fail
    go_roundw
    case rel=>exact ⟨k + 1,by omega,by first | rfl | go_num,HI2,⟨hb'⟩⟩
    case measure=>simp [intOf];omega
  ·obtain rfl:k = l.length:=by omega
   have hi:=HI.out
   rw [List.drop_eq_nil_of_le (Nat.le_refl _)] at hi
   have HI2:=zx.mk (HR.out.symm.trans hi)
   clear hi HI
   go_wp2
   go_ret
   exact ⟨by rw [HI2.out];rfl,HB.out⟩
set_option maxRecDepth 100000 in
theorem zYL (A0:Option Addr) (c0:Nat) (l:List ByteArray) (w:World) (hr:Kd.C Kd.string w A0 l.length l) (hl:l.length ≤ 1000000000) (p:ByteArray → Bool) (g:Nat) (lb:Array Value) (eg:∀ args w,(callFunc g args).run Tryz.prog w = .ok (.enter g args) w)
  (hp:∀ (W:World) (x:ByteArray),x ∈ l → Below w.heap.size w W → Calls Tryz.prog g (#[.string x] ++ lb) W fun e w'=>e = .returned (.bool (p x)) ∧ Below w.heap.size w w') :
  Calls Tryz.prog 40 #[.slice A0 l.length c0,.func (.func g) #[] lb] w fun e w'=>e = .returned (.bool (l.any p)) ∧ Below w.heap.size w w':=by
 have h:=zYI A0 c0 l w hr hl p g lb eg hp
 have e:=aY p l 0
 generalize ZW p l 0 = i at h e
 generalize l.any p = b at e ⊢
 subst e
 clear hp hr
 go_enter Tryz.func40,Tryz.ntmps40
 go_wp2_with (go_at_call 102;refine h.mono ?_;rintro e w1 ⟨rfl,hb⟩)
 go_ret
 exact ⟨rfl,hb⟩
end Go.Proofs.YtggifbbiiickmaaGreatDoor
namespace Go.Proofs.YtggifbbiiickmaaGreatDoor
open Go.RowKit Go.Proofs.zk.za Go.Proofs.zk.zS Go.Proofs.zk.zR Go.Proofs.YtggifbbiiickmaaGreatDoor.PX
set_option linter.unusedSimpArgs false
set_option linter.unusedVariables false
set_option maxRecDepth 100000 in
set_option maxHeartbeats 4000000 in
theorem zYM (A0:Option Addr) (c0:Nat) (l:List Yi) (w:World) (hr:Kd.C JX w A0 l.length l) (hl:l.length ≤ 1000000000) (p:Yi → Bool) (g:Nat) (lb:Array Value) (eg:∀ args w,(callFunc g args).run Tryz.prog w = .ok (.enter g args) w)
  (hp:∀ (W:World) (x:Yi),x ∈ l → Below w.heap.size w W → Calls Tryz.prog g (#[.agg #[.string x.f0,.string x.f1]] ++ lb) W fun e w'=>e = .returned (.bool (p x)) ∧ Below w.heap.size w w') :
  Calls Tryz.prog 103 #[.slice A0 l.length c0,.func (.func g) #[] lb] w fun e w'=>e = .returned (.int .i64 (ZW p l 0)) ∧ Below w.heap.size w w':=by
 have H:=zx.mk hr
 have HP:=zx.mk hp
 clear hr hp
 generalize hR:ZW p l 0 = R
 have HR:=zx.mk hR
 clear hR
 go_enter Tryz.func103,Tryz.ntmps103
 go_wp2
 go_loopw [8] (fun i W=>∃ k:Nat,k ≤ l.length ∧ i = .int .i64 (k:Int) ∧ zx (ZW p l 0 = ZW p (l.drop k) k) ∧ zx (Below w.heap.size w W)) (fun i _=>l.length - (intOf i).toNat)
 case atStart=>exact ⟨0,Nat.zero_le _,rfl,⟨by rw [List.drop_zero]⟩,⟨Below.refl _ _⟩⟩
 case round =>
  obtain ⟨k,hk,rfl,HI,HB⟩:=hrel
  by_cases hlt:k < l.length
  ·obtain ⟨ad,e,x0,x1⟩:=zVt (Kd.zh H.out HB.out) (k:Int) (by omega) (by omega)
   cases e
   have e:gM l (k:Int) = l[k]:=by simp [gM,List.getD_eq_getElem?_getD,hlt]
   rw [Int.toNat_natCast] at x0 x1
   rw [e] at x0 x1
   clear e
   have hi:=HI.out
   rw [List.drop_eq_getElem_cons hlt,dG] at hi
   have hm:l[k] ∈ l:=List.getElem_mem hlt
   generalize l[k] = x at x0 x1 hi hm
   have hcall:=HP.out wr x hm HB.out
   clear hm
   cases hq:p x with
   | true =>
    rw [hq] at hcall
    rw [if_pos hq] at hi
    have HI2:=zx.mk (HR.out.symm.trans hi)
    clear hi hq HI
    go_wp2_with fail
    refine hcall.mono ?_;rintro e w' ⟨rfl,hb'⟩
    go_wp2_with fail
    go_ret
    exact ⟨by rw [HI2.out];rfl,hb'⟩
   | false =>
    rw [hq] at hcall
    rw [if_neg (by rw [hq];exact Bool.false_ne_true)] at hi
    have HI2:=zx.mk hi
    clear hi hq HI
    go_wp2_with fail
    refine hcall.mono ?_;rintro e w' ⟨rfl,hb'⟩
    go_wp2_with fail
    go_roundw
    case rel=>exact ⟨k + 1,by omega,by first | rfl | go_num,HI2,⟨hb'⟩⟩
    case measure=>simp [intOf];omega
  ·obtain rfl:k = l.length:=by omega
   have hi:=HI.out
   rw [List.drop_eq_nil_of_le (Nat.le_refl _)] at hi
   have HI2:=zx.mk (HR.out.symm.trans hi)
   clear hi HI
   go_wp2
   go_ret
   exact ⟨by rw [HI2.out];rfl,HB.out⟩
set_option maxRecDepth 100000 in
theorem zYN (A0:Option Addr) (c0:Nat) (l:List Yi) (w:World) (hr:Kd.C JX w A0 l.length l) (hl:l.length ≤ 1000000000) (p:Yi → Bool) (g:Nat) (lb:Array Value) (eg:∀ args w,(callFunc g args).run Tryz.prog w = .ok (.enter g args) w)
  (hp:∀ (W:World) (x:Yi),x ∈ l → Below w.heap.size w W → Calls Tryz.prog g (#[.agg #[.string x.f0,.string x.f1]] ++ lb) W fun e w'=>e = .returned (.bool (p x)) ∧ Below w.heap.size w w') :
  Calls Tryz.prog 41 #[.slice A0 l.length c0,.func (.func g) #[] lb] w fun e w'=>e = .returned (.bool (l.any p)) ∧ Below w.heap.size w w':=by
 have h:=zYM A0 c0 l w hr hl p g lb eg hp
 have e:=aY p l 0
 generalize ZW p l 0 = i at h e
 generalize l.any p = b at e ⊢
 subst e
 clear hp hr
 go_enter Tryz.func41,Tryz.ntmps41
 go_wp2_with (go_at_call 103;refine h.mono ?_;rintro e w1 ⟨rfl,hb⟩)
 go_ret
 exact ⟨rfl,hb⟩
end Go.Proofs.YtggifbbiiickmaaGreatDoor
namespace Go.Proofs.YtggifbbiiickmaaGreatDoor
open Go.RowKit Go.Shelf
theorem zyR (w:World):PredAt Tryz.prog 82 #[] encR pR w:=fun W r _=>by
 unfold FnGives
 show Calls Tryz.prog 82 #[.int .i32 r] W _
 by_cases h1:r < 33
 ·have e1:pR r = true:=by unfold pR;simp [h1]
  have d1:decide ((r:Int) < 33) = true:=by simp;omega
  rw [e1];clear e1 h1
  go_enter Tryz.func82,Tryz.ntmps82
  go_wp2
  go_ret
  exact ⟨rfl,0,rfl⟩
 ·have d1:decide ((r:Int) < 33) = false:=by simp;omega
  by_cases h2:126 < r
  ·have e1:pR r = true:=by unfold pR;simp [h2]
   have d2:decide ((126:Int) < (r:Int)) = true:=by simp;omega
   rw [e1];clear e1 h1 h2
   go_enter Tryz.func82,Tryz.ntmps82
   go_wp2
   go_ret
   exact ⟨rfl,0,rfl⟩
  ·have e1:pR r = false:=by unfold pR;simp;omega
   have d2:decide ((126:Int) < (r:Int)) = false:=by simp;omega
   rw [e1];clear e1 h1 h2
   go_enter Tryz.func82,Tryz.ntmps82
   go_wp2
   go_ret
   exact ⟨rfl,0,rfl⟩
set_option maxRecDepth 100000 in
theorem zJr (s:ByteArray) (w:World) :
  Calls Tryz.prog 36 #[.string s] w fun e w'=>e = .returned (.bool (pW s.data.toList)) ∧ Below w.heap.size w w':=by
 have hl:s.data.toList.length = s.size:=Array.length_toList
 have hc:=Tryz.strings_ContainsFunc 82 #[] (enters_of Tryz.func82 (by kernel_rfl) rfl) pR s w (zyR w)
 have hv:decide (0 ≤ Lib.idxFunc pR true s) = !(s.data.toList.all okB):=by
  have:=zVA s s.size 0 (by omega) (by omega)
  rw [List.drop_zero] at this
  unfold Lib.idxFunc
  cases h:s.data.toList.all okB with
  | true=>rw [h] at this;simp at this;simp;omega
  | false=>rw [h] at this;simp at this;simp [this]
 rw [hv] at hc
 unfold pW
 rw [hl]
 generalize s.data.toList.all okB = b at hc ⊢
 clear hl hv
 by_cases h1:1 ≤ s.size
 ·have d1:decide (1 ≤ s.size) = true:=decide_eq_true h1
  have g1:decide ((1:Int) ≤ (s.size:Int)) = true:=by simp;omega
  by_cases h2:s.size ≤ 10
  ·have d2:decide (s.size ≤ 10) = true:=decide_eq_true h2
   have g2:decide ((s.size:Int) ≤ 10) = true:=by simp;omega
   rw [d1,d2]
   clear d1 d2
   cases b with
   | true =>
    go_enter Tryz.func36,Tryz.ntmps36
    go_wp2_with (go_at_call 81;refine hc.mono ?_;rintro e w1 ⟨rfl,hb1⟩)
    go_ret
    exact ⟨rfl,hb1⟩
   | false =>
    go_enter Tryz.func36,Tryz.ntmps36
    go_wp2_with (go_at_call 81;refine hc.mono ?_;rintro e w1 ⟨rfl,hb1⟩)
    go_ret
    exact ⟨rfl,hb1⟩
  ·have d2:decide (s.size ≤ 10) = false:=decide_eq_false h2
   have g2:decide ((s.size:Int) ≤ 10) = false:=by simp;omega
   rw [d1,d2]
   clear d1 d2 hc
   go_enter Tryz.func36,Tryz.ntmps36
   go_wp2
   go_ret
   exact ⟨rfl,Below.refl _ _⟩
 ·have d1:decide (1 ≤ s.size) = false:=decide_eq_false h1
  have g1:decide ((1:Int) ≤ (s.size:Int)) = false:=by simp;omega
  rw [d1]
  clear d1 hc
  go_enter Tryz.func36,Tryz.ntmps36
  go_wp2
  go_ret
  exact ⟨rfl,Below.refl _ _⟩
end Go.Proofs.YtggifbbiiickmaaGreatDoor
namespace Go.Proofs.YtggifbbiiickmaaGreatDoor.zqC
open Go.Maps Go.ChangeMaps Go.WideMaps
set_option linter.unusedSimpArgs false
set_option linter.unusedVariables false
def SMap (P:Program) (k e:TypeId) (w:World) (b n:Nat) (f:ByteArray → Option ByteArray):Prop :=
 ∃ D:DataW Unit,w.ownsMap P k (plainElem P e) b n D ∧ IsMap D ∧ ∀ s:ByteArray,s.size ≤ maxLen → ∀ z,D.atKey (.string s.data.toList) z = match f s with | some v=>.lit (.string v.data.toList) | none=>z
section
variable {P:Program} {k e t:TypeId} {w:World} {b n:Nat} {f:ByteArray → Option ByteArray}
theorem SMap.kept {w':World} {row:Option Nat} (h:SMap P k e w b n f) (hg:w.grownBy w' row) (hne:some b ≠ row):SMap P k e w' b n f:=by
 obtain ⟨D,h1,h2,h3⟩:=h
 exact ⟨D,h1.kept hg hne,h2,h3⟩
theorem SMap.lt (h:SMap P k e w b n f):b < w.heap.size:=by
 obtain ⟨D,h1,_,_⟩:=h
 exact h1.lt
theorem SMap.made (w:World):SMap P k e (w.alloc (.map #[] 0)) w.heap.size 0 (fun _=>none) :=
 ⟨.map [],World.ownsMap_made w P k _,⟨_,rfl⟩,fun s _ z=>rfl⟩
theorem SMap.look (h:SMap P k e w b n f) (hk:P.underlying k = some .string) (ht:P.underlying t = some (.map k e)) (he:P.underlying e = some .string) (hz:(zeroValue e).run P w = .ok (.string ⟨#[]⟩) w) (s:ByteArray) (hs:s.size ≤ maxLen) :
  (Instr.lookup t (.map (some b)) (.string s) true).run P w = .ok (match f s with | some v=>.tuple #[.string v,.bool true] | none=>.tuple #[.string ⟨#[]⟩,.bool false]) w:=by
 obtain ⟨D,⟨es,clock,hb,F,_,rfl⟩,_,hf⟩:=h
 have hf:=hf s hs
 rcases fit_look true (string_keyed hk) ht hz hb F (keyOf_string_mk hk hs) with ⟨hrun,_,hat⟩ | ⟨e0,y,_,_,hrun,hRv,hat,_⟩
 ·rw [hrun]
  cases hv:f s with
  | none=>rfl
  | some v =>
   have h1:=(hat .nil).symm.trans (hf .nil)
   rw [hv] at h1
   cases h1
 ·rw [hrun]
  obtain ⟨s',hv',hy,_⟩:=plainElem_string_inv he hRv
  cases hv:f s with
  | none =>
   have h1:=(hat .nil).symm.trans (hf .nil)
   rw [hv,hy] at h1
   cases h1
  | some v =>
   have h1:=(hat .nil).symm.trans (hf .nil)
   rw [hv,hy] at h1
   have h2:s'.data.toList = v.data.toList:=by injection h1 with h1;injection h1
   have h3:s' = v:=by
    cases s';cases v
    congr 1
    exact Array.toList_inj.1 h2
   subst h3
   rw [hv']
   rfl
theorem SMap.put (h:SMap P k e w b n f) (hk:P.underlying k = some .string) (ht:P.underlying t = some (.map k e)) (he:P.underlying e = some .string) (hn:n < maxLen) (s v:ByteArray) (hs:s.size ≤ maxLen) (hv:v.size ≤ maxLen) :
  ∃ w',(Instr.mapUpdate t (.map (some b)) (.string s) (.string v)).run P w = .ok () w' ∧ SMap P k e w' b (n + 1) (fun x=>if x = s then some v else f x) ∧ w.grownBy w' (some b):=by
 obtain ⟨D,h1,h2,h3⟩:=h
 obtain ⟨w',hrun,hown,hg⟩:=h1.update (string_keyed hk) ht hn (keyOf_string_mk hk hs) (plainElem_string he hv)
 refine ⟨w',hrun,⟨_,hown,?_,fun x hx z=>?_⟩,hg⟩
 ·obtain ⟨es,rfl⟩:=h2
  exact ⟨_,rfl⟩
 ·by_cases hxs:x = s
  ·subst hxs
   dsimp only
   rw [if_pos rfl]
   exact atKey_put_same h2 (by trivial) _ _
  ·dsimp only
   rw [if_neg hxs,atKey_put_other (fun e=>hxs (by injection e with e;cases x;cases s;congr 1;exact Array.toList_inj.1 e)) _ _]
   exact h3 x hx z
end
end Go.Proofs.YtggifbbiiickmaaGreatDoor.zqC
namespace Go.Proofs.YtggifbbiiickmaaGreatDoor
open Go.RowKit Go.Shelf Go.Proofs.zk.za Go.Proofs.zk.zS Go.Proofs.zk.zR Go.Proofs.YtggifbbiiickmaaGreatDoor.PX Go.Proofs.YtggifbbiiickmaaGreatDoor.zqC
set_option linter.unusedSimpArgs false
set_option linter.unusedVariables false
set_option maxRecDepth 100000 in
theorem zjn (s:ByteArray) (W:World):Calls Tryz.prog 35 #[.string s] W fun e w'=>e = .returned (.bool (QK s)) ∧ Below W.heap.size W w':=by
 have h:=zJr s W
 unfold QK
 generalize pW s.data.toList = b at h ⊢
 go_enter Tryz.func35,Tryz.ntmps35
 go_wp2_with (go_at_call 36;refine h.mono ?_;rintro e w1 ⟨rfl,hb⟩)
 go_ret
 exact ⟨rfl,hb⟩
set_option maxRecDepth 100000 in
theorem zyc (x:y8) (A3:Option Addr) (c3:Nat) (A4:Option Addr) (c4:Nat) (A5:Option Addr) (c5:Nat) (W:World) (hG:GW W) (hz:x.f3.length ≤ 1000000000 ∧ x.f4.length ≤ 1000000000 ∧ x.f5.length ≤ 1000000000)
  (q3:Kd.C vO W A3 x.f3.length x.f3) (g3:x.f3.length ≤ c3) (q4:Kd.C jX W A4 x.f4.length x.f4) (g4:x.f4.length ≤ c4) (q5:Kd.C jg W A5 x.f5.length x.f5) (g5:x.f5.length ≤ c5) :
  Calls Tryz.prog 38 #[.agg #[.string x.f0,.bool x.f1,.int .i64 x.f2,.slice A3 x.f3.length c3,.slice A4 x.f4.length c4,.slice A5 x.f5.length c5]] W fun e w'=>e = .returned (.bool (!xu x)) ∧ Below W.heap.size W w':=by
 have hb0:Below W.heap.size W (W.alloc (.cells #[.string x.f0,.bool x.f1,.int .i64 x.f2,.slice A3 x.f3.length c3,.slice A4 x.f4.length c4,.slice A5 x.f5.length c5] 60)):=(Below.refl _ W).alloc (Nat.le_refl _) _
 have h:=jP.calls x.f0 x.f1 x.f2 A3 c3 x.f3 A4 c4 x.f4 A5 c5 x.f5 (xu x) _ (Kd.zh q3 hb0) g3 (Kd.zh q4 hb0) g4 (Kd.zh q5 hb0) g5 (hG.under hb0) (by unfold jP.f;rw [if_pos hz];rfl)
 generalize xu x = b at h ⊢
 clear q3 q4 q5 hz
 go_enter Tryz.func38,Tryz.ntmps38
 go_wp2_with (go_at_call 39;refine h.mono ?_;rintro e w1 ⟨rfl,hb⟩)
 go_ret
 exact ⟨rfl,hb0.trans (hb.mono hb0.size)⟩
set_option maxRecDepth 100000 in
theorem zYO (B:Nat) (p:ZA) (W:World) (hB:W.cell? ⟨B,0,none⟩ = some (.func (.func 35) #[] #[])) :
  Calls Tryz.prog 42 #[.agg #[.string p.f0,.string p.f1],.pointer (some ⟨B,0,none⟩)] W fun e w'=>e = .returned (.bool (ay p)) ∧ Below W.heap.size W w':=by
 have hl:=World.block_lt_of_cell? W _ hB
 have hb0:Below W.heap.size W (W.alloc (.cells #[.string p.f0,.string p.f1] 80)):=(Below.refl _ W).alloc (Nat.le_refl _) _
 have hc:(W.alloc (.cells #[.string p.f0,.string p.f1] 80)).cell? ⟨B,0,none⟩ = some (.func (.func 35) #[] #[]):=(World.cell?_alloc_lt _ _ _ hl).trans hB
 have h1:=zjn p.f0 (W.alloc (.cells #[.string p.f0,.string p.f1] 80))
 have h2:=fun V=>zjn p.f1 V
 unfold ay
 generalize QK p.f0 = b1 at h1 ⊢
 generalize QK p.f1 = b2 at h2 ⊢
 cases b1 with
 | true =>
  clear h2
  go_enter Tryz.func42,Tryz.ntmps42
  go_wp2_with (go_at_call 35;refine h1.mono ?_;rintro e w1 ⟨rfl,hb1⟩)
  go_ret
  exact ⟨rfl,hb0.trans (hb1.mono hb0.size)⟩
 | false =>
  go_enter Tryz.func42,Tryz.ntmps42
  go_wp2_with fail
  refine h1.mono ?_;rintro e w1 ⟨rfl,hb1⟩
  have hc1:=(hb1.cell (p:=⟨B,0,none⟩) (by simp;omega)).trans hc
  have k1:w1.cell? ⟨W.heap.size,1,none⟩ = some (.string p.f1):=(hb1.cell (p:=⟨W.heap.size,1,none⟩) (by simp)).trans (by simp)
  clear h1 hc
  go_wp2_with fail
  refine (h2 _).mono ?_;rintro e w2 ⟨rfl,hb2⟩
  go_wp2_with fail
  go_ret
  exact ⟨by first | rfl | (cases b2 <;> rfl),hb0.trans ((hb1.trans (hb2.mono hb1.size)).mono hb0.size)⟩
def Qr (f:ByteArray → Option ByteArray) (c:ByteArray):ByteArray:=match f c with | some v=>v | none=>c
theorem zgy (w:World):(zeroValue 9).run Tryz.prog w = .ok (.string ⟨#[]⟩) w:=by kernel_rfl
set_option maxRecDepth 100000 in
theorem zqD (B m k:Nat) (f:ByteArray → Option ByteArray) (c:ByteArray) (W:World) (hc:c.size ≤ maxLen) (hB:W.cell? ⟨B,0,none⟩ = some (.map (some m))) (hm:SMap Tryz.prog 9 9 W m k f) :
  Calls Tryz.prog 44 #[.string c,.pointer (some ⟨B,0,none⟩)] W fun e w'=>e = .returned (.string (Qr f c)) ∧ W = w':=by
 have hlk:=hm.look (t:=82) Tryz.underlying9 Tryz.underlying82 Tryz.underlying9 (zgy W) c hc
 unfold Qr
 clear hm
 cases hf:f c with
 | none =>
  rw [hf] at hlk
  clear hf
  go_enter Tryz.func44,Tryz.ntmps44
  go_wp2
  go_ret
  exact ⟨rfl,rfl⟩
 | some v =>
  rw [hf] at hlk
  clear hf
  go_enter Tryz.func44,Tryz.ntmps44
  go_wp2
  go_ret
  exact ⟨rfl,rfl⟩
end Go.Proofs.YtggifbbiiickmaaGreatDoor
namespace Go.Proofs.YtggifbbiiickmaaGreatDoor
open Go.RowKit Go.Shelf Go.Proofs.zk.za Go.Proofs.zk.zS Go.Proofs.zk.zR Go.Proofs.YtggifbbiiickmaaGreatDoor.PX Go.Proofs.YtggifbbiiickmaaGreatDoor.zqC
set_option linter.unusedSimpArgs false
set_option linter.unusedVariables false
theorem zjo (Af:Option Addr) (cf:Nat) (l:List y8) (f s:Int) (yE yw:Bool) (Ac:Option Addr) (cc:Nat) (chars:List ByteArray) (Ap:Option Addr) (cp:Nat) (pairs:List ZA) (w:World) (hG:GW w) (hC:Kd.C kP w Af l.length l) (hz:∀ x ∈ l,x.f3.length ≤ 1000000000 ∧ x.f4.length ≤ 1000000000 ∧ x.f5.length ≤ 1000000000) (hl:l.length ≤ 1000000000) (hS:Kd.C Kd.string w Ac chars.length chars) (hlc:chars.length ≤ 1000000000) (hP:Kd.C JX w Ap pairs.length pairs) (hlp:pairs.length ≤ 1000000000) (W:World) (hb:Below w.heap.size w W):Calls Tryz.prog 37 #[.slice Af l.length cf,.func (.func 38) #[] #[]] W fun e w'=>e = .returned (.bool (l.any fun x=>!xu x)) ∧ Below W.heap.size W w' :=
 zzN Af cf l W (Kd.zh hC hb) hl (fun x=>!xu x) 38 #[] (Zl Tryz.func38 (by kernel_rfl) rfl) (fun V y A3 c3 A4 c4 A5 c5 hm hV p3 g3 p4 g4 p5 g5 =>
  (zyc y A3 c3 A4 c4 A5 c5 V (hG.under (hb.trans (hV.mono hb.size))) (hz y hm) p3 g3 p4 g4 p5 g5).mono fun e w' ⟨h1,h2⟩=>⟨h1,hV.trans (h2.mono hV.size)⟩)
theorem zjr (Af:Option Addr) (cf:Nat) (l:List y8) (f s:Int) (yE yw:Bool) (Ac:Option Addr) (cc:Nat) (chars:List ByteArray) (Ap:Option Addr) (cp:Nat) (pairs:List ZA) (w:World) (hG:GW w) (hC:Kd.C kP w Af l.length l) (hz:∀ x ∈ l,x.f3.length ≤ 1000000000 ∧ x.f4.length ≤ 1000000000 ∧ x.f5.length ≤ 1000000000) (hl:l.length ≤ 1000000000) (hS:Kd.C Kd.string w Ac chars.length chars) (hlc:chars.length ≤ 1000000000) (hP:Kd.C JX w Ap pairs.length pairs) (hlp:pairs.length ≤ 1000000000) (W:World) (hb:Below w.heap.size w W):Calls Tryz.prog 40 #[.slice Ac chars.length cc,.func (.func 35) #[] #[]] W fun e w'=>e = .returned (.bool (chars.any QK)) ∧ Below W.heap.size W w' :=
 zYL Ac cc chars W (Kd.zh hS hb) hlc QK 35 #[] (Zl Tryz.func35 (by kernel_rfl) rfl) (fun V y hm hV=>(zjn y V).mono fun e w' ⟨h1,h2⟩=>⟨h1,hV.trans (h2.mono hV.size)⟩)
theorem zjs (Af:Option Addr) (cf:Nat) (l:List y8) (f s:Int) (yE yw:Bool) (Ac:Option Addr) (cc:Nat) (chars:List ByteArray) (Ap:Option Addr) (cp:Nat) (pairs:List ZA) (w:World) (hG:GW w) (hC:Kd.C kP w Af l.length l) (hz:∀ x ∈ l,x.f3.length ≤ 1000000000 ∧ x.f4.length ≤ 1000000000 ∧ x.f5.length ≤ 1000000000) (hl:l.length ≤ 1000000000) (hS:Kd.C Kd.string w Ac chars.length chars) (hlc:chars.length ≤ 1000000000) (hP:Kd.C JX w Ap pairs.length pairs) (hlp:pairs.length ≤ 1000000000) (B:Nat) (W:World) (hb:Below w.heap.size w W) (hB:W.cell? ⟨B,0,none⟩ = some (.func (.func 35) #[] #[])):Calls Tryz.prog 41 #[.slice Ap pairs.length cp,.func (.func 42) #[] #[.pointer (some ⟨B,0,none⟩)]] W fun e w'=>e = .returned (.bool (pairs.any ay)) ∧ Below W.heap.size W w' :=
 zYN Ap cp pairs W (Kd.zh hP hb) hlp ay 42 #[.pointer (some ⟨B,0,none⟩)] (Zl Tryz.func42 (by kernel_rfl) rfl) (fun V y hm hV=>(zYO B y V ((hV.cell (p:=⟨B,0,none⟩) (World.block_lt_of_cell? W _ hB)).trans hB)).mono fun e w' ⟨h1,h2⟩=>⟨h1,hV.trans (h2.mono hV.size)⟩)
def p9 (n:Nat) (f s:Int):Bool:=decide (f < 0) || (decide ((n:Int) ≤ f) || (decide (s < 1) || decide (1000 < s)))
set_option maxRecDepth 100000 in
set_option maxHeartbeats 8000000 in
theorem zYP (Af:Option Addr) (cf:Nat) (l:List y8) (f s:Int) (yE yw:Bool) (Ac:Option Addr) (cc:Nat) (chars:List ByteArray) (Ap:Option Addr) (cp:Nat) (pairs:List ZA) (w:World) (hG:GW w) (hC:Kd.C kP w Af l.length l) (hz:∀ x ∈ l,x.f3.length ≤ 1000000000 ∧ x.f4.length ≤ 1000000000 ∧ x.f5.length ≤ 1000000000) (hl:l.length ≤ 1000000000) (hS:Kd.C Kd.string w Ac chars.length chars) (hlc:chars.length ≤ 1000000000) (hP:Kd.C JX w Ap pairs.length pairs) (hlp:pairs.length ≤ 1000000000) (h1:(l.any fun x=>!xu x) = true) :
  Calls Tryz.prog 13 #[.slice Af l.length cf,.agg #[.int .i64 f,.int .i64 s,.bool yE,.bool yw],.slice Ac chars.length cc,.slice Ap pairs.length cp] w fun e w'=>e = .returned (.tuple #[.slice none 0 0,.slice none 0 0,.int .i64 1]) ∧ Below w.heap.size w w':=by
 have hF:=zjo Af cf l f s yE yw Ac cc chars Ap cp pairs w hG hC hz hl hS hlc hP hlp
 have hQ:=zjr Af cf l f s yE yw Ac cc chars Ap cp pairs w hG hC hz hl hS hlc hP hlp
 have hR:=zjs Af cf l f s yE yw Ac cc chars Ap cp pairs w hG hC hz hl hS hlc hP hlp (w.heap.size + 1)
 have hb0:Below w.heap.size w ((w.alloc (.cells #[.int .i64 f,.int .i64 s,.bool yE,.bool yw] 26)).alloc (.cells #[.func (.func 35) #[] #[]] 75)):=((Below.refl _ w).alloc (Nat.le_refl _) _).alloc (by simp) _
 have ZR:=yV (uo w (.cells #[.int .i64 f,.int .i64 s,.bool yE,.bool yw] 26)) (.cells #[.func (.func 35) #[] #[]] 75)
 have hbad:Boxed ((w.alloc (.cells #[.int .i64 f,.int .i64 s,.bool yE,.bool yw] 26)).alloc (.cells #[.func (.func 35) #[] #[]] 75)) (w.heap.size + 1) 75 (.func (.func 35) #[] #[]):=by
  have h:=Boxed.new (w.alloc (.cells #[.int .i64 f,.int .i64 s,.bool yE,.bool yw] 26)) 75 (.func (.func 35) #[] #[])
  rwa [World.size_alloc] at h
 rw [h1] at hF
 have HT1:=zx.mk ZR
 have HD1:=zx.mk hbad
 have HB1:=zx.mk hb0
 have HF:=zx.mk hF
 have HQ:=zx.mk hQ
 have HR:=zx.mk hR
 clear ZR hbad hb0 hF hQ hR hG hC hz hS hP
 go_enter Tryz.func13,Tryz.ntmps13
 go_wp2_with fail
 refine (HF.out _ HB1.out).mono ?_;rintro e w2 ⟨rfl,hb2⟩
 go_wp2_with fail
 go_ret3
 exact ⟨rfl,HB1.out.trans (hb2.mono HB1.out.size)⟩
set_option maxRecDepth 100000 in
set_option maxHeartbeats 8000000 in
theorem zYR (Af:Option Addr) (cf:Nat) (l:List y8) (f s:Int) (yE yw:Bool) (Ac:Option Addr) (cc:Nat) (chars:List ByteArray) (Ap:Option Addr) (cp:Nat) (pairs:List ZA) (w:World) (hG:GW w) (hC:Kd.C kP w Af l.length l) (hz:∀ x ∈ l,x.f3.length ≤ 1000000000 ∧ x.f4.length ≤ 1000000000 ∧ x.f5.length ≤ 1000000000) (hl:l.length ≤ 1000000000) (hS:Kd.C Kd.string w Ac chars.length chars) (hlc:chars.length ≤ 1000000000) (hP:Kd.C JX w Ap pairs.length pairs) (hlp:pairs.length ≤ 1000000000) (h1:(l.any fun x=>!xu x) = false) (h2:p9 l.length f s = true) :
  Calls Tryz.prog 13 #[.slice Af l.length cf,.agg #[.int .i64 f,.int .i64 s,.bool yE,.bool yw],.slice Ac chars.length cc,.slice Ap pairs.length cp] w fun e w'=>e = .returned (.tuple #[.slice none 0 0,.slice none 0 0,.int .i64 1]) ∧ Below w.heap.size w w':=by
 have hF:=zjo Af cf l f s yE yw Ac cc chars Ap cp pairs w hG hC hz hl hS hlc hP hlp
 have hQ:=zjr Af cf l f s yE yw Ac cc chars Ap cp pairs w hG hC hz hl hS hlc hP hlp
 have hR:=zjs Af cf l f s yE yw Ac cc chars Ap cp pairs w hG hC hz hl hS hlc hP hlp (w.heap.size + 1)
 have hb0:Below w.heap.size w ((w.alloc (.cells #[.int .i64 f,.int .i64 s,.bool yE,.bool yw] 26)).alloc (.cells #[.func (.func 35) #[] #[]] 75)):=((Below.refl _ w).alloc (Nat.le_refl _) _).alloc (by simp) _
 have ZR:=yV (uo w (.cells #[.int .i64 f,.int .i64 s,.bool yE,.bool yw] 26)) (.cells #[.func (.func 35) #[] #[]] 75)
 have hbad:Boxed ((w.alloc (.cells #[.int .i64 f,.int .i64 s,.bool yE,.bool yw] 26)).alloc (.cells #[.func (.func 35) #[] #[]] 75)) (w.heap.size + 1) 75 (.func (.func 35) #[] #[]):=by
  have h:=Boxed.new (w.alloc (.cells #[.int .i64 f,.int .i64 s,.bool yE,.bool yw] 26)) 75 (.func (.func 35) #[] #[])
  rwa [World.size_alloc] at h
 rw [h1] at hF
 have HT1:=zx.mk ZR
 have HD1:=zx.mk hbad
 have HB1:=zx.mk hb0
 have HF:=zx.mk hF
 have HQ:=zx.mk hQ
 have HR:=zx.mk hR
 clear ZR hbad hb0 hF hQ hR hG hC hz hS hP
 go_enter Tryz.func13,Tryz.ntmps13
 go_wp2_with fail
 refine (HF.out _ HB1.out).mono ?_;rintro e w2 ⟨rfl,hb2⟩
 have HT2:=zx.mk (zM HT1.out hb2)
 have HD2:=zx.mk (zM HD1.out hb2)
 have HB2:=zx.mk (HB1.out.trans (hb2.mono HB1.out.size))
 clear hb2
 have a2:w2.cell? ⟨w.heap.size,0,none⟩ = some (.int .i64 f):=(zX HT2.out 0).trans rfl
 have b2:w2.cell? ⟨w.heap.size,1,none⟩ = some (.int .i64 s):=(zX HT2.out 1).trans rfl
 have c2:w2.cell? ⟨w.heap.size + 1,0,none⟩ = some (.func (.func 35) #[] #[]):=(zX HD2.out 0).trans rfl
 by_cases g1:f < 0
 ·have d1:decide (f < 0) = true:=decide_eq_true g1
  clear h2
  go_wp2_with fail
  go_ret3
  exact ⟨rfl,HB2.out⟩
 have d1:decide (f < 0) = false:=decide_eq_false g1
 by_cases g2:(l.length:Int) ≤ f
 ·have d2:decide ((l.length:Int) ≤ f) = true:=decide_eq_true g2
  clear h2
  go_wp2_with fail
  go_ret3
  exact ⟨rfl,HB2.out⟩
 have d2:decide ((l.length:Int) ≤ f) = false:=decide_eq_false g2
 by_cases g3:s < 1
 ·have d3:decide (s < 1) = true:=decide_eq_true g3
  clear h2
  go_wp2_with fail
  go_ret3
  exact ⟨rfl,HB2.out⟩
 have d3:decide (s < 1) = false:=decide_eq_false g3
 have g4:1000 < s:=by
  unfold p9 at h2
  simp only [d1,d2,d3,Bool.false_or,decide_eq_true_eq] at h2
  exact h2
 have d4:decide (1000 < s) = true:=decide_eq_true g4
 clear h2
 go_wp2_with fail
 go_ret3
 exact ⟨rfl,HB2.out⟩
set_option maxRecDepth 100000 in
set_option maxHeartbeats 8000000 in
theorem zYS (Af:Option Addr) (cf:Nat) (l:List y8) (f s:Int) (yE yw:Bool) (Ac:Option Addr) (cc:Nat) (chars:List ByteArray) (Ap:Option Addr) (cp:Nat) (pairs:List ZA) (w:World) (hG:GW w) (hC:Kd.C kP w Af l.length l) (hz:∀ x ∈ l,x.f3.length ≤ 1000000000 ∧ x.f4.length ≤ 1000000000 ∧ x.f5.length ≤ 1000000000) (hl:l.length ≤ 1000000000) (hS:Kd.C Kd.string w Ac chars.length chars) (hlc:chars.length ≤ 1000000000) (hP:Kd.C JX w Ap pairs.length pairs) (hlp:pairs.length ≤ 1000000000) (h1:(l.any fun x=>!xu x) = false) (h2:p9 l.length f s = false) (h3:2000 < chars.length ∨ 100 < pairs.length) :
  Calls Tryz.prog 13 #[.slice Af l.length cf,.agg #[.int .i64 f,.int .i64 s,.bool yE,.bool yw],.slice Ac chars.length cc,.slice Ap pairs.length cp] w fun e w'=>e = .returned (.tuple #[.slice none 0 0,.slice none 0 0,.int .i64 1]) ∧ Below w.heap.size w w':=by
 have d1:decide (f < 0) = false:=by cases h:decide (f < 0) with | false=>rfl | true=>(unfold p9 at h2;rw [h,Bool.true_or] at h2;cases h2)
 have d2:decide ((l.length:Int) ≤ f) = false:=by cases h:decide ((l.length:Int) ≤ f) with | false=>rfl | true=>(unfold p9 at h2;rw [h,Bool.true_or,Bool.or_true] at h2;cases h2)
 have d3:decide (s < 1) = false:=by cases h:decide (s < 1) with | false=>rfl | true=>(unfold p9 at h2;rw [h,Bool.true_or,Bool.or_true,Bool.or_true] at h2;cases h2)
 have d4:decide (1000 < s) = false:=by cases h:decide (1000 < s) with | false=>rfl | true=>(unfold p9 at h2;rw [h,Bool.or_true,Bool.or_true,Bool.or_true] at h2;cases h2)
 have r1:=of_decide_eq_false d1
 have r2:=of_decide_eq_false d2
 have r3:=of_decide_eq_false d3
 have r4:=of_decide_eq_false d4
 clear h2
 have hF:=zjo Af cf l f s yE yw Ac cc chars Ap cp pairs w hG hC hz hl hS hlc hP hlp
 have hQ:=zjr Af cf l f s yE yw Ac cc chars Ap cp pairs w hG hC hz hl hS hlc hP hlp
 have hR:=zjs Af cf l f s yE yw Ac cc chars Ap cp pairs w hG hC hz hl hS hlc hP hlp (w.heap.size + 1)
 have hb0:Below w.heap.size w ((w.alloc (.cells #[.int .i64 f,.int .i64 s,.bool yE,.bool yw] 26)).alloc (.cells #[.func (.func 35) #[] #[]] 75)):=((Below.refl _ w).alloc (Nat.le_refl _) _).alloc (by simp) _
 have ZR:=yV (uo w (.cells #[.int .i64 f,.int .i64 s,.bool yE,.bool yw] 26)) (.cells #[.func (.func 35) #[] #[]] 75)
 have hbad:Boxed ((w.alloc (.cells #[.int .i64 f,.int .i64 s,.bool yE,.bool yw] 26)).alloc (.cells #[.func (.func 35) #[] #[]] 75)) (w.heap.size + 1) 75 (.func (.func 35) #[] #[]):=by
  have h:=Boxed.new (w.alloc (.cells #[.int .i64 f,.int .i64 s,.bool yE,.bool yw] 26)) 75 (.func (.func 35) #[] #[])
  rwa [World.size_alloc] at h
 rw [h1] at hF
 have HT1:=zx.mk ZR
 have HD1:=zx.mk hbad
 have HB1:=zx.mk hb0
 have HF:=zx.mk hF
 have HQ:=zx.mk hQ
 have HR:=zx.mk hR
 clear ZR hbad hb0 hF hQ hR hG hC hz hS hP
 go_enter Tryz.func13,Tryz.ntmps13
 go_wp2_with fail
 refine (HF.out _ HB1.out).mono ?_;rintro e w2 ⟨rfl,hb2⟩
 have HT2:=zx.mk (zM HT1.out hb2)
 have HD2:=zx.mk (zM HD1.out hb2)
 have HB2:=zx.mk (HB1.out.trans (hb2.mono HB1.out.size))
 clear hb2
 have a2:w2.cell? ⟨w.heap.size,0,none⟩ = some (.int .i64 f):=(zX HT2.out 0).trans rfl
 have b2:w2.cell? ⟨w.heap.size,1,none⟩ = some (.int .i64 s):=(zX HT2.out 1).trans rfl
 have c2:w2.cell? ⟨w.heap.size + 1,0,none⟩ = some (.func (.func 35) #[] #[]):=(zX HD2.out 0).trans rfl
 by_cases g5:2000 < chars.length
 ·have d5:decide ((2000:Int) < (chars.length:Int)) = true:=decide_eq_true (by omega)
  have d5':decide (2000 < chars.length) = true:=decide_eq_true g5
  clear h3
  go_wp2_with fail
  go_ret3
  exact ⟨rfl,HB2.out⟩
 have d5:decide ((2000:Int) < (chars.length:Int)) = false:=decide_eq_false (by omega)
 have g6:100 < pairs.length:=by omega
 have d6:decide ((100:Int) < (pairs.length:Int)) = true:=decide_eq_true (by omega)
 clear h3
 go_wp2_with fail
 go_ret3
 exact ⟨rfl,HB2.out⟩
set_option maxRecDepth 100000 in
set_option maxHeartbeats 8000000 in
theorem zYT (Af:Option Addr) (cf:Nat) (l:List y8) (f s:Int) (yE yw:Bool) (Ac:Option Addr) (cc:Nat) (chars:List ByteArray) (Ap:Option Addr) (cp:Nat) (pairs:List ZA) (w:World) (hG:GW w) (hC:Kd.C kP w Af l.length l) (hz:∀ x ∈ l,x.f3.length ≤ 1000000000 ∧ x.f4.length ≤ 1000000000 ∧ x.f5.length ≤ 1000000000) (hl:l.length ≤ 1000000000) (hS:Kd.C Kd.string w Ac chars.length chars) (hlc:chars.length ≤ 1000000000) (hP:Kd.C JX w Ap pairs.length pairs) (hlp:pairs.length ≤ 1000000000) (h1:(l.any fun x=>!xu x) = false) (h2:p9 l.length f s = false) (h3:chars.length ≤ 2000) (h3':pairs.length ≤ 100) (h4:chars.any QK = true) :
  Calls Tryz.prog 13 #[.slice Af l.length cf,.agg #[.int .i64 f,.int .i64 s,.bool yE,.bool yw],.slice Ac chars.length cc,.slice Ap pairs.length cp] w fun e w'=>e = .returned (.tuple #[.slice none 0 0,.slice none 0 0,.int .i64 1]) ∧ Below w.heap.size w w':=by
 have d1:decide (f < 0) = false:=by cases h:decide (f < 0) with | false=>rfl | true=>(unfold p9 at h2;rw [h,Bool.true_or] at h2;cases h2)
 have d2:decide ((l.length:Int) ≤ f) = false:=by cases h:decide ((l.length:Int) ≤ f) with | false=>rfl | true=>(unfold p9 at h2;rw [h,Bool.true_or,Bool.or_true] at h2;cases h2)
 have d3:decide (s < 1) = false:=by cases h:decide (s < 1) with | false=>rfl | true=>(unfold p9 at h2;rw [h,Bool.true_or,Bool.or_true,Bool.or_true] at h2;cases h2)
 have d4:decide (1000 < s) = false:=by cases h:decide (1000 < s) with | false=>rfl | true=>(unfold p9 at h2;rw [h,Bool.or_true,Bool.or_true,Bool.or_true] at h2;cases h2)
 have r1:=of_decide_eq_false d1
 have r2:=of_decide_eq_false d2
 have r3:=of_decide_eq_false d3
 have r4:=of_decide_eq_false d4
 clear h2
 have d5:decide ((2000:Int) < (chars.length:Int)) = false:=decide_eq_false (by omega)
 have d6:decide ((100:Int) < (pairs.length:Int)) = false:=decide_eq_false (by omega)
 have hF:=zjo Af cf l f s yE yw Ac cc chars Ap cp pairs w hG hC hz hl hS hlc hP hlp
 have hQ:=zjr Af cf l f s yE yw Ac cc chars Ap cp pairs w hG hC hz hl hS hlc hP hlp
 have hR:=zjs Af cf l f s yE yw Ac cc chars Ap cp pairs w hG hC hz hl hS hlc hP hlp (w.heap.size + 1)
 have hb0:Below w.heap.size w ((w.alloc (.cells #[.int .i64 f,.int .i64 s,.bool yE,.bool yw] 26)).alloc (.cells #[.func (.func 35) #[] #[]] 75)):=((Below.refl _ w).alloc (Nat.le_refl _) _).alloc (by simp) _
 have ZR:=yV (uo w (.cells #[.int .i64 f,.int .i64 s,.bool yE,.bool yw] 26)) (.cells #[.func (.func 35) #[] #[]] 75)
 have hbad:Boxed ((w.alloc (.cells #[.int .i64 f,.int .i64 s,.bool yE,.bool yw] 26)).alloc (.cells #[.func (.func 35) #[] #[]] 75)) (w.heap.size + 1) 75 (.func (.func 35) #[] #[]):=by
  have h:=Boxed.new (w.alloc (.cells #[.int .i64 f,.int .i64 s,.bool yE,.bool yw] 26)) 75 (.func (.func 35) #[] #[])
  rwa [World.size_alloc] at h
 rw [h1] at hF
 rw [h4] at hQ
 have HT1:=zx.mk ZR
 have HD1:=zx.mk hbad
 have HB1:=zx.mk hb0
 have HF:=zx.mk hF
 have HQ:=zx.mk hQ
 have HR:=zx.mk hR
 clear ZR hbad hb0 hF hQ hR hG hC hz hS hP
 go_enter Tryz.func13,Tryz.ntmps13
 go_wp2_with fail
 refine (HF.out _ HB1.out).mono ?_;rintro e w2 ⟨rfl,hb2⟩
 have HT2:=zx.mk (zM HT1.out hb2)
 have HD2:=zx.mk (zM HD1.out hb2)
 have HB2:=zx.mk (HB1.out.trans (hb2.mono HB1.out.size))
 clear hb2
 have a2:w2.cell? ⟨w.heap.size,0,none⟩ = some (.int .i64 f):=(zX HT2.out 0).trans rfl
 have b2:w2.cell? ⟨w.heap.size,1,none⟩ = some (.int .i64 s):=(zX HT2.out 1).trans rfl
 have c2:w2.cell? ⟨w.heap.size + 1,0,none⟩ = some (.func (.func 35) #[] #[]):=(zX HD2.out 0).trans rfl
 go_wp2_with fail
 refine (HQ.out _ HB2.out).mono ?_;rintro e w3 ⟨rfl,hb3⟩
 go_wp2_with fail
 go_ret3
 exact ⟨rfl,HB2.out.trans (hb3.mono HB2.out.size)⟩
set_option maxRecDepth 100000 in
set_option maxHeartbeats 8000000 in
theorem zYU (Af:Option Addr) (cf:Nat) (l:List y8) (f s:Int) (yE yw:Bool) (Ac:Option Addr) (cc:Nat) (chars:List ByteArray) (Ap:Option Addr) (cp:Nat) (pairs:List ZA) (w:World) (hG:GW w) (hC:Kd.C kP w Af l.length l) (hz:∀ x ∈ l,x.f3.length ≤ 1000000000 ∧ x.f4.length ≤ 1000000000 ∧ x.f5.length ≤ 1000000000) (hl:l.length ≤ 1000000000) (hS:Kd.C Kd.string w Ac chars.length chars) (hlc:chars.length ≤ 1000000000) (hP:Kd.C JX w Ap pairs.length pairs) (hlp:pairs.length ≤ 1000000000) (h1:(l.any fun x=>!xu x) = false) (h2:p9 l.length f s = false) (h3:chars.length ≤ 2000) (h3':pairs.length ≤ 100) (h4:chars.any QK = false) (h5:pairs.any ay = true) :
  Calls Tryz.prog 13 #[.slice Af l.length cf,.agg #[.int .i64 f,.int .i64 s,.bool yE,.bool yw],.slice Ac chars.length cc,.slice Ap pairs.length cp] w fun e w'=>e = .returned (.tuple #[.slice none 0 0,.slice none 0 0,.int .i64 1]) ∧ Below w.heap.size w w':=by
 have d1:decide (f < 0) = false:=by cases h:decide (f < 0) with | false=>rfl | true=>(unfold p9 at h2;rw [h,Bool.true_or] at h2;cases h2)
 have d2:decide ((l.length:Int) ≤ f) = false:=by cases h:decide ((l.length:Int) ≤ f) with | false=>rfl | true=>(unfold p9 at h2;rw [h,Bool.true_or,Bool.or_true] at h2;cases h2)
 have d3:decide (s < 1) = false:=by cases h:decide (s < 1) with | false=>rfl | true=>(unfold p9 at h2;rw [h,Bool.true_or,Bool.or_true,Bool.or_true] at h2;cases h2)
 have d4:decide (1000 < s) = false:=by cases h:decide (1000 < s) with | false=>rfl | true=>(unfold p9 at h2;rw [h,Bool.or_true,Bool.or_true,Bool.or_true] at h2;cases h2)
 have r1:=of_decide_eq_false d1
 have r2:=of_decide_eq_false d2
 have r3:=of_decide_eq_false d3
 have r4:=of_decide_eq_false d4
 clear h2
 have d5:decide ((2000:Int) < (chars.length:Int)) = false:=decide_eq_false (by omega)
 have d6:decide ((100:Int) < (pairs.length:Int)) = false:=decide_eq_false (by omega)
 have hF:=zjo Af cf l f s yE yw Ac cc chars Ap cp pairs w hG hC hz hl hS hlc hP hlp
 have hQ:=zjr Af cf l f s yE yw Ac cc chars Ap cp pairs w hG hC hz hl hS hlc hP hlp
 have hR:=zjs Af cf l f s yE yw Ac cc chars Ap cp pairs w hG hC hz hl hS hlc hP hlp (w.heap.size + 1)
 have hb0:Below w.heap.size w ((w.alloc (.cells #[.int .i64 f,.int .i64 s,.bool yE,.bool yw] 26)).alloc (.cells #[.func (.func 35) #[] #[]] 75)):=((Below.refl _ w).alloc (Nat.le_refl _) _).alloc (by simp) _
 have ZR:=yV (uo w (.cells #[.int .i64 f,.int .i64 s,.bool yE,.bool yw] 26)) (.cells #[.func (.func 35) #[] #[]] 75)
 have hbad:Boxed ((w.alloc (.cells #[.int .i64 f,.int .i64 s,.bool yE,.bool yw] 26)).alloc (.cells #[.func (.func 35) #[] #[]] 75)) (w.heap.size + 1) 75 (.func (.func 35) #[] #[]):=by
  have h:=Boxed.new (w.alloc (.cells #[.int .i64 f,.int .i64 s,.bool yE,.bool yw] 26)) 75 (.func (.func 35) #[] #[])
  rwa [World.size_alloc] at h
 rw [h1] at hF
 rw [h4] at hQ
 rw [h5] at hR
 have HT1:=zx.mk ZR
 have HD1:=zx.mk hbad
 have HB1:=zx.mk hb0
 have HF:=zx.mk hF
 have HQ:=zx.mk hQ
 have HR:=zx.mk hR
 clear ZR hbad hb0 hF hQ hR hG hC hz hS hP
 go_enter Tryz.func13,Tryz.ntmps13
 go_wp2_with fail
 refine (HF.out _ HB1.out).mono ?_;rintro e w2 ⟨rfl,hb2⟩
 have HT2:=zx.mk (zM HT1.out hb2)
 have HD2:=zx.mk (zM HD1.out hb2)
 have HB2:=zx.mk (HB1.out.trans (hb2.mono HB1.out.size))
 clear hb2
 have a2:w2.cell? ⟨w.heap.size,0,none⟩ = some (.int .i64 f):=(zX HT2.out 0).trans rfl
 have b2:w2.cell? ⟨w.heap.size,1,none⟩ = some (.int .i64 s):=(zX HT2.out 1).trans rfl
 have c2:w2.cell? ⟨w.heap.size + 1,0,none⟩ = some (.func (.func 35) #[] #[]):=(zX HD2.out 0).trans rfl
 go_wp2_with fail
 refine (HQ.out _ HB2.out).mono ?_;rintro e w3 ⟨rfl,hb3⟩
 have HT3:=zx.mk (zM HT2.out hb3)
 have HD3:=zx.mk (zM HD2.out hb3)
 have HB3:=zx.mk (HB2.out.trans (hb3.mono HB2.out.size))
 clear hb3
 have a3:w3.cell? ⟨w.heap.size,0,none⟩ = some (.int .i64 f):=(zX HT3.out 0).trans rfl
 have b3:w3.cell? ⟨w.heap.size,1,none⟩ = some (.int .i64 s):=(zX HT3.out 1).trans rfl
 have c3:w3.cell? ⟨w.heap.size + 1,0,none⟩ = some (.func (.func 35) #[] #[]):=(zX HD3.out 0).trans rfl
 go_wp2_with fail
 refine (HR.out _ HB3.out c3).mono ?_;rintro e w4 ⟨rfl,hb4⟩
 go_wp2_with fail
 go_ret3
 exact ⟨rfl,HB3.out.trans (hb4.mono HB3.out.size)⟩
theorem zqE (l:List y8) (f s:Int) (chars:List ByteArray) (pairs:List ZA):bf l f s chars pairs = ((l.any fun x=>!xu x) || p9 l.length f s || (decide (2000 < chars.length) || decide (100 < pairs.length)) || chars.any QK || pairs.any ay):=by
 unfold bf p9
 simp only [Bool.or_assoc]
set_option maxRecDepth 100000 in
set_option maxHeartbeats 8000000 in
theorem zY0 (Af:Option Addr) (cf:Nat) (l:List y8) (f s:Int) (yE yw:Bool) (Ac:Option Addr) (cc:Nat) (chars:List ByteArray) (Ap:Option Addr) (cp:Nat) (pairs:List ZA) (w:World) (hG:GW w) (hC:Kd.C kP w Af l.length l) (hz:∀ x ∈ l,x.f3.length ≤ 1000000000 ∧ x.f4.length ≤ 1000000000 ∧ x.f5.length ≤ 1000000000) (hl:l.length ≤ 1000000000) (hS:Kd.C Kd.string w Ac chars.length chars) (hlc:chars.length ≤ 1000000000) (hP:Kd.C JX w Ap pairs.length pairs) (hlp:pairs.length ≤ 1000000000) (h:bf l f s chars pairs = true) :
  Calls Tryz.prog 13 #[.slice Af l.length cf,.agg #[.int .i64 f,.int .i64 s,.bool yE,.bool yw],.slice Ac chars.length cc,.slice Ap pairs.length cp] w fun e w'=>e = .returned (.tuple #[.slice none 0 0,.slice none 0 0,.int .i64 1]) ∧ Below w.heap.size w w':=by
 rw [zqE] at h
 cases h1:l.any fun x=>!xu x with
 | true=>exact zYP Af cf l f s yE yw Ac cc chars Ap cp pairs w hG hC hz hl hS hlc hP hlp h1
 | false =>
 cases h2:p9 l.length f s with
 | true=>exact zYR Af cf l f s yE yw Ac cc chars Ap cp pairs w hG hC hz hl hS hlc hP hlp h1 h2
 | false =>
 by_cases h3:2000 < chars.length ∨ 100 < pairs.length
 ·exact zYS Af cf l f s yE yw Ac cc chars Ap cp pairs w hG hC hz hl hS hlc hP hlp h1 h2 h3
 cases h4:chars.any QK with
 | true=>exact zYT Af cf l f s yE yw Ac cc chars Ap cp pairs w hG hC hz hl hS hlc hP hlp h1 h2 (by omega) (by omega) h4
 | false =>
 rw [h1,h2,h4,decide_eq_false (by omega:¬ 2000 < chars.length),decide_eq_false (by omega:¬ 100 < pairs.length)] at h
 exact zYU Af cf l f s yE yw Ac cc chars Ap cp pairs w hG hC hz hl hS hlc hP hlp h1 h2 (by omega) (by omega) h4 (by simpa using h)
end Go.Proofs.YtggifbbiiickmaaGreatDoor
namespace Go.Proofs.YtggifbbiiickmaaGreatDoor
open Go.RowKit Go.Shelf Go.Proofs.zk.za Go.Proofs.zk.zS Go.Proofs.zk.zR Go.Proofs.YtggifbbiiickmaaGreatDoor.PX Go.Proofs.YtggifbbiiickmaaGreatDoor.zqC
set_option linter.unusedSimpArgs false
set_option linter.unusedVariables false
attribute [local go_sem] Oper.semAt_some
theorem zZG {P:Program} {c:Code} {K:Act → World → Prop} {Q':Exit → Act → World → Prop} {a:Act} {w:World} (h:c.wp P (Exit.then K (fun _ _ _=>False)) a w):c.wp P (Exit.then K Q') a w:=by
 refine wp_mono h ?_
 intro e a' w' hq
 cases e with
 | normal=>exact hq
 | _=>exact hq.elim
theorem iB {s:ByteArray} (h:QK s = false):s.size ≤ 10:=by
 unfold QK pW at h
 simp only [Bool.not_eq_false',Bool.and_eq_true,decide_eq_true_eq] at h
 have h1:=h.2.1
 rwa [show s.data.toList.length = s.size from Array.length_toList] at h1
theorem below_grown {n:Nat} {A B:World} {row:Nat} (h:A.grownBy B (some row)) (hr:n ≤ row) (hn:n ≤ A.heap.size):Below n A B :=
 ⟨h.os,h.tape,h.output,h.size,fun k hk=>h.block k (by omega) (fun e=>by injection e;omega)⟩
theorem zjt {W W':World} {m n:Nat} {f:ByteArray → Option ByteArray} {P:Program} {k e:TypeId} (h:W'.heap[m]? = W.heap[m]?) (hm:SMap P k e W m n f):SMap P k e W' m n f:=by
 obtain ⟨D,⟨es,clock,hb,F,h1,h2⟩,h3,h4⟩:=hm
 exact ⟨D,⟨es,clock,h.trans hb,F,h1,h2⟩,h3,h4⟩
def zzO (m base:Nat) (w4:World) (pre:List iY) (W:World):Prop:=SMap Tryz.prog 9 9 W m pre.length (ig pre) ∧ Boxed W (m + 1) 82 (.map (some m)) ∧ Below m w4 W ∧ base ≤ W.heap.size
theorem zY1 (m base:Nat) (w4:World) (hm:m ≤ w4.heap.size) (hb:m + 1 < base):OwnFrom base (zzO m base w4):=by
 rintro pre A B row ⟨h1,h2,h3,h4⟩ hg hr
 exact ⟨h1.kept hg (fun e=>by have:=(hr _ e.symm).1;omega),h2.kept hg (fun e=>by have:=(hr _ e.symm).1;omega),ownFrom_below (β:=Unit) hm (by omega) () A B row h3 hg hr,Nat.le_trans h4 hg.size⟩
theorem zY2 (m base:Nat) (w4:World) (hm:m + 1 + 1 < base):ZB (m + 1 + 1) (zzO m base w4):=by
 rintro pre W u ⟨h1,h2,h3,h4⟩
 exact ⟨h1.kept (grownBy_setCell' W (m + 1 + 1) u) (fun e=>by injection e;omega),h2.other (by omega) u,h3.setCell (p:=⟨m + 1 + 1,0,none⟩) (by show m ≤ m + 1 + 1;omega) u,by simpa using h4⟩
theorem zJs {m base:Nat} {w4 W:World} {pre:List iY} (h:zzO m base w4 pre W) (o:Obj):zzO m base w4 pre (W.alloc o) :=
 ⟨h.1.kept (World.grownBy_alloc _ _ none) (by simp),h.2.1.alloc _,h.2.2.1.alloc (Nat.le_trans (Nat.le_of_lt h.1.lt) (Nat.le_refl _)) _,Nat.le_trans h.2.2.2 (by simp)⟩
theorem zY3 {m base:Nat} {w4 W W':World} {pre:List iY} {x:iY} (h:zzO m base w4 pre W) (hm:SMap Tryz.prog 9 9 W' m (pre.length + 1) (fun s=>if s = x.2.1.f0 then some x.2.1.f1 else ig pre s)) (hg:W.grownBy W' (some m)):zzO m base w4 (pre ++ [x]) W':=by
 refine ⟨?_,h.2.1.kept hg (fun e=>by injection e;omega),h.2.2.1.trans (below_grown hg (Nat.le_refl _) (Nat.le_of_lt h.1.lt)),Nat.le_trans h.2.2.2 hg.size⟩
 rw [zKw,List.length_append]
 exact hm
def boxes.T19:Bool × List (List Nat × List Nat):=(true,[([],[]),([],[]),([1],[1]),([0,2],[0,2]),([3],[3]),([],[]),([],[]),([],[]),([],[]),([8],[8]),([7,9],[7,9]),([10],[10]),([6,11],[6,11]),([4,5,12,12],[4,5,12]),([13],[13]),([14],[14]),([14],[14]),([15,13,0,1,2,3,4,5,6,7,8,9,10,11,12,13,14,15],[15]),([16,17,0,1,2,3,4,5,6,7,8,9,10,11,12,13,14,15,16,17],[16])])
def boxes.B19:List Nat:=[0,0,2,7,15,0,0,0,0,256,896,1920,4032,8191,16383,32767,32767,65535,262143]
theorem boxes.Yt:vZ .any (opsOf Tryz.f13 19) = boxes.T19:=by kernel_rfl
theorem boxes.ZV:vW boxes.T19.2 boxes.B19 = true:=by kernel_rfl
def boxes.T24:Bool × List (List Nat × List Nat):=(true,[([],[]),([0],[0]),([1],[1]),([2],[2]),([],[]),([4],[4]),([5],[5]),([6],[6]),([3,0,1,2,3],[3]),([7,8,0,1,2,3,4,5,6,7,8],[7]),([9,0,1,2,3,4,5,6,7,8,9],[])])
def boxes.B24:List Nat:=[0,1,3,7,0,16,48,112,15,511,1023]
theorem boxes.zgw:vZ .any (opsOf Tryz.f13 24) = boxes.T24:=by kernel_rfl
theorem boxes.zea:vW boxes.T24.2 boxes.B24 = true:=by kernel_rfl
theorem zb4 (w0:World) (base g:Nat) (Af:Option Addr) (cf:Nat) (l:List y8) (f s:Int) (yE yw:Bool) (st:List jR × List ByteArray) (n:ByteArray) (w:World) (hG:GW w0) (hC:Kd.C kP w0 Af l.length l) (hl:l.length ≤ 1000000000) (hf0:0 ≤ f) (hf1:f < (l.length:Int)) (hv:∀ x ∈ l,xu x = true) (hgb:g < base) (hb:base ≤ w.heap.size) (hg0:w0.heap.size ≤ g) (hw:Below w0.heap.size w0 w) (hlo:st.1.length ≤ 1000000) (hll:st.2.length ≤ 1000000) (hs0:1 ≤ s) (hs1:s ≤ 1000) (hS:Wj base g w Af cf l f s yE yw st) :
  Calls Tryz.prog 46 #[.pointer (some ⟨g,0,none⟩),.string n] w fun e w'=>(∃ v,e = .returned v) ∧ Wj base g w' Af cf l f s yE yw (ak l f s yw st n) ∧ uO base g w w':=by
 obtain ⟨vo,vl,hS⟩:=hS
 unfold ak
 by_cases h:pq l f n < 0
 ·rw [if_pos h]
  exact zeY w0 base g Af cf l f s yE yw st n w hG hC hl hf0 hf1 hv hgb hb hg0 hw hlo hll vo vl hS h
 ·rw [if_neg h]
  exact zb0 w0 base g Af cf l f s yE yw st n w hG hC hl hf0 hf1 hv hgb hb hg0 hw hlo hll vo vl hS (by omega) hs0 hs1
theorem zKQ (l:List y8) (s:Int) (yw:Bool) (out:List jR) (a:Int) (n:ByteArray):(WM l s yw out a n).length ≤ 1:=by
 unfold WM
 repeat' split
 all_goals first | exact Nat.zero_le _ | exact Nat.le_refl _
theorem zY4 (l:List y8) (f s:Int) (yw:Bool) (st:List jR × List ByteArray) (n:ByteArray):(ak l f s yw st n).1.length ≤ st.1.length + 2 ∧ (ak l f s yw st n).2.length ≤ st.2.length + 1:=by
 unfold ak
 split
 ·simp
 ·have:=zKQ l s yw st.1 (pq l f n) n
  simp only [List.length_append,List.length_cons,List.length_nil]
  omega
def Xw (J:ByteArray → ByteArray → ByteArray × Bool) (yE:Bool) (A:List ByteArray) (k:Nat):List ByteArray:=if yE then gU J (A.drop k) else A.drop k
theorem zyS (J:ByteArray → ByteArray → ByteArray × Bool) (A:List ByteArray) (k:Nat) (h:k < A.length):Xw J false A k = A[k] :: Xw J false A (k + 1):=by
 unfold Xw
 rw [if_neg Bool.false_ne_true,if_neg Bool.false_ne_true,List.drop_eq_getElem_cons h]
theorem zqF (J:ByteArray → ByteArray → ByteArray × Bool) (A:List ByteArray) (k j:Nat) (c:ByteArray) (h:k < A.length) (hj:Jv J A[k] (A.drop (k + 1)) = (c,A.drop (j + 1))):Xw J true A k = c :: Xw J true A (j + 1):=by
 unfold Xw
 rw [if_pos rfl,if_pos rfl,List.drop_eq_getElem_cons h,gU,hj]
theorem zY5 (J:ByteArray → ByteArray → ByteArray × Bool) (A:List ByteArray) (j:Nat) (c:ByteArray) (h:A.length ≤ j + 1):Jv J c (A.drop (j + 1)) = (c,A.drop (j + 1)):=by
 rw [List.drop_eq_nil_of_le h];rfl
theorem zKX (J:ByteArray → ByteArray → ByteArray × Bool) (A:List ByteArray) (j:Nat) (c:ByteArray) (h:j + 1 < A.length) (hn:(J c A[j + 1]).2 = false):Jv J c (A.drop (j + 1)) = (c,A.drop (j + 1)):=by
 rw [List.drop_eq_getElem_cons h,Jv,if_neg (by rw [hn];exact Bool.false_ne_true)]
theorem zb5 (J:ByteArray → ByteArray → ByteArray × Bool) (A:List ByteArray) (j:Nat) (c:ByteArray) (h:j + 1 < A.length) (hy:(J c A[j + 1]).2 = true):Jv J c (A.drop (j + 1)) = Jv J (J c A[j + 1]).1 (A.drop (j + 1 + 1)):=by
 rw [List.drop_eq_getElem_cons h,Jv,if_pos hy]
theorem zv6 {tmps:Array Value} {W:World} {v0 v1 v2:Value} (h0:tmps.getD 8 undef = v0) (h1:tmps.getD 9 undef = v1) (h2:tmps.getD 10 undef = v2):(results Tryz.f13 tmps).run Tryz.prog W = .ok (.tuple #[v0,v1,v2]) W:=by
 subst h0 h1 h2
 simp [results,Tryz.f13,go_sem]
set_option maxRecDepth 100000 in
set_option maxHeartbeats 8000000 in
theorem zKJ (Af:Option Addr) (cf:Nat) (l:List y8) (f s:Int) (yE yw:Bool) (Ac:Option Addr) (cc:Nat) (chars:List ByteArray) (Ap:Option Addr) (cp:Nat) (pairs:List ZA) (w:World) (hG:GW w) (hC:Kd.C kP w Af l.length l) (hz:∀ x ∈ l,x.f3.length ≤ 1000000000 ∧ x.f4.length ≤ 1000000000 ∧ x.f5.length ≤ 1000000000) (hl:l.length ≤ 1000000000) (hS:Kd.C Kd.string w Ac chars.length chars) (hlc:chars.length ≤ 1000000000) (hP:Kd.C JX w Ap pairs.length pairs) (hlp:pairs.length ≤ 1000000000) (h1:(l.any fun x=>!xu x) = false) (h2:p9 l.length f s = false) (h3:chars.length ≤ 2000) (h3':pairs.length ≤ 100) (h4:chars.any QK = false) (h5:pairs.any ay = false) :
  Calls Tryz.prog 13 #[.slice Af l.length cf,.agg #[.int .i64 f,.int .i64 s,.bool yE,.bool yw],.slice Ac chars.length cc,.slice Ap pairs.length cp] w fun e w'=>∃ v0 v1,e = .returned (.tuple #[v0,v1,.int .i64 0]) ∧ Kd.S uj 53 w' w.heap.size (fun _=>True) v0 (zzF l f s yw (bW l f yE chars pairs)).1 ∧ Kd.R Kd.string 9 w' w.heap.size (fun _=>True) v1 (zzF l f s yw (bW l f yE chars pairs)).2 ∧ Below w.heap.size w w':=by
 have hps:∀ p ∈ pairs,p.f0.size ≤ maxLen ∧ p.f1.size ≤ maxLen:=fun p hp=>by
  have h:=List.any_eq_false.1 h5 p hp
  simp only [ay,Bool.or_eq_true,not_or,Bool.not_eq_true] at h
  have a1:=iB h.1
  have a2:=iB h.2
  unfold maxLen
  omega
 have d1:decide (f < 0) = false:=by cases h:decide (f < 0) with | false=>rfl | true=>(unfold p9 at h2;rw [h,Bool.true_or] at h2;cases h2)
 have d2:decide ((l.length:Int) ≤ f) = false:=by cases h:decide ((l.length:Int) ≤ f) with | false=>rfl | true=>(unfold p9 at h2;rw [h,Bool.true_or,Bool.or_true] at h2;cases h2)
 have d3:decide (s < 1) = false:=by cases h:decide (s < 1) with | false=>rfl | true=>(unfold p9 at h2;rw [h,Bool.true_or,Bool.or_true,Bool.or_true] at h2;cases h2)
 have d4:decide (1000 < s) = false:=by cases h:decide (1000 < s) with | false=>rfl | true=>(unfold p9 at h2;rw [h,Bool.or_true,Bool.or_true,Bool.or_true] at h2;cases h2)
 have r1:=of_decide_eq_false d1
 have r2:=of_decide_eq_false d2
 have r3:=of_decide_eq_false d3
 have r4:=of_decide_eq_false d4
 clear h2
 have d5:decide ((2000:Int) < (chars.length:Int)) = false:=decide_eq_false (by omega)
 have d6:decide ((100:Int) < (pairs.length:Int)) = false:=decide_eq_false (by omega)
 have hF:=zjo Af cf l f s yE yw Ac cc chars Ap cp pairs w hG hC hz hl hS hlc hP hlp
 have hQ:=zjr Af cf l f s yE yw Ac cc chars Ap cp pairs w hG hC hz hl hS hlc hP hlp
 have hR:=zjs Af cf l f s yE yw Ac cc chars Ap cp pairs w hG hC hz hl hS hlc hP hlp (w.heap.size + 1)
 have hb0:Below w.heap.size w ((w.alloc (.cells #[.int .i64 f,.int .i64 s,.bool yE,.bool yw] 26)).alloc (.cells #[.func (.func 35) #[] #[]] 75)):=((Below.refl _ w).alloc (Nat.le_refl _) _).alloc (by simp) _
 have ZR:=yV (uo w (.cells #[.int .i64 f,.int .i64 s,.bool yE,.bool yw] 26)) (.cells #[.func (.func 35) #[] #[]] 75)
 have hbad:Boxed ((w.alloc (.cells #[.int .i64 f,.int .i64 s,.bool yE,.bool yw] 26)).alloc (.cells #[.func (.func 35) #[] #[]] 75)) (w.heap.size + 1) 75 (.func (.func 35) #[] #[]):=by
  have h:=Boxed.new (w.alloc (.cells #[.int .i64 f,.int .i64 s,.bool yE,.bool yw] 26)) 75 (.func (.func 35) #[] #[])
  rwa [World.size_alloc] at h
 rw [h1] at hF
 rw [h4] at hQ
 rw [h5] at hR
 have HT1:=zx.mk ZR
 have HD1:=zx.mk hbad
 have HB1:=zx.mk hb0
 have HF:=zx.mk hF
 have HQ:=zx.mk hQ
 have HR:=zx.mk hR
 have HP:=zx.mk hP
 have HG:=zx.mk hG
 have HC:=zx.mk hC
 have HS:=zx.mk hS
 clear ZR hbad hb0 hF hQ hR
 have hmm:=@run_makeMap Tryz.prog
 refine (callsIn_wide (n:=12)).1 ?_
 refine callsIn_of_wp_marks Tryz.func13 rfl trivial ?_ rfl
 simp only [Tryz.ntmps13,List.size_toArray,List.length_cons,List.length_nil,Nat.reduceAdd,Nat.reduceSub,Array.replicate_succ,Array.replicate_zero,List.push_toArray,List.append_toArray,List.nil_append,List.cons_append]
 refine wpIn_wide.2 ?_
 go_wp2_with fail
 refine (HF.out _ HB1.out).mono ?_;rintro e w2 ⟨rfl,hb2⟩
 have HT2:=zx.mk (zM HT1.out hb2)
 have HD2:=zx.mk (zM HD1.out hb2)
 have HB2:=zx.mk (HB1.out.trans (hb2.mono HB1.out.size))
 clear hb2
 have a2:w2.cell? ⟨w.heap.size,0,none⟩ = some (.int .i64 f):=(zX HT2.out 0).trans rfl
 have b2:w2.cell? ⟨w.heap.size,1,none⟩ = some (.int .i64 s):=(zX HT2.out 1).trans rfl
 have c2:w2.cell? ⟨w.heap.size + 1,0,none⟩ = some (.func (.func 35) #[] #[]):=(zX HD2.out 0).trans rfl
 go_wp2_with fail
 refine (HQ.out _ HB2.out).mono ?_;rintro e w3 ⟨rfl,hb3⟩
 have HT3:=zx.mk (zM HT2.out hb3)
 have HD3:=zx.mk (zM HD2.out hb3)
 have HB3:=zx.mk (HB2.out.trans (hb3.mono HB2.out.size))
 clear hb3
 have a3:w3.cell? ⟨w.heap.size,0,none⟩ = some (.int .i64 f):=(zX HT3.out 0).trans rfl
 have b3:w3.cell? ⟨w.heap.size,1,none⟩ = some (.int .i64 s):=(zX HT3.out 1).trans rfl
 have c3:w3.cell? ⟨w.heap.size + 1,0,none⟩ = some (.func (.func 35) #[] #[]):=(zX HD3.out 0).trans rfl
 go_wp2_with fail
 refine (HR.out _ HB3.out c3).mono ?_;rintro e w4 ⟨rfl,hb4⟩
 have HT4:=zx.mk (zM HT3.out hb4)
 have HD4:=zx.mk (zM HD3.out hb4)
 have JJ:=zx.mk (HB3.out.trans (hb4.mono HB3.out.size))
 clear hb4
 have a4:w4.cell? ⟨w.heap.size,0,none⟩ = some (.int .i64 f):=(zX HT4.out 0).trans rfl
 have b4:w4.cell? ⟨w.heap.size,1,none⟩ = some (.int .i64 s):=(zX HT4.out 1).trans rfl
 have c4:w4.cell? ⟨w.heap.size + 1,0,none⟩ = some (.func (.func 35) #[] #[]):=(zX HD4.out 0).trans rfl
 clear a2 b2 c2 a3 b3 c3 c4
 go_wp2_with fail
 refine (callsIn_wide.1 (zb3 Fence.wide 5 trivial rfl Ap pairs.length cp _)).mono ?_;rintro e w5 ⟨rfl,rfl⟩
 go_wp2_with fail
 obtain ⟨W0,hW0⟩:∃ W0,(((w4.alloc (.map #[] 0)).alloc (.cells #[.map (some w4.heap.size)] 82)).alloc (.cells #[.slice Ap pairs.length cp] 28)) = W0:=⟨_,rfl⟩
 have hz0:W0.heap.size = w4.heap.size + 1 + 1 + 1:=by rw [← hW0];simp
 have hm0:SMap Tryz.prog 9 9 W0 w4.heap.size 0 (fun _=>none):=by
  rw [← hW0]
  have h:=SMap.made (P:=Tryz.prog) (k:=9) (e:=9) w4
  exact (h.kept (World.grownBy_alloc _ _ none) (by simp)).kept (World.grownBy_alloc _ _ none) (by simp)
 have hc0:Boxed W0 (w4.heap.size + 1) 82 (.map (some w4.heap.size)):=by
  rw [← hW0]
  have h:=Boxed.new (w4.alloc (.map #[] 0)) 82 (.map (some w4.heap.size))
  rw [World.size_alloc] at h
  exact h.alloc _
 have hs0:Boxed W0 (w4.heap.size + 1 + 1) 28 (.slice Ap pairs.length cp):=by
  rw [← hW0]
  have h:=Boxed.new ((w4.alloc (.map #[] 0)).alloc (.cells #[.map (some w4.heap.size)] 82)) 28 (.slice Ap pairs.length cp)
  rw [World.size_alloc,World.size_alloc] at h
  exact h
 have zJt:Below w4.heap.size w4 W0:=by rw [← hW0];exact (((Below.refl _ _).alloc (Nat.le_refl _) _).alloc (by simp) _).alloc (by simp;omega) _
 rw [hW0]
 clear hW0
 have hle:=JJ.out.size
 have hlt1:w.heap.size + 1 < w4.heap.size:=pQ HD4.out
 obtain ⟨zs,hzs⟩:∃ zs:List PS,zs.map (·.1) = pairs:=⟨pairs.attachWith _ hps,by simp⟩
 have hzl:zs.length = pairs.length:=by rw [← hzs,List.length_map]
 generalize hm:w4.heap.size = m at hz0 hm0 hc0 hs0 zJt hle hlt1 ⊢
 have hCz:Kd.C JX w Ap zs.length (zs.map (·.1)):=by rw [hzs,hzl];exact HP.out
 have hlz:zs.length ≤ 1000000000:=by omega
 have zuS:zs.length ≤ 100:=by omega
 have HZ:=zx.mk hzs
 rw [← hzl] at hs0
 clear hzl
 have hw0:Below w.heap.size w W0:=JJ.out.trans (zJt.mono hle)
 refine (wpIn_wide (n:=12)).1 ?_
 refine zv5 rfl (by omega) (gf:=104) (lb:=#[.pointer (some ⟨m + 1 + 1,0,none⟩)]) rfl trivial (enters_of Tryz.func104 (by kernel_rfl) rfl)
  (zYH Fence.wide (12 - 1) trivial rfl (by omega) (m + 1 + 1) Ap cp zs hlz w W0 hCz hw0 hs0) (by omega) zZF (zb2 (by omega) (by omega)) (fun _=>rfl)
  (fun pre W=>zzO m W0.heap.size w4 pre W) (fun _ _=>False) (zY1 m _ w4 (by omega) (by omega)) (fun _ _ _ _ hs _ _=>hs) (zY2 m _ w4 (by omega)) (fun _ _ _ hs=>hs) ⟨hm0,hc0,zJt,Nat.le_refl _⟩
  (fun x a' W=>∃ gx,W0.heap.size ≤ gx ∧ W.heap[gx]? = some (.cells #[.string x.2.1.f0,.string x.2.1.f1] 80 (0,0)) ∧ a' = { tmps:=#[Value.slice Af l.length cf,Value.agg #[Value.int .i64 f,Value.int .i64 s,Value.bool yE,Value.bool yw],Value.slice Ac chars.length cc,Value.slice Ap pairs.length cp,undef,Value.pointer (some ⟨w.heap.size,0,none⟩),undef,undef,Value.slice none 0 0,Value.slice none 0 0,Value.int .i64 0,Value.pointer (some ⟨w.heap.size + 1,0,none⟩),Value.pointer (some ⟨m + 1,0,none⟩),undef,Value.pointer (some ⟨gx,0,none⟩),undef,undef,undef,undef,undef,undef,Value.bool false,Value.slice Af l.length cf,Value.bool false,Value.pointer (some ⟨w.heap.size,0,none⟩),Value.int .i64 f,Value.bool false,Value.bool false,Value.pointer (some ⟨w.heap.size,0,none⟩),Value.int .i64 f,Value.slice Af l.length cf,Value.int .i64 (l.length:Int),Value.bool false,Value.bool false,Value.bool false,Value.pointer (some ⟨w.heap.size,1,none⟩),Value.int .i64 s,Value.bool false,Value.bool false,Value.bool false,Value.pointer (some ⟨w.heap.size,1,none⟩),Value.int .i64 s,Value.bool false,Value.bool false,Value.slice Ac chars.length cc,Value.int .i64 (chars.length:Int),Value.bool false,Value.bool false,Value.slice Ap pairs.length cp,Value.int .i64 (pairs.length:Int),Value.bool false,Value.bool false,Value.slice Ac chars.length cc,Value.func (.func 35) #[] #[],Value.bool false,Value.slice Ap pairs.length cp,Value.func (.func 42) #[] #[Value.pointer (some ⟨w.heap.size + 1,0,none⟩)],Value.bool false,Value.map (some m),Value.slice Ap pairs.length cp,Value.func (.func 104) #[] #[Value.pointer (some ⟨m + 1 + 1,0,none⟩)],Value.int .i64 (x.1:Int),Value.agg #[.string x.2.1.f0,.string x.2.1.f1],undef,undef,undef,undef,undef,undef,undef,undef,undef,undef,undef,undef,undef,undef,undef,undef,undef,undef,undef,undef,undef,undef,undef,undef,undef,undef,undef,undef,undef,undef,undef,undef,undef,undef,undef,undef,undef,undef,undef,undef,undef,undef,undef,undef,undef,undef,undef,undef,undef,undef,undef,undef,undef,undef,undef,undef,undef,undef,undef,undef,undef,undef,undef,undef],defers:=[] })
  (fun x a'=>by rintro _ A B row ⟨gx,h1,h2,h3⟩ hg hr;exact ⟨gx,h1,zbU h2 hg (fun r e=>(hr r e).2),h3⟩) ?assign ?body ?done ?stop
 case assign =>
  intro l_ pre x W K hi hK
  unfold zkj
  gi_wp2
  refine hK _ _ ((KeepsOthers.alloc W _).from _) ⟨(Below.refl _ _).alloc (by have:=hi.2.2.2;omega) _,(Below.heap_alloc _ _ _ (by have:=hi.2.2.2;omega))⟩ (zJs hi _) ⟨W.heap.size,hi.2.2.2,uo W _,rfl⟩
 case body =>
  rintro l_ pre x a' W hl_ ⟨r,hrec⟩ hI ⟨gx,hgx,hbx,rfl⟩ hlen
  have q0:W.cell? ⟨gx,0,none⟩ = some (.string x.2.1.f0):=(zX hbx 0).trans rfl
  have q1:W.cell? ⟨gx,1,none⟩ = some (.string x.2.1.f1):=(zX hbx 1).trans rfl
  have q2:W.cell? ⟨m + 1,0,none⟩ = some (.map (some m)):=hI.2.1.cell
  obtain ⟨w',hrun,hm',hg'⟩:=hI.1.put (t:=82) Tryz.underlying9 Tryz.underlying82 Tryz.underlying9 (by unfold maxLen;omega) x.2.1.f0 x.2.1.f1 x.2.2.1 x.2.2.2
  have HI:=Lib.hid hI
  have HM:=Lib.hid hm'
  have HG':=Lib.hid hg'
  clear hI hm' hg' hrec hbx
  gi_wp2
  have hsz:=HI.out.2.2.2
  exact ⟨KeepsFrom.of_grownBy HG'.out (fun j e=>by cases e;omega),⟨below_grown HG'.out (by omega) (by omega),HG'.out.block _ (by omega) (fun e=>by injection e;omega)⟩,zY3 HI.out HM.out HG'.out⟩
 case stop =>
  rintro D pre W hD hS hX hK
  exact hX.elim
 case done =>
  rintro D ys W hD rfl hI hK
  obtain ⟨iM,iC,iW,iS⟩:=hI
  have iW4:Below w4.heap.size w4 W:=by rw [hm];exact iW
  have hT:=zM HT4.out iW4
  have hwW:Below w.heap.size w W:=JJ.out.trans (iW4.mono JJ.out.size)
  have y0:W.cell? ⟨w.heap.size,0,none⟩ = some (.int .i64 f):=(zX hT 0).trans rfl
  have y1:W.cell? ⟨w.heap.size,1,none⟩ = some (.int .i64 s):=(zX hT 1).trans rfl
  have y2:W.cell? ⟨w.heap.size,2,none⟩ = some (.bool yE):=(zX hT 2).trans rfl
  have y3:W.cell? ⟨w.heap.size,3,none⟩ = some (.bool yw):=(zX hT 3).trans rfl
  go_upto_block 3 with (fail)
  clear y0 y1 y2 y3
  have hDl:=(Array.getElem?_eq_some_iff.1 hK).1
  obtain ⟨g,hg⟩:∃ g,W.heap.size = g:=⟨_,rfl⟩
  obtain ⟨W9,hW9⟩:∃ W9,W.alloc (.cells #[.slice Af l.length cf,.int .i64 f,.int .i64 s,.bool yE,.bool yw,.slice none 0 0,.slice none 0 0] 90) = W9:=⟨_,rfl⟩
  have S9:Wj (g + 1) g W9 Af cf l f s yE yw ([],[]):=by
   rw [← hW9,← hg]
   exact ⟨_,_,uo W _,Kd.jC _ _ _ _ _,Kd.jC _ _ _ _ _⟩
  have hz9:W9.heap.size = g + 1:=by rw [← hW9,← hg];simp
  have b9:Below g W W9:=by rw [← hW9,← hg];exact (Below.refl _ _).alloc (Nat.le_refl _) _
  try rw [hW9]
  try rw [hg]
  have hgm:m + 1 < g:=by omega
  have hDg:D < g:=by omega
  have T9:W9.heap[w.heap.size]? = some (.cells #[.int .i64 f,.int .i64 s,.bool yE,.bool yw] 26 (0,0)):=(b9.block _ (by omega)).trans hT
  have M9:=zjt (b9.block m (by omega)) iM
  have C9:Boxed W9 (m + 1) 82 (.map (some m)):=(b9.block _ (by omega)).trans iC
  have K9:W9.heap[D]? = some (.deferred (some [])):=(b9.block _ (by omega)).trans hK
  have hw9:Below w.heap.size w W9:=hwW.trans (b9.mono (by omega))
  have hbl:ZL zs zs.length = ZL zs zs.length:=rfl
  generalize hFm:ig (ZL zs zs.length) = Fm at M9
  generalize (ZL zs zs.length).length = nm at M9
  have hturn:∀ c,Qr Fm c = trV pairs c:=fun c=>by
   rw [← hFm]
   unfold Qr trV
   rw [zYF,HZ.out]
   cases pairs.find? (fun p=>decide (p.f0 = c)) <;> rfl
  obtain ⟨A,hA⟩:∃ A,chars.map (Qr Fm) = A:=⟨_,rfl⟩
  have hAl:A.length = chars.length:=by rw [← hA,List.length_map]
  have hAg:∀ (i:Nat) (h:i < A.length) (h':i < chars.length),A[i] = Qr Fm chars[i]:=fun i h h'=>by subst hA;simp
  have hfin:(Xw (fjoin (vS l f)) yE A 0).foldl (ak l f s yw) ([],[]) = zzF l f s yw (bW l f yE chars pairs):=by
   unfold zzF bW Xw
   rw [List.drop_zero,← hA,show Qr Fm = trV pairs from funext hturn]
  generalize zeb:zzF l f s yw (bW l f yE chars pairs) = FIN at hfin
  have hcs:∀ c ∈ chars,c.size ≤ maxLen:=fun c hc=>by
   have h:=List.any_eq_false.1 h4 c hc
   simp only [Bool.not_eq_true] at h
   have:=iB h
   unfold maxLen
   omega
  have hv:∀ x ∈ l,xu x = true:=fun x hx=>by
   have h:=List.any_eq_false.1 h1 x hx
   simpa using h
  have hf0:0 ≤ f:=by omega
  have hf1:f < (l.length:Int):=by omega
  have zic:1 ≤ s:=by omega
  have zid:s ≤ 1000:=by omega
  have hx:=Xe hv hf0 hf1
  have hzx:=XG hx
  obtain ⟨ad,A3,c3,A4,c4,A5,c5,e,x0,x1,x2,x3,x4,x5,g3,q3,g4,q4,g5,q5⟩:=jw HC.out f hf0 (by omega)
  subst e
  have e:zV l f = vS l f:=rfl
  rw [e] at x0 x1 x2 x3 x4 x5 g3 q3 g4 q4 g5 q5
  clear e
  generalize vS l f = x at x0 x1 x2 x3 x4 x5 g3 q3 g4 q4 g5 q5 hx hzx hfin
  have HJN:=zx.mk (fun (a b:ByteArray) (V:World) (h:Below w.heap.size w V)=>zYC x.f0 x.f1 x.f2 A3 c3 x.f3 A4 c4 x.f4 A5 c5 x.f5 a b V (HG.out.under h) (Kd.zh q3 h) g3 (Kd.zh q4 h) g4 (Kd.zh q5 h) g5 (by omega) (by omega) (by omega))
  have HFT:=zx.mk (fun (V:World) (h:Below w.heap.size w V)=>(show V.cell? (ad.add (f.toNat * 6)) = some (.string x.f0) ∧ V.cell? ⟨(ad.add (f.toNat * 6)).block,(ad.add (f.toNat * 6)).off + 1,none⟩ = some (.bool x.f1) ∧ V.cell? ⟨(ad.add (f.toNat * 6)).block,(ad.add (f.toNat * 6)).off + 2,none⟩ = some (.int .i64 x.f2) ∧ V.cell? ⟨(ad.add (f.toNat * 6)).block,(ad.add (f.toNat * 6)).off + 3,none⟩ = some (.slice A3 x.f3.length c3) ∧ V.cell? ⟨(ad.add (f.toNat * 6)).block,(ad.add (f.toNat * 6)).off + 4,none⟩ = some (.slice A4 x.f4.length c4) ∧ V.cell? ⟨(ad.add (f.toNat * 6)).block,(ad.add (f.toNat * 6)).off + 5,none⟩ = some (.slice A5 x.f5.length c5) from ⟨(h.cell (World.block_lt_of_cell? w _ x0)).trans x0,(h.cell (World.block_lt_of_cell? w _ x1)).trans x1,(h.cell (World.block_lt_of_cell? w _ x2)).trans x2,(h.cell (World.block_lt_of_cell? w _ x3)).trans x3,(h.cell (World.block_lt_of_cell? w _ x4)).trans x4,(h.cell (World.block_lt_of_cell? w _ x5)).trans x5⟩))
  have zie:=zx.mk (fun (st:List jR × List ByteArray) (n:ByteArray) (V:World) (h2:g + 1 ≤ V.heap.size) (h3:Below w.heap.size w V) (h4:st.1.length ≤ 1000000) (h5:st.2.length ≤ 1000000) (h6:Wj (g + 1) g V (some ad) cf l f s yE yw st)=>zb4 w (g + 1) g (some ad) cf l f s yE yw st n V HG.out HC.out hl hf0 hf1 hv (Nat.lt_succ_self _) h2 (by omega) h3 h4 h5 zic zid h6)
  have HT9:=zx.mk T9
  have HM9:=zx.mk M9
  have HC9:=zx.mk C9
  have HK9:=zx.mk K9
  have HW9:=zx.mk hw9
  have HAG:=zx.mk hAg
  have HCS:=zx.mk hcs
  have zec:=zx.mk zeb
  have HFI:=zx.mk hfin
  have bg:=zx.mk S9
  clear hT iM iC iW iS iW4 hwW T9 M9 C9 K9 hw9 S9 x0 x1 x2 x3 x4 x5 q3 q4 q5 g3 g4 g5 hx hzx hcs hAg hA hturn hFm hfin zeb hv hK b9 hW9 hbl hm0 hc0 hs0 hCz hw0 zJt h1 h4 h5 hps hzs hm
  go_wp2_with fail
  go_loopw [17] (fun i V=>∃ (k:Nat) (st:List jR × List ByteArray),i = .int .i64 (k:Int) ∧ k ≤ chars.length ∧ st.1.length ≤ 2 * k ∧ st.2.length ≤ k ∧ zx ((Xw (fjoin x) yE A k).foldl (ak l f s yw) st = FIN) ∧ zx (Wj (g + 1) g V (some ad) cf l f s yE yw st) ∧ zx (uO (g + 1) g W9 V)) (fun i _=>chars.length - (intOf i).toNat)
  case atStart=>exact ⟨0,([],[]),rfl,Nat.zero_le _,Nat.le_refl _,Nat.le_refl _,HFI,bg,⟨uO.refl _ _ _⟩⟩
  case round =>
   obtain ⟨k,st,rfl,hk,zuT,zuU,HF2,HS2,HL2⟩:=hrel
   obtain ⟨W2,hW2⟩:∃ W2:World,W2 = wr:=⟨_,rfl⟩
   subst hW2
   have hwr:Below w.heap.size w W2:=HW9.out.trans (zza HL2.out (by omega) (by omega))
   have hbr:g + 1 ≤ W2.heap.size:=by have:=HL2.out.1.size;omega
   by_cases hlt:k < chars.length
   ·obtain ⟨cd,e,c0⟩:=Kd.WZ (Kd.zh HS.out hwr) (k:Int) (by omega) (by omega)
    subst e
    have e:Qt ByteArray.empty chars (k:Int) = chars[k]:=by simp [Qt,List.getD_eq_getElem?_getD,hlt]
    rw [e,Int.toNat_natCast] at c0
    have hcs:=HCS.out _ (List.getElem_mem hlt)
    have hak:=HAG.out k (by omega) hlt
    generalize chars[k] = ch at c0 hcs hak
    have hcell:Boxed W2 (m + 1) 82 (.map (some m)):=(HL2.out.2.2 _ (by omega) (by omega)).trans HC9.out
    have hmap:=zjt (HL2.out.2.2 m (by omega) (by omega)) HM9.out
    have htn:=zqD (m + 1) m nm Fm ch W2 hcs hcell.cell hmap
    have ZR:=(HL2.out.2.2 w.heap.size (by omega) (by omega)).trans HT9.out
    have q1:(k:Int) < (chars.length:Int):=by omega
    have q0:(0:Int) ≤ (k:Int):=by omega
    have q3:((k:Int)).toNat = k:=Int.toNat_natCast k
    have HTN:=zx.mk htn
    have HWR:=zx.mk hwr
    have HAK:=zx.mk hak
    have HMP:=zx.mk hmap
    have HCL:=zx.mk hcell
    have HSY:=zx.mk ZR
    clear htn hwr hak hmap hcell ZR hcs e
    go_upto_block 5 with (refine HTN.out.mono ?_;rintro e w8 ⟨rfl,rfl⟩)
    clear c0
    go_cut [17,18] from 73 to 118 (fun i c V=>∃ (j:Nat) (cn:ByteArray),i = .int .i64 (j:Int) ∧ c = .string cn ∧ k ≤ j ∧ j < chars.length ∧ zx (Xw (fjoin x) yE A k = cn :: Xw (fjoin x) yE A (j + 1)) ∧ zx (Below W2.heap.size W2 V))
    case first =>
     go_wp2_with fail
     go_loopw [17,18] (fun i c V=>∃ (j:Nat) (cn:ByteArray),i = .int .i64 (j:Int) ∧ c = .string cn ∧ k ≤ j ∧ j < chars.length ∧ zx (yE = true → ∃ h:k < A.length,Jv (fjoin x) A[k] (A.drop (k + 1)) = Jv (fjoin x) cn (A.drop (j + 1))) ∧ zx (yE = false → j = k ∧ ∃ h:k < A.length,A[k] = cn) ∧ zx (Below W2.heap.size W2 V)) (fun i _ _=>chars.length - (intOf i).toNat)
     case atStart=>exact ⟨k,Qr Fm ch,rfl,rfl,Nat.le_refl _,hlt,⟨fun _=>⟨by omega,by rw [HAK.out]⟩⟩,⟨fun _=>⟨rfl,by omega,HAK.out⟩⟩,⟨Below.refl _ _⟩⟩
     case round =>
      obtain ⟨j,cn,rfl,rfl,hkj,hj,HE,HN,HB3⟩:=hrel
      obtain ⟨W3,hW3⟩:∃ W3:World,W3 = wr:=⟨_,rfl⟩
      subst hW3
      have zJu:=zM HSY.out HB3.out
      have z2:W3.cell? ⟨w.heap.size,2,none⟩ = some (.bool yE):=(zX zJu 2).trans rfl
      have zu0:=hAl
      cases yE with
      | false =>
       obtain ⟨rfl,hka,hc⟩:=HN.out rfl
       have nL:=zx.mk (show Xw (fjoin x) false A j = cn :: Xw (fjoin x) false A (j + 1) by rw [zyS _ A j hka,hc])
       clear hc
       go_wp2_with fail
       go_meet
       exact ⟨j,cn,rfl,rfl,Nat.le_refl _,hj,nL,HB3⟩
      | true =>
      obtain ⟨hka,hea⟩:=HE.out rfl
      by_cases hj1:j + 1 < chars.length
      ·have hjA:j + 1 < A.length:=by omega
       have hw3:Below w.heap.size w W3:=HWR.out.trans (HB3.out.mono HWR.out.size)
       obtain ⟨cd',e,c0⟩:=Kd.WZ (Kd.zh HS.out hw3) (((j + 1:Nat):Int)) (by omega) (by omega)
       cases e
       have e:Qt ByteArray.empty chars ((j + 1:Nat):Int) = chars[j + 1]:=by simp [Qt,List.getD_eq_getElem?_getD,hj1]
       rw [e,Int.toNat_natCast,show cd.add (j + 1) = ⟨cd.block,cd.off + (j + 1),none⟩ from by simp [Addr.add]] at c0
       have hcs2:=HCS.out _ (List.getElem_mem hj1)
       have zY6:=HAG.out (j + 1) hjA hj1
       generalize chars[j + 1] = ch2 at c0 hcs2 zY6
       have zif:=zx.mk (fun (V:World) (h:Below W3.heap.size W3 V)=>zqD (m + 1) m nm Fm ch2 V hcs2 (zM (zM HCL.out HB3.out) h |> Boxed.cell) (zjt (((HB3.out.trans (h.mono HB3.out.size)).block m (by have:=HMP.out.lt;omega))) HMP.out))
       have r1:(j:Int) + 1 < (chars.length:Int):=by omega
       have r0:(0:Int) ≤ (j:Int) + 1:=by omega
       have r4:decide ((j:Int) + 1 < (chars.length:Int)) = true:=decide_eq_true r1
       have HJ:=zx.mk hj
       have HJ1:=zx.mk hj1
       have HJA:=zx.mk hjA
       have z0:W3.cell? ⟨w.heap.size,0,none⟩ = some (.int .i64 f):=(zX zJu 0).trans rfl
       have HC0:=zx.mk c0
       have HZ0:=zx.mk z0
       have HW3:=zx.mk hw3
       have HEA:=zx.mk hea
       have zih:=zx.mk zY6
       have HHK:=zx.mk hka
       clear zJu z0 c0 hw3 hea zY6 hcs2 e hj hj1
       go_wp2_with fail
       clear z2 r4
       have r5:wrap64 ((j:Int) + 1) = (j:Int) + 1:=jA (by omega) (by omega)
       have fA:=zx.mk (fun (V:World) (h:Below W3.heap.size W3 V)=>(show V.cell? ⟨w.heap.size,0,none⟩ = some (.int .i64 f) ∧ V.cell? ⟨cd.block,cd.off + (j + 1),none⟩ = some (.string ch2) ∧ (V.cell? (ad.add (f.toNat * 6)) = some (.string x.f0) ∧ V.cell? ⟨(ad.add (f.toNat * 6)).block,(ad.add (f.toNat * 6)).off + 1,none⟩ = some (.bool x.f1) ∧ V.cell? ⟨(ad.add (f.toNat * 6)).block,(ad.add (f.toNat * 6)).off + 2,none⟩ = some (.int .i64 x.f2) ∧ V.cell? ⟨(ad.add (f.toNat * 6)).block,(ad.add (f.toNat * 6)).off + 3,none⟩ = some (.slice A3 x.f3.length c3) ∧ V.cell? ⟨(ad.add (f.toNat * 6)).block,(ad.add (f.toNat * 6)).off + 4,none⟩ = some (.slice A4 x.f4.length c4) ∧ V.cell? ⟨(ad.add (f.toNat * 6)).block,(ad.add (f.toNat * 6)).off + 5,none⟩ = some (.slice A5 x.f5.length c5)) from
        ⟨(h.cell (World.block_lt_of_cell? _ _ HZ0.out)).trans HZ0.out,(h.cell (World.block_lt_of_cell? _ _ HC0.out)).trans HC0.out,HFT.out V (HW3.out.trans (h.mono HW3.out.size))⟩))
       refine zZG ?_
       refine RW.rS (n:=19) fA boxes.Yt boxes.ZV (by kernel_rfl) rfl rfl (fun w5 H5 T U h=>?_)
       refine RW.rP 0 (some 95) T ?_
       refine RW.rP 1 (some 96) T ?_
       refine RW.rT 2 (some 97) T U h ?_
       refine RW.rP 3 (some 98) T ?_
       refine RW.rT 4 (some 99) T U h ?_
       refine RW.rP 5 (some 100) T ?_
       refine RW.rP 6 (some 101) T ?_
       refine RW.rP 7 (some 102) T ?_
       refine RW.rP 8 (some 103) T ?_
       refine RW.rP 9 (some 104) T ?_
       refine RW.rP 10 (some 105) T ?_
       refine RW.rT 11 (some 106) T U h ?_
       clear h
       refine Xb (i:=12) (N:=some 107) #[true,true,true,true,true,true,true,true,true,true,true,true,true,false,false,false,false,false,false] rfl rfl (jF T.out (by kernel_rfl)) (by decide) (fun K hK=>?_)
       refine call_ 44 #[.string ch2,.pointer (some ⟨m + 1,0,none⟩)] (by rfl) rfl (by have he:=Zl Tryz.func44 (by kernel_rfl) rfl #[.string ch2,.pointer (some ⟨m + 1,0,none⟩)] w5;go_simp) ?_
       refine (zif.out w5 H5.out).mono ?_
       rintro e w6 ⟨rfl,rfl⟩
       refine ⟨_,rfl,?_⟩
       refine hK.out _ _ (fA.out _ H5.out) (fun h=>?_)
       clear hK K h
       refine Xn (a':=?_) ?_ ?_
       rotate_left
       ·show Act.put _ (some 107) _ = _
        simp only [Act.put,List.setIfInBounds_toArray,List.set_cons_zero,List.set_cons_succ]
        rfl
       have hjn:=HJN.out cn (Qr Fm ch2) w5 (HW3.out.trans (H5.out.mono HW3.out.size))
       have hjv:lM (xH x.f0 x.f2 x.f3 x.f4 x.f5) x.f4 cn (Qr Fm ch2) = fjoin x cn (Qr Fm ch2):=rfl
       rw [hjv] at hjn
       have hgo:=@zb5 (fjoin x) A j cn hjA
       have hstop:=@zKX (fjoin x) A j cn hjA
       rw [zih.out] at hgo hstop
       generalize fjoin x cn (Qr Fm ch2) = jv at hjn hgo hstop
       obtain ⟨j1,j2⟩:=jv
       dsimp only at hgo hstop
       have HGO:=zx.mk hgo
       have HST:=zx.mk hstop
       clear hjv hgo hstop
       refine RW.rC 13 (some 108) T fA H5 Tryz.func45 hjn (fun w7 H7 h=>?_) (by kernel_rfl)
       refine RW.rP 14 (some 94) T ?_
       refine RW.rP 15 (some 109) T ?_
       refine RW.rP 16 (some 110) T ?_
       refine RW.rP 17 (some 19) T ?_
       refine RW.rP 18 (some 20) T ?_
       refine xE (qW T.out (by kernel_rfl)) ?_
       clear h hjn r5
       have HB7:=zx.mk (HB3.out.trans (H7.out.mono HB3.out.size))
       cases j2 with
       | false =>
        have nL:=zx.mk (zqF (fjoin x) A k j cn HHK.out (HEA.out.trans (HST.out rfl)))
        go_wp2_with fail
        go_meet
        exact ⟨j,cn,rfl,rfl,hkj,HJ.out,nL,HB7⟩
       | true =>
        have nL:=zx.mk (HEA.out.trans (HGO.out rfl))
        go_wp2_with fail
        go_roundw
        case rel=>exact ⟨j + 1,j1,by first | rfl | go_num,rfl,by omega,HJ1.out,⟨fun _=>⟨HHK.out,nL.out⟩⟩,⟨fun h=>by cases h⟩,HB7⟩
        case measure=>(have:=HJ1.out;simp [intOf];omega)
      ·have nL:=zx.mk (zqF (fjoin x) A k j cn hka (hea.trans (zY5 _ A j cn (by omega))))
       have r4:decide ((j:Int) + 1 < (chars.length:Int)) = false:=decide_eq_false (by omega)
       have hjb:(j:Int) ≤ 1000000:=by omega
       have HJ:=zx.mk hj
       clear hea zJu hj1 hj
       go_wp2_with fail
       go_meet
       exact ⟨j,cn,rfl,rfl,hkj,HJ.out,nL,HB3⟩
    case rest =>
     obtain ⟨j,cn,e1,e2,hkj,hj,nL,HB3⟩:=hcut
     subst e1 e2
     obtain ⟨vo_,vl_,hSA⟩:=HS2.out
     have hput:=zie.out st cn wc (Nat.le_trans hbr HB3.out.size) (HWR.out.trans (HB3.out.mono HWR.out.size)) (by omega) (by omega) ⟨vo_,vl_,hSA.below HB3.out⟩
     have hlen:=zY4 l f s yw st cn
     have hfl:=HF2.out
     rw [nL.out,List.foldl_cons] at hfl
     generalize ak l f s yw st cn = st2 at hput hlen hfl
     have HFL:=zx.mk hfl
     have HLK:=zx.mk (HL2.out.trans (uO.below (B:=g) HB3.out hbr))
     clear hfl hSA
     go_wp2_with fail
     refine hput.mono ?_;rintro e w8 ⟨⟨v,rfl⟩,hS8,hL8⟩
     have HS8:=zx.mk hS8
     have HL8:=zx.mk (HLK.out.trans hL8)
     clear hput hS8 hL8
     go_wp2_with fail
     go_roundw
     case rel=>exact ⟨j + 1,st2,by first | rfl | go_num,by omega,by omega,by omega,HFL,HS8,HL8⟩
     case measure=>simp [intOf];omega
   ·obtain rfl:k = chars.length:=by omega
    have hfe:st = FIN:=by
     have h:=HF2.out
     unfold Xw at h
     rw [List.drop_eq_nil_of_le (by omega),gU] at h
     have h2:(if yE = true then ([]:List ByteArray) else []) = []:=by split <;> rfl
     rw [h2] at h
     exact h
    subst hfe
    obtain ⟨vo,vl,hSA⟩:=HS2.out
    have t5:W2.cell? ⟨g,5,none⟩ = some vo:=(zX hSA.1 5).trans rfl
    have t6:W2.cell? ⟨g,6,none⟩ = some vl:=(zX hSA.1 6).trans rfl
    have HSA:=zx.mk hSA
    have HWR:=zx.mk hwr
    have q1:decide ((chars.length:Int) < (chars.length:Int)) = false:=decide_eq_false (by omega)
    clear hSA hwr
    have fA:=zx.mk (fun (V:World) (h:Below W2.heap.size W2 V)=>(show V.cell? ⟨g,5,none⟩ = some vo ∧ V.cell? ⟨g,6,none⟩ = some vl from ⟨(h.cell (World.block_lt_of_cell? _ _ t5)).trans t5,(h.cell (World.block_lt_of_cell? _ _ t6)).trans t6⟩))
    clear t5 t6
    go_wp2_with fail
    refine zZG ?_
    refine RW.rS (n:=11) fA boxes.zgw boxes.zea (by kernel_rfl) rfl rfl (fun w5 H5 T U h=>?_)
    refine RW.rP 0 (some 119) T ?_
    refine RW.rP 1 (some 120) T ?_
    refine RW.rP 2 (some 121) T ?_
    refine RW.rT 3 (some 122) T U h ?_
    refine RW.rP 4 (some 123) T ?_
    refine RW.rP 5 (some 124) T ?_
    refine RW.rP 6 (some 125) T ?_
    refine RW.rT 7 (some 126) T U h ?_
    refine RW.rP 8 (some 8) T ?_
    refine RW.rP 9 (some 9) T ?_
    refine RW.rP 10 (some 10) T ?_
    refine xE (qW T.out (by kernel_rfl)) ?_
    clear h
    have hK5:w5.heap[D]? = some (.deferred (some [])):=(H5.out.block D (by omega)).trans ((HL2.out.2.2 D (by omega) (by omega)).trans HK9.out)
    have S5:=HSA.out.below H5.out
    have iD:=HWR.out.trans (H5.out.mono HWR.out.size)
    clear fA
    go_wp2_with fail
    refine ⟨by simp,.inl ⟨_,_,rfl,run_takeDeferred hK5,?_⟩⟩
    refine ⟨_,zv6 rfl rfl rfl,vo,vl,rfl,?_,?_,?_⟩
    ·rw [zec.out]
     exact Kd.zVW (Kd.uT (zZC S5.2.1 (grownBy_putObj' _ D (.deferred none)) (fun r er=>by cases er;exact ⟨_,hK5,rfl⟩)) (by omega))
    ·rw [zec.out]
     exact Kd.uT (zZC S5.2.2 (grownBy_putObj' _ D (.deferred none)) (fun r er=>by cases er;exact ⟨_,hK5,rfl⟩)) (by omega)
    ·exact iD.trans (belowK_b (w:=w) (Nat.le_refl _) _ D _ _ (by omega) hK5 rfl rfl)
end Go.Proofs.YtggifbbiiickmaaGreatDoor
namespace Go.Proofs.YtggifbbiiickmaaGreatDoor
open Go.RowKit Go.Proofs.zk.za Go.Proofs.zk.zS Go.Proofs.zk.zR Go.Proofs.YtggifbbiiickmaaGreatDoor.PX
set_option linter.unusedSimpArgs false
set_option linter.unusedVariables false
def okF (x:y8):Bool:=decide (x.f3.length ≤ 1000000000 ∧ x.f4.length ≤ 1000000000 ∧ x.f5.length ≤ 1000000000)
def kE.f (l0:List jd) (uQ uX:Int) (uf ug:Bool) (l2:List ByteArray) (l3:List Yi):Option (List qV × List ByteArray × Int) :=
 if l0.all okF = true ∧ l0.length ≤ 1000000000 ∧ l2.length ≤ 1000000000 ∧ l3.length ≤ 1000000000 then some (zKz l0 uQ uX uf ug l2 l3) else none
theorem kE.calls (A0:Option Addr) (c0:Nat) (l0:List jd) (uQ uX:Int) (uf ug:Bool) (A2:Option Addr) (c2:Nat) (l2:List ByteArray) (A3:Option Addr) (c3:Nat) (l3:List Yi) (r1:List qV) (r2:List ByteArray) (r3:Int) (w:World) (hr0:Kd.C kP w A0 l0.length l0) (hc0:l0.length ≤ c0) (hr2:Kd.C Kd.string w A2 l2.length l2) (hc2:l2.length ≤ c2) (hr3:Kd.C JX w A3 l3.length l3) (hc3:l3.length ≤ c3) (hG:GW w) (h:kE.f l0 uQ uX uf ug l2 l3 = some (r1,r2,r3)) :
  Calls Tryz.prog 13 #[.slice A0 l0.length c0,.agg #[.int .i64 uQ,.int .i64 uX,.bool uf,.bool ug],.slice A2 l2.length c2,.slice A3 l3.length c3] w fun e w'=>∃ Q8 v1_:Value,e = .returned (.tuple #[Q8,v1_,.int .i64 r3]) ∧ Kd.S uj 53 w' w.heap.size (fun _=>True) Q8 r1 ∧ Kd.R Kd.string 9 w' w.heap.size (fun _=>True) v1_ r2 ∧ Below w.heap.size w w':=by
 unfold kE.f at h
 split at h
 ·rename_i hl
  have hz:∀ x ∈ l0,x.f3.length ≤ 1000000000 ∧ x.f4.length ≤ 1000000000 ∧ x.f5.length ≤ 1000000000:=fun x hx=>of_decide_eq_true (List.all_eq_true.1 hl.1 x hx)
  have he:=Option.some.inj h
  unfold zKz at he
  cases hb:bf l0 uQ uX l2 l3 with
  | true =>
   rw [hb,if_pos rfl] at he
   cases he
   exact (zY0 A0 c0 l0 uQ uX uf ug A2 c2 l2 A3 c3 l3 w hG hr0 hz hl.2.1 hr2 hl.2.2.1 hr3 hl.2.2.2 hb).mono fun e w' ⟨h1,h2⟩=>⟨_,_,h1,Kd.Xo _ _ _ _ _,Kd.jC _ _ _ _ _,h2⟩
  | false =>
   rw [hb,if_neg Bool.false_ne_true] at he
   cases he
   rw [zqE] at hb
   simp only [Bool.or_eq_false_iff,decide_eq_false_iff_not,Nat.not_lt] at hb
   exact zKJ A0 c0 l0 uQ uX uf ug A2 c2 l2 A3 c3 l3 w hG hr0 hz hl.2.1 hr2 hl.2.2.1 hr3 hl.2.2.2 hb.1.1.1.1 hb.1.1.1.2 hb.1.1.2.1 hb.1.1.2.2 hb.1.2 hb.2
 ·cases h
end Go.Proofs.YtggifbbiiickmaaGreatDoor
namespace Go.Proofs
end Go.Proofs
namespace Go.Proofs.YtggifbbiiickmaaGreatDoor
open Go.RowKit Go.Shelf Go.Sort Go.Proofs.zk.za Go.Proofs.zk.zR Go.Proofs.YtggifbbiiickmaaGreatDoor.PX
theorem zY7 (x:yG):(pU x).length = 2:=rfl
theorem zY8 (x:yG):∀ v ∈ pU x,v.oneCell' = true:=by
 intro v hv
 simp only [pU,List.mem_cons,List.mem_nil_iff,or_false] at hv
 rcases hv with rfl | rfl <;> rfl
theorem zed {w:World} {g:Nat} {cur:Array Value} {e:TypeId} {F:Array Value} (hb:w.heap[g]? = some (.cells cur e (0,0))) (ht:cur.toList.take F.size = F.toList):Holds id w g 0 F:=by
 intro j hj
 refine ⟨?_,by simp [World.frozen?,hb]⟩
 have h1:(cur.toList.take F.size)[j]? = F.toList[j]?:=by rw [ht]
 rw [List.getElem?_take_of_lt hj] at h1
 simp only [World.cell?,hb,Nat.zero_add]
 simp only [Option.isSome_none,Bool.false_eq_true,if_false]
 rw [← Array.getElem?_toList,h1]
 simp [hj]
theorem zgZ {w:World} {g n:Nat} {os:Array Obj} {cur:Array Value} {e:TypeId} {fr:Nat × Nat} (d:Array Value) (hb:w.heap[g]? = some (.cells cur e fr)) :
  (Sort.grow (Sort.putRow id (Sort.ahead w n) g 0 d) os).heap[g]? = some (.cells (Sort.putCells id 0 d cur) e fr):=by
 have hg:g < w.heap.size:=(Array.getElem?_eq_some_iff.1 hb).1
 rw [heap_grow_old _ _ (by simpa using hg)]
 simp [Sort.putRow,Sort.mapBlock,Sort.ahead,Array.getElem?_modify,hb,Sort.onCells]
theorem zee {w:World} {g n:Nat} {os:Array Obj} (d:Array Value):w.grownBy (Sort.grow (Sort.putRow id (Sort.ahead w n) g 0 d) os) (some g):=by
 refine ⟨rfl,rfl,rfl,by simp,fun k hk hne=>?_⟩
 rw [heap_grow_old _ _ (by simpa using hk)]
 have:g ≠ k:=fun e=>hne (by rw [e])
 simp [Sort.putRow,Sort.mapBlock,Sort.ahead,Array.getElem?_modify,this]
theorem zgQ (cur:Array Value) (F:Array Value) (h:F.size ≤ cur.size):(Sort.putCells id 0 F cur).toList.take F.size = F.toList:=by
 apply List.ext_getElem?
 intro j
 by_cases hj:j < F.size
 ·rw [List.getElem?_take_of_lt hj,Array.getElem?_toList]
  simp [Sort.putCells,hj,show j < cur.size by omega]
 ·rw [List.getElem?_take_eq_none (by omega),List.getElem?_eq_none (by simp;omega)]
theorem flat_get (xs:List yG) (j:Nat) (hj:j < xs.length):((flatK pU 2 xs.toArray).toList.drop (j * 2)).take 2 = pU xs[j]:=by
 have hsz:(flatK pU 2 xs.toArray).toList.length = xs.length * 2:=by simp
 have key:∀ t,t < xs.length * 2 → (flatK pU 2 xs.toArray).toList[t]? = some ((pU xs.toArray[t / 2]!)[t % 2]!):=by
  intro t ht
  have h:=get_flatK pU 2 xs.toArray t (by simpa using ht)
  rw [Array.getElem?_toList]
  rw [← h]
  simp [show t < xs.length * 2 by omega]
 apply List.ext_getElem?
 intro i
 rcases Nat.lt_or_ge i 2 with hi | hi
 ·rw [List.getElem?_take_of_lt hi,List.getElem?_drop,key _ (by omega)]
  have e1:(j * 2 + i) / 2 = j:=by omega
  have e2:(j * 2 + i) % 2 = i:=by omega
  rw [e1,e2]
  have e3:xs.toArray[j]! = xs[j]:=by simp [hj]
  rw [e3]
  rcases i with _ | _ | i
  ·rfl
  ·rfl
  ·omega
 ·rw [List.getElem?_take_eq_none hi,List.getElem?_eq_none (by simp [pU];omega)]
theorem zJA {w:World} {b:Nat} {ok:Nat → Prop} {xs:List yG} {inner:List Value} (h:qY (vO.M w b ok) 2 xs inner):inner = (flatK pU 2 xs.toArray).toList:=by
 have hsz:(flatK pU 2 xs.toArray).toList.length = xs.length * 2:=by simp
 apply List.ext_getElem?
 intro t
 rcases Nat.lt_or_ge t (xs.length * 2) with ht | ht
 ·have hj:t / 2 < xs.length:=by omega
  have h1:=h.2 (t / 2) _ (List.getElem?_eq_getElem hj)
  have h2:(inner.drop (t / 2 * 2)).take 2 = pU xs[t / 2]:=zX0 h1
  have h3:=flat_get xs (t / 2) hj
  have h4:=h2.trans h3.symm
  have h5:=congrArg (fun l:List Value=>l[t % 2]?) h4
  simp only [List.getElem?_take_of_lt (show t % 2 < 2 by omega),List.getElem?_drop] at h5
  rw [show t / 2 * 2 + t % 2 = t by omega] at h5
  exact h5
 ·rw [List.getElem?_eq_none (by have:=h.1;omega),List.getElem?_eq_none (by omega)]
theorem zKV (w:World) (b:Nat) (ok:Nat → Prop) (xs:List yG):qY (vO.M w b ok) 2 xs (flatK pU 2 xs.toArray).toList:=by
 refine ⟨by simp,fun j p hj=>?_⟩
 obtain ⟨hl,rfl⟩:=List.getElem?_eq_some_iff.1 hj
 rw [flat_get xs j hl]
 exact JY _ _ _ _
set_option maxRecDepth 100000 in
theorem zyT (x y:yG) (w:World) :
  Calls Tryz.prog 111 #[.agg #[.string x.f0,.int .i64 x.f1],.agg #[.string y.f0,.int .i64 y.f1]] w fun e w'=>e = .returned (.int .i64 (vG x.f0 y.f0)) ∧ ∃ q os,w' = Sort.grow (w.drewN q) os:=by
 have hc:=uY.calls x.f0 y.f0 _ ((w.alloc (.cells #[.string x.f0,.int .i64 x.f1] 105)).alloc (.cells #[.string y.f0,.int .i64 y.f1] 105)) (Q9 x.f0 y.f0)
 generalize vG x.f0 y.f0 = r at hc ⊢
 go_enter Tryz.func111,Tryz.ntmps111
 go_wp2_with (go_at_call 91;refine hc.mono ?_;rintro e w2 ⟨rfl,nd,rfl⟩)
 go_ret
 refine ⟨rfl,nd,#[.cells #[.string x.f0,.int .i64 x.f1] 105] ++ #[.cells #[.string y.f0,.int .i64 y.f1] 105],?_⟩
 rw [← Sort.grow_grow,Sort.alloc_eq_grow,Sort.alloc_eq_grow]
 rfl
theorem zb6 (a b:ByteArray):decide (vG a b < 0) = Op.bytesLess a.toList b.toList:=by
 unfold vG
 cases h1:Op.bytesLess a.toList b.toList
 ·cases h2:Op.bytesLess b.toList a.toList <;> simp
 ·simp
theorem zyd (x y:yG):ltOf (fun x y:yG=>vG x.f0 y.f0) x y = decide (x.f0.toList < y.f0.toList):=by
 show decide (vG x.f0 y.f0 < 0) = _
 rw [zb6,bytesLess_eq]
theorem zY9:SWO (ltOf (fun x y:yG=>vG x.f0 y.f0)) where
 irrefl x:=by rw [zyd];simp [List.lt_irrefl]
 trans x y z h1 h2:=by
  rw [zyd] at *
  simp only [decide_eq_true_eq] at *
  exact List.lt_trans h1 h2
 ntrans x y z h1 h2:=by
  rw [zyd] at *
  simp only [decide_eq_false_iff_not,List.not_lt] at *
  exact List.le_trans h2 h1
theorem zJB (xs ys:List yG) (d':Array yG) (hp:ys.Perm xs) (hs:ys.Pairwise fun a b=>vG a.f0 b.f0 < 0)
  (hP:PermIn 0 xs.toArray.size xs.toArray d') (hS:SortedIn (ltOf (fun x y:yG=>vG x.f0 y.f0)) 0 xs.toArray.size d'):d'.toList = ys:=by
 obtain ⟨hsz,_,hperm⟩:=hP
 have e1:d'.extract 0 xs.toArray.size = d':=by rw [← hsz];exact Array.extract_size
 rw [e1,Array.extract_size] at hperm
 refine List.Perm.eq_of_pairwise (le:=fun x y=>(!ltOf (fun x y:yG=>vG x.f0 y.f0) y x) = true) ?_ ?_ ?_ (hperm.trans hp.symm)
 ·intro a b ha hb h1 h2
  have ha':a ∈ ys:=(hperm.trans hp.symm).mem_iff.1 ha
  obtain ⟨i,hi,rfl⟩:=List.getElem_of_mem ha'
  obtain ⟨j,hj,rfl⟩:=List.getElem_of_mem hb
  simp only [Bool.not_eq_true',ltOf,decide_eq_false_iff_not] at h1 h2
  rcases Nat.lt_trichotomy i j with h | h | h
  ·exact absurd (List.pairwise_iff_getElem.1 hs i j hi hj h) h2
  ·subst h;rfl
  ·exact absurd (List.pairwise_iff_getElem.1 hs j i hj hi h) h1
 ·rw [List.pairwise_iff_getElem]
  intro i j hi hj hij
  have h:=hS i j (Nat.zero_le _) hij (by rw [← hsz];simpa using hj)
  have hi':i < d'.size:=by simpa using hi
  have hj':j < d'.size:=by simpa using hj
  rw [getElem!_pos d' i hi',getElem!_pos d' j hj'] at h
  simpa using h
 ·refine hs.imp ?_
  intro a b h
  have h1:ltOf (fun x y:yG=>vG x.f0 y.f0) a b = true:=decide_eq_true h
  cases h2:ltOf (fun x y:yG=>vG x.f0 y.f0) b a with
  | false=>rfl
  | true=>exact absurd (zY9.trans _ _ _ h1 h2) (by rw [zY9.irrefl];simp)
theorem zb7 (w:World) (b0:Nat) (u:Value) (xs ys:List yG) (hR:Kd.R vO 105 w b0 (fun _=>True) u xs) (h0:0 < xs.length) (hl:xs.length ≤ 1000) (hp:ys.Perm xs) (hs:ys.Pairwise fun a b=>vG a.f0 b.f0 < 0) :
  Calls Tryz.prog 110 #[u,.func (.func 111) #[] #[]] w fun e w'=>e = .returned (.tuple #[]) ∧ Kd.R vO 105 w' b0 (fun _=>True) u ys ∧ w.grownBy w' u.ownBlock:=by
 obtain ⟨hok,inner,ho,hr⟩:=hR
 have hin:=zJA hr
 subst hin
 rcases ho.2 with ⟨_,h⟩ | ⟨g,cap,cur,rfl,hbase,hb,h1,h2,h3,h4⟩
 ·omega
 have hg:g < w.heap.size:=(Array.getElem?_eq_some_iff.1 hb).1
 have hk2:vO.sz = 2:=rfl
 rw [hk2] at h3 h4
 have hH:HoldsK pU 2 w g 0 xs.toArray:=zed hb (by rw [size_flatK];exact h4)
 have hlen:=hp.length_eq
 refine (AnyQ.slices_SortFunc Tryz.sortG 2 (fun w=>by kernel_rfl) (fun w=>by kernel_rfl) pU zY7 zY8 (fun x y=>vG x.f0 y.f0) zY9 111 #[] g 0 cap xs.toArray w (Go.Proofs.zk.zS.Zl Tryz.func111 (by kernel_rfl) rfl)
  (fun m os dk hdk x y=>zyT x y _) hH hg (by simp;omega)).mono fun e w' ⟨he,d',n,os,hP,hS,hw⟩=>?_
 have hd:=zJB xs ys d' hp hs hP hS
 have hd':d' = ys.toArray:=by rw [← hd]
 subst hd'
 subst hw
 refine ⟨he,⟨fun _ _=>trivial,(flatK pU 2 ys.toArray).toList,⟨by rw [hk2];simp,.inr ⟨g,cap,_,by rw [hlen],hbase,zgZ _ hb,by rw [hlen];exact h1,h2,by rw [hk2];simp [Sort.putCells,h3],?_⟩⟩,zKV _ _ _ _⟩,?_⟩
 ·have:=zgQ cur (flatK pU 2 ys.toArray) (by rw [size_flatK,h3];simp;omega)
  rw [size_flatK] at this
  rw [hk2]
  simpa using this
 ·exact zee (w:=w) (g:=g) (n:=n) (os:=os) (flatK pU 2 ys.toArray)
end Go.Proofs.YtggifbbiiickmaaGreatDoor
namespace Go.Proofs.YtggifbbiiickmaaGreatDoor.PX
open Go.RowKit
theorem zZH:(Tryz.prog.info? 105).map (fun i=>(i.zero,i.size,i.bytes)) = some (some (.agg #[(.string ⟨#[]⟩),(.int .i64 0)]),2,24):=by kernel_rfl
end Go.Proofs.YtggifbbiiickmaaGreatDoor.PX
namespace Go.Proofs.YtggifbbiiickmaaGreatDoor
open Go.RowKit Go.Shelf Go.Proofs.zk.za Go.Proofs.zk.zS Go.Proofs.zk.zR Go.Proofs.YtggifbbiiickmaaGreatDoor.PX
set_option linter.unusedSimpArgs false
theorem zZI {w W w1:World} {r r':Option Nat} (h:w.grownBy W r) (g:W.grownBy w1 r') (hr:r' = r ∨ ∃ b,r' = some b ∧ w.heap.size ≤ b):w.grownBy w1 r:=by
 refine ⟨g.os.trans h.os,g.tape.trans h.tape,g.output.trans h.output,Nat.le_trans h.size g.size,fun k hk hne=>?_⟩
 refine (g.block k (Nat.lt_of_lt_of_le hk h.size) ?_).trans (h.block k hk hne)
 rcases hr with rfl | ⟨b,rfl,hb⟩
 ·exact hne
 ·intro e
  injection e with e
  omega
theorem aW {w W w1:World} {r:Option Nat} (h:w.grownBy W r) (g:Below W.heap.size W w1):w.grownBy w1 r :=
 ⟨g.os.trans h.os,g.tape.trans h.tape,g.output.trans h.output,Nat.le_trans h.size g.size,fun k hk hne=>(g.block k (Nat.lt_of_lt_of_le hk h.size)).trans (h.block k hk hne)⟩
theorem ZT {w W:World} {r:Option Nat} {g i:Nat} (h:w.grownBy W r) (hg:w.heap.size ≤ g) (v:Value):w.grownBy (W.setCell ⟨g,i,none⟩ v) r :=
 ⟨h.os,h.tape,h.output,by simpa using h.size,fun k hk hne=>(Below.heap_setCell W ⟨g,i,none⟩ v k (by show k ≠ g;omega)).trans (h.block k hk hne)⟩
theorem zb8 {w W:World} {r:Option Nat} (h:w.grownBy W r):w.grownBy W.drew r:=aW h ⟨rfl,rfl,rfl,Nat.le_refl _,fun _ _=>rfl⟩
theorem zqG {α:Type} {d:Kd α} {e b0:Nat} {w wr w2:World} {ok:Nat → Prop} {u:Value} {xs:List α} (hB:Below b0 w wr) (hs:b0 ≤ wr.heap.size) (hR:d.R e wr b0 ok u xs) (hg:wr.grownBy w2 u.ownBlock):Below b0 w w2:=by
 refine hB.trans ⟨hg.os,hg.tape,hg.output,hg.size,fun k hk=>hg.block k (Nat.lt_of_lt_of_le hk hs) ?_⟩
 intro e
 obtain ⟨inner,ho⟩:=Kd.cO hR
 have:=Xa ho k e.symm
 omega
def chr (c:Nat):ByteArray:=Utf8.encode (c:Int)
def Za (wd:Nat → Int) (c:Nat):List yG:=(List.range (c - 33)).map fun i=>⟨chr (33 + i),wd (33 + i)⟩
theorem zef (c:Nat):Utf8.encode (c:Int) = chr c:=rfl
attribute [irreducible] chr
theorem zKK (wd:Nat → Int) (c:Nat) (h:33 ≤ c):Za wd (c + 1) = Za wd c ++ [⟨chr c,wd c⟩]:=by
 obtain ⟨m,rfl⟩:∃ m,c = 33 + m:=⟨c - 33,by omega⟩
 unfold Za
 rw [show 33 + m + 1 - 33 = m + 1 by omega,show 33 + m - 33 = m by omega,List.range_succ,List.map_append]
 rfl
theorem zzP (wd:Nat → Int) (c:Nat):(Za wd c).length = c - 33:=by simp [Za]
def made.T5:Bool × List (List Nat × List Nat):=(true,[([],[]),([0],[0]),([],[]),([2],[2]),([3],[3]),([],[]),([],[]),([5,6],[5,6]),([4,7],[4,7]),([8],[8]),([1,9,7],[1,9]),([0,1,2,3,4,5,6,7,8,9,10],[]),([11,10,10,0,1,2,3,4,5,6,7,8,9,10],[10,11])])
theorem made.zkH:vZ .any (opsOf Tryz.f54 5) = made.T5:=by kernel_rfl
def zgX (name:ByteArray) (space:Int) (more:List yG) (wd:Nat → Int) (u0:Value) (b0:Nat) (w:World) (gr gf:Nat) (x:Value) (wr:World):Prop :=
 ∃ (c:Nat) (u:Value),x = .int .u8 (c:Int) ∧ 33 ≤ c ∧ c ≤ 127 ∧ Kd.R vO 105 wr b0 (fun _=>True) u (more ++ Za wd c) ∧
  wr.heap[gr]? = some (.cells #[.string (⟨#[]⟩:ByteArray),.bool false,.int .i64 0,.slice none 0 0,.slice none 0 0,.slice none 0 0] 60 (0,0)) ∧
  wr.heap[gf]? = some (.cells #[.string name,.bool false,.int .i64 space,u,.slice none 0 0,.slice none 0 0] 60 (0,0)) ∧
  Below b0 w wr ∧ w.grownBy wr u0.ownBlock ∧ (u.ownBlock = u0.ownBlock ∨ ∃ b,u.ownBlock = some b ∧ w.heap.size ≤ b)
set_option maxHeartbeats 8000000 in
set_option maxRecDepth 100000 in
theorem ah (F:FuncId) (fn:Func) (hfn:Tryz.prog.funcs[F]? = some fn) (hname:(fn.name == "runtime.NumGoroutine") = false) (hbody:fn.body.isSome = true) (wd:Nat → Int)
  (hwd:∀ (c:Nat) (W:World),33 ≤ c → c ≤ 126 → Calls Tryz.prog F #[.int .u8 (c:Int)] W fun e w'=>e = .returned (.int .i64 (wd c)) ∧ Below W.heap.size W w')
  (name:ByteArray) (space:Int) (b0:Nat) (u0:Value) (more ys:List yG) (w:World) (hb0:b0 ≤ w.heap.size) (hR:Kd.R vO 105 w b0 (fun _=>True) u0 more) (hm:more.length ≤ 10)
  (hp:ys.Perm (more ++ Za wd 127)) (hs:ys.Pairwise fun a b=>vG a.f0 b.f0 < 0) :
  Calls Tryz.prog 54 #[.string name,.int .i64 space,.func (.func F) #[] #[],u0] w fun e w'=>∃ v,e = .returned (.agg #[.string name,.bool false,.int .i64 space,v,.slice none 0 0,.slice none 0 0]) ∧
   Kd.R vO 105 w' b0 (fun _=>True) v ys ∧ Below b0 w w' ∧ w.grownBy w' u0.ownBlock ∧ (v.ownBlock = u0.ownBlock ∨ ∃ b,v.ownBlock = some b ∧ w.heap.size ≤ b):=by
 have zeg:=Tryz.underlying60
 have HB:=zx.mk (Below.refl b0 w)
 have HG:=zx.mk (World.grownBy.refl w u0.ownBlock)
 have jm:=zx.mk hR
 have HWD:=zx.mk hwd
 have HP:=zx.mk hp
 have HS:=zx.mk hs
 have zii:=zx.mk (Zl hfn hname hbody)
 clear hR hwd hp hs hfn hname hbody
 obtain ⟨A0,c0,e0⟩:=Kd.xA jm.out
 subst e0
 go_enter Tryz.func54,Tryz.ntmps54
 go_wp2_with (first
  | ((with_reducible refine qQ (N:=8) rfl ?_);refine qC ?hg (N:=8) ?hd (cs:=#[.string (⟨#[]⟩:ByteArray),.bool false,.int .i64 0,.slice none 0 0,.slice none 0 0,.slice none 0 0]) (t:=60) ?hr ?_;(case hd=>rfl);(case hg=>rfl);(case hr=>first | (go_simp;done) | (go_simp;rfl));intro gr hgr w2 BR hb2;have Kr:=zx.mk (Nat.le_of_eq hgr.symm);have ze:=zx.mk (HB.out.trans (hb2.mono hb0));have zi:=zx.mk (aW HG.out hb2);clear HB HG;have HB:=ze;have HG:=zi;have HR1:=zx.mk (Kd.ku jm.out hb2);have BRA:=zx.mk BR;clear ze zi BR hb2 hgr)
  | ((with_reducible refine qQ (N:=9) rfl ?_);refine qC ?hg (N:=9) ?hd (cs:=#[.string (⟨#[]⟩:ByteArray),.bool false,.int .i64 0,.slice none 0 0,.slice none 0 0,.slice none 0 0]) (t:=60) ?hr ?_;(case hd=>rfl);(case hg=>rfl);(case hr=>first | (go_simp;done) | (go_simp;rfl));intro gf hgf w3 BF hb3;have Kf:=zx.mk (Nat.le_trans HG.out.size (Nat.le_of_eq hgf.symm));have ze:=zx.mk (HB.out.trans (hb3.mono (Nat.le_trans hb0 HG.out.size)));have zi:=zx.mk (aW HG.out hb3);have zo:=zx.mk (zM BRA.out hb3);have zT:=zx.mk (Kd.ku HR1.out hb3);have HNE:=zx.mk (show gr ≠ gf by rw [hgf];exact Nat.ne_of_lt (pQ BRA.out));clear HB HG BRA HR1 jm;have HB:=ze;have HG:=zi;have BRA:=zo;have HR1:=zT;clear ze zi zo zT hgf hb3;have zeh:w3.cell? ⟨gf,0,none⟩ = some (.string (⟨#[]⟩:ByteArray)):=(zX BF 0).trans rfl;have zei:w3.cell? ⟨gf,1,none⟩ = some (.bool false):=(zX BF 1).trans rfl;have zel:w3.cell? ⟨gf,2,none⟩ = some (.int .i64 0):=(zX BF 2).trans rfl;have zem:w3.cell? ⟨gf,3,none⟩ = some (.slice none 0 0):=(zX BF 3).trans rfl;have zen:w3.cell? ⟨gf,4,none⟩ = some (.slice none 0 0):=(zX BF 4).trans rfl;have zeo:w3.cell? ⟨gf,5,none⟩ = some (.slice none 0 0):=(zX BF 5).trans rfl;have zu1:=zw BF 0;have zu3:=zw BF 1;have zu4:=zw BF 2;have zu5:=zw BF 3;have zu6:=zw BF 4;have zu7:=zw BF 5;have BFA:=zx.mk BF;clear BF))
 have KfB:=zx.mk (Nat.le_trans hb0 Kf.out)
 go_loopw [10] (fun x wr=>zgX name space more wd (.slice A0 more.length c0) b0 w gr gf x wr) (fun x _=>127 - (intOf x).toNat)
 case atStart =>
  refine ⟨33,.slice A0 more.length c0,rfl,by omega,by omega,?_,?_,?_,?_,?_,Or.inl rfl⟩
  ·rw [show Za wd 33 = [] from rfl,List.append_nil]
   have h:=Kd.uM HR1.out BFA.out (by decide)
   exact Kd.qO (Kd.wC (p:=⟨gf,5,none⟩) (Kd.wC (p:=⟨gf,4,none⟩) (Kd.wC (p:=⟨gf,3,none⟩) (Kd.wC (p:=⟨gf,2,none⟩) (Kd.wC (p:=⟨gf,1,none⟩) (Kd.wC (p:=⟨gf,0,none⟩) h (fun _ hk=>hk.2) _) (fun _ hk=>hk.2) _) (fun _ hk=>hk.2) _) (fun _ hk=>hk.2) _) (fun _ hk=>hk.2) _) (fun _ hk=>hk.2) _) (fun _ _=>trivial)
  ·refine QO ?_ HNE.out _
   refine QO ?_ HNE.out _
   refine QO ?_ HNE.out _
   refine QO ?_ HNE.out _
   refine QO ?_ HNE.out _
   refine QO ?_ HNE.out _
   exact BRA.out
  ·refine qz (cs:=#[.string name,.bool false,.int .i64 space,.slice A0 more.length c0,.slice none 0 0,.slice none 0 0]) ?_ 5 _ rfl
   refine qz (cs:=#[.string name,.bool false,.int .i64 space,.slice A0 more.length c0,.slice none 0 0,.slice none 0 0]) ?_ 4 _ rfl
   refine qz (cs:=#[.string name,.bool false,.int .i64 space,.slice none 0 0,.slice none 0 0,.slice none 0 0]) ?_ 3 _ rfl
   refine qz (cs:=#[.string name,.bool false,.int .i64 0,.slice none 0 0,.slice none 0 0,.slice none 0 0]) ?_ 2 _ rfl
   refine qz (cs:=#[.string name,.bool false,.int .i64 0,.slice none 0 0,.slice none 0 0,.slice none 0 0]) ?_ 1 _ rfl
   refine qz (cs:=#[.string (⟨#[]⟩:ByteArray),.bool false,.int .i64 0,.slice none 0 0,.slice none 0 0,.slice none 0 0]) ?_ 0 _ rfl
   exact BFA.out
  ·exact (((((HB.out.setCell KfB.out _).setCell KfB.out _).setCell KfB.out _).setCell KfB.out _).setCell KfB.out _).setCell KfB.out _
  ·exact ZT (ZT (ZT (ZT (ZT (ZT HG.out Kf.out _) Kf.out _) Kf.out _) Kf.out _) Kf.out _) Kf.out _
 case round =>
  obtain ⟨c,u,rfl,h33,h127,zep,BR0,BF0,zer,zes,zet⟩:=hrel
  have pE:=zx.mk zep
  have BR:=zx.mk BR0
  have BF:=zx.mk BF0
  have Zb:=zx.mk zer
  have JV:=zx.mk zes
  have HAc:=zx.mk zet
  clear zep BR0 BF0 zer zes zet BRA BFA HR1 HB HG
  by_cases hlt:c < 127
  ·have hw32:IntKind.i32.wrap (c:Int) = c:=by unfold IntKind.wrap;simp [IntKind.bits,IntKind.signed];omega
   have q1:decide ((c:Int) < 127) = true:=decide_eq_true (by omega)
   go_wp2
   have ze:=zx.mk (Kd.Zz pE.out)
   have zi:=zx.mk (y7 BR.out)
   have zo:=zx.mk (y7 BF.out)
   have zT:=zx.mk (Zb.out.drew)
   have qU:=zx.mk (zb8 JV.out)
   clear pE BR BF Zb JV
   have pE:=ze
   have BR:=zi
   have BF:=zo
   have Zb:=zT
   have JV:=qU
   clear ze zi zo zT qU
   refine Zq (n:=13) (S:=fun w'=>w'.cell? ⟨gf,3,none⟩ = some u) (ds:=[12]) #[false,false,false,false,false,false,false,false,false,false,false,false,false] (by kernel_rfl) rfl rfl ((zX BF.out 3).trans rfl) (fun hHeld=>?_)
   refine tY made.zkH (fun yX=>?_)
   generalize wr.drew = w16 at pE BR BF Zb JV hHeld ⊢
   refine vX (i:=0) (N:=some 19) (v:=?_) (a':=?_) #[true,false,false,false,false,false,false,false,false,false,false,false,false] rfl rfl (xW yX.out (by kernel_rfl)) (fun _ _ _ h=>h) (Or.inl ⟨by rfl,?_⟩) ?_ ?_
   rotate_left
   ·intro w'
    go_simp
    with_reducible rfl
   rotate_left
   ·simp only [Act.put,List.setIfInBounds_toArray,List.set_cons_zero,List.set_cons_succ]
    rfl
   refine vX (i:=2) (N:=some 21) (v:=?_) (a':=?_) #[true,false,true,false,false,false,false,false,false,false,false,false,false] rfl rfl (xW yX.out (by kernel_rfl)) (fun _ _ _ h=>h) (Or.inl ⟨by rfl,?_⟩) ?_ ?_
   rotate_left
   ·intro w'
    go_simp
    with_reducible rfl
   rotate_left
   ·simp only [Act.put,List.setIfInBounds_toArray,List.set_cons_zero,List.set_cons_succ]
    rfl
   refine vX (i:=3) (N:=some 22) (v:=?_) (a':=?_) #[true,false,true,true,false,false,false,false,false,false,false,false,false] rfl rfl (xW yX.out (by kernel_rfl)) (fun _ _ _ h=>h) (Or.inl ⟨by rfl,?_⟩) ?_ ?_
   rotate_left
   ·intro w'
    go_simp
    with_reducible rfl
   rotate_left
   ·simp only [Act.put,List.setIfInBounds_toArray,List.set_cons_zero,List.set_cons_succ,hw32]
    rfl
   refine vX (i:=4) (N:=some 23) (v:=?_) (a':=?_) #[true,false,true,true,true,false,false,false,false,false,false,false,false] rfl rfl (xW yX.out (by kernel_rfl)) (fun _ _ _ h=>h) (Or.inl ⟨by rfl,?_⟩) ?_ ?_
   rotate_left
   ·intro w'
    go_simp
    with_reducible rfl
   rotate_left
   ·simp only [Act.put,List.setIfInBounds_toArray,List.set_cons_zero,List.set_cons_succ,zef]
    rfl
   refine vX (i:=5) (N:=some 24) (v:=?_) (a':=?_) #[true,false,true,true,true,true,false,false,false,false,false,false,false] rfl rfl (xW yX.out (by kernel_rfl)) (fun _ _ _ h=>h) (Or.inl ⟨by rfl,?_⟩) ?_ ?_
   rotate_left
   ·intro w'
    go_simp
    with_reducible rfl
   rotate_left
   ·simp only [Act.put,List.setIfInBounds_toArray,List.set_cons_zero,List.set_cons_succ]
    rfl
   refine vX (i:=6) (N:=some 25) (v:=?_) (a':=?_) #[true,false,true,true,true,true,true,false,false,false,false,false,false] rfl rfl (xW yX.out (by kernel_rfl)) (fun _ _ _ h=>h) (Or.inl ⟨by rfl,?_⟩) ?_ ?_
   rotate_left
   ·intro w'
    go_simp
    with_reducible rfl
   rotate_left
   ·simp only [Act.put,List.setIfInBounds_toArray,List.set_cons_zero,List.set_cons_succ]
    rfl
   refine Xi (i:=1) (N:=some 20) (v:=?_) (a':=?_) #[true,true,true,true,true,true,true,false,false,false,false,false,false] rfl rfl (lG yX.out (by kernel_rfl)) (fun _ _ _ h=>h) (Or.inl ⟨by rfl,?_⟩) hHeld ?_ ?_
   rotate_left
   ·rintro w' s0
    go_simp
    with_reducible rfl
   rotate_left
   ·simp only [Act.put,List.setIfInBounds_toArray,List.set_cons_zero,List.set_cons_succ]
    rfl
   refine Xb (i:=7) (N:=some 26) #[true,true,true,true,true,true,true,true,false,false,false,false,false] rfl rfl (jF yX.out (by kernel_rfl)) (by decide) (fun K hK=>?_)
   refine call_ F #[.int .u8 (c:Int)] (by rfl) rfl (by have he:=zii.out #[.int .u8 (c:Int)] w16;go_simp) ?_
   refine (HWD.out c _ h33 (by omega)).mono ?_
   rintro e fu ⟨rfl,hb⟩
   refine ⟨_,rfl,?_⟩
   have ze:=zx.mk (Kd.ku pE.out hb)
   have zi:=zx.mk (zM BR.out hb)
   have zo:=zx.mk (zM BF.out hb)
   have zT:=zx.mk (Zb.out.trans (hb.mono (Nat.le_trans hb0 JV.out.size)))
   have qU:=zx.mk (aW JV.out hb)
   clear pE BR BF Zb JV hHeld hb
   have pE:=ze
   have BR:=zi
   have BF:=zo
   have Zb:=zT
   have JV:=qU
   clear ze zi zo zT qU
   refine hK.out _ _ ((zX BF.out 3).trans rfl) (fun hHeld=>?_)
   clear hK K
   refine Xn (a':=?_) ?_ ?_
   rotate_left
   ·show Act.put _ (some 26) _ = _
    simp only [Act.put,List.setIfInBounds_toArray,List.set_cons_zero,List.set_cons_succ]
    rfl
   refine vX (i:=8) (N:=some 27) (v:=?_) (a':=?_) #[true,true,true,true,true,true,true,true,true,false,false,false,false] rfl rfl (xW yX.out (by kernel_rfl)) (fun _ _ _ h=>h) (Or.inl ⟨by rfl,?_⟩) ?_ ?_
   rotate_left
   ·intro w'
    go_simp
    with_reducible rfl
   rotate_left
   ·simp only [Act.put,List.setIfInBounds_toArray,List.set_cons_zero,List.set_cons_succ]
    rfl
   refine Xb (i:=9) (N:=some 28) #[true,true,true,true,true,true,true,true,true,true,false,false,false] rfl rfl (jF yX.out (by kernel_rfl)) (by decide) (fun K hK=>?_)
   refine zqV (w1:=?_) (v:=?_) (by rfl) rfl ?_ ?_
   rotate_left 2
   ·go_simp
    constructor
    ·rfl
    ·rfl
   refine hK.out _ _ ((zX (yV BF.out _) 3).trans rfl) (fun hHeld=>?_)
   clear hK K
   refine Xn (a':=?_) ?_ ?_
   rotate_left
   ·show Act.put _ (some 28) _ = _
    simp only [Act.put,List.setIfInBounds_toArray,List.set_cons_zero,List.set_cons_succ]
    rfl
   refine Xb (i:=10) (N:=some 29) #[true,true,true,true,true,true,true,true,true,true,true,false,false] rfl rfl (jF yX.out (by kernel_rfl)) (by decide) (fun K hK=>?_)
   refine Kd.Zi vO (w0:=w) b0 (by rfl) (.tmp 20) (.tmp 28) 56 105 (.agg #[(.string ⟨#[]⟩),(.int .i64 0)]) 24 rfl Tryz.underlying56 zZH rfl (by decide) (by omega) u (more ++ Za wd c) (⟨chr c,wd c⟩:yG) [.string (chr c),.int .i64 (wd c)] (fun _=>True) (fun _=>False) rfl rfl ?aP (fun _ hk=>hk.elim) ?aF ?aO ?aB ?aS ?aL ?_
   (case aP=>exact JY _ _ _ (⟨chr c,wd c⟩:yG))
   (case aF=>exact (fun _ _=>trivial))
   (case aO=>exact pE.out)
   (case aB=>exact Zb.out)
   (case aS=>exact Nat.le_trans hb0 JV.out.size)
   (case aL=>have:=zzP wd c;rw [List.length_append];omega)
   intro v1 w18 ho hb hg hat
   rw [List.append_assoc,← zKK wd c h33] at ho
   obtain ⟨Ao,co,eo⟩:=Kd.xA ho
   subst eo
   generalize (more ++ Za wd (c + 1)).length = nn at ho hat ⊢
   have ze:=zx.mk (uK BR.out hg (Kd.Qu pE.out BR.out (by decide)))
   have zi:=zx.mk (uK BF.out hg (Kd.Qu pE.out BF.out (by decide)))
   have zo:=zx.mk hb
   have zT:=zx.mk (zZI JV.out hg HAc.out)
   have qU:=zx.mk ho
   have jI:zx ((Value.slice Ao nn co).ownBlock = (Value.slice A0 more.length c0).ownBlock ∨ ∃ b,(Value.slice Ao nn co).ownBlock = some b ∧ w.heap.size ≤ b):=zx.mk (by
    rcases hat with hat | ⟨b,h1,h2⟩
    ·rw [hat];exact HAc.out
    ·exact Or.inr ⟨b,h1,Nat.le_trans JV.out.size h2⟩)
   clear BR BF Zb JV pE HAc ho hb hg hat hHeld
   have BR:=ze
   have BF:=zi
   have Zb:=zo
   have JV:=zT
   have pE:=qU
   have HAc:=jI
   clear ze zi zo zT qU jI
   refine hK.out _ _ ((zX BF.out 3).trans rfl) (fun hHeld=>?_)
   clear hK K
   refine Xn (a':=?_) ?_ ?_
   rotate_left
   ·show Act.put _ (some 29) _ = _
    simp only [Act.put,List.setIfInBounds_toArray,List.set_cons_zero,List.set_cons_succ]
    rfl
   refine vX (i:=11) (N:=some 30) (v:=?_) (a':=?_) #[true,true,true,true,true,true,true,true,true,true,true,true,false] rfl rfl (xW yX.out (by kernel_rfl)) (fun _ _ _ h=>h) (Or.inl ⟨by rfl,?_⟩) ?_ ?_
   rotate_left
   ·intro w'
    go_simp
    with_reducible rfl
   rotate_left
   ·simp only [Act.put,List.setIfInBounds_toArray,List.set_cons_zero,List.set_cons_succ]
    rfl
   refine dZ (i:=12) (N:=none) #[true,true,true,true,true,true,true,true,true,true,true,true,true] rfl rfl (jF yX.out (by kernel_rfl)) (by decide) (fun K hK=>?_)
   have zWz:w18.cell? ⟨gf,3,none⟩ = some u:=(zX BF.out 3).trans rfl
   have zJC:=zw BF.out 3
   refine U9 (w1:=?_) (by rfl) rfl ?_ ?_
   rotate_left
   ·go_simp
    rfl
   refine hK.out _ _ ?_
   clear hK K
   refine xE (qW yX.out (by kernel_rfl)) ?_
   have ze:=zx.mk (QO BR.out (p:=⟨gf,3,none⟩) HNE.out (.slice Ao nn co:Value))
   have zi:=zx.mk (qz (cs':=#[.string name,.bool false,.int .i64 space,(.slice Ao nn co:Value),.slice none 0 0,.slice none 0 0]) BF.out 3 (.slice Ao nn co:Value) rfl)
   have zo:=zx.mk (Zb.out.setCell (p:=⟨gf,3,none⟩) KfB.out (.slice Ao nn co:Value))
   have zT:=zx.mk (ZT (i:=3) JV.out Kf.out (.slice Ao nn co:Value))
   have qU:=zx.mk (Kd.Xl pE.out BF.out (by decide) 3 (.slice Ao nn co:Value))
   clear BR BF Zb JV pE hHeld zWz zJC
   generalize w18.setCell ⟨gf,3,none⟩ (.slice Ao nn co:Value) = w19 at ze zi zo zT qU ⊢
   go_wp2
   go_roundw
   case rel=>exact ⟨c + 1,(.slice Ao nn co:Value),by first | rfl | (simp;done) | go_num,by omega,by omega,qU.out,ze.out,zi.out,zo.out,zT.out,HAc.out⟩
   case measure=>simp [intOf];omega
  ·have hc:c = 127:=by omega
   have q1:decide ((c:Int) < 127) = false:=decide_eq_false (by omega)
   obtain ⟨Au,cu,eu⟩:=Kd.xA pE.out
   generalize (more ++ Za wd c).length = nu at eu
   subst eu
   have hRs:=pE.out
   rw [hc] at hRs
   have hsort:=zb7 wr b0 (.slice Au nu cu) _ ys hRs (by rw [List.length_append,zzP];omega) (by rw [List.length_append,zzP];omega) HP.out HS.out
   have zW6:=zx.mk hsort
   have hcu:wr.cell? ⟨gf,3,none⟩ = some (.slice Au nu cu):=(zX BF.out 3).trans rfl
   clear hsort hRs hlt h33 h127
   go_wp2_with (go_at_call 110;refine zW6.out.mono ?_;rintro e w2 ⟨rfl,hR2,hg2⟩;clear zW6 hcu;have hne1:=Kd.Qu pE.out BF.out (by decide);have zi:=zx.mk (uK BR.out hg2 (Kd.Qu pE.out BR.out (by decide)));have zo:=zx.mk (uK BF.out hg2 hne1);have zT:=zx.mk hR2;have qU:=zx.mk (zZI JV.out hg2 HAc.out);have jI:=zx.mk (zqG Zb.out (Nat.le_trans hb0 JV.out.size) pE.out hg2);clear pE BR BF Zb JV hne1 hR2 hg2;have BR:=zi;have BF:=zo;have HR2:=zT;have HG2:=qU;have HB2:=jI;clear zi zo zT qU jI;have zeh:w2.cell? ⟨gf,0,none⟩ = some (.string name):=(zX BF.out 0).trans rfl;have zei:w2.cell? ⟨gf,1,none⟩ = some (.bool false):=(zX BF.out 1).trans rfl;have zel:w2.cell? ⟨gf,2,none⟩ = some (.int .i64 space):=(zX BF.out 2).trans rfl;have zem:w2.cell? ⟨gf,3,none⟩ = some (.slice Au nu cu):=(zX BF.out 3).trans rfl;have zen:w2.cell? ⟨gf,4,none⟩ = some (.slice none 0 0):=(zX BF.out 4).trans rfl;have zeo:w2.cell? ⟨gf,5,none⟩ = some (.slice none 0 0):=(zX BF.out 5).trans rfl;have zil:w2.cell? ⟨gr,0,none⟩ = some (.string (⟨#[]⟩:ByteArray)):=(zX BR.out 0).trans rfl;have zim:w2.cell? ⟨gr,1,none⟩ = some (.bool false):=(zX BR.out 1).trans rfl;have zin:w2.cell? ⟨gr,2,none⟩ = some (.int .i64 0):=(zX BR.out 2).trans rfl;have zio:w2.cell? ⟨gr,3,none⟩ = some (.slice none 0 0):=(zX BR.out 3).trans rfl;have zir:w2.cell? ⟨gr,4,none⟩ = some (.slice none 0 0):=(zX BR.out 4).trans rfl;have zis:w2.cell? ⟨gr,5,none⟩ = some (.slice none 0 0):=(zX BR.out 5).trans rfl;have zit:=zw BR.out 0;have ziu:=zw BR.out 1;have ziA:=zw BR.out 2;have ziB:=zw BR.out 3;have ziC:=zw BR.out 4;have ziD:=zw BR.out 5)
   have ze:=(qz (cs':=#[.string name,.bool false,.int .i64 space,.slice Au nu cu,.slice none 0 0,.slice none 0 0]) (qz (cs':=#[.string name,.bool false,.int .i64 space,.slice Au nu cu,.slice none 0 0,.slice none 0 0]) (qz (cs':=#[.string name,.bool false,.int .i64 space,.slice Au nu cu,.slice none 0 0,.slice none 0 0]) (qz (cs':=#[.string name,.bool false,.int .i64 space,.slice none 0 0,.slice none 0 0,.slice none 0 0]) (qz (cs':=#[.string name,.bool false,.int .i64 0,.slice none 0 0,.slice none 0 0,.slice none 0 0]) (qz (cs':=#[.string name,.bool false,.int .i64 0,.slice none 0 0,.slice none 0 0,.slice none 0 0]) BR.out 0 (.string name) rfl) 1 (.bool false) rfl) 2 (.int .i64 space) rfl) 3 (.slice Au nu cu) rfl) 4 (.slice none 0 0) rfl) 5 (.slice none 0 0) rfl)
   have zi:=Kd.qO (Kd.wC (p:=⟨gr,5,none⟩) (Kd.wC (p:=⟨gr,4,none⟩) (Kd.wC (p:=⟨gr,3,none⟩) (Kd.wC (p:=⟨gr,2,none⟩) (Kd.wC (p:=⟨gr,1,none⟩) (Kd.wC (p:=⟨gr,0,none⟩) (Kd.uM HR2.out BR.out (by decide)) (fun _ hk=>hk.2) (.string name)) (fun _ hk=>hk.2) (.bool false)) (fun _ hk=>hk.2) (.int .i64 space)) (fun _ hk=>hk.2) (.slice Au nu cu)) (fun _ hk=>hk.2) (.slice none 0 0)) (fun _ hk=>hk.2) (.slice none 0 0)) (fun _ _=>trivial)
   have zo:=(ZT (i:=5) (ZT (i:=4) (ZT (i:=3) (ZT (i:=2) (ZT (i:=1) (ZT (i:=0) HG2.out Kr.out (.string name)) Kr.out (.bool false)) Kr.out (.int .i64 space)) Kr.out (.slice Au nu cu)) Kr.out (.slice none 0 0)) Kr.out (.slice none 0 0))
   have zT:=(Below.setCell (p:=⟨gr,5,none⟩) (Below.setCell (p:=⟨gr,4,none⟩) (Below.setCell (p:=⟨gr,3,none⟩) (Below.setCell (p:=⟨gr,2,none⟩) (Below.setCell (p:=⟨gr,1,none⟩) (Below.setCell (p:=⟨gr,0,none⟩) HB2.out (Nat.le_trans hb0 Kr.out) (.string name)) (Nat.le_trans hb0 Kr.out) (.bool false)) (Nat.le_trans hb0 Kr.out) (.int .i64 space)) (Nat.le_trans hb0 Kr.out) (.slice Au nu cu)) (Nat.le_trans hb0 Kr.out) (.slice none 0 0)) (Nat.le_trans hb0 Kr.out) (.slice none 0 0))
   clear zeh zei zel zem zen zeo zil zim zin zio zir zis zit ziu ziA ziB ziC ziD
   generalize ((((((w2.setCell ⟨gr,0,none⟩ (.string name)).setCell ⟨gr,1,none⟩ (.bool false)).setCell ⟨gr,2,none⟩ (.int .i64 space)).setCell ⟨gr,3,none⟩ (.slice Au nu cu)).setCell ⟨gr,4,none⟩ (.slice none 0 0)).setCell ⟨gr,5,none⟩ (.slice none 0 0)) = w5 at ze zi zo zT ⊢
   refine bodyPost_ret (results_cell_row rfl _ _ gr 60 #[.string name,.bool false,.int .i64 space,.slice Au nu cu,.slice none 0 0,.slice none 0 0] (0,0) _ rfl ze Tryz.underlying60 rfl (by kernel_rfl)) rfl ?_
   exact ⟨_,rfl,zi,zT,zo,HAc.out⟩
end Go.Proofs.YtggifbbiiickmaaGreatDoor
namespace Go.Proofs.YtggifbbiiickmaaGreatDoor
open Go.RowKit Go.Shelf
def bn (l:List UInt8) (c:UInt8):Bool:=decide (0 ≤ Lib.indexByte l c)
def Ql (c:UInt8):Int :=
 if (bn [105,106,108,116,102,46,44,58,59,39,124,33] c || (c.toNat:Int) == 96) = true then 250
 else if bn [40,41,91,93,123,125,45,114,115,47,92,34] c = true then 350
 else if bn [109,119] c = true then 750
 else if bn [77,87,64,37] c = true then 900
 else if (decide (65 ≤ (c.toNat:Int)) && decide ((c.toNat:Int) ≤ 90)) = true then 650 else 500
set_option maxRecDepth 100000 in
theorem Wv (s:ByteArray) (c:UInt8) (B:Nat) (w:World) (hc:w.cell? ⟨B,0,none⟩ = some (.int .u8 c.toNat)) :
  Calls Tryz.prog 112 #[.string s,.pointer (some ⟨B,0,none⟩)] w fun e w'=>e = .returned (.bool (bn s.data.toList c)) ∧ w' = w:=by
 have hi:=Tryz.strings_IndexByte s (c.toNat:Int) w
 have hc8:((c.toNat:Int).toNat.toUInt8) = c:=by rw [Int.toNat_natCast];exact UInt8.ofNat_toNat
 rw [hc8] at hi
 have hx:bn s.data.toList c = decide (0 ≤ Lib.indexByte s.data.toList c):=rfl
 generalize Lib.indexByte s.data.toList c = ix at hi hx
 generalize bn s.data.toList c = b at hx ⊢
 subst hx
 clear hc8
 go_enter Tryz.func112,Tryz.ntmps112
 go_wp2_with (go_at_call 113;refine hi.mono ?_;rintro e w2 ⟨rfl,rfl⟩)
 go_ret
 exact ⟨rfl,rfl⟩
set_option maxRecDepth 100000 in
set_option maxHeartbeats 1000000 in
theorem zKY (c:UInt8) (w:World) :
  Calls Tryz.prog 55 #[.int .u8 c.toNat] w fun e w'=>e = .returned (.int .i64 (Ql c)) ∧ Below w.heap.size w w':=by
 have hb0:Below w.heap.size w (w.alloc (.cells #[.int .u8 c.toNat] 5)):=(Below.refl _ w).alloc (Nat.le_refl _) _
 have hcell:(w.alloc (.cells #[.int .u8 c.toNat] 5)).cell? ⟨w.heap.size,0,none⟩ = some (.int .u8 c.toNat):=by simp
 have h1:=Wv ⟨#[105,106,108,116,102,46,44,58,59,39,124,33]⟩ c w.heap.size _ hcell
 have h2:=Wv ⟨#[40,41,91,93,123,125,45,114,115,47,92,34]⟩ c w.heap.size _ hcell
 have h3:=Wv ⟨#[109,119]⟩ c w.heap.size _ hcell
 have h4:=Wv ⟨#[77,87,64,37]⟩ c w.heap.size _ hcell
 have hv:Ql c = if (bn (⟨#[105,106,108,116,102,46,44,58,59,39,124,33]⟩:ByteArray).data.toList c || (c.toNat:Int) == 96) = true then 250
  else if bn (⟨#[40,41,91,93,123,125,45,114,115,47,92,34]⟩:ByteArray).data.toList c = true then 350
  else if bn (⟨#[109,119]⟩:ByteArray).data.toList c = true then 750
  else if bn (⟨#[77,87,64,37]⟩:ByteArray).data.toList c = true then 900
  else if (decide (65 ≤ (c.toNat:Int)) && decide ((c.toNat:Int) ≤ 90)) = true then 650 else 500:=rfl
 rw [hv]
 clear hv
 generalize bn (⟨#[105,106,108,116,102,46,44,58,59,39,124,33]⟩:ByteArray).data.toList c = b1 at h1 ⊢
 generalize bn (⟨#[40,41,91,93,123,125,45,114,115,47,92,34]⟩:ByteArray).data.toList c = b2 at h2 ⊢
 generalize bn (⟨#[109,119]⟩:ByteArray).data.toList c = b3 at h3 ⊢
 generalize bn (⟨#[77,87,64,37]⟩:ByteArray).data.toList c = b4 at h4 ⊢
 have hx0:=c.toNat_lt
 generalize (c.toNat:Int) = x at hb0 hcell h1 h2 h3 h4 ⊢
 generalize h96:(x == 96) = b96
 generalize h65:decide (65 ≤ x) = b65
 generalize h90:decide (x ≤ 90) = b90
 cases b1 with
 | true =>
  go_enter Tryz.func55,Tryz.ntmps55
  go_wp2_with (first
   | (go_at_call 112;((with_reducible refine h1.mono ?_);rintro e w2 ⟨rfl,rfl⟩))
   | (go_at_call 112;((with_reducible refine h2.mono ?_);rintro e w2 ⟨rfl,rfl⟩))
   | (go_at_call 112;((with_reducible refine h3.mono ?_);rintro e w2 ⟨rfl,rfl⟩))
   | (go_at_call 112;((with_reducible refine h4.mono ?_);rintro e w2 ⟨rfl,rfl⟩)))
  go_ret
  exact ⟨rfl,hb0⟩
 | false =>
  cases b96 with
  | true =>
   go_enter Tryz.func55,Tryz.ntmps55
   go_wp2_with (first
    | (go_at_call 112;((with_reducible refine h1.mono ?_);rintro e w2 ⟨rfl,rfl⟩))
    | (go_at_call 112;((with_reducible refine h2.mono ?_);rintro e w2 ⟨rfl,rfl⟩))
    | (go_at_call 112;((with_reducible refine h3.mono ?_);rintro e w2 ⟨rfl,rfl⟩))
    | (go_at_call 112;((with_reducible refine h4.mono ?_);rintro e w2 ⟨rfl,rfl⟩)))
   go_ret
   exact ⟨rfl,hb0⟩
  | false =>
   cases b2 with
   | true =>
    go_enter Tryz.func55,Tryz.ntmps55
    go_wp2_with (first
     | (go_at_call 112;((with_reducible refine h1.mono ?_);rintro e w2 ⟨rfl,rfl⟩))
     | (go_at_call 112;((with_reducible refine h2.mono ?_);rintro e w2 ⟨rfl,rfl⟩))
     | (go_at_call 112;((with_reducible refine h3.mono ?_);rintro e w2 ⟨rfl,rfl⟩))
     | (go_at_call 112;((with_reducible refine h4.mono ?_);rintro e w2 ⟨rfl,rfl⟩)))
    go_ret
    exact ⟨rfl,hb0⟩
   | false =>
    cases b3 with
    | true =>
     go_enter Tryz.func55,Tryz.ntmps55
     go_wp2_with (first
      | (go_at_call 112;((with_reducible refine h1.mono ?_);rintro e w2 ⟨rfl,rfl⟩))
      | (go_at_call 112;((with_reducible refine h2.mono ?_);rintro e w2 ⟨rfl,rfl⟩))
      | (go_at_call 112;((with_reducible refine h3.mono ?_);rintro e w2 ⟨rfl,rfl⟩))
      | (go_at_call 112;((with_reducible refine h4.mono ?_);rintro e w2 ⟨rfl,rfl⟩)))
     go_ret
     exact ⟨rfl,hb0⟩
    | false =>
     cases b4 with
     | true =>
      go_enter Tryz.func55,Tryz.ntmps55
      go_wp2_with (first
       | (go_at_call 112;((with_reducible refine h1.mono ?_);rintro e w2 ⟨rfl,rfl⟩))
       | (go_at_call 112;((with_reducible refine h2.mono ?_);rintro e w2 ⟨rfl,rfl⟩))
       | (go_at_call 112;((with_reducible refine h3.mono ?_);rintro e w2 ⟨rfl,rfl⟩))
       | (go_at_call 112;((with_reducible refine h4.mono ?_);rintro e w2 ⟨rfl,rfl⟩)))
      go_ret
      exact ⟨rfl,hb0⟩
     | false =>
      cases b65 with
      | false =>
       go_enter Tryz.func55,Tryz.ntmps55
       go_wp2_with (first
        | (go_at_call 112;((with_reducible refine h1.mono ?_);rintro e w2 ⟨rfl,rfl⟩))
        | (go_at_call 112;((with_reducible refine h2.mono ?_);rintro e w2 ⟨rfl,rfl⟩))
        | (go_at_call 112;((with_reducible refine h3.mono ?_);rintro e w2 ⟨rfl,rfl⟩))
        | (go_at_call 112;((with_reducible refine h4.mono ?_);rintro e w2 ⟨rfl,rfl⟩)))
       go_ret
       exact ⟨rfl,hb0⟩
      | true =>
       cases b90 with
       | false =>
        go_enter Tryz.func55,Tryz.ntmps55
        go_wp2_with (first
         | (go_at_call 112;((with_reducible refine h1.mono ?_);rintro e w2 ⟨rfl,rfl⟩))
         | (go_at_call 112;((with_reducible refine h2.mono ?_);rintro e w2 ⟨rfl,rfl⟩))
         | (go_at_call 112;((with_reducible refine h3.mono ?_);rintro e w2 ⟨rfl,rfl⟩))
         | (go_at_call 112;((with_reducible refine h4.mono ?_);rintro e w2 ⟨rfl,rfl⟩)))
        go_ret
        exact ⟨rfl,hb0⟩
       | true =>
        go_enter Tryz.func55,Tryz.ntmps55
        go_wp2_with (first
         | (go_at_call 112;((with_reducible refine h1.mono ?_);rintro e w2 ⟨rfl,rfl⟩))
         | (go_at_call 112;((with_reducible refine h2.mono ?_);rintro e w2 ⟨rfl,rfl⟩))
         | (go_at_call 112;((with_reducible refine h3.mono ?_);rintro e w2 ⟨rfl,rfl⟩))
         | (go_at_call 112;((with_reducible refine h4.mono ?_);rintro e w2 ⟨rfl,rfl⟩)))
        go_ret
        exact ⟨rfl,hb0⟩
end Go.Proofs.YtggifbbiiickmaaGreatDoor
namespace Go.Proofs.YtggifbbiiickmaaGreatDoor
open Go.RowKit Go.Shelf Go.Proofs.zk.za Go.Proofs.zk.zS Go.Proofs.zk.zR Go.Proofs.YtggifbbiiickmaaGreatDoor.PX
set_option linter.unusedSimpArgs false
def iE (s:ByteArray):Int × Bool:=if 6 < s.size then (0,false) else (zv8 s.data.toList,zqh s.data.toList)
def number.T4:Bool × List (List Nat × List Nat):=(true,[([],[]),([],[]),([1],[1]),([0,0],[0]),([2,3,0,1,2,3],[2])])
theorem number.zeu:vZ .any (opsOf Tryz.f61 4) = number.T4:=by kernel_rfl
set_option maxRecDepth 100000 in
theorem zJD (s:ByteArray) (w:World) (hs:s.size ≤ 140737488355328) (hG:GW w) :
  Calls Tryz.prog 61 #[.string s] w fun e w'=>e = .returned (.tuple #[.int .i64 (iE s).1,.bool (iE s).2]) ∧ Below w.heap.size w w':=by
 unfold iE
 by_cases h6:6 < s.size
 ·rw [if_pos h6]
  have q1:decide ((6:Int) < (s.size:Int)) = true:=decide_eq_true (by omega)
  go_enter Tryz.func61,Tryz.ntmps61
  go_wp2
  go_ret2
  exact ⟨rfl,Below.refl _ _⟩
 ·rw [if_neg h6]
  have q1:decide ((6:Int) < (s.size:Int)) = false:=decide_eq_false (by omega)
  have ha:=zK3 s w hs hG
  generalize zv8 s.data.toList = N at ha ⊢
  generalize zqh s.data.toList = B at ha ⊢
  cases B with
  | true =>
   go_enter Tryz.func61,Tryz.ntmps61
   go_wp2_with fail
   refine ha.mono ?_;rintro e w2 ⟨ev,rfl,h1,_,hb⟩
   obtain rfl:=h1 (by simp)
   clear ha h1
   go_wp2
   refine Zq (n:=5) (S:=fun _=>True) (ds:=[]) #[false,false,false,false,false] (by kernel_rfl) rfl rfl trivial (fun hHeld=>?_)
   refine tY number.zeu (fun yX=>?_)
   refine vX (i:=0) (N:=some 14) (v:=?_) (a':=?_) #[true,false,false,false,false] rfl rfl (xW yX.out (by kernel_rfl)) (fun _ _ _ h=>h) (Or.inl ⟨by rfl,?_⟩) ?_ ?_
   rotate_left
   ·intro w'
    go_simp
    with_reducible rfl
   rotate_left
   ·simp only [Act.put,List.setIfInBounds_toArray,List.set_cons_zero,List.set_cons_succ]
    rfl
   refine vX (i:=1) (N:=some 15) (v:=?_) (a':=?_) #[true,true,false,false,false] rfl rfl (xW yX.out (by kernel_rfl)) (fun _ _ _ h=>h) (Or.inl ⟨by rfl,?_⟩) ?_ ?_
   rotate_left
   ·intro w'
    go_simp
    with_reducible rfl
   rotate_left
   ·simp only [Act.put,List.setIfInBounds_toArray,List.set_cons_zero,List.set_cons_succ]
    rfl
   refine vX (i:=2) (N:=some 16) (v:=?_) (a':=?_) #[true,true,true,false,false] rfl rfl (xW yX.out (by kernel_rfl)) (fun _ _ _ h=>h) (Or.inl ⟨by rfl,?_⟩) ?_ ?_
   rotate_left
   ·intro w'
    go_simp
    with_reducible rfl
   rotate_left
   ·simp only [Act.put,List.setIfInBounds_toArray,List.set_cons_zero,List.set_cons_succ]
    rfl
   refine vX (i:=3) (N:=some 2) (v:=?_) (a':=?_) #[true,true,true,true,false] rfl rfl (xW yX.out (by kernel_rfl)) (fun _ _ _ h=>h) (Or.inl ⟨by rfl,?_⟩) ?_ ?_
   rotate_left
   ·intro w'
    go_simp
    with_reducible rfl
   rotate_left
   ·simp only [Act.put,List.setIfInBounds_toArray,List.set_cons_zero,List.set_cons_succ]
    rfl
   refine vX (i:=4) (N:=some 3) (v:=?_) (a':=?_) #[true,true,true,true,true] rfl rfl (xW yX.out (by kernel_rfl)) (fun _ _ _ h=>h) (Or.inl ⟨by rfl,?_⟩) ?_ ?_
   rotate_left
   ·intro w'
    go_simp
    with_reducible rfl
   rotate_left
   ·simp only [Act.put,List.setIfInBounds_toArray,List.set_cons_zero,List.set_cons_succ]
    rfl
   clear hHeld
   refine xE (qW yX.out (by kernel_rfl)) ?_
   go_wp2
   go_ret2
   exact ⟨rfl,hb.drew⟩
  | false =>
   go_enter Tryz.func61,Tryz.ntmps61
   go_wp2_with fail
   refine ha.mono ?_;rintro e w2 ⟨ev,rfl,_,h1,hb⟩
   obtain ⟨te,pe,rfl⟩:=h1 (by simp)
   clear ha h1
   go_wp2
   refine Zq (n:=5) (S:=fun _=>True) (ds:=[]) #[false,false,false,false,false] (by kernel_rfl) rfl rfl trivial (fun hHeld=>?_)
   refine tY number.zeu (fun yX=>?_)
   refine vX (i:=0) (N:=some 14) (v:=?_) (a':=?_) #[true,false,false,false,false] rfl rfl (xW yX.out (by kernel_rfl)) (fun _ _ _ h=>h) (Or.inl ⟨by rfl,?_⟩) ?_ ?_
   rotate_left
   ·intro w'
    go_simp
    with_reducible rfl
   rotate_left
   ·simp only [Act.put,List.setIfInBounds_toArray,List.set_cons_zero,List.set_cons_succ]
    rfl
   refine vX (i:=1) (N:=some 15) (v:=?_) (a':=?_) #[true,true,false,false,false] rfl rfl (xW yX.out (by kernel_rfl)) (fun _ _ _ h=>h) (Or.inl ⟨by rfl,?_⟩) ?_ ?_
   rotate_left
   ·intro w'
    go_simp
    with_reducible rfl
   rotate_left
   ·simp only [Act.put,List.setIfInBounds_toArray,List.set_cons_zero,List.set_cons_succ]
    rfl
   refine vX (i:=2) (N:=some 16) (v:=?_) (a':=?_) #[true,true,true,false,false] rfl rfl (xW yX.out (by kernel_rfl)) (fun _ _ _ h=>h) (Or.inl ⟨by rfl,?_⟩) ?_ ?_
   rotate_left
   ·intro w'
    go_simp
    with_reducible rfl
   rotate_left
   ·simp only [Act.put,List.setIfInBounds_toArray,List.set_cons_zero,List.set_cons_succ]
    rfl
   refine vX (i:=3) (N:=some 2) (v:=?_) (a':=?_) #[true,true,true,true,false] rfl rfl (xW yX.out (by kernel_rfl)) (fun _ _ _ h=>h) (Or.inl ⟨by rfl,?_⟩) ?_ ?_
   rotate_left
   ·intro w'
    go_simp
    with_reducible rfl
   rotate_left
   ·simp only [Act.put,List.setIfInBounds_toArray,List.set_cons_zero,List.set_cons_succ]
    rfl
   refine vX (i:=4) (N:=some 3) (v:=?_) (a':=?_) #[true,true,true,true,true] rfl rfl (xW yX.out (by kernel_rfl)) (fun _ _ _ h=>h) (Or.inl ⟨by rfl,?_⟩) ?_ ?_
   rotate_left
   ·intro w'
    go_simp
    with_reducible rfl
   rotate_left
   ·simp only [Act.put,List.setIfInBounds_toArray,List.set_cons_zero,List.set_cons_succ]
    rfl
   clear hHeld
   refine xE (qW yX.out (by kernel_rfl)) ?_
   go_wp2
   go_ret2
   exact ⟨rfl,hb.drew⟩
theorem u8n (c:Nat) (h:c ≤ 126):((UInt8.ofNat c).toNat:Int) = c:=by
 have:(UInt8.ofNat c).toNat = c:=by simp;omega
 rw [this]
def wdR (c:Nat):Int:=Ql (UInt8.ofNat c)
def wdI (c:Nat):Int:=max 0 (Ql (UInt8.ofNat c) - 20)
def wdB (c:Nat):Int:=Ql (UInt8.ofNat c) + 50
def wdM (_:Nat):Int:=600
theorem iF (c:UInt8):0 ≤ Ql c ∧ Ql c ≤ 900:=by unfold Ql;repeat' split <;> try omega
theorem zju (c:Nat) (W:World) (_:33 ≤ c) (h:c ≤ 126):Calls Tryz.prog 55 #[.int .u8 (c:Int)] W fun e w'=>e = .returned (.int .i64 (wdR c)) ∧ Below W.heap.size W w':=by
 have h:=zKY (UInt8.ofNat c) W
 rw [u8n c (by assumption)] at h
 exact h
set_option maxRecDepth 100000 in
theorem zb9 (c:Nat) (W:World) (h0:33 ≤ c) (h:c ≤ 126):Calls Tryz.prog 57 #[.int .u8 (c:Int)] W fun e w'=>e = .returned (.int .i64 (wdI c)) ∧ Below W.heap.size W w':=by
 have hr:=zju c W h0 h
 have hv:=iF (UInt8.ofNat c)
 unfold wdI
 unfold wdR at hr
 generalize Ql (UInt8.ofNat c) = v at hr hv ⊢
 go_enter Tryz.func57,Tryz.ntmps57
 have e1:IntKind.i64.wrap (v - 20) = v - 20:=IntWalk.i64_in _ (by omega)
 go_wp2_with (go_at_call 55;refine hr.mono ?_;rintro e w2 ⟨rfl,hb2⟩)
 go_ret
 exact ⟨by first | rfl | (simp;done) | (simp [Int.max_def];done),hb2⟩
set_option maxRecDepth 100000 in
theorem zcz (c:Nat) (W:World) (h0:33 ≤ c) (h:c ≤ 126):Calls Tryz.prog 58 #[.int .u8 (c:Int)] W fun e w'=>e = .returned (.int .i64 (wdB c)) ∧ Below W.heap.size W w':=by
 have hr:=zju c W h0 h
 have hv:=iF (UInt8.ofNat c)
 unfold wdB
 unfold wdR at hr
 generalize Ql (UInt8.ofNat c) = v at hr hv ⊢
 have e1:IntKind.i64.wrap (v + 50) = v + 50:=IntWalk.i64_in _ (by omega)
 go_enter Tryz.func58,Tryz.ntmps58
 go_wp2_with (go_at_call 55;refine hr.mono ?_;rintro e w2 ⟨rfl,hb2⟩)
 go_ret
 exact ⟨by first | rfl | (rw [e1];done),hb2⟩
theorem zcq (c:Nat) (W:World) (_:33 ≤ c) (_:c ≤ 126):Calls Tryz.prog 59 #[.int .u8 (c:Int)] W fun e w'=>e = .returned (.int .i64 (wdM c)) ∧ Below W.heap.size W w':=by
 unfold wdM
 go_enter Tryz.func59,Tryz.ntmps59
 go_wp2
 go_ret
 exact ⟨rfl,Below.refl _ _⟩
end Go.Proofs.YtggifbbiiickmaaGreatDoor
namespace Go.Proofs.YtggifbbiiickmaaGreatDoor
open Go.RowKit Go.Shelf Go.Proofs.zk.za Go.Proofs.zk.zR Go.Proofs.YtggifbbiiickmaaGreatDoor.PX
def Jy (wd:Nat → Int) (a n:Nat):List yG:=(List.range n).map fun i=>⟨chr (a + i),wd (a + i)⟩
def bFi:ByteArray:=⟨#[102,105]⟩
def bFl:ByteArray:=⟨#[102,108]⟩
def bFf:ByteArray:=⟨#[102,102]⟩
def Zc (x:Int):List yG:=[⟨bFi,x⟩,⟨bFl,x⟩,⟨bFf,x⟩]
def bA (wd:Nat → Int) (x:Int):List yG:=Jy wd 33 70 ++ ([⟨bFf,x⟩,⟨bFi,x⟩,⟨bFl,x⟩] ++ Jy wd 103 24)
theorem zWq (wd:Nat → Int):Za wd 127 = Jy wd 33 70 ++ Jy wd 103 24:=by
 have e0:List.range (127 - 33) = List.range 70 ++ (List.range 24).map (70 + ·):=List.range_add (n:=70) (m:=24)
 have e1:((List.range 24).map (70 + ·)).map (fun i=>(⟨chr (33 + i),wd (33 + i)⟩:yG)) = Jy wd 103 24:=by
  rw [List.map_map]
  apply List.map_congr_left
  intro i _
  show (⟨chr (33 + (70 + i)),wd (33 + (70 + i))⟩:yG) = ⟨chr (103 + i),wd (103 + i)⟩
  rw [show 33 + (70 + i) = 103 + i by omega]
 unfold Za
 rw [e0,List.map_append,e1]
 unfold Jy
 exact rfl
theorem zZL (wd:Nat → Int) (x:Int):(bA wd x).Perm (Zc x ++ Za wd 127):=by
 rw [zWq]
 unfold bA Zc
 have h1:([⟨bFf,x⟩,⟨bFi,x⟩,⟨bFl,x⟩]:List yG).Perm [⟨bFi,x⟩,⟨bFl,x⟩,⟨bFf,x⟩]:=by
  refine (List.Perm.swap _ _ _).trans ?_
  exact List.Perm.cons _ (List.Perm.swap _ _ _)
 generalize Jy wd 33 70 = A
 generalize Jy wd 103 24 = B
 refine (List.Perm.append_left A (List.Perm.append_right B h1)).trans ?_
 rw [← List.append_assoc,← List.append_assoc]
 exact List.Perm.append_right B List.perm_append_comm
def PU (n:Nat):List ByteArray:=if n = 0 then (List.range 94).map (fun i=>chr (33 + i)) else (List.range 70).map (fun i=>chr (33 + i)) ++ ([bFf,bFi,bFl] ++ (List.range 24).map (fun i=>chr (103 + i)))
theorem zJE:(PU 0).Pairwise fun a b=>vG a b < 0:=by decide +kernel
theorem zJF:(PU 1).Pairwise fun a b=>vG a b < 0:=by decide +kernel
theorem zKW (wd:Nat → Int) (x:Int):(bA wd x).Pairwise fun a b=>vG a.f0 b.f0 < 0:=by
 have h:((bA wd x).map (·.f0)) = PU 1:=by
  simp [bA,PU,Jy,List.map_map,Function.comp_def]
 have h2:=zJF
 rw [← h,List.pairwise_map] at h2
 exact h2
theorem zKa (wd:Nat → Int):(Za wd 127).Pairwise fun a b=>vG a.f0 b.f0 < 0:=by
 have h:((Za wd 127).map (·.f0)) = PU 0:=by
  simp [Za,PU,List.map_map,Function.comp_def]
 have h2:=zJE
 rw [← h,List.pairwise_map] at h2
 exact h2
end Go.Proofs.YtggifbbiiickmaaGreatDoor
namespace Go.Proofs.YtggifbbiiickmaaGreatDoor
open Go.RowKit Go.Shelf Go.Proofs.zk.za Go.Proofs.zk.zS Go.Proofs.zk.zR Go.Proofs.YtggifbbiiickmaaGreatDoor.PX
set_option linter.unusedSimpArgs false
set_option linter.unusedVariables false
abbrev lT:ByteArray:=⟨(([33,61,32,54,48,48,32,42,97,32,53,53,48,32,42,98,32,53,53,48,32,42,100,32,53,48,48,32,42,103,32,53,48,48,32,42,108,32,53,53,48,32,42,112,32,54,48,48,32,42,115,32,54,48,48,32,42,119,32,55,48].append [48,32,45,62,32,49,48,48,48,32,60,45,32,49,48,48,48,32,60,61,32,54,48,48,32,62,61,32,54,48,48,32,98,114,32,49,48,32,98,117,32,52,54,48,32,99,111,32,56,48,48,32,100,103,32,53,48,48,32,100,105,32]).append ([54,48,48,32,101,109,32,49,48,48,48,32,101,110,32,53,48,48,32,101,113,32,54,48,48,32,104,121,32,51,53,48,32,105,102,32,55,48,48,32,105,115,32,52,48,48,32,109,105,32,54,48,48,32,109,117,32,54,48,48,32,112].append [100,32,55,48,48,32,112,108,32,54,48,48,32,114,104,32,49,48,48,48,32,114,117,32,53,48,48,32,115,99,32,53,48,48,32,115,113,32,54,48,48,32,115,114,32,53,48,48,32,115,117,32,55,48,48,32,117,108,32,53,48,48])).toArray⟩
def zzR:List (List UInt8):=Lib.fields lT.data.toList
theorem zye:zzR.length = 70:=by decide +kernel
theorem zJG:∀ x ∈ zzR,x.length ≤ 6:=by decide +kernel
theorem zyU:∀ (j:Nat) (b:UInt8),lT.data.toList[j]? = some b → b.toNat < 128:=by
 have h:∀ b ∈ lT.data.toList,b.toNat < 128:=by decide +kernel
 intro j b hj
 exact h b (List.mem_of_getElem? hj)
theorem zyf (x:Int) (W:World) (b:Nat) (ok:Nat → Prop):qY (vO.M W b ok) vO.sz (Zc x) [.string (⟨#[102,105]⟩:ByteArray),.int .i64 x,.string (⟨#[102,108]⟩:ByteArray),.int .i64 x,.string (⟨#[102,102]⟩:ByteArray),.int .i64 x]:=by
 have h:∀ (j:Nat) (p:yG),(Zc x)[j]? = some p → vO.M W b ok p (([.string (⟨#[102,105]⟩:ByteArray),.int .i64 x,.string (⟨#[102,108]⟩:ByteArray),.int .i64 x,.string (⟨#[102,102]⟩:ByteArray),.int .i64 x].drop (j * 2)).take 2):=by
  intro j p hj
  rcases j with _ | _ | _ | j
  ·obtain rfl:=Option.some.inj hj
   exact JY W b ok ⟨bFi,x⟩
  ·obtain rfl:=Option.some.inj hj
   exact JY W b ok ⟨bFl,x⟩
  ·obtain rfl:=Option.some.inj hj
   exact JY W b ok ⟨bFf,x⟩
  ·simp [Zc] at hj
 exact ⟨rfl,h⟩
def lU:List qb:=[⟨⟨#[102]⟩,⟨#[102]⟩,⟨#[102,102]⟩⟩,⟨⟨#[102]⟩,⟨#[105]⟩,⟨#[102,105]⟩⟩,⟨⟨#[102]⟩,⟨#[108]⟩,⟨#[102,108]⟩⟩]
def bB:List qP:=[(⟨(⟨#[65]⟩:ByteArray),(⟨#[86]⟩:ByteArray),(-80)⟩:qP),(⟨(⟨#[65]⟩:ByteArray),(⟨#[87]⟩:ByteArray),(-60)⟩:qP),(⟨(⟨#[84]⟩:ByteArray),(⟨#[111]⟩:ByteArray),(-70)⟩:qP),(⟨(⟨#[86]⟩:ByteArray),(⟨#[65]⟩:ByteArray),(-80)⟩:qP),(⟨(⟨#[89]⟩:ByteArray),(⟨#[111]⟩:ByteArray),(-90)⟩:qP)]
def FB (W:World) (lo hi g:Nat) (x:jd):Prop :=
 ∃ v3 v4 v5,W.heap[g]? = some (.cells #[.string x.f0,.bool x.f1,.int .i64 x.f2,v3,v4,v5] 60 (0,0)) ∧ lo ≤ g ∧ g < hi ∧ Kd.R vO 105 W lo (fun k=>lo ≤ k ∧ k < hi) v3 x.f3 ∧
  Kd.R jX 108 W lo (fun k=>lo ≤ k ∧ k < hi) v4 x.f4 ∧ Kd.R jg 111 W lo (fun k=>lo ≤ k ∧ k < hi) v5 x.f5
theorem zqc {α:Type} {d:Kd α} {e lo hi:Nat} {W W':World} {v:Value} {xs:List α} (h:d.R e W lo (fun k=>lo ≤ k ∧ k < hi) v xs) (hb:Below hi W W'):d.R e W' lo (fun k=>lo ≤ k ∧ k < hi) v xs :=
 Kd.P7 h (fun k hk _=>hb.block k hk.2)
theorem zWx {α:Type} {d:Kd α} {e lo:Nat} {W:World} {v:Value} {xs:List α} (h:d.R e W lo (fun _=>True) v xs):d.R e W lo (fun k=>lo ≤ k ∧ k < W.heap.size) v xs :=
 Kd.qO (Kd.pY h) (fun k hk=>⟨hk.2.1,hk.2.2.1⟩)
theorem FB.keep {W W':World} {lo hi g:Nat} {x:jd} (h:FB W lo hi g x) (hb:Below hi W W'):FB W' lo hi g x:=by
 obtain ⟨v3,v4,v5,h1,h2,h3,h4,h5,h6⟩:=h
 exact ⟨v3,v4,v5,(hb.block g h3).trans h1,h2,h3,zqc h4 hb,zqc h5 hb,zqc h6 hb⟩
theorem FB.mk {W:World} {lo g:Nat} (x:jd) {v3 v4 v5:Value} (h1:W.heap[g]? = some (.cells #[.string x.f0,.bool x.f1,.int .i64 x.f2,v3,v4,v5] 60 (0,0))) (h2:lo ≤ g) (h3:Kd.R vO 105 W lo (fun _=>True) v3 x.f3)
  (h4:Kd.R jX 108 W lo (fun _=>True) v4 x.f4) (h5:Kd.R jg 111 W lo (fun _=>True) v5 x.f5):FB W lo W.heap.size g x :=
 ⟨v3,v4,v5,h1,h2,pQ h1,zWx h3,zWx h4,zWx h5⟩
def zW7:jd:=⟨⟨#[82]⟩,false,250,bA wdR 550,lU,bB⟩
def zW8:jd:=⟨⟨#[73]⟩,false,250,Za wdI 127,[],[]⟩
def zW9:jd:=⟨⟨#[66]⟩,false,250,bA wdB 600,lU,[]⟩
def zaz:jd:=⟨⟨#[77]⟩,false,600,Za wdM 127,[],[]⟩
theorem zKb (W:World) (b:Nat) (ok:Nat → Prop):qY (jg.M W b ok) jg.sz bB [.string (⟨#[65]⟩:ByteArray),.string (⟨#[86]⟩:ByteArray),.int .i64 (-80),.string (⟨#[65]⟩:ByteArray),.string (⟨#[87]⟩:ByteArray),.int .i64 (-60),.string (⟨#[84]⟩:ByteArray),.string (⟨#[111]⟩:ByteArray),.int .i64 (-70),.string (⟨#[86]⟩:ByteArray),.string (⟨#[65]⟩:ByteArray),.int .i64 (-80),.string (⟨#[89]⟩:ByteArray),.string (⟨#[111]⟩:ByteArray),.int .i64 (-90)]:=by
 have h:∀ (j:Nat) (p:qP),bB[j]? = some p → jg.M W b ok p ((([.string (⟨#[65]⟩:ByteArray),.string (⟨#[86]⟩:ByteArray),.int .i64 (-80),.string (⟨#[65]⟩:ByteArray),.string (⟨#[87]⟩:ByteArray),.int .i64 (-60),.string (⟨#[84]⟩:ByteArray),.string (⟨#[111]⟩:ByteArray),.int .i64 (-70),.string (⟨#[86]⟩:ByteArray),.string (⟨#[65]⟩:ByteArray),.int .i64 (-80),.string (⟨#[89]⟩:ByteArray),.string (⟨#[111]⟩:ByteArray),.int .i64 (-90)]:List Value).drop (j * 3)).take 3):=by
  intro j p hj
  rcases j with _ | _ | _ | _ | _ | j
  ·obtain rfl:=Option.some.inj hj
   exact bq W b ok (⟨(⟨#[65]⟩:ByteArray),(⟨#[86]⟩:ByteArray),(-80)⟩:qP)
  ·obtain rfl:=Option.some.inj hj
   exact bq W b ok (⟨(⟨#[65]⟩:ByteArray),(⟨#[87]⟩:ByteArray),(-60)⟩:qP)
  ·obtain rfl:=Option.some.inj hj
   exact bq W b ok (⟨(⟨#[84]⟩:ByteArray),(⟨#[111]⟩:ByteArray),(-70)⟩:qP)
  ·obtain rfl:=Option.some.inj hj
   exact bq W b ok (⟨(⟨#[86]⟩:ByteArray),(⟨#[65]⟩:ByteArray),(-80)⟩:qP)
  ·obtain rfl:=Option.some.inj hj
   exact bq W b ok (⟨(⟨#[89]⟩:ByteArray),(⟨#[111]⟩:ByteArray),(-90)⟩:qP)
  ·simp [bB] at hj
 exact ⟨rfl,h⟩
theorem FB.cells {W:World} {lo hi g:Nat} {x:jd} (h:FB W lo hi g x):∃ A3 n3 c3 A4 n4 c4 A5 n5 c5,W.heap[g]? = some (.cells #[.string x.f0,.bool x.f1,.int .i64 x.f2,.slice A3 n3 c3,.slice A4 n4 c4,.slice A5 n5 c5] 60 (0,0)) ∧
  ∀ (W':World) (base:Nat) (ok:Nat → Prop),Below W.heap.size W W' → base ≤ lo → (∀ k,lo ≤ k → k < hi → ok k) → kP.M W' base ok x [.string x.f0,.bool x.f1,.int .i64 x.f2,.slice A3 n3 c3,.slice A4 n4 c4,.slice A5 n5 c5]:=by
 obtain ⟨v3,v4,v5,h1,h2,h3,h4,h5,h6⟩:=h
 obtain ⟨A3,c3,rfl⟩:=Kd.xA h4
 obtain ⟨A4,c4,rfl⟩:=Kd.xA h5
 obtain ⟨A5,c5,rfl⟩:=Kd.xA h6
 refine ⟨A3,_,c3,A4,_,c4,A5,_,c5,h1,fun W' base ok hb hl hok=>?_⟩
 exact zaR W' base ok x (Kd.qO (Kd.uT (Kd.ku h4 hb) hl) (fun k hk=>hok k hk.1 hk.2)) (Kd.qO (Kd.uT (Kd.ku h5 hb) hl) (fun k hk=>hok k hk.1 hk.2)) (Kd.qO (Kd.uT (Kd.ku h6 hb) hl) (fun k hk=>hok k hk.1 hk.2))
theorem Jw {W:World} {g:Nat} (h:W.heap[g]? = some (.cells #[.string (⟨#[]⟩:ByteArray),.bool false,.int .i64 0,.slice none 0 0,.slice none 0 0,.slice none 0 0] 60 (0,0))) (a:ByteArray) (b:Bool) (c:Int) (v3 v4 v5:Value) :
  ((((((W.setCell ⟨g,0,none⟩ (.string a)).setCell ⟨g,1,none⟩ (.bool b)).setCell ⟨g,2,none⟩ (.int .i64 c)).setCell ⟨g,3,none⟩ v3).setCell ⟨g,4,none⟩ v4).setCell ⟨g,5,none⟩ v5).heap[g]? = some (.cells #[.string a,.bool b,.int .i64 c,v3,v4,v5] 60 (0,0)) :=
 qz (qz (qz (qz (qz (qz (cs':=#[.string a,.bool false,.int .i64 0,.slice none 0 0,.slice none 0 0,.slice none 0 0]) h 0 _ rfl) (cs':=#[.string a,.bool b,.int .i64 0,.slice none 0 0,.slice none 0 0,.slice none 0 0]) 1 _ rfl)
  (cs':=#[.string a,.bool b,.int .i64 c,.slice none 0 0,.slice none 0 0,.slice none 0 0]) 2 _ rfl) (cs':=#[.string a,.bool b,.int .i64 c,v3,.slice none 0 0,.slice none 0 0]) 3 _ rfl) (cs':=#[.string a,.bool b,.int .i64 c,v3,v4,.slice none 0 0]) 4 _ rfl) 5 _ rfl
theorem Wd {W0 W:World} {B g:Nat} (h:Below B W0 W) (hg:B ≤ g) (u0 u1 u2 u3 u4 u5:Value) :
  Below B W0 ((((((W.setCell ⟨g,0,none⟩ u0).setCell ⟨g,1,none⟩ u1).setCell ⟨g,2,none⟩ u2).setCell ⟨g,3,none⟩ u3).setCell ⟨g,4,none⟩ u4).setCell ⟨g,5,none⟩ u5) :=
 (((((h.setCell hg _).setCell hg _).setCell hg _).setCell hg _).setCell hg _).setCell hg _
def Zx (j:Nat):ByteArray:=⟨(zzR.getD j []).toArray⟩
theorem zy0 (j:Nat):(Zx j).size ≤ 6:=by
 show ((zzR.getD j []).toArray).size ≤ 6
 rw [List.size_toArray,List.getD_eq_getElem?_getD]
 cases h:zzR[j]? with
 | none=>simp
 | some x=>exact zJG x (List.mem_of_getElem? h)
def au (m:Nat):List yG:=(List.range m).map fun i=>⟨Zx (2 * i),(iE (Zx (2 * i + 1))).1⟩
theorem zKc (m:Nat):au (m + 1) = au m ++ [⟨Zx (2 * m),(iE (Zx (2 * m + 1))).1⟩]:=by unfold au;rw [List.range_succ,List.map_append];rfl
theorem zWj (m:Nat):(au m).length = m:=by simp [au]
def zaq:jd:=⟨⟨#[83]⟩,true,250,au 35,[],[]⟩
def U4:Array Value:=(zzR.map fun l=>Value.string ⟨l.toArray⟩).toArray
theorem aA (j:Nat) (h:j < 70):U4[j]? = some (.string (Zx j)):=by
 have hl:j < zzR.length:=by rw [zye];exact h
 unfold U4 Zx
 simp [List.getD_eq_getElem?_getD,hl]
def ZH:List jd:=[zW7,zW8,zW9,zaz,zaq]
def std.T14:Bool × List (List Nat × List Nat):=(true,[([],[]),([0],[0]),([],[]),([],[]),([2,3],[2,3]),([4],[4]),([],[]),([5,6],[5,6]),([7],[7]),([1,8],[1,8]),([0,1,2,3,4,5,6,7,8,9],[]),([10,9,9,0,1,2,3,4,5,6,7,8,9],[9,10])])
theorem std.zgJ:vZ .any (opsOf Tryz.f19 14) = std.T14:=by kernel_rfl
def ziE (W4:World) (g5 bw:Nat) (x:Value) (wr:World):Prop :=
 ∃ (m k:Nat) (u:Value),x = .int .i64 (k:Int) ∧ k = 2 * m ∧ m ≤ 35 ∧ Kd.R vO 105 wr W4.heap.size (fun _=>True) u (au m) ∧ wr.heap[g5]? = some (.cells #[.string (⟨#[83]⟩:ByteArray),.bool true,.int .i64 250,u,.slice none 0 0,.slice none 0 0] 60 (0,0)) ∧
  wr.heap[bw]? = some (.cells U4 9 (0,0)) ∧ Below W4.heap.size W4 wr
set_option maxHeartbeats 8000000 in
set_option maxRecDepth 100000 in
theorem zcx (w:World) (hG:GW w):Calls Tryz.prog 19 #[] w fun e w'=>∃ v:Value,e = .returned v ∧ Kd.S kP 60 w' w.heap.size (fun _=>True) v ZH ∧ Below w.heap.size w w':=by
 have zeg:=Tryz.underlying60
 have HGW:=zx.mk hG
 clear hG
 have zJH:=zx.mk (Below.refl w.heap.size w)
 generalize hW0:w = iG at zJH HGW
 go_enter Tryz.func19,Tryz.ntmps19
 go_wp2_with (first | ((with_reducible refine qQ (N:=13) rfl ?_);refine Kd.U8 vO iG.heap.size 105 ?hg (N:=13) ?hd (w0:=iG) (xs:=(Zc 550)) (inner:=[.string (⟨#[102,105]⟩:ByteArray),.int .i64 550,.string (⟨#[102,108]⟩:ByteArray),.int .i64 550,.string (⟨#[102,102]⟩:ByteArray),.int .i64 550]) (ok:=fun _=>True) (vR:=fun _=>True) ?hr ?hp (fun _ hk=>hk) trivial zJH.out zJH.out.size (by simp [Zc]) ?_;(case hd=>rfl);(case hg=>rfl);(case hr=>first | (go_simp;done) | (go_simp;rfl));(case hp=>exact zyf 550 _ _ _);intro u0 wl hol hbl hgl zzS;have HL_:=zx.mk hol;have zzT:=zx.mk hbl;have zWv:=zx.mk zzS;clear hol hbl hgl zzS zJH))
 refine (ah 55 _ Tryz.func55 (by kernel_rfl) rfl wdR zju (⟨#[82]⟩:ByteArray) 250 iG.heap.size u0 (Zc 550) (bA wdR 550) wl zzT.out.size HL_.out (by simp [Zc]) (zZL wdR 550) (zKW wdR 550)).mono ?_
 rintro e w1 ⟨v1,rfl,hr,hb,-,-⟩
 have HR1:=zx.mk hr
 have HB1:=zx.mk (zzT.out.trans hb)
 clear hr hb HL_ zzT zWv
 obtain ⟨A1,c1,e1⟩:=Kd.xA HR1.out
 generalize (bA wdR 550).length = n1 at e1
 subst e1
 go_wp2_with (first | ((with_reducible refine qQ (N:=1) rfl ?_);refine qC ?hg (N:=1) ?hd (cs:=#[.string (⟨#[]⟩:ByteArray),.bool false,.int .i64 0,.slice none 0 0,.slice none 0 0,.slice none 0 0]) (t:=60) ?hr ?_;(case hd=>rfl);(case hg=>rfl);(case hr=>first | (go_simp;done) | (go_simp;rfl));intro g1 dL w2 hbx hbq;have XZ:=zx.mk hbx;have zax:=zx.mk hbq;have zJI:=zx.mk dL;clear hbx hbq dL;have zgV:w2.cell? ⟨g1,0,none⟩ = some (.string (⟨#[]⟩:ByteArray)):=(zX XZ.out 0).trans rfl;have zgK:w2.cell? ⟨g1,1,none⟩ = some (.bool false):=(zX XZ.out 1).trans rfl;have zgY:w2.cell? ⟨g1,2,none⟩ = some (.int .i64 0):=(zX XZ.out 2).trans rfl;have zgW:w2.cell? ⟨g1,3,none⟩ = some (.slice none 0 0):=(zX XZ.out 3).trans rfl;have zga:w2.cell? ⟨g1,4,none⟩ = some (.slice none 0 0):=(zX XZ.out 4).trans rfl;have zgb:w2.cell? ⟨g1,5,none⟩ = some (.slice none 0 0):=(zX XZ.out 5).trans rfl;have zgc:=zw XZ.out 0;have zgd:=zw XZ.out 1;have zge:=zw XZ.out 2;have zgf:=zw XZ.out 3;have zgg:=zw XZ.out 4;have zgh:=zw XZ.out 5))
 have ze:=zx.mk (Jw XZ.out (⟨#[82]⟩:ByteArray) false 250 (.slice A1 n1 c1) (.slice none 0 0) (.slice none 0 0))
 have zo:=zx.mk (Wd (zax.out) (Nat.le_of_eq zJI.out.symm) (.string (⟨#[82]⟩:ByteArray)) (.bool false) (.int .i64 250) (.slice A1 n1 c1) (.slice none 0 0) (.slice none 0 0))
 have LG1:=zx.mk (Nat.le_trans HB1.out.size (Nat.le_of_eq zJI.out.symm))
 clear zgV zgK zgY zgW zga zgb zgc zgd zge zgf zgg zgh
 generalize ((((((w2.setCell ⟨g1,0,none⟩ (.string (⟨#[82]⟩:ByteArray))).setCell ⟨g1,1,none⟩ (.bool false)).setCell ⟨g1,2,none⟩ (.int .i64 250)).setCell ⟨g1,3,none⟩ (.slice A1 n1 c1)).setCell ⟨g1,4,none⟩ (.slice none 0 0)).setCell ⟨g1,5,none⟩ (.slice none 0 0)) = w3 at ze zo ⊢
 have zi:=zx.mk (Kd.ku HR1.out zo.out)
 have zT:=zx.mk (HB1.out.trans (zo.out.mono HB1.out.size))
 clear HR1 HB1 XZ zax zJI zo
 have Qm:=ze
 have HR1:=zi
 have HB1:=zT
 clear ze zi zT
 refine (Xr.calls lU w3 rfl).mono ?_
 rintro e w4 ⟨v4,rfl,hr,hb⟩
 have ze:=zx.mk (zM Qm.out hb)
 have zi:=zx.mk (Kd.ku HR1.out hb)
 have zo:=zx.mk (Kd.uT hr HB1.out.size)
 have zT:=zx.mk (HB1.out.trans (hb.mono HB1.out.size))
 clear Qm HR1 HB1 hr hb
 have Qm:=ze
 have HR1:=zi
 have HL1:=zo
 have HB1:=zT
 clear ze zi zo zT
 obtain ⟨A4,c4,e4⟩:=Kd.xA HL1.out
 generalize lU.length = n4 at e4
 subst e4
 have hq4:w4.cell? ⟨g1,4,none⟩ = some (.slice none 0 0):=(zX Qm.out 4).trans rfl
 have zWk:=zw Qm.out 4
 go_wp2_with (first | ((with_reducible refine qQ (N:=22) rfl ?_);have ze:=zx.mk (qz (cs':=#[.string (⟨#[82]⟩:ByteArray),.bool false,.int .i64 250,.slice A1 n1 c1,.slice A4 n4 c4,.slice none 0 0]) Qm.out 4 (.slice A4 n4 c4) rfl);have zi:=zx.mk (Kd.Xl HR1.out Qm.out (by decide) 4 (.slice A4 n4 c4));have zo:=zx.mk (Kd.Xl HL1.out Qm.out (by decide) 4 (.slice A4 n4 c4));have zT:=zx.mk (HB1.out.setCell (p:=⟨g1,4,none⟩) LG1.out (.slice A4 n4 c4));clear Qm HR1 HL1 HB1 hq4 zWk;have Qm:=ze;have HR1:=zi;have HL1:=zo;have HB1:=zT;clear ze zi zo zT;generalize w4.setCell ⟨g1,4,none⟩ (.slice A4 n4 c4) = w5 at Qm HR1 HL1 HB1 ⊢;refine Kd.U8 jg iG.heap.size 111 ?hg (N:=22) ?hd (w0:=iG) (xs:=bB) (inner:=[.string (⟨#[65]⟩:ByteArray),.string (⟨#[86]⟩:ByteArray),.int .i64 (-80),.string (⟨#[65]⟩:ByteArray),.string (⟨#[87]⟩:ByteArray),.int .i64 (-60),.string (⟨#[84]⟩:ByteArray),.string (⟨#[111]⟩:ByteArray),.int .i64 (-70),.string (⟨#[86]⟩:ByteArray),.string (⟨#[65]⟩:ByteArray),.int .i64 (-80),.string (⟨#[89]⟩:ByteArray),.string (⟨#[111]⟩:ByteArray),.int .i64 (-90)]) (ok:=fun _=>True) (vR:=fun _=>True) ?hr ?hp (fun _ hk=>hk) trivial HB1.out HB1.out.size (by simp [bB]) ?_;(case hd=>rfl);(case hg=>rfl);(case hr=>first | (go_simp;done) | (go_simp;rfl));(case hp=>exact zKb _ _ _);intro v5 wk hol hbl hgl zzS;obtain ⟨A5,c5,e5⟩:=Kd.xA hol;generalize bB.length = n5 at e5;subst e5;have ze:=zx.mk (uK Qm.out hgl (by simp));have zi:=zx.mk (Kd.lg HR1.out hgl (fun _ _=>by simp));have zo:=zx.mk (Kd.lg HL1.out hgl (fun _ _=>by simp));have zT:=zx.mk hol;have qU:=zx.mk hbl;clear Qm HR1 HL1 HB1 hol hbl hgl zzS;have Qm:=ze;have HR1:=zi;have HL1:=zo;have wo:=zT;have HB1:=qU;clear ze zi zo zT qU;have hq5:wk.cell? ⟨g1,5,none⟩ = some (.slice none 0 0):=(zX Qm.out 5).trans rfl;have ziF:=zw Qm.out 5))
 have ze:=zx.mk (qz (cs':=#[.string (⟨#[82]⟩:ByteArray),.bool false,.int .i64 250,.slice A1 n1 c1,.slice A4 n4 c4,.slice A5 n5 c5]) Qm.out 5 (.slice A5 n5 c5) rfl)
 have zi:=zx.mk (Kd.Xl HR1.out Qm.out (by decide) 5 (.slice A5 n5 c5))
 have zo:=zx.mk (Kd.Xl HL1.out Qm.out (by decide) 5 (.slice A5 n5 c5))
 have zT:=zx.mk (Kd.Xl wo.out Qm.out (by decide) 5 (.slice A5 n5 c5))
 have qU:=zx.mk (HB1.out.setCell (p:=⟨g1,5,none⟩) LG1.out (.slice A5 n5 c5))
 clear Qm HR1 HL1 wo HB1 hq5 ziF
 generalize wk.setCell ⟨g1,5,none⟩ (.slice A5 n5 c5) = W1_ at ze zi zo zT qU ⊢
 have FB1:=zx.mk (FB.mk zW7 ze.out LG1.out zi.out zo.out zT.out)
 have BW0:=zx.mk qU.out
 clear ze zi zo zT qU LG1
 refine (ah 57 _ Tryz.func57 (by kernel_rfl) rfl wdI zb9 (⟨#[73]⟩:ByteArray) 250 W1_.heap.size (.slice none 0 0) [] (Za wdI 127) W1_ (Nat.le_refl _) (Kd.jC _ _ _ _ _) (by simp [Zc]) (by rw [List.nil_append]) (zKa wdI)).mono ?_
 rintro e w6 ⟨v6,rfl,hr,hb,-,-⟩
 have HR2:=zx.mk hr
 have HB2:=zx.mk hb
 clear hr hb
 obtain ⟨A6,c6,e6⟩:=Kd.xA HR2.out
 generalize (Za wdI 127).length = n6 at e6
 subst e6
 go_wp2_with (first | ((with_reducible refine qQ (N:=2) rfl ?_);refine qC ?hg (N:=2) ?hd (cs:=#[.string (⟨#[]⟩:ByteArray),.bool false,.int .i64 0,.slice none 0 0,.slice none 0 0,.slice none 0 0]) (t:=60) ?hr ?_;(case hd=>rfl);(case hg=>rfl);(case hr=>first | (go_simp;done) | (go_simp;rfl));intro g2 dL w7 hbx hbq;have XQ:=zx.mk hbx;have zaj:=zx.mk hbq;have zJL:=zx.mk dL;clear hbx hbq dL;have zgi:w7.cell? ⟨g2,0,none⟩ = some (.string (⟨#[]⟩:ByteArray)):=(zX XQ.out 0).trans rfl;have zgl:w7.cell? ⟨g2,1,none⟩ = some (.bool false):=(zX XQ.out 1).trans rfl;have zgm:w7.cell? ⟨g2,2,none⟩ = some (.int .i64 0):=(zX XQ.out 2).trans rfl;have zgn:w7.cell? ⟨g2,3,none⟩ = some (.slice none 0 0):=(zX XQ.out 3).trans rfl;have zgo:w7.cell? ⟨g2,4,none⟩ = some (.slice none 0 0):=(zX XQ.out 4).trans rfl;have zgp:w7.cell? ⟨g2,5,none⟩ = some (.slice none 0 0):=(zX XQ.out 5).trans rfl;have zgr:=zw XQ.out 0;have zgs:=zw XQ.out 1;have zgt:=zw XQ.out 2;have zgu:=zw XQ.out 3;have zgA:=zw XQ.out 4;have zgB:=zw XQ.out 5) | ((with_reducible refine qQ (N:=28) rfl ?_);have ze:=zx.mk (Jw XQ.out (⟨#[73]⟩:ByteArray) false 250 (.slice A6 n6 c6) (.slice none 0 0) (.slice none 0 0));have zo:=zx.mk (Wd (zaj.out) (Nat.le_of_eq zJL.out.symm) (.string (⟨#[73]⟩:ByteArray)) (.bool false) (.int .i64 250) (.slice A6 n6 c6) (.slice none 0 0) (.slice none 0 0));have LG2:=zx.mk (Nat.le_trans HB2.out.size (Nat.le_of_eq zJL.out.symm));clear zgi zgl zgm zgn zgo zgp zgr zgs zgt zgu zgA zgB;generalize ((((((w7.setCell ⟨g2,0,none⟩ (.string (⟨#[73]⟩:ByteArray))).setCell ⟨g2,1,none⟩ (.bool false)).setCell ⟨g2,2,none⟩ (.int .i64 250)).setCell ⟨g2,3,none⟩ (.slice A6 n6 c6)).setCell ⟨g2,4,none⟩ (.slice none 0 0)).setCell ⟨g2,5,none⟩ (.slice none 0 0)) = W2_ at ze zo ⊢;have FB2:=zx.mk (FB.mk zW8 ze.out LG2.out (Kd.ku HR2.out zo.out) (Kd.jC _ _ _ _ _) (Kd.jC _ _ _ _ _));have BW1:=zx.mk (HB2.out.trans (zo.out.mono HB2.out.size));clear HR2 HB2 XQ zaj zJL LG2 ze zo;refine Kd.U8 vO W2_.heap.size 105 ?hg (N:=28) ?hd (w0:=W2_) (xs:=(Zc 600)) (inner:=[.string (⟨#[102,105]⟩:ByteArray),.int .i64 600,.string (⟨#[102,108]⟩:ByteArray),.int .i64 600,.string (⟨#[102,102]⟩:ByteArray),.int .i64 600]) (ok:=fun _=>True) (vR:=fun _=>True) ?hr ?hp (fun _ hk=>hk) trivial (Below.refl _ _) (Nat.le_refl _) (by simp [Zc]) ?_;(case hd=>rfl);(case hg=>rfl);(case hr=>first | (go_simp;done) | (go_simp;rfl));(case hp=>exact zyf 600 _ _ _);intro u0 wl hol hbl hgl zzS;have HL_:=zx.mk hol;have zzT:=zx.mk hbl;have zWv:=zx.mk zzS;clear hol hbl hgl zzS))
 refine (ah 58 _ Tryz.func58 (by kernel_rfl) rfl wdB zcz (⟨#[66]⟩:ByteArray) 250 W2_.heap.size u0 (Zc 600) (bA wdB 600) wl zzT.out.size HL_.out (by simp [Zc]) (zZL wdB 600) (zKW wdB 600)).mono ?_
 rintro e w9 ⟨v9,rfl,hr,hb,-,-⟩
 have HR3:=zx.mk hr
 have HB3:=zx.mk (zzT.out.trans hb)
 clear hr hb HL_ zzT zWv
 obtain ⟨A9,c9,e9⟩:=Kd.xA HR3.out
 generalize (bA wdB 600).length = n9 at e9
 subst e9
 go_wp2_with (first | ((with_reducible refine qQ (N:=3) rfl ?_);refine qC ?hg (N:=3) ?hd (cs:=#[.string (⟨#[]⟩:ByteArray),.bool false,.int .i64 0,.slice none 0 0,.slice none 0 0,.slice none 0 0]) (t:=60) ?hr ?_;(case hd=>rfl);(case hg=>rfl);(case hr=>first | (go_simp;done) | (go_simp;rfl));intro g3 dL YI hbx hbq;have XJ:=zx.mk hbx;have zav:=zx.mk hbq;have zJM:=zx.mk dL;clear hbx hbq dL;have zgC:YI.cell? ⟨g3,0,none⟩ = some (.string (⟨#[]⟩:ByteArray)):=(zX XJ.out 0).trans rfl;have zgD:YI.cell? ⟨g3,1,none⟩ = some (.bool false):=(zX XJ.out 1).trans rfl;have zgE:YI.cell? ⟨g3,2,none⟩ = some (.int .i64 0):=(zX XJ.out 2).trans rfl;have zgF:YI.cell? ⟨g3,3,none⟩ = some (.slice none 0 0):=(zX XJ.out 3).trans rfl;have zgG:YI.cell? ⟨g3,4,none⟩ = some (.slice none 0 0):=(zX XJ.out 4).trans rfl;have zgH:YI.cell? ⟨g3,5,none⟩ = some (.slice none 0 0):=(zX XJ.out 5).trans rfl;have zgI:=zw XJ.out 0;have zgL:=zw XJ.out 1;have zgM:=zw XJ.out 2;have zgN:=zw XJ.out 3;have zgO:=zw XJ.out 4;have zgP:=zw XJ.out 5))
 have ze:=zx.mk (Jw XJ.out (⟨#[66]⟩:ByteArray) false 250 (.slice A9 n9 c9) (.slice none 0 0) (.slice none 0 0))
 have zo:=zx.mk (Wd (zav.out) (Nat.le_of_eq zJM.out.symm) (.string (⟨#[66]⟩:ByteArray)) (.bool false) (.int .i64 250) (.slice A9 n9 c9) (.slice none 0 0) (.slice none 0 0))
 have LG3:=zx.mk (Nat.le_trans HB3.out.size (Nat.le_of_eq zJM.out.symm))
 clear zgC zgD zgE zgF zgG zgH zgI zgL zgM zgN zgO zgP
 generalize ((((((YI.setCell ⟨g3,0,none⟩ (.string (⟨#[66]⟩:ByteArray))).setCell ⟨g3,1,none⟩ (.bool false)).setCell ⟨g3,2,none⟩ (.int .i64 250)).setCell ⟨g3,3,none⟩ (.slice A9 n9 c9)).setCell ⟨g3,4,none⟩ (.slice none 0 0)).setCell ⟨g3,5,none⟩ (.slice none 0 0)) = w11 at ze zo ⊢
 have zi:=zx.mk (Kd.ku HR3.out zo.out)
 have zT:=zx.mk (HB3.out.trans (zo.out.mono HB3.out.size))
 clear HR3 HB3 XJ zav zJM zo
 have BX3:=ze
 have HR3:=zi
 have HB3:=zT
 clear ze zi zT
 refine (Xr.calls lU w11 rfl).mono ?_
 rintro e dK ⟨v12,rfl,hr,hb⟩
 have ze:=zx.mk (zM BX3.out hb)
 have zi:=zx.mk (Kd.ku HR3.out hb)
 have zo:=zx.mk (Kd.uT hr HB3.out.size)
 have zT:=zx.mk (HB3.out.trans (hb.mono HB3.out.size))
 clear BX3 HR3 HB3 hr hb
 have BX3:=ze
 have HR3:=zi
 have HL3:=zo
 have HB3:=zT
 clear ze zi zo zT
 obtain ⟨A12,c12,e12⟩:=Kd.xA HL3.out
 generalize lU.length = n12 at e12
 subst e12
 have hq4:dK.cell? ⟨g3,4,none⟩ = some (.slice none 0 0):=(zX BX3.out 4).trans rfl
 have zWk:=zw BX3.out 4
 go_wp2_with fail
 have ze:=zx.mk (qz (cs':=#[.string (⟨#[66]⟩:ByteArray),.bool false,.int .i64 250,.slice A9 n9 c9,.slice A12 n12 c12,.slice none 0 0]) BX3.out 4 (.slice A12 n12 c12) rfl)
 have zi:=zx.mk (Kd.Xl HR3.out BX3.out (by decide) 4 (.slice A12 n12 c12))
 have zo:=zx.mk (Kd.Xl HL3.out BX3.out (by decide) 4 (.slice A12 n12 c12))
 have zT:=zx.mk (HB3.out.setCell (p:=⟨g3,4,none⟩) LG3.out (.slice A12 n12 c12))
 clear BX3 HR3 HL3 HB3 hq4 zWk
 generalize dK.setCell ⟨g3,4,none⟩ (.slice A12 n12 c12) = W3_ at ze zi zo zT ⊢
 have FB3:=zx.mk (FB.mk zW9 ze.out LG3.out zi.out zo.out (Kd.jC _ _ _ _ _))
 have BW2:=zx.mk zT.out
 clear ze zi zo zT LG3
 refine (ah 59 _ Tryz.func59 (by kernel_rfl) rfl wdM zcq (⟨#[77]⟩:ByteArray) 600 W3_.heap.size (.slice none 0 0) [] (Za wdM 127) W3_ (Nat.le_refl _) (Kd.jC _ _ _ _ _) (by simp [Zc]) (by rw [List.nil_append]) (zKa wdM)).mono ?_
 rintro e Zu ⟨v13,rfl,hr,hb,-,-⟩
 have HR4:=zx.mk hr
 have JJ:=zx.mk hb
 clear hr hb
 obtain ⟨A13,c13,e13⟩:=Kd.xA HR4.out
 generalize (Za wdM 127).length = n13 at e13
 subst e13
 go_wp2_with (first | ((with_reducible refine qQ (N:=4) rfl ?_);refine qC ?hg (N:=4) ?hd (cs:=#[.string (⟨#[]⟩:ByteArray),.bool false,.int .i64 0,.slice none 0 0,.slice none 0 0,.slice none 0 0]) (t:=60) ?hr ?_;(case hd=>rfl);(case hg=>rfl);(case hr=>first | (go_simp;done) | (go_simp;rfl));intro g4 dL dB hbx hbq;have XV:=zx.mk hbx;have zak:=zx.mk hbq;have zJN:=zx.mk dL;clear hbx hbq dL;have zgR:dB.cell? ⟨g4,0,none⟩ = some (.string (⟨#[]⟩:ByteArray)):=(zX XV.out 0).trans rfl;have zgS:dB.cell? ⟨g4,1,none⟩ = some (.bool false):=(zX XV.out 1).trans rfl;have zgT:dB.cell? ⟨g4,2,none⟩ = some (.int .i64 0):=(zX XV.out 2).trans rfl;have zgU:dB.cell? ⟨g4,3,none⟩ = some (.slice none 0 0):=(zX XV.out 3).trans rfl;have zg0:dB.cell? ⟨g4,4,none⟩ = some (.slice none 0 0):=(zX XV.out 4).trans rfl;have zg1:dB.cell? ⟨g4,5,none⟩ = some (.slice none 0 0):=(zX XV.out 5).trans rfl;have zg2:=zw XV.out 0;have zg3:=zw XV.out 1;have zg4:=zw XV.out 2;have zg5:=zw XV.out 3;have zg6:=zw XV.out 4;have zg7:=zw XV.out 5) | ((with_reducible refine qQ (N:=5) rfl ?_);have ze:=zx.mk (Jw XV.out (⟨#[77]⟩:ByteArray) false 600 (.slice A13 n13 c13) (.slice none 0 0) (.slice none 0 0));have zo:=zx.mk (Wd (zak.out) (Nat.le_of_eq zJN.out.symm) (.string (⟨#[77]⟩:ByteArray)) (.bool false) (.int .i64 600) (.slice A13 n13 c13) (.slice none 0 0) (.slice none 0 0));have LG4:=zx.mk (Nat.le_trans JJ.out.size (Nat.le_of_eq zJN.out.symm));clear zgR zgS zgT zgU zg0 zg1 zg2 zg3 zg4 zg5 zg6 zg7;generalize ((((((dB.setCell ⟨g4,0,none⟩ (.string (⟨#[77]⟩:ByteArray))).setCell ⟨g4,1,none⟩ (.bool false)).setCell ⟨g4,2,none⟩ (.int .i64 600)).setCell ⟨g4,3,none⟩ (.slice A13 n13 c13)).setCell ⟨g4,4,none⟩ (.slice none 0 0)).setCell ⟨g4,5,none⟩ (.slice none 0 0)) = iH at ze zo ⊢;have FB4:=zx.mk (FB.mk zaz ze.out LG4.out (Kd.ku HR4.out zo.out) (Kd.jC _ _ _ _ _) (Kd.jC _ _ _ _ _));have BW3:=zx.mk (JJ.out.trans (zo.out.mono JJ.out.size));clear HR4 JJ XV zak zJN LG4 ze zo;refine qC ?hg (N:=5) ?hd (cs:=#[.string (⟨#[]⟩:ByteArray),.bool false,.int .i64 0,.slice none 0 0,.slice none 0 0,.slice none 0 0]) (t:=60) ?hr ?_;(case hd=>rfl);(case hg=>rfl);(case hr=>first | (go_simp;done) | (go_simp;rfl));intro g5 dL WW hbx hbq;have XK:=zx.mk hbx;have zay:=zx.mk hbq;have zJO:=zx.mk dL;clear hbx hbq dL;have zg8:WW.cell? ⟨g5,0,none⟩ = some (.string (⟨#[]⟩:ByteArray)):=(zX XK.out 0).trans rfl;have zg9:WW.cell? ⟨g5,1,none⟩ = some (.bool false):=(zX XK.out 1).trans rfl;have zhz:WW.cell? ⟨g5,2,none⟩ = some (.int .i64 0):=(zX XK.out 2).trans rfl;have zhq:WW.cell? ⟨g5,3,none⟩ = some (.slice none 0 0):=(zX XK.out 3).trans rfl;have zhx:WW.cell? ⟨g5,4,none⟩ = some (.slice none 0 0):=(zX XK.out 4).trans rfl;have zhj:WW.cell? ⟨g5,5,none⟩ = some (.slice none 0 0):=(zX XK.out 5).trans rfl;have zhv:=zw XK.out 0;have zhk:=zw XK.out 1;have zhy:=zw XK.out 2;have zhw:=zw XK.out 3;have zhZ:=zw XK.out 4;have zhQ:=zw XK.out 5))
 have ze:=zx.mk (Jw XK.out (⟨#[83]⟩:ByteArray) true 250 (.slice none 0 0) (.slice none 0 0) (.slice none 0 0))
 have zo:=zx.mk (Wd (zay.out) (Nat.le_of_eq zJO.out.symm) (.string (⟨#[83]⟩:ByteArray)) (.bool true) (.int .i64 250) (.slice none 0 0) (.slice none 0 0) (.slice none 0 0))
 have LG5:=zx.mk (Nat.le_of_eq zJO.out.symm)
 clear zg8 zg9 zhz zhq zhx zhj zhv zhk zhy zhw zhZ zhQ
 generalize ((((((WW.setCell ⟨g5,0,none⟩ (.string (⟨#[83]⟩:ByteArray))).setCell ⟨g5,1,none⟩ (.bool true)).setCell ⟨g5,2,none⟩ (.int .i64 250)).setCell ⟨g5,3,none⟩ (.slice none 0 0)).setCell ⟨g5,4,none⟩ (.slice none 0 0)).setCell ⟨g5,5,none⟩ (.slice none 0 0)) = w16 at ze zo ⊢
 clear XK zay zJO
 have BX5:=ze
 have Wu:=zo
 clear ze zo
 have GWS:=zx.mk (HGW.out.under (BW0.out.trans ((BW1.out.mono BW0.out.size).trans ((BW2.out.mono (Nat.le_trans BW0.out.size BW1.out.size)).trans (BW3.out.mono (Nat.le_trans BW0.out.size (Nat.le_trans BW1.out.size BW2.out.size)))))))
 refine (Tryz.strings_Fields lT w16 (by decide +kernel) zyU (GWS.out.under Wu.out).spc).mono ?_
 rintro e fu ⟨rfl,zyg⟩
 have hlen:(Lib.fields lT.data.toList).length = 70:=zye
 rw [hlen]
 clear hlen
 have hcw:((Lib.fields lT.data.toList).map fun l=>Value.string ⟨l.toArray⟩).toArray = U4:=rfl
 rw [hcw] at zyg
 have BKW:=zx.mk (show fu.heap[w16.heap.size]? = some (.cells U4 9 (0,0)) by rw [zyg];exact uo _ _)
 have ze:=yV BX5.out (.cells U4 9)
 rw [← zyg] at ze
 have zi:=zx.mk (show Below iH.heap.size iH fu by rw [zyg];exact Wu.out.alloc Wu.out.size _)
 clear BX5 Wu zyg hcw
 have BX5:=zx.mk ze
 have Wu:=zi
 clear ze zi
 generalize w16.heap.size = bw at BKW ⊢
 go_wp2
 go_loopw [7,8,9] (fun x y z wr=>ziE iH g5 bw x wr) (fun x y z _=>70 - (intOf x).toNat)
 case atStart=>exact ⟨0,0,_,rfl,rfl,by omega,Kd.jC _ _ _ _ _,BX5.out,BKW.out,Wu.out⟩
 case round =>
  obtain ⟨m,k,u,rfl,hk0,hm,jm,BX0,BK0,HB0⟩:=hrel
  have HKK:=zx.mk hk0
  have hkm:k ≤ 2 * m:=by omega
  have hmk:2 * m ≤ k:=by omega
  clear hk0
  have pE:=zx.mk jm
  have BX:=zx.mk BX0
  have BK:=zx.mk BK0
  have Zb:=zx.mk HB0
  clear jm BX0 BK0 HB0 BX5 BKW Wu
  by_cases hlt:m < 35
  ·have q1:decide ((k:Int) < 70) = true:=decide_eq_true (by omega)
   have q2:IntKind.i64.wrap ((k:Int) + 1) = (k:Int) + 1:=IntWalk.i64_in _ (by omega)
   have hcell:wr.cell? ⟨bw,k + 1,none⟩ = some (.string (Zx (k + 1))):=(zX BK.out _).trans (aA _ (by omega))
   go_wp2_with fail
   have zeA:=zJD (Zx (k + 1)) wr (by have:=zy0 (k + 1);omega) (GWS.out.under Zb.out)
   refine zeA.mono ?_
   rintro e w18 ⟨rfl,hb⟩
   clear zeA hcell q2
   have ze:=zx.mk (Kd.Zz (Kd.ku pE.out hb))
   have zi:=zx.mk (y7 (zM BX.out hb))
   have zo:=zx.mk (y7 (zM BK.out hb))
   have zT:=zx.mk ((Zb.out.trans (hb.mono Zb.out.size)).drew)
   clear pE BX BK Zb hb
   have pE:=ze
   have BX:=zi
   have BK:=zo
   have Zb:=zT
   clear ze zi zo zT
   have zWy:k < 70:=by omega
   have q5:((k:Int) < 70) = True:=eq_true (by omega)
   go_wp2
   refine Zq (n:=12) (S:=fun w'=>w'.cell? ⟨g5,3,none⟩ = some u ∧ w'.cell? ⟨bw,k,none⟩ = some (.string (Zx k))) (ds:=[11]) #[false,false,false,false,false,false,false,false,false,false,false,false] (by kernel_rfl) rfl rfl ⟨(zX BX.out 3).trans rfl,(zX BK.out _).trans (aA _ zWy)⟩ (fun hHeld=>?_)
   refine tY std.zgJ (fun yX=>?_)
   generalize w18.drew = w16 at pE BX BK Zb hHeld ⊢
   refine vX (i:=0) (N:=some 50) (v:=?_) (a':=?_) #[true,false,false,false,false,false,false,false,false,false,false,false] rfl rfl (xW yX.out (by kernel_rfl)) (fun _ _ _ h=>h) (Or.inl ⟨by rfl,?_⟩) ?_ ?_
   rotate_left
   ·intro w'
    go_simp
    with_reducible rfl
   rotate_left
   ·simp only [Act.put,List.setIfInBounds_toArray,List.set_cons_zero,List.set_cons_succ]
    rfl
   refine vX (i:=2) (N:=some 52) (v:=?_) (a':=?_) #[true,false,true,false,false,false,false,false,false,false,false,false] rfl rfl (xW yX.out (by kernel_rfl)) (fun _ _ _ h=>h) (Or.inl ⟨by rfl,?_⟩) ?_ ?_
   rotate_left
   ·intro w'
    go_simp
    with_reducible rfl
   rotate_left
   ·simp only [Act.put,List.setIfInBounds_toArray,List.set_cons_zero,List.set_cons_succ]
    rfl
   refine vX (i:=3) (N:=some 53) (v:=?_) (a':=?_) #[true,false,true,true,false,false,false,false,false,false,false,false] rfl rfl (xW yX.out (by kernel_rfl)) (fun _ _ _ h=>h) (Or.inl ⟨by rfl,?_⟩) ?_ ?_
   rotate_left
   ·intro w'
    go_simp
    with_reducible rfl
   rotate_left
   ·simp only [Act.put,List.setIfInBounds_toArray,List.set_cons_zero,List.set_cons_succ]
    rfl
   refine vX (i:=4) (N:=some 54) (v:=?_) (a':=?_) #[true,false,true,true,true,false,false,false,false,false,false,false] rfl rfl (xW yX.out (by kernel_rfl)) (fun _ _ _ h=>h) (Or.inl ⟨by rfl,?_⟩) ?_ ?_
   rotate_left
   ·intro w'
    go_simp
    with_reducible rfl
   rotate_left
   ·simp only [Act.put,List.setIfInBounds_toArray,List.set_cons_zero,List.set_cons_succ]
    rfl
   refine vX (i:=6) (N:=some 56) (v:=?_) (a':=?_) #[true,false,true,true,true,false,true,false,false,false,false,false] rfl rfl (xW yX.out (by kernel_rfl)) (fun _ _ _ h=>h) (Or.inl ⟨by rfl,?_⟩) ?_ ?_
   rotate_left
   ·intro w'
    go_simp
    with_reducible rfl
   rotate_left
   ·simp only [Act.put,List.setIfInBounds_toArray,List.set_cons_zero,List.set_cons_succ]
    rfl
   refine Xi (i:=1) (N:=some 51) (v:=?_) (a':=?_) #[true,true,true,true,true,false,true,false,false,false,false,false] rfl rfl (lG yX.out (by kernel_rfl)) (fun _ _ _ h=>h) (Or.inl ⟨by rfl,?_⟩) hHeld ?_ ?_
   rotate_left
   ·rintro w' ⟨s0,s1⟩
    go_simp
    with_reducible rfl
   rotate_left
   ·simp only [Act.put,List.setIfInBounds_toArray,List.set_cons_zero,List.set_cons_succ]
    rfl
   refine Xi (i:=5) (N:=some 55) (v:=?_) (a':=?_) #[true,true,true,true,true,true,true,false,false,false,false,false] rfl rfl (lG yX.out (by kernel_rfl)) (fun _ _ _ h=>h) (Or.inl ⟨by rfl,?_⟩) hHeld ?_ ?_
   rotate_left
   ·rintro w' ⟨s0,s1⟩
    go_simp
    with_reducible rfl
   rotate_left
   ·simp only [Act.put,List.setIfInBounds_toArray,List.set_cons_zero,List.set_cons_succ]
    rfl
   refine vX (i:=7) (N:=some 57) (v:=?_) (a':=?_) #[true,true,true,true,true,true,true,true,false,false,false,false] rfl rfl (xW yX.out (by kernel_rfl)) (fun _ _ _ h=>h) (Or.inl ⟨by rfl,?_⟩) ?_ ?_
   rotate_left
   ·intro w'
    go_simp
    with_reducible rfl
   rotate_left
   ·simp only [Act.put,List.setIfInBounds_toArray,List.set_cons_zero,List.set_cons_succ]
    rfl
   refine Xb (i:=8) (N:=some 58) #[true,true,true,true,true,true,true,true,true,false,false,false] rfl rfl (jF yX.out (by kernel_rfl)) (by decide) (fun K hK=>?_)
   refine zqV (w1:=?_) (v:=?_) (by rfl) rfl ?_ ?_
   rotate_left 2
   ·go_simp
    constructor
    ·rfl
    ·rfl
   refine hK.out _ _ ⟨(zX (yV BX.out _) 3).trans rfl,(zX (yV BK.out _) _).trans (aA _ zWy)⟩ (fun hHeld=>?_)
   clear hK K
   refine Xn (a':=?_) ?_ ?_
   rotate_left
   ·show Act.put _ (some 58) _ = _
    simp only [Act.put,List.setIfInBounds_toArray,List.set_cons_zero,List.set_cons_succ]
    rfl
   refine Xb (i:=9) (N:=some 59) #[true,true,true,true,true,true,true,true,true,true,false,false] rfl rfl (jF yX.out (by kernel_rfl)) (by decide) (fun K hK=>?_)
   refine Kd.Zi vO (w0:=iH) iH.heap.size (by rfl) (.tmp 51) (.tmp 58) 56 105 (.agg #[(.string ⟨#[]⟩),(.int .i64 0)]) 24 rfl Tryz.underlying56 zZH rfl (by decide) (by omega) u (au m) (⟨Zx k,(iE (Zx (k + 1))).1⟩:yG) [.string (Zx k),.int .i64 (iE (Zx (k + 1))).1] (fun _=>True) (fun _=>False) rfl rfl ?aP (fun _ hk=>hk.elim) ?aF ?aO ?aB ?aS ?aL ?_
   (case aP=>exact JY _ _ _ (⟨Zx k,(iE (Zx (k + 1))).1⟩:yG))
   (case aF=>exact (fun _ _=>trivial))
   (case aO=>exact pE.out)
   (case aB=>exact Zb.out)
   (case aS=>exact Zb.out.size)
   (case aL=>rw [zWj];omega)
   intro v1 w18 ho hb hg hat
   rw [HKK.out,← zKc] at ho
   obtain ⟨Ao,co,eo⟩:=Kd.xA ho
   subst eo
   generalize (au (m + 1)).length = nn at ho hat ⊢
   have ze:=zx.mk (uK BX.out hg (Kd.Qu pE.out BX.out (by decide)))
   have zi:=zx.mk (uK BK.out hg (Kd.Qu pE.out BK.out (by decide)))
   have zo:=zx.mk hb
   have zT:=zx.mk ho
   clear BX BK Zb pE ho hb hg hat hHeld
   have BX:=ze
   have BK:=zi
   have Zb:=zo
   have pE:=zT
   clear ze zi zo zT
   refine hK.out _ _ ⟨(zX BX.out 3).trans rfl,(zX BK.out _).trans (aA _ zWy)⟩ (fun hHeld=>?_)
   clear hK K
   refine Xn (a':=?_) ?_ ?_
   rotate_left
   ·show Act.put _ (some 59) _ = _
    simp only [Act.put,List.setIfInBounds_toArray,List.set_cons_zero,List.set_cons_succ]
    rfl
   refine vX (i:=10) (N:=some 60) (v:=?_) (a':=?_) #[true,true,true,true,true,true,true,true,true,true,true,false] rfl rfl (xW yX.out (by kernel_rfl)) (fun _ _ _ h=>h) (Or.inl ⟨by rfl,?_⟩) ?_ ?_
   rotate_left
   ·intro w'
    go_simp
    with_reducible rfl
   rotate_left
   ·simp only [Act.put,List.setIfInBounds_toArray,List.set_cons_zero,List.set_cons_succ]
    rfl
   refine dZ (i:=11) (N:=none) #[true,true,true,true,true,true,true,true,true,true,true,true] rfl rfl (jF yX.out (by kernel_rfl)) (by decide) (fun K hK=>?_)
   have zWz:w18.cell? ⟨g5,3,none⟩ = some u:=(zX BX.out 3).trans rfl
   have zJC:=zw BX.out 3
   refine U9 (w1:=?_) (by rfl) rfl ?_ ?_
   rotate_left
   ·go_simp
    rfl
   refine hK.out _ _ ?_
   clear hK K
   refine xE (qW yX.out (by kernel_rfl)) ?_
   have ze:=zx.mk (qz (cs':=#[.string (⟨#[83]⟩:ByteArray),.bool true,.int .i64 250,.slice Ao nn co,.slice none 0 0,.slice none 0 0]) BX.out 3 (.slice Ao nn co) rfl)
   have zi:=zx.mk (QO BK.out (p:=⟨g5,3,none⟩) (zdZ BK.out BX.out (by decide)) (.slice Ao nn co))
   have zo:=zx.mk (Zb.out.setCell (p:=⟨g5,3,none⟩) LG5.out (.slice Ao nn co))
   have zT:=zx.mk (Kd.Xl pE.out BX.out (by decide) 3 (.slice Ao nn co))
   clear BX BK Zb pE hHeld zWz zJC
   generalize w18.setCell ⟨g5,3,none⟩ (.slice Ao nn co) = w19 at ze zi zo zT ⊢
   have q4:IntKind.i64.wrap ((k:Int) + 2) = ((k + 2:Nat):Int):=(IntWalk.i64_in _ (by omega)).trans (by omega)
   go_wp2
   go_roundw
   case rel=>exact ⟨m + 1,k + 2,.slice Ao nn co,by first | rfl | (rw [q4];done) | (simp;done),by have:=HKK.out;omega,by omega,zT.out,ze.out,zi.out,zo.out⟩
   case measure=>first | (simp [intOf];omega) | (rw [q4];simp [intOf];omega)
  ·have zeB:m = 35:=by omega
   have q1:decide ((k:Int) < 70) = false:=decide_eq_false (by omega)
   have hR5:=pE.out
   rw [zeB] at hR5
   have BC3:=BW3.out.trans (Zb.out.mono BW3.out.size)
   have BC2:=BW2.out.trans (BC3.mono BW2.out.size)
   have BC1:=BW1.out.trans (BC2.mono BW1.out.size)
   have BC0:=BW0.out.trans (BC1.mono BW0.out.size)
   obtain ⟨Aa1,na1,ca1,Ab1,nb1,cb1,Ac1,nc1,cc1,bk1,KM1⟩:=(FB1.out.keep BC1).cells
   obtain ⟨Aa2,na2,ca2,Ab2,nb2,cb2,Ac2,nc2,cc2,bk2,KM2⟩:=(FB2.out.keep BC2).cells
   obtain ⟨Aa3,na3,ca3,Ab3,nb3,cb3,Ac3,nc3,cc3,bk3,KM3⟩:=(FB3.out.keep BC3).cells
   obtain ⟨Aa4,na4,ca4,Ab4,nb4,cb4,Ac4,nc4,cc4,bk4,KM4⟩:=(FB4.out.keep Zb.out).cells
   obtain ⟨Aa5,na5,ca5,Ab5,nb5,cb5,Ac5,nc5,cc5,bk5,KM5⟩:=(FB.mk zaq BX.out LG5.out hR5 (Kd.jC _ _ _ _ _) (Kd.jC _ _ _ _ _)).cells
   have BCA:=zx.mk BC0
   have KA1:=zx.mk KM1
   have KA2:=zx.mk KM2
   have KA3:=zx.mk KM3
   have KA4:=zx.mk KM4
   have KA5:=zx.mk KM5
   have S0:=zx.mk BW0.out.size
   have S1:=zx.mk BW1.out.size
   have S2:=zx.mk BW2.out.size
   have S3:=zx.mk BW3.out.size
   have S4:=zx.mk Zb.out.size
   have ziG:wr.cell? ⟨g1,0,none⟩ = some (.string (⟨#[82]⟩:ByteArray)):=(zX bk1 0).trans rfl
   have ziH:wr.cell? ⟨g1,1,none⟩ = some (.bool false):=(zX bk1 1).trans rfl
   have ziI:wr.cell? ⟨g1,2,none⟩ = some (.int .i64 250):=(zX bk1 2).trans rfl
   have ziL:wr.cell? ⟨g1,3,none⟩ = some (.slice Aa1 na1 ca1):=(zX bk1 3).trans rfl
   have ziM:wr.cell? ⟨g1,4,none⟩ = some (.slice Ab1 nb1 cb1):=(zX bk1 4).trans rfl
   have ziN:wr.cell? ⟨g1,5,none⟩ = some (.slice Ac1 nc1 cc1):=(zX bk1 5).trans rfl
   have ziO:wr.cell? ⟨g2,0,none⟩ = some (.string (⟨#[73]⟩:ByteArray)):=(zX bk2 0).trans rfl
   have ziP:wr.cell? ⟨g2,1,none⟩ = some (.bool false):=(zX bk2 1).trans rfl
   have ziR:wr.cell? ⟨g2,2,none⟩ = some (.int .i64 250):=(zX bk2 2).trans rfl
   have ziS:wr.cell? ⟨g2,3,none⟩ = some (.slice Aa2 na2 ca2):=(zX bk2 3).trans rfl
   have hx24:wr.cell? ⟨g2,4,none⟩ = some (.slice Ab2 nb2 cb2):=(zX bk2 4).trans rfl
   have hx25:wr.cell? ⟨g2,5,none⟩ = some (.slice Ac2 nc2 cc2):=(zX bk2 5).trans rfl
   have ziT:wr.cell? ⟨g3,0,none⟩ = some (.string (⟨#[66]⟩:ByteArray)):=(zX bk3 0).trans rfl
   have hx31:wr.cell? ⟨g3,1,none⟩ = some (.bool false):=(zX bk3 1).trans rfl
   have hx32:wr.cell? ⟨g3,2,none⟩ = some (.int .i64 250):=(zX bk3 2).trans rfl
   have ziU:wr.cell? ⟨g3,3,none⟩ = some (.slice Aa3 na3 ca3):=(zX bk3 3).trans rfl
   have hx34:wr.cell? ⟨g3,4,none⟩ = some (.slice Ab3 nb3 cb3):=(zX bk3 4).trans rfl
   have zi0:wr.cell? ⟨g3,5,none⟩ = some (.slice Ac3 nc3 cc3):=(zX bk3 5).trans rfl
   have zi1:wr.cell? ⟨g4,0,none⟩ = some (.string (⟨#[77]⟩:ByteArray)):=(zX bk4 0).trans rfl
   have zi2:wr.cell? ⟨g4,1,none⟩ = some (.bool false):=(zX bk4 1).trans rfl
   have zi3:wr.cell? ⟨g4,2,none⟩ = some (.int .i64 600):=(zX bk4 2).trans rfl
   have zi4:wr.cell? ⟨g4,3,none⟩ = some (.slice Aa4 na4 ca4):=(zX bk4 3).trans rfl
   have zi5:wr.cell? ⟨g4,4,none⟩ = some (.slice Ab4 nb4 cb4):=(zX bk4 4).trans rfl
   have zi6:wr.cell? ⟨g4,5,none⟩ = some (.slice Ac4 nc4 cc4):=(zX bk4 5).trans rfl
   have zi7:wr.cell? ⟨g5,0,none⟩ = some (.string (⟨#[83]⟩:ByteArray)):=(zX bk5 0).trans rfl
   have zi8:wr.cell? ⟨g5,1,none⟩ = some (.bool true):=(zX bk5 1).trans rfl
   have zi9:wr.cell? ⟨g5,2,none⟩ = some (.int .i64 250):=(zX bk5 2).trans rfl
   have zlz:wr.cell? ⟨g5,3,none⟩ = some (.slice Aa5 na5 ca5):=(zX bk5 3).trans rfl
   have zlq:wr.cell? ⟨g5,4,none⟩ = some (.slice Ab5 nb5 cb5):=(zX bk5 4).trans rfl
   have zlx:wr.cell? ⟨g5,5,none⟩ = some (.slice Ac5 nc5 cc5):=(zX bk5 5).trans rfl
   clear hR5 BC0 BC1 BC2 BC3 KM1 KM2 KM3 KM4 KM5 bk1 bk2 bk3 bk4 bk5 pE BX BK Zb hkm hmk zeB hm hlt HKK FB1 FB2 FB3 FB4 BW0 BW1 BW2 BW3 GWS HGW LG5
   go_wp2
   clear ziG ziH ziI ziL ziM ziN ziO ziP ziR ziS hx24 hx25 ziT hx31 hx32 ziU hx34 zi0 zi1 zi2 zi3 zi4 zi5 zi6 zi7 zi8 zi9 zlz zlq zlx
   have hbn:=yJ (Below.refl wr.heap.size wr) (.cells #[.string (⟨#[82]⟩:ByteArray),.bool false,.int .i64 250,.slice Aa1 na1 ca1,.slice Ab1 nb1 cb1,.slice Ac1 nc1 cc1,.string (⟨#[73]⟩:ByteArray),.bool false,.int .i64 250,.slice Aa2 na2 ca2,.slice Ab2 nb2 cb2,.slice Ac2 nc2 cc2,.string (⟨#[66]⟩:ByteArray),.bool false,.int .i64 250,.slice Aa3 na3 ca3,.slice Ab3 nb3 cb3,.slice Ac3 nc3 cc3,.string (⟨#[77]⟩:ByteArray),.bool false,.int .i64 600,.slice Aa4 na4 ca4,.slice Ab4 nb4 cb4,.slice Ac4 nc4 cc4,.string (⟨#[83]⟩:ByteArray),.bool true,.int .i64 250,.slice Aa5 na5 ca5,.slice Ab5 nb5 cb5,.slice Ac5 nc5 cc5] 60)
   have hnew:=uo wr (.cells #[.string (⟨#[82]⟩:ByteArray),.bool false,.int .i64 250,.slice Aa1 na1 ca1,.slice Ab1 nb1 cb1,.slice Ac1 nc1 cc1,.string (⟨#[73]⟩:ByteArray),.bool false,.int .i64 250,.slice Aa2 na2 ca2,.slice Ab2 nb2 cb2,.slice Ac2 nc2 cc2,.string (⟨#[66]⟩:ByteArray),.bool false,.int .i64 250,.slice Aa3 na3 ca3,.slice Ab3 nb3 cb3,.slice Ac3 nc3 cc3,.string (⟨#[77]⟩:ByteArray),.bool false,.int .i64 600,.slice Aa4 na4 ca4,.slice Ab4 nb4 cb4,.slice Ac4 nc4 cc4,.string (⟨#[83]⟩:ByteArray),.bool true,.int .i64 250,.slice Aa5 na5 ca5,.slice Ab5 nb5 cb5,.slice Ac5 nc5 cc5] 60 (0,0))
   have hbw:=BCA.out.alloc BCA.out.size (.cells #[.string (⟨#[82]⟩:ByteArray),.bool false,.int .i64 250,.slice Aa1 na1 ca1,.slice Ab1 nb1 cb1,.slice Ac1 nc1 cc1,.string (⟨#[73]⟩:ByteArray),.bool false,.int .i64 250,.slice Aa2 na2 ca2,.slice Ab2 nb2 cb2,.slice Ac2 nc2 cc2,.string (⟨#[66]⟩:ByteArray),.bool false,.int .i64 250,.slice Aa3 na3 ca3,.slice Ab3 nb3 cb3,.slice Ac3 nc3 cc3,.string (⟨#[77]⟩:ByteArray),.bool false,.int .i64 600,.slice Aa4 na4 ca4,.slice Ab4 nb4 cb4,.slice Ac4 nc4 cc4,.string (⟨#[83]⟩:ByteArray),.bool true,.int .i64 250,.slice Aa5 na5 ca5,.slice Ab5 nb5 cb5,.slice Ac5 nc5 cc5] 60)
   have hS:Kd.S kP 60 (wr.alloc (.cells #[.string (⟨#[82]⟩:ByteArray),.bool false,.int .i64 250,.slice Aa1 na1 ca1,.slice Ab1 nb1 cb1,.slice Ac1 nc1 cc1,.string (⟨#[73]⟩:ByteArray),.bool false,.int .i64 250,.slice Aa2 na2 ca2,.slice Ab2 nb2 cb2,.slice Ac2 nc2 cc2,.string (⟨#[66]⟩:ByteArray),.bool false,.int .i64 250,.slice Aa3 na3 ca3,.slice Ab3 nb3 cb3,.slice Ac3 nc3 cc3,.string (⟨#[77]⟩:ByteArray),.bool false,.int .i64 600,.slice Aa4 na4 ca4,.slice Ab4 nb4 cb4,.slice Ac4 nc4 cc4,.string (⟨#[83]⟩:ByteArray),.bool true,.int .i64 250,.slice Aa5 na5 ca5,.slice Ab5 nb5 cb5,.slice Ac5 nc5 cc5] 60)) iG.heap.size (fun _=>True) (.slice (some ⟨wr.heap.size,0,none⟩) 5 5) ZH:=by
    generalize wr.alloc (.cells #[.string (⟨#[82]⟩:ByteArray),.bool false,.int .i64 250,.slice Aa1 na1 ca1,.slice Ab1 nb1 cb1,.slice Ac1 nc1 cc1,.string (⟨#[73]⟩:ByteArray),.bool false,.int .i64 250,.slice Aa2 na2 ca2,.slice Ab2 nb2 cb2,.slice Ac2 nc2 cc2,.string (⟨#[66]⟩:ByteArray),.bool false,.int .i64 250,.slice Aa3 na3 ca3,.slice Ab3 nb3 cb3,.slice Ac3 nc3 cc3,.string (⟨#[77]⟩:ByteArray),.bool false,.int .i64 600,.slice Aa4 na4 ca4,.slice Ab4 nb4 cb4,.slice Ac4 nc4 cc4,.string (⟨#[83]⟩:ByteArray),.bool true,.int .i64 250,.slice Aa5 na5 ca5,.slice Ab5 nb5 cb5,.slice Ac5 nc5 cc5] 60) = w' at hbn hnew ⊢
    have s0:=S0.out
    have s1:=S1.out
    have s2:=S2.out
    have s3:=S3.out
    have s4:=S4.out
    refine ⟨fun k=>if k < W1_.heap.size then 0 else if k < W2_.heap.size then 1 else if k < W3_.heap.size then 2 else if k < iH.heap.size then 3 else 4,fun _ _=>trivial,[.string (⟨#[82]⟩:ByteArray),.bool false,.int .i64 250,.slice Aa1 na1 ca1,.slice Ab1 nb1 cb1,.slice Ac1 nc1 cc1,.string (⟨#[73]⟩:ByteArray),.bool false,.int .i64 250,.slice Aa2 na2 ca2,.slice Ab2 nb2 cb2,.slice Ac2 nc2 cc2,.string (⟨#[66]⟩:ByteArray),.bool false,.int .i64 250,.slice Aa3 na3 ca3,.slice Ab3 nb3 cb3,.slice Ac3 nc3 cc3,.string (⟨#[77]⟩:ByteArray),.bool false,.int .i64 600,.slice Aa4 na4 ca4,.slice Ab4 nb4 cb4,.slice Ac4 nc4 cc4,.string (⟨#[83]⟩:ByteArray),.bool true,.int .i64 250,.slice Aa5 na5 ca5,.slice Ab5 nb5 cb5,.slice Ac5 nc5 cc5],⟨rfl,.inr ⟨wr.heap.size,5,_,rfl,BCA.out.size,hnew,by decide,by decide,rfl,rfl⟩⟩,rfl,fun j p hj=>?_⟩
    have hne:∀ q,q < wr.heap.size → some q ≠ (Value.slice (some ⟨wr.heap.size,0,none⟩) 5 5).ownBlock:=by
     intro q hq e
     have:wr.heap.size = q:=by simpa [Value.ownBlock] using e.symm
     omega
    rcases j with _ | _ | _ | _ | _ | j
    ·obtain rfl:=Option.some.inj hj
     refine KA1.out w' iG.heap.size _ hbn (by omega) (fun q h1 h2=>⟨⟨trivial,hne q (by omega)⟩,?_⟩)
     show (if q < W1_.heap.size then 0 else if q < W2_.heap.size then 1 else if q < W3_.heap.size then 2 else if q < iH.heap.size then 3 else 4) = 0
     repeat' split
     all_goals omega
    ·obtain rfl:=Option.some.inj hj
     refine KA2.out w' iG.heap.size _ hbn (by omega) (fun q h1 h2=>⟨⟨trivial,hne q (by omega)⟩,?_⟩)
     show (if q < W1_.heap.size then 0 else if q < W2_.heap.size then 1 else if q < W3_.heap.size then 2 else if q < iH.heap.size then 3 else 4) = 1
     repeat' split
     all_goals omega
    ·obtain rfl:=Option.some.inj hj
     refine KA3.out w' iG.heap.size _ hbn (by omega) (fun q h1 h2=>⟨⟨trivial,hne q (by omega)⟩,?_⟩)
     show (if q < W1_.heap.size then 0 else if q < W2_.heap.size then 1 else if q < W3_.heap.size then 2 else if q < iH.heap.size then 3 else 4) = 2
     repeat' split
     all_goals omega
    ·obtain rfl:=Option.some.inj hj
     refine KA4.out w' iG.heap.size _ hbn (by omega) (fun q h1 h2=>⟨⟨trivial,hne q (by omega)⟩,?_⟩)
     show (if q < W1_.heap.size then 0 else if q < W2_.heap.size then 1 else if q < W3_.heap.size then 2 else if q < iH.heap.size then 3 else 4) = 3
     repeat' split
     all_goals omega
    ·obtain rfl:=Option.some.inj hj
     refine KA5.out w' iG.heap.size _ hbn (by omega) (fun q h1 h2=>⟨⟨trivial,hne q (by omega)⟩,?_⟩)
     show (if q < W1_.heap.size then 0 else if q < W2_.heap.size then 1 else if q < W3_.heap.size then 2 else if q < iH.heap.size then 3 else 4) = 4
     repeat' split
     all_goals omega
    ·simp [ZH] at hj
   clear hbn hnew
   go_ret
   exact ⟨_,rfl,hS,hbw⟩
def jh.f:Option (List jd):=some ZH
theorem jh.calls (r:List jd) (w:World) (hG:GW w) (h:jh.f = some r) :
  Calls Tryz.prog 19 #[] w fun e w'=>∃ Q8:Value,e = .returned Q8 ∧ Kd.S kP 60 w' w.heap.size (fun _=>True) Q8 r ∧ Below w.heap.size w w':=by
 obtain rfl:=Option.some.inj h
 exact zcx w hG
end Go.Proofs.YtggifbbiiickmaaGreatDoor
namespace Go.Proofs.YtggifbbiiickmaaGreatDoor.PX
open Go.RowKit Go.Proofs.zk.za Go.Proofs.zk.zS Go.Proofs.zk.zR
attribute [local go_sem] qD qE xJ xV qc qd qF qG   -- for this text's walks alone
set_option linter.unusedVariables false
set_option linter.unusedSimpArgs false
def xk.f  : Option (Bool):=(jh.f).bind fun Xk=>((kE.f Xk 0 10 true false (([(⟨#[102]⟩:ByteArray),(⟨#[105]⟩:ByteArray)]:List ByteArray)) ([]:List (Yi))).bind fun wW=>(if wW.2.2 = 0 then (if (wW.2.1.length:Int) = 0 then (if (wW.1.length:Int) = 1 then (if 0 < (wW.1.length:Int) then (some (((zy wW.1 0).f4).toList == ([102,105]:List UInt8))) else (none)) else (some false)) else (some false)) else (some false)))
set_option maxHeartbeats 8000000 in
set_option maxRecDepth 100000 in
theorem xk.calls  (r:Bool) (w:World) (hG:GW w) (h:xk.f  = some r) :
  Calls Tryz.prog 11 #[] w fun e w'=>e = .returned (.bool r) ∧ Below w.heap.size w w':=by
 have zeg:=Tryz.underlying26
 have HG:=zx.mk hG
 clear hG
 have HB:=zx.mk (Below.refl w.heap.size w)
 have H:((jh.f).bind fun Xk=>((kE.f Xk 0 10 true false (([(⟨#[102]⟩:ByteArray),(⟨#[105]⟩:ByteArray)]:List ByteArray)) ([]:List (Yi))).bind fun wW=>(if wW.2.2 = 0 then (if (wW.2.1.length:Int) = 0 then (if (wW.1.length:Int) = 1 then (if 0 < (wW.1.length:Int) then (some (((zy wW.1 0).f4).toList == ([102,105]:List UInt8))) else (none)) else (some false)) else (some false)) else (some false)))) = some r:=h
 clear h
 replace H:=Option.bind_eq_some_iff.mp H
 obtain ⟨Xk,A10,H⟩:=H
 replace H:((kE.f Xk 0 10 true false (([(⟨#[102]⟩:ByteArray),(⟨#[105]⟩:ByteArray)]:List ByteArray)) ([]:List (Yi))).bind fun wW=>(if wW.2.2 = 0 then (if (wW.2.1.length:Int) = 0 then (if (wW.1.length:Int) = 1 then (if 0 < (wW.1.length:Int) then (some (((zy wW.1 0).f4).toList == ([102,105]:List UInt8))) else (none)) else (some false)) else (some false)) else (some false))) = some r:=H
 have A1:=zx.mk A10
 clear A10
 obtain ⟨y114,hy114⟩:∃ y_:List ByteArray,y_ = (([(⟨#[102]⟩:ByteArray),(⟨#[105]⟩:ByteArray)]:List ByteArray)):=⟨_,rfl⟩
 replace H:((kE.f Xk 0 10 true false y114 ([]:List (Yi))).bind fun wW=>(if wW.2.2 = 0 then (if (wW.2.1.length:Int) = 0 then (if (wW.1.length:Int) = 1 then (if 0 < (wW.1.length:Int) then (some (((zy wW.1 0).f4).toList == ([102,105]:List UInt8))) else (none)) else (some false)) else (some false)) else (some false))) = some r:=by first | (rw [hy114];with_reducible exact H) | (have uh:=(Option.bind_some _ _).symm.trans H;rw [hy114];with_reducible exact uh) | (have uh:=(Option.bind_some _ _).symm.trans H;with_reducible exact uh) | with_reducible exact H | (rw [hy114];exact H) | exact H
 have dM:=zx.mk hy114
 clear hy114
 replace H:=Option.bind_eq_some_iff.mp H
 obtain ⟨⟨t117,bC,gW⟩,A20,H⟩:=H
 replace H:(if gW = 0 then (if (bC.length:Int) = 0 then (if (t117.length:Int) = 1 then (if 0 < (t117.length:Int) then (some (((zy t117 0).f4).toList == ([102,105]:List UInt8))) else (none)) else (some false)) else (some false)) else (some false)) = some r:=H
 have A2:=zx.mk A20
 clear A20
 by_cases c3:gW = 0
 ·rw [if_pos c3] at H
  have ZN:(gW == 0) = true:=beq_iff_eq.mpr c3
  have zkG:(gW != 0) = false:=bne_eq_false_iff_eq.mpr c3
  clear c3
  by_cases c4:(bC.length:Int) = 0
  ·rw [if_pos c4] at H
   have QX:((bC.length:Int) == 0) = true:=beq_iff_eq.mpr c4
   have zdL:((bC.length:Int) != 0) = false:=bne_eq_false_iff_eq.mpr c4
   clear c4
   by_cases c5:(t117.length:Int) = 1
   ·rw [if_pos c5] at H
    have wM:((t117.length:Int) == 1) = true:=beq_iff_eq.mpr c5
    have zX7:((t117.length:Int) != 1) = false:=bne_eq_false_iff_eq.mpr c5
    clear c5
    by_cases c6:0 < (t117.length:Int)
    ·rw [if_pos c6] at H
     have kD:decide (0 < (t117.length:Int)) = true:=decide_eq_true c6
     have gq:decide (0 < t117.length) = true:=decide_eq_true (by omega)
     clear c6
     obtain rfl:=Option.some.inj H
     go_enter Tryz.func11,Tryz.ntmps11
     go_wp2_with (first | ((with_reducible refine yx (f:=19) rfl ?_);refine uD (some 5) Tryz.func19 #[] ?_;(with_reducible refine (jh.calls  Xk _ ?yh A1.out).mono ?_);(case yh=>exact GW.under HG.out (zD HB.out));rintro e w7 ⟨zWw,rfl,ho0,hb⟩;refine ⟨_,rfl,?_⟩;have ze:=zx.mk (Kd.Xp ho0 (zm (zD HB.out)));have zi:=zx.mk (zu (zD HB.out) hb);clear HB;have uJ:=ze;have HB:=zi;clear ze zi;(try clear hb);(try clear hk);(try clear ho0)) | ((with_reducible refine qQ (N:=7) rfl ?_);(try (refine xO (by rfl) ?_;dsimp only));refine Kd.U8 Kd.string _ 9 ?hg (N:=7) ?hd (xs:=([(⟨#[102]⟩:ByteArray),(⟨#[105]⟩:ByteArray)]:List ByteArray)) (inner:=[.string (⟨#[102]⟩:ByteArray),.string (⟨#[105]⟩:ByteArray)]) (ok:=fun _=>True) (vR:=fun _=>True) ?hr ?hp (fun _ hk=>hk) trivial (Below.refl _ _) (Nat.le_refl _) (by simp) ?_;(case hd=>rfl);(case hg=>rfl);(case hr=>first | (go_simp;done) | (go_simp;rfl));(case hp=>exact (qY.one (show Kd.M Kd.string _ _ _ (⟨#[102]⟩:ByteArray) [.string (⟨#[102]⟩:ByteArray)] from rfl) (qY.one (show Kd.M Kd.string _ _ _ (⟨#[105]⟩:ByteArray) [.string (⟨#[105]⟩:ByteArray)] from rfl) (qY.none _ _))));intro zWZ w8 ho9 hb bX Yp;clear bX Yp;(first | rw [← dM.out] at ho9 | (simp only [Int.reduceToNat] at ho9;rw [← dM.out] at ho9));have ze:=zx.mk (Kd.jZ (by (with_reducible repeat (first | apply Kd.xB | apply Kd.xC | apply Kd.xG));exact uJ.out) hb);have zi:=zx.mk (Kd.uT ho9 (zm (zD HB.out)));have zo:=zx.mk (zu (zD HB.out) hb);clear uJ;clear HB;have uJ:=ze;have jc:=zi;have HB:=zo;clear ze zi zo;clear hb ho9;obtain ⟨zlj,zlv,zlk⟩:=Kd.Q5 uJ.out;subst zlk;obtain ⟨zly,zlw,zlZ⟩:=Kd.xA jc.out;subst zlZ) | ((with_reducible refine yx (f:=13) rfl ?_);refine uD (some 8) Tryz.func13 #[.slice zlj Xk.length zlv,.agg #[.int .i64 0,.int .i64 10,.bool true,.bool false],.slice zly y114.length zlw,.slice none 0 0] ?_;(refine (kE.calls _ _ Xk 0 10 true false _ _ y114 _ _ ([]:List (Yi)) t117 bC gW _ ?yh ?yD ?qX ?qJ ?qR ?xg ?jO A2.out).mono ?_);(case yh=>exact qM ((Kd.ZF uJ.out).2.2));(case yD=>exact (Kd.ZF uJ.out).2.1);(case qX=>exact qM ((Kd.jE jc.out).2.2));(case qJ=>exact (Kd.jE jc.out).2.1);(case qR=>exact Kd.zqZ _ _);(case xg=>exact Nat.le_refl _);(case jO=>exact GW.under HG.out (zD HB.out));rintro e dK ⟨zWQ,zWX,rfl,ho0,ho1,hb⟩;refine ⟨_,rfl,?_⟩;have ze:=zx.mk (Kd.jZ (by (with_reducible repeat (first | apply Kd.xB | apply Kd.xC | apply Kd.xG));exact uJ.out) hb);have zi:=zx.mk (Kd.P9 (Yl jc.out) (Kd.Qg ho1) hb);have zo:=zx.mk (Kd.Xp ho0 (zm (zD HB.out)));have zT:=zx.mk (Kd.uT (Kd.zqQ ho1 (Kd.zkJ (Yl jc.out))) (zm (zD HB.out)));have qU:=zx.mk (zu (zD HB.out) hb);clear uJ;clear jc;clear HB;have uJ:=ze;have jc:=zi;have dN:=zo;have l7:=zT;have HB:=qU;clear ze zi zo zT qU;(try clear hb);(try clear hk);(try clear ho0);(try clear ho1);obtain ⟨zu8,zu9,zlQ⟩:=Kd.xA l7.out;subst zlQ;obtain ⟨zAz,zAq,zlX⟩:=Kd.Q5 dN.out;subst zlX;have zJP:0 ≤ (0:Int):=(by omega);have zJR:0 < (t117.length:Int):=of_decide_eq_true yH;obtain ⟨zt8,ztJ,ztV,zlJ,zjA,zjB,zjC,zjD,zjE,zjF,l8,zZM,zZN⟩:=kQ (Kd.ZF dN.out).2.2 0 zJP zJR;cases zlJ;obtain ⟨zt9,zeC,zeD,zKd⟩:=Kd.zfc dN.out z53 0 zJP (by first | exact zJR | exact of_decide_eq_true yH | (have e_:=(Kd.ZF dN.out).1;omega));obtain ⟨znW,rfl,zjG⟩:=dV zeD;have nM:=zKd 6 _ rfl;rw [xI _ _ 6 (by omega)] at nM;replace nM:=Option.some.inj (nM.symm.trans l8);rw [nM] at zjG;have zna:=zx.mk (show Kd.R (Kd.int .i64) 3 _ _ _ _ ((zy t117 0).f6) from zjG);clear nM zjG;clear zKd zeC;have zuz:(0 < t117.length) = True:=eq_true (by omega);(try rw [show ((0:Int)).toNat = 0 from rfl] at zjA);(try rw [show 0 * 7 = 0 from rfl] at zjA);(try rw [Addr.add_zero'] at zjA);(try rw [show ((0:Int)).toNat = 0 from rfl] at zjB);(try rw [show 0 * 7 = 0 from rfl] at zjB);(try rw [Addr.add_zero'] at zjB);(try rw [show ((0:Int)).toNat = 0 from rfl] at zjC);(try rw [show 0 * 7 = 0 from rfl] at zjC);(try rw [Addr.add_zero'] at zjC);(try rw [show ((0:Int)).toNat = 0 from rfl] at zjD);(try rw [show 0 * 7 = 0 from rfl] at zjD);(try rw [Addr.add_zero'] at zjD);(try rw [show ((0:Int)).toNat = 0 from rfl] at zjE);(try rw [show 0 * 7 = 0 from rfl] at zjE);(try rw [Addr.add_zero'] at zjE);(try rw [show ((0:Int)).toNat = 0 from rfl] at zjF);(try rw [show 0 * 7 = 0 from rfl] at zjF);(try rw [Addr.add_zero'] at zjF);(try rw [show ((0:Int)).toNat = 0 from rfl] at l8);(try rw [show 0 * 7 = 0 from rfl] at l8);(try rw [Addr.add_zero'] at l8);have znb:=zx.mk zZN;have znc:=zx.mk zZM;clear zZN zZM;replace zJP:=eq_true zJP;replace zJR:=eq_true zJR))
     go_ret
     exact ⟨by first | rfl | (simp [zH,zI] <;> rfl) | (simp [*,zH,zI] <;> rfl),by repeat (first | (with_reducible first | exact HB.out | apply yJ | apply zC | apply yY) | exact HB.out)⟩
    ·rw [if_neg c6] at H
     exact absurd H (by simp)
   ·rw [if_neg c5] at H
    have wM:((t117.length:Int) == 1) = false:=beq_eq_false_iff_ne.mpr c5
    have zX7:((t117.length:Int) != 1) = true:=bne_iff_ne.mpr c5
    obtain rfl:=Option.some.inj H
    go_enter Tryz.func11,Tryz.ntmps11
    go_wp2_with (first | ((with_reducible refine yx (f:=19) rfl ?_);refine uD (some 5) Tryz.func19 #[] ?_;(with_reducible refine (jh.calls  Xk _ ?yh A1.out).mono ?_);(case yh=>exact GW.under HG.out (zD HB.out));rintro e WW ⟨zWw,rfl,ho0,hb⟩;refine ⟨_,rfl,?_⟩;have ze:=zx.mk (Kd.Xp ho0 (zm (zD HB.out)));have zi:=zx.mk (zu (zD HB.out) hb);clear HB;have uJ:=ze;have HB:=zi;clear ze zi;(try clear hb);(try clear hk);(try clear ho0)) | ((with_reducible refine qQ (N:=7) rfl ?_);(try (refine xO (by rfl) ?_;dsimp only));refine Kd.U8 Kd.string _ 9 ?hg (N:=7) ?hd (xs:=([(⟨#[102]⟩:ByteArray),(⟨#[105]⟩:ByteArray)]:List ByteArray)) (inner:=[.string (⟨#[102]⟩:ByteArray),.string (⟨#[105]⟩:ByteArray)]) (ok:=fun _=>True) (vR:=fun _=>True) ?hr ?hp (fun _ hk=>hk) trivial (Below.refl _ _) (Nat.le_refl _) (by simp) ?_;(case hd=>rfl);(case hg=>rfl);(case hr=>first | (go_simp;done) | (go_simp;rfl));(case hp=>exact (qY.one (show Kd.M Kd.string _ _ _ (⟨#[102]⟩:ByteArray) [.string (⟨#[102]⟩:ByteArray)] from rfl) (qY.one (show Kd.M Kd.string _ _ _ (⟨#[105]⟩:ByteArray) [.string (⟨#[105]⟩:ByteArray)] from rfl) (qY.none _ _))));intro zWZ w16 zyh hb bX Yp;clear bX Yp;(first | rw [← dM.out] at zyh | (simp only [Int.reduceToNat] at zyh;rw [← dM.out] at zyh));have ze:=zx.mk (Kd.jZ (by (with_reducible repeat (first | apply Kd.xB | apply Kd.xC | apply Kd.xG));exact uJ.out) hb);have zi:=zx.mk (Kd.uT zyh (zm (zD HB.out)));have zo:=zx.mk (zu (zD HB.out) hb);clear uJ;clear HB;have uJ:=ze;have jc:=zi;have HB:=zo;clear ze zi zo;clear hb zyh;obtain ⟨zlV,zlK,zlY⟩:=Kd.Q5 uJ.out;subst zlY;obtain ⟨zk5,zk6,zJw⟩:=Kd.xA jc.out;subst zJw) | ((with_reducible refine yx (f:=13) rfl ?_);refine uD (some 8) Tryz.func13 #[.slice zlV Xk.length zlK,.agg #[.int .i64 0,.int .i64 10,.bool true,.bool false],.slice zk5 y114.length zk6,.slice none 0 0] ?_;(refine (kE.calls _ _ Xk 0 10 true false _ _ y114 _ _ ([]:List (Yi)) t117 bC gW _ ?yh ?yD ?qX ?qJ ?qR ?xg ?jO A2.out).mono ?_);(case yh=>exact qM ((Kd.ZF uJ.out).2.2));(case yD=>exact (Kd.ZF uJ.out).2.1);(case qX=>exact qM ((Kd.jE jc.out).2.2));(case qJ=>exact (Kd.jE jc.out).2.1);(case qR=>exact Kd.zqZ _ _);(case xg=>exact Nat.le_refl _);(case jO=>exact GW.under HG.out (zD HB.out));rintro e w20 ⟨zWQ,zWX,rfl,ho0,ho1,hb⟩;refine ⟨_,rfl,?_⟩;have ze:=zx.mk (Kd.jZ (by (with_reducible repeat (first | apply Kd.xB | apply Kd.xC | apply Kd.xG));exact uJ.out) hb);have zi:=zx.mk (Kd.P9 (Yl jc.out) (Kd.Qg ho1) hb);have zo:=zx.mk (Kd.Xp ho0 (zm (zD HB.out)));have zT:=zx.mk (Kd.uT (Kd.zqQ ho1 (Kd.zkJ (Yl jc.out))) (zm (zD HB.out)));have qU:=zx.mk (zu (zD HB.out) hb);clear uJ;clear jc;clear HB;have uJ:=ze;have jc:=zi;have dN:=zo;have l7:=zT;have HB:=qU;clear ze zi zo zT qU;(try clear hb);(try clear hk);(try clear ho0);(try clear ho1);obtain ⟨zAx,zAj,zlW⟩:=Kd.xA l7.out;subst zlW;obtain ⟨zAv,zAk,zla⟩:=Kd.Q5 dN.out;subst zla))
    go_ret
    exact ⟨by first | rfl | (simp [zH,zI] <;> rfl) | (simp [*,zH,zI] <;> rfl),by repeat (first | (with_reducible first | exact HB.out | apply yJ | apply zC | apply yY) | exact HB.out)⟩
  ·rw [if_neg c4] at H
   have QX:((bC.length:Int) == 0) = false:=beq_eq_false_iff_ne.mpr c4
   have zdL:((bC.length:Int) != 0) = true:=bne_iff_ne.mpr c4
   have zAy:¬ (bC = []):=fun h_=>c4 (by rw [h_];rfl)
   obtain rfl:=Option.some.inj H
   go_enter Tryz.func11,Tryz.ntmps11
   go_wp2_with (first | ((with_reducible refine yx (f:=19) rfl ?_);refine uD (some 5) Tryz.func19 #[] ?_;(with_reducible refine (jh.calls  Xk _ ?yh A1.out).mono ?_);(case yh=>exact GW.under HG.out (zD HB.out));rintro e w23 ⟨zWw,rfl,ho0,hb⟩;refine ⟨_,rfl,?_⟩;have ze:=zx.mk (Kd.Xp ho0 (zm (zD HB.out)));have zi:=zx.mk (zu (zD HB.out) hb);clear HB;have uJ:=ze;have HB:=zi;clear ze zi;(try clear hb);(try clear hk);(try clear ho0)) | ((with_reducible refine qQ (N:=7) rfl ?_);(try (refine xO (by rfl) ?_;dsimp only));refine Kd.U8 Kd.string _ 9 ?hg (N:=7) ?hd (xs:=([(⟨#[102]⟩:ByteArray),(⟨#[105]⟩:ByteArray)]:List ByteArray)) (inner:=[.string (⟨#[102]⟩:ByteArray),.string (⟨#[105]⟩:ByteArray)]) (ok:=fun _=>True) (vR:=fun _=>True) ?hr ?hp (fun _ hk=>hk) trivial (Below.refl _ _) (Nat.le_refl _) (by simp) ?_;(case hd=>rfl);(case hg=>rfl);(case hr=>first | (go_simp;done) | (go_simp;rfl));(case hp=>exact (qY.one (show Kd.M Kd.string _ _ _ (⟨#[102]⟩:ByteArray) [.string (⟨#[102]⟩:ByteArray)] from rfl) (qY.one (show Kd.M Kd.string _ _ _ (⟨#[105]⟩:ByteArray) [.string (⟨#[105]⟩:ByteArray)] from rfl) (qY.none _ _))));intro zWZ w24 zyi hb bX Yp;clear bX Yp;(first | rw [← dM.out] at zyi | (simp only [Int.reduceToNat] at zyi;rw [← dM.out] at zyi));have ze:=zx.mk (Kd.jZ (by (with_reducible repeat (first | apply Kd.xB | apply Kd.xC | apply Kd.xG));exact uJ.out) hb);have zi:=zx.mk (Kd.uT zyi (zm (zD HB.out)));have zo:=zx.mk (zu (zD HB.out) hb);clear uJ;clear HB;have uJ:=ze;have jc:=zi;have HB:=zo;clear ze zi zo;clear hb zyi;obtain ⟨zlb,zlc,zld⟩:=Kd.Q5 uJ.out;subst zld;obtain ⟨zle,zlf,zlg⟩:=Kd.xA jc.out;subst zlg) | ((with_reducible refine yx (f:=13) rfl ?_);refine uD (some 8) Tryz.func13 #[.slice zlb Xk.length zlc,.agg #[.int .i64 0,.int .i64 10,.bool true,.bool false],.slice zle y114.length zlf,.slice none 0 0] ?_;(refine (kE.calls _ _ Xk 0 10 true false _ _ y114 _ _ ([]:List (Yi)) t117 bC gW _ ?yh ?yD ?qX ?qJ ?qR ?xg ?jO A2.out).mono ?_);(case yh=>exact qM ((Kd.ZF uJ.out).2.2));(case yD=>exact (Kd.ZF uJ.out).2.1);(case qX=>exact qM ((Kd.jE jc.out).2.2));(case qJ=>exact (Kd.jE jc.out).2.1);(case qR=>exact Kd.zqZ _ _);(case xg=>exact Nat.le_refl _);(case jO=>exact GW.under HG.out (zD HB.out));rintro e w28 ⟨zWQ,zWX,rfl,ho0,ho1,hb⟩;refine ⟨_,rfl,?_⟩;have ze:=zx.mk (Kd.jZ (by (with_reducible repeat (first | apply Kd.xB | apply Kd.xC | apply Kd.xG));exact uJ.out) hb);have zi:=zx.mk (Kd.P9 (Yl jc.out) (Kd.Qg ho1) hb);have zo:=zx.mk (Kd.Xp ho0 (zm (zD HB.out)));have zT:=zx.mk (Kd.uT (Kd.zqQ ho1 (Kd.zkJ (Yl jc.out))) (zm (zD HB.out)));have qU:=zx.mk (zu (zD HB.out) hb);clear uJ;clear jc;clear HB;have uJ:=ze;have jc:=zi;have dN:=zo;have l7:=zT;have HB:=qU;clear ze zi zo zT qU;(try clear hb);(try clear hk);(try clear ho0);(try clear ho1);obtain ⟨zAw,zAZ,zlh⟩:=Kd.xA l7.out;subst zlh))
   go_ret
   exact ⟨by first | rfl | (simp [zH,zI] <;> rfl) | (simp [*,zH,zI] <;> rfl),by repeat (first | (with_reducible first | exact HB.out | apply yJ | apply zC | apply yY) | exact HB.out)⟩
 ·rw [if_neg c3] at H
  have ZN:(gW == 0) = false:=beq_eq_false_iff_ne.mpr c3
  have zkG:(gW != 0) = true:=bne_iff_ne.mpr c3
  obtain rfl:=Option.some.inj H
  go_enter Tryz.func11,Tryz.ntmps11
  go_wp2_with (first | ((with_reducible refine yx (f:=19) rfl ?_);refine uD (some 5) Tryz.func19 #[] ?_;(with_reducible refine (jh.calls  Xk _ ?yh A1.out).mono ?_);(case yh=>exact GW.under HG.out (zD HB.out));rintro e w30 ⟨zWw,rfl,ho0,hb⟩;refine ⟨_,rfl,?_⟩;have ze:=zx.mk (Kd.Xp ho0 (zm (zD HB.out)));have zi:=zx.mk (zu (zD HB.out) hb);clear HB;have uJ:=ze;have HB:=zi;clear ze zi;(try clear hb);(try clear hk);(try clear ho0)) | ((with_reducible refine qQ (N:=7) rfl ?_);(try (refine xO (by rfl) ?_;dsimp only));refine Kd.U8 Kd.string _ 9 ?hg (N:=7) ?hd (xs:=([(⟨#[102]⟩:ByteArray),(⟨#[105]⟩:ByteArray)]:List ByteArray)) (inner:=[.string (⟨#[102]⟩:ByteArray),.string (⟨#[105]⟩:ByteArray)]) (ok:=fun _=>True) (vR:=fun _=>True) ?hr ?hp (fun _ hk=>hk) trivial (Below.refl _ _) (Nat.le_refl _) (by simp) ?_;(case hd=>rfl);(case hg=>rfl);(case hr=>first | (go_simp;done) | (go_simp;rfl));(case hp=>exact (qY.one (show Kd.M Kd.string _ _ _ (⟨#[102]⟩:ByteArray) [.string (⟨#[102]⟩:ByteArray)] from rfl) (qY.one (show Kd.M Kd.string _ _ _ (⟨#[105]⟩:ByteArray) [.string (⟨#[105]⟩:ByteArray)] from rfl) (qY.none _ _))));intro zWZ w31 zyl hb bX Yp;clear bX Yp;(first | rw [← dM.out] at zyl | (simp only [Int.reduceToNat] at zyl;rw [← dM.out] at zyl));have ze:=zx.mk (Kd.jZ (by (with_reducible repeat (first | apply Kd.xB | apply Kd.xC | apply Kd.xG));exact uJ.out) hb);have zi:=zx.mk (Kd.uT zyl (zm (zD HB.out)));have zo:=zx.mk (zu (zD HB.out) hb);clear uJ;clear HB;have uJ:=ze;have jc:=zi;have HB:=zo;clear ze zi zo;clear hb zyl;obtain ⟨zli,zll,zlm⟩:=Kd.Q5 uJ.out;subst zlm;obtain ⟨zym,zyn,zWJ⟩:=Kd.xA jc.out;subst zWJ) | ((with_reducible refine yx (f:=13) rfl ?_);refine uD (some 8) Tryz.func13 #[.slice zli Xk.length zll,.agg #[.int .i64 0,.int .i64 10,.bool true,.bool false],.slice zym y114.length zyn,.slice none 0 0] ?_;(refine (kE.calls _ _ Xk 0 10 true false _ _ y114 _ _ ([]:List (Yi)) t117 bC gW _ ?yh ?yD ?qX ?qJ ?qR ?xg ?jO A2.out).mono ?_);(case yh=>exact qM ((Kd.ZF uJ.out).2.2));(case yD=>exact (Kd.ZF uJ.out).2.1);(case qX=>exact qM ((Kd.jE jc.out).2.2));(case qJ=>exact (Kd.jE jc.out).2.1);(case qR=>exact Kd.zqZ _ _);(case xg=>exact Nat.le_refl _);(case jO=>exact GW.under HG.out (zD HB.out));rintro e w35 ⟨zWQ,zWX,rfl,ho0,ho1,hb⟩;refine ⟨_,rfl,?_⟩;have ze:=zx.mk (Kd.jZ (by (with_reducible repeat (first | apply Kd.xB | apply Kd.xC | apply Kd.xG));exact uJ.out) hb);have zi:=zx.mk (Kd.P9 (Yl jc.out) (Kd.Qg ho1) hb);have zo:=zx.mk (Kd.Xp ho0 (zm (zD HB.out)));have zT:=zx.mk (Kd.uT (Kd.zqQ ho1 (Kd.zkJ (Yl jc.out))) (zm (zD HB.out)));have qU:=zx.mk (zu (zD HB.out) hb);clear uJ;clear jc;clear HB;have uJ:=ze;have jc:=zi;have dN:=zo;have l7:=zT;have HB:=qU;clear ze zi zo zT qU;(try clear hb);(try clear hk);(try clear ho0);(try clear ho1)))
  go_ret
  exact ⟨by first | rfl | (simp [zH,zI] <;> rfl) | (simp [*,zH,zI] <;> rfl),by repeat (first | (with_reducible first | exact HB.out | apply yJ | apply zC | apply yY) | exact HB.out)⟩
end Go.Proofs.YtggifbbiiickmaaGreatDoor.PX
namespace Go.Proofs.YtggifbbiiickmaaGreatDoor.PX
open Go.RowKit Go.Proofs.zk.za Go.Proofs.zk.zS Go.Proofs.zk.zR
attribute [local go_sem] qD qE xJ xV qc qd qF qG   -- for this text's walks alone
set_option linter.unusedVariables false
set_option linter.unusedSimpArgs false
end Go.Proofs.YtggifbbiiickmaaGreatDoor.PX
namespace Go.Proofs.YtggifbbiiickmaaGreatDoor
open Go.RowKit Go.Proofs.zk.za Go.Proofs.zk.zS Go.Proofs.zk.zR Go.Proofs.YtggifbbiiickmaaGreatDoor.PX
set_option linter.unusedSimpArgs false
set_option linter.unusedVariables false
theorem zeE:ZH.all (fun x=>xu x && okF x) = true:=by decide +kernel
theorem zZO:ZH.length = 5:=rfl
theorem zcj:ZH.all okF = true:=List.all_eq_true.2 fun x hx=>by
 have h:=List.all_eq_true.1 zeE x hx
 simp only [Bool.and_eq_true] at h
 exact h.2
theorem zKe:xk.f = some true:=by decide +kernel
theorem rdB (l:List jR) (i:Nat) (b:jR) (h:l[i]? = some b):zy l (i:Int) = b:=by
 simp [zy,List.getD_eq_getElem?_getD,h]
end Go.Proofs.YtggifbbiiickmaaGreatDoor
