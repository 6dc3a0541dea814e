/-
  Texts that lean on one another, laid in one file. No condition.
-/
import Derived.Test.YtggifbbiiickmaaGreatDoorGMV2
import Derived.Deep.CutBlock
import Derived.Shelf.SlSortCmp.WholeK
import Derived.Ground.SlsfProg
import Derived.Sort.OwnSortedInts
import Derived.Test.YtggifbbiiickmaaGreatDoorGMV1
import Derived.Laws.Runes
import Derived.ChangeAlike
namespace Go.Proofs.YtggifbbiiickmaaGreatDoor
open Go.RowKit Go.Shelf Go.Proofs.zk.zm Go.Proofs.zk.yK Go.Proofs.zk.yc Go.Proofs.YtggifbbiiickmaaGreatDoor.PX Go.Proofs.YtggifbbiiickmaaGreatDoor.UG
set_option linter.unusedSimpArgs false
set_option linter.unusedVariables false
attribute [local go_sem] Oper.semAt_some
theorem rJ {P:Program} {c:Code} {K:Act → World → Prop} {Q':Exit → Act → World → Prop} {a:Act} {w:World} (h:c.wp P (Exit.then K (fun _ _ _=>False)) a w):c.wp P (Exit.then K Q') a w:=by
 refine wp_mono h ?_
 intro e a' w' hq
 cases e with
 | normal=>exact hq
 | _=>exact hq.elim
theorem QL {s:ByteArray} (h:wT s = false):s.size ≤ 10:=by
 unfold wT Ym at h
 simp only [Bool.not_eq_false',Bool.and_eq_true,decide_eq_true_eq] at h
 have h1:=h.2.1
 rwa [show s.data.toList.length = s.size from Array.length_toList] at h1
theorem below_grown {n:Nat} {A B:World} {row:Nat} (h:A.grownBy B (some row)) (hr:n ≤ row) (hn:n ≤ A.heap.size):Below n A B :=
 ⟨h.os,h.tape,h.output,h.size,fun k hk=>h.block k (by omega) (fun e=>by injection e;omega)⟩
theorem Kl {W W':World} {m n:Nat} {f:ByteArray → Option ByteArray} {P:Program} {k e:TypeId} (h:W'.heap[m]? = W.heap[m]?) (hm:SMap P k e W m n f):SMap P k e W' m n f:=by
 obtain ⟨D,⟨es,clock,hb,F,h1,h2⟩,h3,h4⟩:=hm
 exact ⟨D,⟨es,clock,h.trans hb,F,h1,h2⟩,h3,h4⟩
def VP (m base:Nat) (w4:World) (pre:List QG) (W:World):Prop:=SMap Tryz.prog 9 9 W m pre.length (QH pre) ∧ Boxed W (m + 1) 82 (.map (some m)) ∧ Below m w4 W ∧ base ≤ W.heap.size
theorem zxe (m base:Nat) (w4:World) (hm:m ≤ w4.heap.size) (hb:m + 1 < base):OwnFrom base (VP m base w4):=by
 rintro pre A B row ⟨h1,h2,h3,h4⟩ hg hr
 exact ⟨h1.kept hg (fun e=>by have:=(hr _ e.symm).1;omega),h2.kept hg (fun e=>by have:=(hr _ e.symm).1;omega),ownFrom_below (β:=Unit) hm (by omega) () A B row h3 hg hr,Nat.le_trans h4 hg.size⟩
theorem zxf (m base:Nat) (w4:World) (hm:m + 1 + 1 < base):kI (m + 1 + 1) (VP m base w4):=by
 rintro pre W u ⟨h1,h2,h3,h4⟩
 exact ⟨h1.kept (grownBy_setCell' W (m + 1 + 1) u) (fun e=>by injection e;omega),h2.other (by omega) u,h3.setCell (p:=⟨m + 1 + 1,0,none⟩) (by show m ≤ m + 1 + 1;omega) u,by simpa using h4⟩
theorem oM {m base:Nat} {w4 W:World} {pre:List QG} (h:VP m base w4 pre W) (o:Obj):VP m base w4 pre (W.alloc o) :=
 ⟨h.1.kept (World.grownBy_alloc _ _ none) (by simp),h.2.1.alloc _,h.2.2.1.alloc (Nat.le_trans (Nat.le_of_lt h.1.lt) (Nat.le_refl _)) _,Nat.le_trans h.2.2.2 (by simp)⟩
theorem zxg {m base:Nat} {w4 W W':World} {pre:List QG} {x:QG} (h:VP m base w4 pre W) (hm:SMap Tryz.prog 9 9 W' m (pre.length + 1) (fun s=>if s = x.2.1.f0 then some x.2.1.f1 else QH pre s)) (hg:W.grownBy W' (some m)):VP m base w4 (pre ++ [x]) W':=by
 refine ⟨?_,h.2.1.kept hg (fun e=>by injection e;omega),h.2.2.1.trans (below_grown hg (Nat.le_refl _) (Nat.le_of_lt h.1.lt)),Nat.le_trans h.2.2.2 hg.size⟩
 rw [zqy,List.length_append]
 exact hm
def boxes.T19:Bool × List (List Nat × List Nat):=(true,[([],[]),([],[]),([1],[1]),([0,2],[0,2]),([3],[3]),([],[]),([],[]),([],[]),([],[]),([8],[8]),([7,9],[7,9]),([10],[10]),([6,11],[6,11]),([4,5,12,12],[4,5,12]),([13],[13]),([14],[14]),([14],[14]),([15,13,0,1,2,3,4,5,6,7,8,9,10,11,12,13,14,15],[15]),([16,17,0,1,2,3,4,5,6,7,8,9,10,11,12,13,14,15,16,17],[16])])
def boxes.B19:List Nat:=[0,0,2,7,15,0,0,0,0,256,896,1920,4032,8191,16383,32767,32767,65535,262143]
theorem boxes.zy9:xJ .any (opsOf Tryz.f13 19) = boxes.T19:=by kernel_rfl
theorem boxes.zkT:vv boxes.T19.2 boxes.B19 = true:=by kernel_rfl
def boxes.T24:Bool × List (List Nat × List Nat):=(true,[([],[]),([0],[0]),([1],[1]),([2],[2]),([],[]),([4],[4]),([5],[5]),([6],[6]),([3,0,1,2,3],[3]),([7,8,0,1,2,3,4,5,6,7,8],[7]),([9,0,1,2,3,4,5,6,7,8,9],[])])
def boxes.B24:List Nat:=[0,1,3,7,0,16,48,112,15,511,1023]
theorem boxes.zwz:xJ .any (opsOf Tryz.f13 24) = boxes.T24:=by kernel_rfl
theorem boxes.zkU:vv boxes.T24.2 boxes.B24 = true:=by kernel_rfl
theorem zvC (w0:World) (base g:Nat) (Af:Option Addr) (cf:Nat) (l:List yM) (f s:Int) (yV zu:Bool) (st:List vH × List ByteArray) (n:ByteArray) (w:World) (hG:GW w0) (hC:Kd.C jh w0 Af l.length l) (hl:l.length ≤ 1000000000) (hf0:0 ≤ f) (hf1:f < (l.length:Int)) (hv:∀ x ∈ l,qK x = true) (hgb:g < base) (hb:base ≤ w.heap.size) (hg0:w0.heap.size ≤ g) (hw:Below w0.heap.size w0 w) (hlo:st.1.length ≤ 1000000) (hll:st.2.length ≤ 1000000) (hs0:1 ≤ s) (hs1:s ≤ 1000) (hS:Yn base g w Af cf l f s yV zu st) :
  Calls Tryz.prog 46 #[.pointer (some ⟨g,0,none⟩),.string n] w fun e w'=>(∃ v,e = .returned v) ∧ Yn base g w' Af cf l f s yV zu (jC l f s zu st n) ∧ vk base g w w':=by
 obtain ⟨vo,vl,hS⟩:=hS
 unfold jC
 by_cases h:vT l f n < 0
 ·rw [if_pos h]
  exact zkR w0 base g Af cf l f s yV zu st n w hG hC hl hf0 hf1 hv hgb hb hg0 hw hlo hll vo vl hS h
 ·rw [if_neg h]
  exact zvt w0 base g Af cf l f s yV zu st n w hG hC hl hf0 hf1 hv hgb hb hg0 hw hlo hll vo vl hS (by omega) hs0 hs1
theorem zqZ (l:List yM) (s:Int) (zu:Bool) (out:List vH) (a:Int) (n:ByteArray):(pQ l s zu out a n).length ≤ 1:=by
 unfold pQ
 repeat' split
 all_goals first | exact Nat.zero_le _ | exact Nat.le_refl _
theorem bH (l:List yM) (f s:Int) (zu:Bool) (st:List vH × List ByteArray) (n:ByteArray):(jC l f s zu st n).1.length ≤ st.1.length + 2 ∧ (jC l f s zu st n).2.length ≤ st.2.length + 1:=by
 unfold jC
 split
 ·simp
 ·have:=zqZ l s zu st.1 (vT l f n) n
  simp only [List.length_append,List.length_cons,List.length_nil]
  omega
def pX (J:ByteArray → ByteArray → ByteArray × Bool) (yV:Bool) (A:List ByteArray) (k:Nat):List ByteArray:=if yV then XT J (A.drop k) else A.drop k
theorem ny (J:ByteArray → ByteArray → ByteArray × Bool) (A:List ByteArray) (k:Nat) (h:k < A.length):pX J false A k = A[k] :: pX J false A (k + 1):=by
 unfold pX
 rw [if_neg Bool.false_ne_true,if_neg Bool.false_ne_true,List.drop_eq_getElem_cons h]
theorem UL (J:ByteArray → ByteArray → ByteArray × Bool) (A:List ByteArray) (k j:Nat) (c:ByteArray) (h:k < A.length) (hj:Yz J A[k] (A.drop (k + 1)) = (c,A.drop (j + 1))):pX J true A k = c :: pX J true A (j + 1):=by
 unfold pX
 rw [if_pos rfl,if_pos rfl,List.drop_eq_getElem_cons h,XT,hj]
theorem zxh (J:ByteArray → ByteArray → ByteArray × Bool) (A:List ByteArray) (j:Nat) (c:ByteArray) (h:A.length ≤ j + 1):Yz J c (A.drop (j + 1)) = (c,A.drop (j + 1)):=by
 rw [List.drop_eq_nil_of_le h];rfl
theorem zqQ (J:ByteArray → ByteArray → ByteArray × Bool) (A:List ByteArray) (j:Nat) (c:ByteArray) (h:j + 1 < A.length) (hn:(J c A[j + 1]).2 = false):Yz J c (A.drop (j + 1)) = (c,A.drop (j + 1)):=by
 rw [List.drop_eq_getElem_cons h,Yz,if_neg (by rw [hn];exact Bool.false_ne_true)]
theorem zvD (J:ByteArray → ByteArray → ByteArray × Bool) (A:List ByteArray) (j:Nat) (c:ByteArray) (h:j + 1 < A.length) (hy:(J c A[j + 1]).2 = true):Yz J c (A.drop (j + 1)) = Yz J (J c A[j + 1]).1 (A.drop (j + 1 + 1)):=by
 rw [List.drop_eq_getElem_cons h,Yz,if_pos hy]
theorem PK {tmps:Array Value} {W:World} {v0 v1 v2:Value} (h0:tmps.getD 8 undef = v0) (h1:tmps.getD 9 undef = v1) (h2:tmps.getD 10 undef = v2):(results Tryz.f13 tmps).run Tryz.prog W = .ok (.tuple #[v0,v1,v2]) W:=by
 subst h0 h1 h2
 simp [results,Tryz.f13,go_sem]
set_option maxRecDepth 100000 in
set_option maxHeartbeats 8000000 in
theorem zqX (Af:Option Addr) (cf:Nat) (l:List yM) (f s:Int) (yV zu:Bool) (Ac:Option Addr) (cc:Nat) (chars:List ByteArray) (Ap:Option Addr) (cp:Nat) (pairs:List kZ) (w:World) (hG:GW w) (hC:Kd.C jh w Af l.length l) (hz:∀ x ∈ l,x.f3.length ≤ 1000000000 ∧ x.f4.length ≤ 1000000000 ∧ x.f5.length ≤ 1000000000) (hl:l.length ≤ 1000000000) (hS:Kd.C Kd.string w Ac chars.length chars) (hlc:chars.length ≤ 1000000000) (hP:Kd.C YZ w Ap pairs.length pairs) (hlp:pairs.length ≤ 1000000000) (h1:(l.any fun x=>!qK x) = false) (h2:jl l.length f s = false) (h3:chars.length ≤ 2000) (h3':pairs.length ≤ 100) (h4:chars.any wT = false) (h5:pairs.any QJ = false) :
  Calls Tryz.prog 13 #[.slice Af l.length cf,.agg #[.int .i64 f,.int .i64 s,.bool yV,.bool zu],.slice Ac chars.length cc,.slice Ap pairs.length cp] w fun e w'=>∃ v0 v1,e = .returned (.tuple #[v0,v1,.int .i64 0]) ∧ Kd.S xS 53 w' w.heap.size (fun _=>True) v0 (jy l f s zu (Yq l f yV chars pairs)).1 ∧ Kd.R Kd.string 9 w' w.heap.size (fun _=>True) v1 (jy l f s zu (Yq l f yV chars pairs)).2 ∧ Below w.heap.size w w':=by
 have hps:∀ p ∈ pairs,p.f0.size ≤ maxLen ∧ p.f1.size ≤ maxLen:=fun p hp=>by
  have h:=List.any_eq_false.1 h5 p hp
  simp only [QJ,Bool.or_eq_true,not_or,Bool.not_eq_true] at h
  have a1:=QL h.1
  have a2:=QL h.2
  unfold maxLen
  omega
 have d1:decide (f < 0) = false:=by cases h:decide (f < 0) with | false=>rfl | true=>(unfold jl at h2;rw [h,Bool.true_or] at h2;cases h2)
 have d2:decide ((l.length:Int) ≤ f) = false:=by cases h:decide ((l.length:Int) ≤ f) with | false=>rfl | true=>(unfold jl at h2;rw [h,Bool.true_or,Bool.or_true] at h2;cases h2)
 have d3:decide (s < 1) = false:=by cases h:decide (s < 1) with | false=>rfl | true=>(unfold jl at h2;rw [h,Bool.true_or,Bool.or_true,Bool.or_true] at h2;cases h2)
 have d4:decide (1000 < s) = false:=by cases h:decide (1000 < s) with | false=>rfl | true=>(unfold jl at h2;rw [h,Bool.or_true,Bool.or_true,Bool.or_true] at h2;cases h2)
 have r1:=of_decide_eq_false d1
 have r2:=of_decide_eq_false d2
 have r3:=of_decide_eq_false d3
 have r4:=of_decide_eq_false d4
 clear h2
 have d5:decide ((2000:Int) < (chars.length:Int)) = false:=decide_eq_false (by omega)
 have d6:decide ((100:Int) < (pairs.length:Int)) = false:=decide_eq_false (by omega)
 have hF:=Kg Af cf l f s yV zu Ac cc chars Ap cp pairs w hG hC hz hl hS hlc hP hlp
 have hQ:=Kh Af cf l f s yV zu Ac cc chars Ap cp pairs w hG hC hz hl hS hlc hP hlp
 have hR:=Ki Af cf l f s yV zu Ac cc chars Ap cp pairs w hG hC hz hl hS hlc hP hlp (w.heap.size + 1)
 have hb0:Below w.heap.size w ((w.alloc (.cells #[.int .i64 f,.int .i64 s,.bool yV,.bool zu] 26)).alloc (.cells #[.func (.func 35) #[] #[]] 75)):=((Below.refl _ w).alloc (Nat.le_refl _) _).alloc (by simp) _
 have wJ:=yG (uN w (.cells #[.int .i64 f,.int .i64 s,.bool yV,.bool zu] 26)) (.cells #[.func (.func 35) #[] #[]] 75)
 have hbad:Boxed ((w.alloc (.cells #[.int .i64 f,.int .i64 s,.bool yV,.bool zu] 26)).alloc (.cells #[.func (.func 35) #[] #[]] 75)) (w.heap.size + 1) 75 (.func (.func 35) #[] #[]):=by
  have h:=Boxed.new (w.alloc (.cells #[.int .i64 f,.int .i64 s,.bool yV,.bool zu] 26)) 75 (.func (.func 35) #[] #[])
  rwa [World.size_alloc] at h
 rw [h1] at hF
 rw [h4] at hQ
 rw [h5] at hR
 have HT1:=zx.mk wJ
 have HD1:=zx.mk hbad
 have HB1:=zx.mk hb0
 have HF:=zx.mk hF
 have HQ:=zx.mk hQ
 have HR:=zx.mk hR
 have HP:=zx.mk hP
 have HG:=zx.mk hG
 have HC:=zx.mk hC
 have HS:=zx.mk hS
 clear wJ hbad hb0 hF hQ hR
 have hmm:=@run_makeMap Tryz.prog
 refine (callsIn_wide (n:=12)).1 ?_
 refine callsIn_of_wp_marks Tryz.func13 rfl trivial ?_ rfl
 simp only [Tryz.ntmps13,List.size_toArray,List.length_cons,List.length_nil,Nat.reduceAdd,Nat.reduceSub,Array.replicate_succ,Array.replicate_zero,List.push_toArray,List.append_toArray,List.nil_append,List.cons_append]
 refine wpIn_wide.2 ?_
 go_wp2_with fail
 refine (HF.out _ HB1.out).mono ?_;rintro e w2 ⟨rfl,hb2⟩
 have HT2:=zx.mk (zW HT1.out hb2)
 have HD2:=zx.mk (zW HD1.out hb2)
 have HB2:=zx.mk (HB1.out.trans (hb2.mono HB1.out.size))
 clear hb2
 have a2:w2.cell? ⟨w.heap.size,0,none⟩ = some (.int .i64 f):=(zK HT2.out 0).trans rfl
 have b2:w2.cell? ⟨w.heap.size,1,none⟩ = some (.int .i64 s):=(zK HT2.out 1).trans rfl
 have c2:w2.cell? ⟨w.heap.size + 1,0,none⟩ = some (.func (.func 35) #[] #[]):=(zK HD2.out 0).trans rfl
 go_wp2_with fail
 refine (HQ.out _ HB2.out).mono ?_;rintro e w3 ⟨rfl,hb3⟩
 have HT3:=zx.mk (zW HT2.out hb3)
 have HD3:=zx.mk (zW HD2.out hb3)
 have HB3:=zx.mk (HB2.out.trans (hb3.mono HB2.out.size))
 clear hb3
 have a3:w3.cell? ⟨w.heap.size,0,none⟩ = some (.int .i64 f):=(zK HT3.out 0).trans rfl
 have b3:w3.cell? ⟨w.heap.size,1,none⟩ = some (.int .i64 s):=(zK HT3.out 1).trans rfl
 have c3:w3.cell? ⟨w.heap.size + 1,0,none⟩ = some (.func (.func 35) #[] #[]):=(zK HD3.out 0).trans rfl
 go_wp2_with fail
 refine (HR.out _ HB3.out c3).mono ?_;rintro e w4 ⟨rfl,hb4⟩
 have HT4:=zx.mk (zW HT3.out hb4)
 have HD4:=zx.mk (zW HD3.out hb4)
 have UM:=zx.mk (HB3.out.trans (hb4.mono HB3.out.size))
 clear hb4
 have a4:w4.cell? ⟨w.heap.size,0,none⟩ = some (.int .i64 f):=(zK HT4.out 0).trans rfl
 have b4:w4.cell? ⟨w.heap.size,1,none⟩ = some (.int .i64 s):=(zK HT4.out 1).trans rfl
 have c4:w4.cell? ⟨w.heap.size + 1,0,none⟩ = some (.func (.func 35) #[] #[]):=(zK HD4.out 0).trans rfl
 clear a2 b2 c2 a3 b3 c3 c4
 go_wp2_with fail
 refine (callsIn_wide.1 (zvB Fence.wide 5 trivial rfl Ap pairs.length cp _)).mono ?_;rintro e w5 ⟨rfl,rfl⟩
 go_wp2_with fail
 obtain ⟨W0,hW0⟩:∃ W0,(((w4.alloc (.map #[] 0)).alloc (.cells #[.map (some w4.heap.size)] 82)).alloc (.cells #[.slice Ap pairs.length cp] 28)) = W0:=⟨_,rfl⟩
 have hz0:W0.heap.size = w4.heap.size + 1 + 1 + 1:=by rw [← hW0];simp
 have hm0:SMap Tryz.prog 9 9 W0 w4.heap.size 0 (fun _=>none):=by
  rw [← hW0]
  have h:=SMap.made (P:=Tryz.prog) (k:=9) (e:=9) w4
  exact (h.kept (World.grownBy_alloc _ _ none) (by simp)).kept (World.grownBy_alloc _ _ none) (by simp)
 have hc0:Boxed W0 (w4.heap.size + 1) 82 (.map (some w4.heap.size)):=by
  rw [← hW0]
  have h:=Boxed.new (w4.alloc (.map #[] 0)) 82 (.map (some w4.heap.size))
  rw [World.size_alloc] at h
  exact h.alloc _
 have hs0:Boxed W0 (w4.heap.size + 1 + 1) 28 (.slice Ap pairs.length cp):=by
  rw [← hW0]
  have h:=Boxed.new ((w4.alloc (.map #[] 0)).alloc (.cells #[.map (some w4.heap.size)] 82)) 28 (.slice Ap pairs.length cp)
  rw [World.size_alloc,World.size_alloc] at h
  exact h
 have oN:Below w4.heap.size w4 W0:=by rw [← hW0];exact (((Below.refl _ _).alloc (Nat.le_refl _) _).alloc (by simp) _).alloc (by simp;omega) _
 rw [hW0]
 clear hW0
 have hle:=UM.out.size
 have hlt1:w.heap.size + 1 < w4.heap.size:=vU HD4.out
 obtain ⟨zs,hzs⟩:∃ zs:List PS,zs.map (·.1) = pairs:=⟨pairs.attachWith _ hps,by simp⟩
 have hzl:zs.length = pairs.length:=by rw [← hzs,List.length_map]
 generalize hm:w4.heap.size = m at hz0 hm0 hc0 hs0 oN hle hlt1 ⊢
 have hCz:Kd.C YZ w Ap zs.length (zs.map (·.1)):=by rw [hzs,hzl];exact HP.out
 have hlz:zs.length ≤ 1000000000:=by omega
 have zKP:zs.length ≤ 100:=by omega
 have HZ:=zx.mk hzs
 rw [← hzl] at hs0
 clear hzl
 have hw0:Below w.heap.size w W0:=UM.out.trans (oN.mono hle)
 refine (wpIn_wide (n:=12)).1 ?_
 refine PV rfl (by omega) (gf:=104) (lb:=#[.pointer (some ⟨m + 1 + 1,0,none⟩)]) rfl trivial (enters_of Tryz.func104 (by kernel_rfl) rfl)
  (zxZ Fence.wide (12 - 1) trivial rfl (by omega) (m + 1 + 1) Ap cp zs hlz w W0 hCz hw0 hs0) (by omega) rX (zvA (by omega) (by omega)) (fun _=>rfl)
  (fun pre W=>VP m W0.heap.size w4 pre W) (fun _ _=>False) (zxe m _ w4 (by omega) (by omega)) (fun _ _ _ _ hs _ _=>hs) (zxf m _ w4 (by omega)) (fun _ _ _ hs=>hs) ⟨hm0,hc0,oN,Nat.le_refl _⟩
  (fun x a' W=>∃ gx,W0.heap.size ≤ gx ∧ W.heap[gx]? = some (.cells #[.string x.2.1.f0,.string x.2.1.f1] 80 (0,0)) ∧ a' = { tmps:=#[Value.slice Af l.length cf,Value.agg #[Value.int .i64 f,Value.int .i64 s,Value.bool yV,Value.bool zu],Value.slice Ac chars.length cc,Value.slice Ap pairs.length cp,undef,Value.pointer (some ⟨w.heap.size,0,none⟩),undef,undef,Value.slice none 0 0,Value.slice none 0 0,Value.int .i64 0,Value.pointer (some ⟨w.heap.size + 1,0,none⟩),Value.pointer (some ⟨m + 1,0,none⟩),undef,Value.pointer (some ⟨gx,0,none⟩),undef,undef,undef,undef,undef,undef,Value.bool false,Value.slice Af l.length cf,Value.bool false,Value.pointer (some ⟨w.heap.size,0,none⟩),Value.int .i64 f,Value.bool false,Value.bool false,Value.pointer (some ⟨w.heap.size,0,none⟩),Value.int .i64 f,Value.slice Af l.length cf,Value.int .i64 (l.length:Int),Value.bool false,Value.bool false,Value.bool false,Value.pointer (some ⟨w.heap.size,1,none⟩),Value.int .i64 s,Value.bool false,Value.bool false,Value.bool false,Value.pointer (some ⟨w.heap.size,1,none⟩),Value.int .i64 s,Value.bool false,Value.bool false,Value.slice Ac chars.length cc,Value.int .i64 (chars.length:Int),Value.bool false,Value.bool false,Value.slice Ap pairs.length cp,Value.int .i64 (pairs.length:Int),Value.bool false,Value.bool false,Value.slice Ac chars.length cc,Value.func (.func 35) #[] #[],Value.bool false,Value.slice Ap pairs.length cp,Value.func (.func 42) #[] #[Value.pointer (some ⟨w.heap.size + 1,0,none⟩)],Value.bool false,Value.map (some m),Value.slice Ap pairs.length cp,Value.func (.func 104) #[] #[Value.pointer (some ⟨m + 1 + 1,0,none⟩)],Value.int .i64 (x.1:Int),Value.agg #[.string x.2.1.f0,.string x.2.1.f1],undef,undef,undef,undef,undef,undef,undef,undef,undef,undef,undef,undef,undef,undef,undef,undef,undef,undef,undef,undef,undef,undef,undef,undef,undef,undef,undef,undef,undef,undef,undef,undef,undef,undef,undef,undef,undef,undef,undef,undef,undef,undef,undef,undef,undef,undef,undef,undef,undef,undef,undef,undef,undef,undef,undef,undef,undef,undef,undef,undef,undef,undef,undef,undef],defers:=[] })
  (fun x a'=>by rintro _ A B row ⟨gx,h1,h2,h3⟩ hg hr;exact ⟨gx,h1,zvs h2 hg (fun r e=>(hr r e).2),h3⟩) ?assign ?body ?done ?stop
 case assign =>
  intro l_ pre x W K hi hK
  unfold Pf
  gi_wp2
  refine hK _ _ ((KeepsOthers.alloc W _).from _) ⟨(Below.refl _ _).alloc (by have:=hi.2.2.2;omega) _,(Below.heap_alloc _ _ _ (by have:=hi.2.2.2;omega))⟩ (oM hi _) ⟨W.heap.size,hi.2.2.2,uN W _,rfl⟩
 case body =>
  rintro l_ pre x a' W hl_ ⟨r,hrec⟩ hI ⟨gx,hgx,hbx,rfl⟩ hlen
  have q0:W.cell? ⟨gx,0,none⟩ = some (.string x.2.1.f0):=(zK hbx 0).trans rfl
  have q1:W.cell? ⟨gx,1,none⟩ = some (.string x.2.1.f1):=(zK hbx 1).trans rfl
  have q2:W.cell? ⟨m + 1,0,none⟩ = some (.map (some m)):=hI.2.1.cell
  obtain ⟨w',hrun,hm',hg'⟩:=hI.1.put (t:=82) Tryz.underlying9 Tryz.underlying82 Tryz.underlying9 (by unfold maxLen;omega) x.2.1.f0 x.2.1.f1 x.2.2.1 x.2.2.2
  have HI:=Lib.hid hI
  have HM:=Lib.hid hm'
  have HG':=Lib.hid hg'
  clear hI hm' hg' hrec hbx
  gi_wp2
  have hsz:=HI.out.2.2.2
  exact ⟨KeepsFrom.of_grownBy HG'.out (fun j e=>by cases e;omega),⟨below_grown HG'.out (by omega) (by omega),HG'.out.block _ (by omega) (fun e=>by injection e;omega)⟩,zxg HI.out HM.out HG'.out⟩
 case stop =>
  rintro D pre W hD hS hX hK
  exact hX.elim
 case done =>
  rintro D ys W hD rfl hI hK
  obtain ⟨iM,iC,iW,iS⟩:=hI
  have iW4:Below w4.heap.size w4 W:=by rw [hm];exact iW
  have hT:=zW HT4.out iW4
  have hwW:Below w.heap.size w W:=UM.out.trans (iW4.mono UM.out.size)
  have y0:W.cell? ⟨w.heap.size,0,none⟩ = some (.int .i64 f):=(zK hT 0).trans rfl
  have y1:W.cell? ⟨w.heap.size,1,none⟩ = some (.int .i64 s):=(zK hT 1).trans rfl
  have y2:W.cell? ⟨w.heap.size,2,none⟩ = some (.bool yV):=(zK hT 2).trans rfl
  have y3:W.cell? ⟨w.heap.size,3,none⟩ = some (.bool zu):=(zK hT 3).trans rfl
  go_upto_block 3 with (fail)
  clear y0 y1 y2 y3
  have hDl:=(Array.getElem?_eq_some_iff.1 hK).1
  obtain ⟨g,hg⟩:∃ g,W.heap.size = g:=⟨_,rfl⟩
  obtain ⟨W9,hW9⟩:∃ W9,W.alloc (.cells #[.slice Af l.length cf,.int .i64 f,.int .i64 s,.bool yV,.bool zu,.slice none 0 0,.slice none 0 0] 90) = W9:=⟨_,rfl⟩
  have S9:Yn (g + 1) g W9 Af cf l f s yV zu ([],[]):=by
   rw [← hW9,← hg]
   exact ⟨_,_,uN W _,Kd.jM _ _ _ _ _,Kd.jM _ _ _ _ _⟩
  have hz9:W9.heap.size = g + 1:=by rw [← hW9,← hg];simp
  have b9:Below g W W9:=by rw [← hW9,← hg];exact (Below.refl _ _).alloc (Nat.le_refl _) _
  try rw [hW9]
  try rw [hg]
  have hgm:m + 1 < g:=by omega
  have hDg:D < g:=by omega
  have T9:W9.heap[w.heap.size]? = some (.cells #[.int .i64 f,.int .i64 s,.bool yV,.bool zu] 26 (0,0)):=(b9.block _ (by omega)).trans hT
  have M9:=Kl (b9.block m (by omega)) iM
  have C9:Boxed W9 (m + 1) 82 (.map (some m)):=(b9.block _ (by omega)).trans iC
  have K9:W9.heap[D]? = some (.deferred (some [])):=(b9.block _ (by omega)).trans hK
  have hw9:Below w.heap.size w W9:=hwW.trans (b9.mono (by omega))
  have hbl:kT zs zs.length = kT zs zs.length:=rfl
  generalize hFm:QH (kT zs zs.length) = Fm at M9
  generalize (kT zs zs.length).length = nm at M9
  have hturn:∀ c,ZE Fm c = nU pairs c:=fun c=>by
   rw [← hFm]
   unfold ZE nU
   rw [zxy,HZ.out]
   cases pairs.find? (fun p=>decide (p.f0 = c)) <;> rfl
  obtain ⟨A,hA⟩:∃ A,chars.map (ZE Fm) = A:=⟨_,rfl⟩
  have hAl:A.length = chars.length:=by rw [← hA,List.length_map]
  have hAg:∀ (i:Nat) (h:i < A.length) (h':i < chars.length),A[i] = ZE Fm chars[i]:=fun i h h'=>by subst hA;simp
  have hfin:(pX (fjoin (qY l f)) yV A 0).foldl (jC l f s zu) ([],[]) = jy l f s zu (Yq l f yV chars pairs):=by
   unfold jy Yq pX
   rw [List.drop_zero,← hA,show ZE Fm = nU pairs from funext hturn]
  generalize zk0:jy l f s zu (Yq l f yV chars pairs) = FIN at hfin
  have hcs:∀ c ∈ chars,c.size ≤ maxLen:=fun c hc=>by
   have h:=List.any_eq_false.1 h4 c hc
   simp only [Bool.not_eq_true] at h
   have:=QL h
   unfold maxLen
   omega
  have hv:∀ x ∈ l,qK x = true:=fun x hx=>by
   have h:=List.any_eq_false.1 h1 x hx
   simpa using h
  have hf0:0 ≤ f:=by omega
  have hf1:f < (l.length:Int):=by omega
  have zZN:1 ≤ s:=by omega
  have zZO:s ≤ 1000:=by omega
  have hx:=wX hv hf0 hf1
  have hzx:=ZJ hx
  obtain ⟨ad,A3,c3,A4,c4,A5,c5,e,x0,x1,x2,x3,x4,x5,g3,q3,g4,q4,g5,q5⟩:=XO HC.out f hf0 (by omega)
  subst e
  have e:vG l f = qY l f:=rfl
  rw [e] at x0 x1 x2 x3 x4 x5 g3 q3 g4 q4 g5 q5
  clear e
  generalize qY l f = x at x0 x1 x2 x3 x4 x5 g3 q3 g4 q4 g5 q5 hx hzx hfin
  have HJN:=zx.mk (fun (a b:ByteArray) (V:World) (h:Below w.heap.size w V)=>zxj x.f0 x.f1 x.f2 A3 c3 x.f3 A4 c4 x.f4 A5 c5 x.f5 a b V (HG.out.under h) (Kd.zH q3 h) g3 (Kd.zH q4 h) g4 (Kd.zH q5 h) g5 (by omega) (by omega) (by omega))
  have HFT:=zx.mk (fun (V:World) (h:Below w.heap.size w V)=>(show V.cell? (ad.add (f.toNat * 6)) = some (.string x.f0) ∧ V.cell? ⟨(ad.add (f.toNat * 6)).block,(ad.add (f.toNat * 6)).off + 1,none⟩ = some (.bool x.f1) ∧ V.cell? ⟨(ad.add (f.toNat * 6)).block,(ad.add (f.toNat * 6)).off + 2,none⟩ = some (.int .i64 x.f2) ∧ V.cell? ⟨(ad.add (f.toNat * 6)).block,(ad.add (f.toNat * 6)).off + 3,none⟩ = some (.slice A3 x.f3.length c3) ∧ V.cell? ⟨(ad.add (f.toNat * 6)).block,(ad.add (f.toNat * 6)).off + 4,none⟩ = some (.slice A4 x.f4.length c4) ∧ V.cell? ⟨(ad.add (f.toNat * 6)).block,(ad.add (f.toNat * 6)).off + 5,none⟩ = some (.slice A5 x.f5.length c5) from ⟨(h.cell (World.block_lt_of_cell? w _ x0)).trans x0,(h.cell (World.block_lt_of_cell? w _ x1)).trans x1,(h.cell (World.block_lt_of_cell? w _ x2)).trans x2,(h.cell (World.block_lt_of_cell? w _ x3)).trans x3,(h.cell (World.block_lt_of_cell? w _ x4)).trans x4,(h.cell (World.block_lt_of_cell? w _ x5)).trans x5⟩))
  have zZP:=zx.mk (fun (st:List vH × List ByteArray) (n:ByteArray) (V:World) (h2:g + 1 ≤ V.heap.size) (h3:Below w.heap.size w V) (h4:st.1.length ≤ 1000000) (h5:st.2.length ≤ 1000000) (h6:Yn (g + 1) g V (some ad) cf l f s yV zu st)=>zvC w (g + 1) g (some ad) cf l f s yV zu st n V HG.out HC.out hl hf0 hf1 hv (Nat.lt_succ_self _) h2 (by omega) h3 h4 h5 zZN zZO h6)
  have HT9:=zx.mk T9
  have HM9:=zx.mk M9
  have HC9:=zx.mk C9
  have HK9:=zx.mk K9
  have bI:=zx.mk hw9
  have HAG:=zx.mk hAg
  have HCS:=zx.mk hcs
  have zk1:=zx.mk zk0
  have HFI:=zx.mk hfin
  have Y8:=zx.mk S9
  clear hT iM iC iW iS iW4 hwW T9 M9 C9 K9 hw9 S9 x0 x1 x2 x3 x4 x5 q3 q4 q5 g3 g4 g5 hx hzx hcs hAg hA hturn hFm hfin zk0 hv hK b9 hW9 hbl hm0 hc0 hs0 hCz hw0 oN h1 h4 h5 hps hzs hm
  go_wp2_with fail
  go_loopw [17] (fun i V=>∃ (k:Nat) (st:List vH × List ByteArray),i = .int .i64 (k:Int) ∧ k ≤ chars.length ∧ st.1.length ≤ 2 * k ∧ st.2.length ≤ k ∧ zx ((pX (fjoin x) yV A k).foldl (jC l f s zu) st = FIN) ∧ zx (Yn (g + 1) g V (some ad) cf l f s yV zu st) ∧ zx (vk (g + 1) g W9 V)) (fun i _=>chars.length - (intOf i).toNat)
  case atStart=>exact ⟨0,([],[]),rfl,Nat.zero_le _,Nat.le_refl _,Nat.le_refl _,HFI,Y8,⟨vk.refl _ _ _⟩⟩
  case round =>
   obtain ⟨k,st,rfl,hk,zKR,zKS,Uo,HS2,HL2⟩:=hrel
   obtain ⟨W2,hW2⟩:∃ W2:World,W2 = wr:=⟨_,rfl⟩
   subst hW2
   have hwr:Below w.heap.size w W2:=bI.out.trans (Vh HL2.out (by omega) (by omega))
   have hbr:g + 1 ≤ W2.heap.size:=by have:=HL2.out.1.size;omega
   by_cases hlt:k < chars.length
   ·obtain ⟨cd,e,c0⟩:=Kd.YA (Kd.zH HS.out hwr) (k:Int) (by omega) (by omega)
    subst e
    have e:ZI ByteArray.empty chars (k:Int) = chars[k]:=by simp [ZI,List.getD_eq_getElem?_getD,hlt]
    rw [e,Int.toNat_natCast] at c0
    have hcs:=HCS.out _ (List.getElem_mem hlt)
    have hak:=HAG.out k (by omega) hlt
    generalize chars[k] = ch at c0 hcs hak
    have hcell:Boxed W2 (m + 1) 82 (.map (some m)):=(HL2.out.2.2 _ (by omega) (by omega)).trans HC9.out
    have hmap:=Kl (HL2.out.2.2 m (by omega) (by omega)) HM9.out
    have htn:=UH (m + 1) m nm Fm ch W2 hcs hcell.cell hmap
    have wJ:=(HL2.out.2.2 w.heap.size (by omega) (by omega)).trans HT9.out
    have q1:(k:Int) < (chars.length:Int):=by omega
    have q0:(0:Int) ≤ (k:Int):=by omega
    have q3:((k:Int)).toNat = k:=Int.toNat_natCast k
    have HTN:=zx.mk htn
    have bL:=zx.mk hwr
    have WB:=zx.mk hak
    have HMP:=zx.mk hmap
    have HCL:=zx.mk hcell
    have HSY:=zx.mk wJ
    clear htn hwr hak hmap hcell wJ hcs e
    go_upto_block 5 with (refine HTN.out.mono ?_;rintro e w8 ⟨rfl,rfl⟩)
    clear c0
    go_cut [17,18] from 73 to 118 (fun i c V=>∃ (j:Nat) (cn:ByteArray),i = .int .i64 (j:Int) ∧ c = .string cn ∧ k ≤ j ∧ j < chars.length ∧ zx (pX (fjoin x) yV A k = cn :: pX (fjoin x) yV A (j + 1)) ∧ zx (Below W2.heap.size W2 V))
    case first =>
     go_wp2_with fail
     go_loopw [17,18] (fun i c V=>∃ (j:Nat) (cn:ByteArray),i = .int .i64 (j:Int) ∧ c = .string cn ∧ k ≤ j ∧ j < chars.length ∧ zx (yV = true → ∃ h:k < A.length,Yz (fjoin x) A[k] (A.drop (k + 1)) = Yz (fjoin x) cn (A.drop (j + 1))) ∧ zx (yV = false → j = k ∧ ∃ h:k < A.length,A[k] = cn) ∧ zx (Below W2.heap.size W2 V)) (fun i _ _=>chars.length - (intOf i).toNat)
     case atStart=>exact ⟨k,ZE Fm ch,rfl,rfl,Nat.le_refl _,hlt,⟨fun _=>⟨by omega,by rw [WB.out]⟩⟩,⟨fun _=>⟨rfl,by omega,WB.out⟩⟩,⟨Below.refl _ _⟩⟩
     case round =>
      obtain ⟨j,cn,rfl,rfl,hkj,hj,HE,HN,HB3⟩:=hrel
      obtain ⟨W3,hW3⟩:∃ W3:World,W3 = wr:=⟨_,rfl⟩
      subst hW3
      have oO:=zW HSY.out HB3.out
      have z2:W3.cell? ⟨w.heap.size,2,none⟩ = some (.bool yV):=(zK oO 2).trans rfl
      have zKT:=hAl
      cases yV with
      | false =>
       obtain ⟨rfl,hka,hc⟩:=HN.out rfl
       have XU:=zx.mk (show pX (fjoin x) false A j = cn :: pX (fjoin x) false A (j + 1) by rw [ny _ A j hka,hc])
       clear hc
       go_wp2_with fail
       go_meet
       exact ⟨j,cn,rfl,rfl,Nat.le_refl _,hj,XU,HB3⟩
      | true =>
      obtain ⟨hka,hea⟩:=HE.out rfl
      by_cases hj1:j + 1 < chars.length
      ·have hjA:j + 1 < A.length:=by omega
       have hw3:Below w.heap.size w W3:=bL.out.trans (HB3.out.mono bL.out.size)
       obtain ⟨cd',e,c0⟩:=Kd.YA (Kd.zH HS.out hw3) (((j + 1:Nat):Int)) (by omega) (by omega)
       cases e
       have e:ZI ByteArray.empty chars ((j + 1:Nat):Int) = chars[j + 1]:=by simp [ZI,List.getD_eq_getElem?_getD,hj1]
       rw [e,Int.toNat_natCast,show cd.add (j + 1) = ⟨cd.block,cd.off + (j + 1),none⟩ from by simp [Addr.add]] at c0
       have hcs2:=HCS.out _ (List.getElem_mem hj1)
       have zxi:=HAG.out (j + 1) hjA hj1
       generalize chars[j + 1] = WC at c0 hcs2 zxi
       have zZR:=zx.mk (fun (V:World) (h:Below W3.heap.size W3 V)=>UH (m + 1) m nm Fm WC V hcs2 (zW (zW HCL.out HB3.out) h |> Boxed.cell) (Kl (((HB3.out.trans (h.mono HB3.out.size)).block m (by have:=HMP.out.lt;omega))) HMP.out))
       have r1:(j:Int) + 1 < (chars.length:Int):=by omega
       have r0:(0:Int) ≤ (j:Int) + 1:=by omega
       have r4:decide ((j:Int) + 1 < (chars.length:Int)) = true:=decide_eq_true r1
       have HJ:=zx.mk hj
       have HJ1:=zx.mk hj1
       have HJA:=zx.mk hjA
       have z0:W3.cell? ⟨w.heap.size,0,none⟩ = some (.int .i64 f):=(zK oO 0).trans rfl
       have HC0:=zx.mk c0
       have HZ0:=zx.mk z0
       have HW3:=zx.mk hw3
       have HEA:=zx.mk hea
       have zZS:=zx.mk zxi
       have HHK:=zx.mk hka
       clear oO z0 c0 hw3 hea zxi hcs2 e hj hj1
       go_wp2_with fail
       clear z2 r4
       have r5:wrap64 ((j:Int) + 1) = (j:Int) + 1:=ji (by omega) (by omega)
       have Qn:=zx.mk (fun (V:World) (h:Below W3.heap.size W3 V)=>(show V.cell? ⟨w.heap.size,0,none⟩ = some (.int .i64 f) ∧ V.cell? ⟨cd.block,cd.off + (j + 1),none⟩ = some (.string WC) ∧ (V.cell? (ad.add (f.toNat * 6)) = some (.string x.f0) ∧ V.cell? ⟨(ad.add (f.toNat * 6)).block,(ad.add (f.toNat * 6)).off + 1,none⟩ = some (.bool x.f1) ∧ V.cell? ⟨(ad.add (f.toNat * 6)).block,(ad.add (f.toNat * 6)).off + 2,none⟩ = some (.int .i64 x.f2) ∧ V.cell? ⟨(ad.add (f.toNat * 6)).block,(ad.add (f.toNat * 6)).off + 3,none⟩ = some (.slice A3 x.f3.length c3) ∧ V.cell? ⟨(ad.add (f.toNat * 6)).block,(ad.add (f.toNat * 6)).off + 4,none⟩ = some (.slice A4 x.f4.length c4) ∧ V.cell? ⟨(ad.add (f.toNat * 6)).block,(ad.add (f.toNat * 6)).off + 5,none⟩ = some (.slice A5 x.f5.length c5)) from
        ⟨(h.cell (World.block_lt_of_cell? _ _ HZ0.out)).trans HZ0.out,(h.cell (World.block_lt_of_cell? _ _ HC0.out)).trans HC0.out,HFT.out V (HW3.out.trans (h.mono HW3.out.size))⟩))
       refine rJ ?_
       refine RW.rS (n:=19) Qn boxes.zy9 boxes.zkT (by kernel_rfl) rfl rfl (fun w5 H5 T U h=>?_)
       refine RW.rP 0 (some 95) T ?_
       refine RW.rP 1 (some 96) T ?_
       refine RW.rT 2 (some 97) T U h ?_
       refine RW.rP 3 (some 98) T ?_
       refine RW.rT 4 (some 99) T U h ?_
       refine RW.rP 5 (some 100) T ?_
       refine RW.rP 6 (some 101) T ?_
       refine RW.rP 7 (some 102) T ?_
       refine RW.rP 8 (some 103) T ?_
       refine RW.rP 9 (some 104) T ?_
       refine RW.rP 10 (some 105) T ?_
       refine RW.rT 11 (some 106) T U h ?_
       clear h
       refine Z5 (i:=12) (N:=some 107) #[true,true,true,true,true,true,true,true,true,true,true,true,true,false,false,false,false,false,false] rfl rfl (jX T.out (by kernel_rfl)) (by decide) (fun K hK=>?_)
       refine call_ 44 #[.string WC,.pointer (some ⟨m + 1,0,none⟩)] (by rfl) rfl (by have he:=kF Tryz.func44 (by kernel_rfl) rfl #[.string WC,.pointer (some ⟨m + 1,0,none⟩)] w5;go_simp) ?_
       refine (zZR.out w5 H5.out).mono ?_
       rintro e w6 ⟨rfl,rfl⟩
       refine ⟨_,rfl,?_⟩
       refine hK.out _ _ (Qn.out _ H5.out) (fun h=>?_)
       clear hK K h
       refine Z6 (a':=?_) ?_ ?_
       rotate_left
       ·show Act.put _ (some 107) _ = _
        simp only [Act.put,List.setIfInBounds_toArray,List.set_cons_zero,List.set_cons_succ]
        rfl
       have hjn:=HJN.out cn (ZE Fm WC) w5 (HW3.out.trans (H5.out.mono HW3.out.size))
       have hjv:Vy (xk x.f0 x.f2 x.f3 x.f4 x.f5) x.f4 cn (ZE Fm WC) = fjoin x cn (ZE Fm WC):=rfl
       rw [hjv] at hjn
       have hgo:=@zvD (fjoin x) A j cn hjA
       have hstop:=@zqQ (fjoin x) A j cn hjA
       rw [zZS.out] at hgo hstop
       generalize fjoin x cn (ZE Fm WC) = jv at hjn hgo hstop
       obtain ⟨j1,j2⟩:=jv
       dsimp only at hgo hstop
       have HGO:=zx.mk hgo
       have HST:=zx.mk hstop
       clear hjv hgo hstop
       refine RW.rC 13 (some 108) T Qn H5 Tryz.func45 hjn (fun w7 H7 h=>?_) (by kernel_rfl)
       refine RW.rP 14 (some 94) T ?_
       refine RW.rP 15 (some 109) T ?_
       refine RW.rP 16 (some 110) T ?_
       refine RW.rP 17 (some 19) T ?_
       refine RW.rP 18 (some 20) T ?_
       refine xD (qb T.out (by kernel_rfl)) ?_
       clear h hjn r5
       have HB7:=zx.mk (HB3.out.trans (H7.out.mono HB3.out.size))
       cases j2 with
       | false =>
        have XU:=zx.mk (UL (fjoin x) A k j cn HHK.out (HEA.out.trans (HST.out rfl)))
        go_wp2_with fail
        go_meet
        exact ⟨j,cn,rfl,rfl,hkj,HJ.out,XU,HB7⟩
       | true =>
        have XU:=zx.mk (HEA.out.trans (HGO.out rfl))
        go_wp2_with fail
        go_roundw
        case rel=>exact ⟨j + 1,j1,by first | rfl | go_num,rfl,by omega,HJ1.out,⟨fun _=>⟨HHK.out,XU.out⟩⟩,⟨fun h=>by cases h⟩,HB7⟩
        case measure=>(have:=HJ1.out;simp [intOf];omega)
      ·have XU:=zx.mk (UL (fjoin x) A k j cn hka (hea.trans (zxh _ A j cn (by omega))))
       have r4:decide ((j:Int) + 1 < (chars.length:Int)) = false:=decide_eq_false (by omega)
       have hjb:(j:Int) ≤ 1000000:=by omega
       have HJ:=zx.mk hj
       clear hea oO hj1 hj
       go_wp2_with fail
       go_meet
       exact ⟨j,cn,rfl,rfl,hkj,HJ.out,XU,HB3⟩
    case rest =>
     obtain ⟨j,cn,e1,e2,hkj,hj,XU,HB3⟩:=hcut
     subst e1 e2
     obtain ⟨vo_,vl_,bM⟩:=HS2.out
     have hput:=zZP.out st cn wc (Nat.le_trans hbr HB3.out.size) (bL.out.trans (HB3.out.mono bL.out.size)) (by omega) (by omega) ⟨vo_,vl_,bM.below HB3.out⟩
     have hlen:=bH l f s zu st cn
     have hfl:=Uo.out
     rw [XU.out,List.foldl_cons] at hfl
     generalize jC l f s zu st cn = st2 at hput hlen hfl
     have HFL:=zx.mk hfl
     have HLK:=zx.mk (HL2.out.trans (vk.below (B:=g) HB3.out hbr))
     clear hfl bM
     go_wp2_with fail
     refine hput.mono ?_;rintro e w8 ⟨⟨v,rfl⟩,hS8,hL8⟩
     have HS8:=zx.mk hS8
     have HL8:=zx.mk (HLK.out.trans hL8)
     clear hput hS8 hL8
     go_wp2_with fail
     go_roundw
     case rel=>exact ⟨j + 1,st2,by first | rfl | go_num,by omega,by omega,by omega,HFL,HS8,HL8⟩
     case measure=>simp [intOf];omega
   ·obtain rfl:k = chars.length:=by omega
    have hfe:st = FIN:=by
     have h:=Uo.out
     unfold pX at h
     rw [List.drop_eq_nil_of_le (by omega),XT] at h
     have h2:(if yV = true then ([]:List ByteArray) else []) = []:=by split <;> rfl
     rw [h2] at h
     exact h
    subst hfe
    obtain ⟨vo,vl,bM⟩:=HS2.out
    have t5:W2.cell? ⟨g,5,none⟩ = some vo:=(zK bM.1 5).trans rfl
    have t6:W2.cell? ⟨g,6,none⟩ = some vl:=(zK bM.1 6).trans rfl
    have HSA:=zx.mk bM
    have bL:=zx.mk hwr
    have q1:decide ((chars.length:Int) < (chars.length:Int)) = false:=decide_eq_false (by omega)
    clear bM hwr
    have Qn:=zx.mk (fun (V:World) (h:Below W2.heap.size W2 V)=>(show V.cell? ⟨g,5,none⟩ = some vo ∧ V.cell? ⟨g,6,none⟩ = some vl from ⟨(h.cell (World.block_lt_of_cell? _ _ t5)).trans t5,(h.cell (World.block_lt_of_cell? _ _ t6)).trans t6⟩))
    clear t5 t6
    go_wp2_with fail
    refine rJ ?_
    refine RW.rS (n:=11) Qn boxes.zwz boxes.zkU (by kernel_rfl) rfl rfl (fun w5 H5 T U h=>?_)
    refine RW.rP 0 (some 119) T ?_
    refine RW.rP 1 (some 120) T ?_
    refine RW.rP 2 (some 121) T ?_
    refine RW.rT 3 (some 122) T U h ?_
    refine RW.rP 4 (some 123) T ?_
    refine RW.rP 5 (some 124) T ?_
    refine RW.rP 6 (some 125) T ?_
    refine RW.rT 7 (some 126) T U h ?_
    refine RW.rP 8 (some 8) T ?_
    refine RW.rP 9 (some 9) T ?_
    refine RW.rP 10 (some 10) T ?_
    refine xD (qb T.out (by kernel_rfl)) ?_
    clear h
    have hK5:w5.heap[D]? = some (.deferred (some [])):=(H5.out.block D (by omega)).trans ((HL2.out.2.2 D (by omega) (by omega)).trans HK9.out)
    have S5:=HSA.out.below H5.out
    have QM:=bL.out.trans (H5.out.mono bL.out.size)
    clear Qn
    go_wp2_with fail
    refine ⟨by simp,.inl ⟨_,_,rfl,run_takeDeferred hK5,?_⟩⟩
    refine ⟨_,PK rfl rfl rfl,vo,vl,rfl,?_,?_,?_⟩
    ·rw [zk1.out]
     exact Kd.zzL (Kd.ql (rz S5.2.1 (grownBy_putObj' _ D (.deferred none)) (fun r er=>by cases er;exact ⟨_,hK5,rfl⟩)) (by omega))
    ·rw [zk1.out]
     exact Kd.ql (rz S5.2.2 (grownBy_putObj' _ D (.deferred none)) (fun r er=>by cases er;exact ⟨_,hK5,rfl⟩)) (by omega)
    ·exact QM.trans (belowK_b (w:=w) (Nat.le_refl _) _ D _ _ (by omega) hK5 rfl rfl)
end Go.Proofs.YtggifbbiiickmaaGreatDoor
namespace Go.Proofs.YtggifbbiiickmaaGreatDoor
open Go.RowKit Go.Proofs.zk.zm Go.Proofs.zk.yK Go.Proofs.zk.yc Go.Proofs.YtggifbbiiickmaaGreatDoor.PX
set_option linter.unusedSimpArgs false
set_option linter.unusedVariables false
def okF (x:yM):Bool:=decide (x.f3.length ≤ 1000000000 ∧ x.f4.length ≤ 1000000000 ∧ x.f5.length ≤ 1000000000)
def yR.f (l0:List kV) (xY xW:Int) (xB xC:Bool) (l2:List ByteArray) (l3:List uj):Option (List vJ × List ByteArray × Int) :=
 if l0.all okF = true ∧ l0.length ≤ 1000000000 ∧ l2.length ≤ 1000000000 ∧ l3.length ≤ 1000000000 then some (UE l0 xY xW xB xC l2 l3) else none
theorem yR.calls (A0:Option Addr) (c0:Nat) (l0:List kV) (xY xW:Int) (xB xC:Bool) (A2:Option Addr) (c2:Nat) (l2:List ByteArray) (A3:Option Addr) (c3:Nat) (l3:List uj) (r1:List vJ) (r2:List ByteArray) (r3:Int) (w:World) (hr0:Kd.C jh w A0 l0.length l0) (hc0:l0.length ≤ c0) (hr2:Kd.C Kd.string w A2 l2.length l2) (hc2:l2.length ≤ c2) (hr3:Kd.C YZ w A3 l3.length l3) (hc3:l3.length ≤ c3) (hG:GW w) (h:yR.f l0 xY xW xB xC l2 l3 = some (r1,r2,r3)) :
  Calls Tryz.prog 13 #[.slice A0 l0.length c0,.agg #[.int .i64 xY,.int .i64 xW,.bool xB,.bool xC],.slice A2 l2.length c2,.slice A3 l3.length c3] w fun e w'=>∃ XK v1_:Value,e = .returned (.tuple #[XK,v1_,.int .i64 r3]) ∧ Kd.S xS 53 w' w.heap.size (fun _=>True) XK r1 ∧ Kd.R Kd.string 9 w' w.heap.size (fun _=>True) v1_ r2 ∧ Below w.heap.size w w':=by
 unfold yR.f at h
 split at h
 ·rename_i hl
  have hz:∀ x ∈ l0,x.f3.length ≤ 1000000000 ∧ x.f4.length ≤ 1000000000 ∧ x.f5.length ≤ 1000000000:=fun x hx=>of_decide_eq_true (List.all_eq_true.1 hl.1 x hx)
  have he:=Option.some.inj h
  unfold UE at he
  cases hb:Ya l0 xY xW l2 l3 with
  | true =>
   rw [hb,if_pos rfl] at he
   cases he
   exact (zxd A0 c0 l0 xY xW xB xC A2 c2 l2 A3 c3 l3 w hG hr0 hz hl.2.1 hr2 hl.2.2.1 hr3 hl.2.2.2 hb).mono fun e w' ⟨h1,h2⟩=>⟨_,_,h1,Kd.UY _ _ _ _ _,Kd.jM _ _ _ _ _,h2⟩
  | false =>
   rw [hb,if_neg Bool.false_ne_true] at he
   cases he
   rw [QW] at hb
   simp only [Bool.or_eq_false_iff,decide_eq_false_iff_not,Nat.not_lt] at hb
   exact zqX A0 c0 l0 xY xW xB xC A2 c2 l2 A3 c3 l3 w hG hr0 hz hl.2.1 hr2 hl.2.2.1 hr3 hl.2.2.2 hb.1.1.1.1 hb.1.1.1.2 hb.1.1.2.1 hb.1.1.2.2 hb.1.2 hb.2
 ·cases h
end Go.Proofs.YtggifbbiiickmaaGreatDoor
namespace Go.Proofs
end Go.Proofs
namespace Go.Proofs.YtggifbbiiickmaaGreatDoor
open Go.RowKit Go.Shelf Go.Sort Go.Proofs.zk.zm Go.Proofs.zk.yc Go.Proofs.YtggifbbiiickmaaGreatDoor.PX
theorem zxl (x:yP):(jP x).length = 2:=rfl
theorem zxm (x:yP):∀ v ∈ jP x,v.oneCell' = true:=by
 intro v hv
 simp only [jP,List.mem_cons,List.mem_nil_iff,or_false] at hv
 rcases hv with rfl | rfl <;> rfl
theorem zk2 {w:World} {g:Nat} {cur:Array Value} {e:TypeId} {F:Array Value} (hb:w.heap[g]? = some (.cells cur e (0,0))) (ht:cur.toList.take F.size = F.toList):Holds id w g 0 F:=by
 intro j hj
 refine ⟨?_,by simp [World.frozen?,hb]⟩
 have h1:(cur.toList.take F.size)[j]? = F.toList[j]?:=by rw [ht]
 rw [List.getElem?_take_of_lt hj] at h1
 simp only [World.cell?,hb,Nat.zero_add]
 simp only [Option.isSome_none,Bool.false_eq_true,if_false]
 rw [← Array.getElem?_toList,h1]
 simp [hj]
theorem zwq {w:World} {g n:Nat} {os:Array Obj} {cur:Array Value} {e:TypeId} {fr:Nat × Nat} (d:Array Value) (hb:w.heap[g]? = some (.cells cur e fr)) :
  (Sort.grow (Sort.putRow id (Sort.ahead w n) g 0 d) os).heap[g]? = some (.cells (Sort.putCells id 0 d cur) e fr):=by
 have hg:g < w.heap.size:=(Array.getElem?_eq_some_iff.1 hb).1
 rw [heap_grow_old _ _ (by simpa using hg)]
 simp [Sort.putRow,Sort.mapBlock,Sort.ahead,Array.getElem?_modify,hb,Sort.onCells]
theorem zk3 {w:World} {g n:Nat} {os:Array Obj} (d:Array Value):w.grownBy (Sort.grow (Sort.putRow id (Sort.ahead w n) g 0 d) os) (some g):=by
 refine ⟨rfl,rfl,rfl,by simp,fun k hk hne=>?_⟩
 rw [heap_grow_old _ _ (by simpa using hk)]
 have:g ≠ k:=fun e=>hne (by rw [e])
 simp [Sort.putRow,Sort.mapBlock,Sort.ahead,Array.getElem?_modify,this]
theorem zwx (cur:Array Value) (F:Array Value) (h:F.size ≤ cur.size):(Sort.putCells id 0 F cur).toList.take F.size = F.toList:=by
 apply List.ext_getElem?
 intro j
 by_cases hj:j < F.size
 ·rw [List.getElem?_take_of_lt hj,Array.getElem?_toList]
  simp [Sort.putCells,hj,show j < cur.size by omega]
 ·rw [List.getElem?_take_eq_none (by omega),List.getElem?_eq_none (by simp;omega)]
theorem flat_get (xs:List yP) (j:Nat) (hj:j < xs.length):((flatK jP 2 xs.toArray).toList.drop (j * 2)).take 2 = jP xs[j]:=by
 have hsz:(flatK jP 2 xs.toArray).toList.length = xs.length * 2:=by simp
 have key:∀ t,t < xs.length * 2 → (flatK jP 2 xs.toArray).toList[t]? = some ((jP xs.toArray[t / 2]!)[t % 2]!):=by
  intro t ht
  have h:=get_flatK jP 2 xs.toArray t (by simpa using ht)
  rw [Array.getElem?_toList]
  rw [← h]
  simp [show t < xs.length * 2 by omega]
 apply List.ext_getElem?
 intro i
 rcases Nat.lt_or_ge i 2 with hi | hi
 ·rw [List.getElem?_take_of_lt hi,List.getElem?_drop,key _ (by omega)]
  have e1:(j * 2 + i) / 2 = j:=by omega
  have e2:(j * 2 + i) % 2 = i:=by omega
  rw [e1,e2]
  have e3:xs.toArray[j]! = xs[j]:=by simp [hj]
  rw [e3]
  rcases i with _ | _ | i
  ·rfl
  ·rfl
  ·omega
 ·rw [List.getElem?_take_eq_none hi,List.getElem?_eq_none (by simp [jP];omega)]
theorem oP {w:World} {b:Nat} {ok:Nat → Prop} {xs:List yP} {inner:List Value} (h:yU (xG.M w b ok) 2 xs inner):inner = (flatK jP 2 xs.toArray).toList:=by
 have hsz:(flatK jP 2 xs.toArray).toList.length = xs.length * 2:=by simp
 apply List.ext_getElem?
 intro t
 rcases Nat.lt_or_ge t (xs.length * 2) with ht | ht
 ·have hj:t / 2 < xs.length:=by omega
  have h1:=h.2 (t / 2) _ (List.getElem?_eq_getElem hj)
  have h2:(inner.drop (t / 2 * 2)).take 2 = jP xs[t / 2]:=oW h1
  have h3:=flat_get xs (t / 2) hj
  have h4:=h2.trans h3.symm
  have h5:=congrArg (fun l:List Value=>l[t % 2]?) h4
  simp only [List.getElem?_take_of_lt (show t % 2 < 2 by omega),List.getElem?_drop] at h5
  rw [show t / 2 * 2 + t % 2 = t by omega] at h5
  exact h5
 ·rw [List.getElem?_eq_none (by have:=h.1;omega),List.getElem?_eq_none (by omega)]
theorem zqJ (w:World) (b:Nat) (ok:Nat → Prop) (xs:List yP):yU (xG.M w b ok) 2 xs (flatK jP 2 xs.toArray).toList:=by
 refine ⟨by simp,fun j p hj=>?_⟩
 obtain ⟨hl,rfl⟩:=List.getElem?_eq_some_iff.1 hj
 rw [flat_get xs j hl]
 exact YJ _ _ _ _
set_option maxRecDepth 100000 in
theorem nZ (x y:yP) (w:World) :
  Calls Tryz.prog 111 #[.agg #[.string x.f0,.int .i64 x.f1],.agg #[.string y.f0,.int .i64 y.f1]] w fun e w'=>e = .returned (.int .i64 (xK x.f0 y.f0)) ∧ ∃ q os,w' = Sort.grow (w.drewN q) os:=by
 have hc:=xA.calls x.f0 y.f0 _ ((w.alloc (.cells #[.string x.f0,.int .i64 x.f1] 105)).alloc (.cells #[.string y.f0,.int .i64 y.f1] 105)) (ZR x.f0 y.f0)
 generalize xK x.f0 y.f0 = r at hc ⊢
 go_enter Tryz.func111,Tryz.ntmps111
 go_wp2_with (go_at_call 91;refine hc.mono ?_;rintro e w2 ⟨rfl,nd,rfl⟩)
 go_ret
 refine ⟨rfl,nd,#[.cells #[.string x.f0,.int .i64 x.f1] 105] ++ #[.cells #[.string y.f0,.int .i64 y.f1] 105],?_⟩
 rw [← Sort.grow_grow,Sort.alloc_eq_grow,Sort.alloc_eq_grow]
 rfl
theorem zvE (a b:ByteArray):decide (xK a b < 0) = Op.bytesLess a.toList b.toList:=by
 unfold xK
 cases h1:Op.bytesLess a.toList b.toList
 ·cases h2:Op.bytesLess b.toList a.toList <;> simp
 ·simp
theorem bN (x y:yP):ltOf (fun x y:yP=>xK x.f0 y.f0) x y = decide (x.f0.toList < y.f0.toList):=by
 show decide (xK x.f0 y.f0 < 0) = _
 rw [zvE,bytesLess_eq]
theorem zxn:SWO (ltOf (fun x y:yP=>xK x.f0 y.f0)) where
 irrefl x:=by rw [bN];simp [List.lt_irrefl]
 trans x y z h1 h2:=by
  rw [bN] at *
  simp only [decide_eq_true_eq] at *
  exact List.lt_trans h1 h2
 ntrans x y z h1 h2:=by
  rw [bN] at *
  simp only [decide_eq_false_iff_not,List.not_lt] at *
  exact List.le_trans h2 h1
theorem oU (xs ys:List yP) (d':Array yP) (hp:ys.Perm xs) (hs:ys.Pairwise fun a b=>xK a.f0 b.f0 < 0)
  (hP:PermIn 0 xs.toArray.size xs.toArray d') (hS:SortedIn (ltOf (fun x y:yP=>xK x.f0 y.f0)) 0 xs.toArray.size d'):d'.toList = ys:=by
 obtain ⟨hsz,_,hperm⟩:=hP
 have e1:d'.extract 0 xs.toArray.size = d':=by rw [← hsz];exact Array.extract_size
 rw [e1,Array.extract_size] at hperm
 refine List.Perm.eq_of_pairwise (le:=fun x y=>(!ltOf (fun x y:yP=>xK x.f0 y.f0) y x) = true) ?_ ?_ ?_ (hperm.trans hp.symm)
 ·intro a b ha hb h1 h2
  have ha':a ∈ ys:=(hperm.trans hp.symm).mem_iff.1 ha
  obtain ⟨i,hi,rfl⟩:=List.getElem_of_mem ha'
  obtain ⟨j,hj,rfl⟩:=List.getElem_of_mem hb
  simp only [Bool.not_eq_true',ltOf,decide_eq_false_iff_not] at h1 h2
  rcases Nat.lt_trichotomy i j with h | h | h
  ·exact absurd (List.pairwise_iff_getElem.1 hs i j hi hj h) h2
  ·subst h;rfl
  ·exact absurd (List.pairwise_iff_getElem.1 hs j i hj hi h) h1
 ·rw [List.pairwise_iff_getElem]
  intro i j hi hj hij
  have h:=hS i j (Nat.zero_le _) hij (by rw [← hsz];simpa using hj)
  have hi':i < d'.size:=by simpa using hi
  have hj':j < d'.size:=by simpa using hj
  rw [getElem!_pos d' i hi',getElem!_pos d' j hj'] at h
  simpa using h
 ·refine hs.imp ?_
  intro a b h
  have h1:ltOf (fun x y:yP=>xK x.f0 y.f0) a b = true:=decide_eq_true h
  cases h2:ltOf (fun x y:yP=>xK x.f0 y.f0) b a with
  | false=>rfl
  | true=>exact absurd (zxn.trans _ _ _ h1 h2) (by rw [zxn.irrefl];simp)
theorem zvF (w:World) (b0:Nat) (u:Value) (xs ys:List yP) (hR:Kd.R xG 105 w b0 (fun _=>True) u xs) (h0:0 < xs.length) (hl:xs.length ≤ 1000) (hp:ys.Perm xs) (hs:ys.Pairwise fun a b=>xK a.f0 b.f0 < 0) :
  Calls Tryz.prog 110 #[u,.func (.func 111) #[] #[]] w fun e w'=>e = .returned (.tuple #[]) ∧ Kd.R xG 105 w' b0 (fun _=>True) u ys ∧ w.grownBy w' u.ownBlock:=by
 obtain ⟨hok,inner,ho,hr⟩:=hR
 have hin:=oP hr
 subst hin
 rcases ho.2 with ⟨_,h⟩ | ⟨g,cap,cur,rfl,hbase,hb,h1,h2,h3,h4⟩
 ·omega
 have hg:g < w.heap.size:=(Array.getElem?_eq_some_iff.1 hb).1
 have hk2:xG.sz = 2:=rfl
 rw [hk2] at h3 h4
 have hH:HoldsK jP 2 w g 0 xs.toArray:=zk2 hb (by rw [size_flatK];exact h4)
 have hlen:=hp.length_eq
 refine (AnyQ.slices_SortFunc Tryz.sortG 2 (fun w=>by kernel_rfl) (fun w=>by kernel_rfl) jP zxl zxm (fun x y=>xK x.f0 y.f0) zxn 111 #[] g 0 cap xs.toArray w (Go.Proofs.zk.yK.kF Tryz.func111 (by kernel_rfl) rfl)
  (fun m os dk hdk x y=>nZ x y _) hH hg (by simp;omega)).mono fun e w' ⟨he,d',n,os,hP,hS,hw⟩=>?_
 have hd:=oU xs ys d' hp hs hP hS
 have hd':d' = ys.toArray:=by rw [← hd]
 subst hd'
 subst hw
 refine ⟨he,⟨fun _ _=>trivial,(flatK jP 2 ys.toArray).toList,⟨by rw [hk2];simp,.inr ⟨g,cap,_,by rw [hlen],hbase,zwq _ hb,by rw [hlen];exact h1,h2,by rw [hk2];simp [Sort.putCells,h3],?_⟩⟩,zqJ _ _ _ _⟩,?_⟩
 ·have:=zwx cur (flatK jP 2 ys.toArray) (by rw [size_flatK,h3];simp;omega)
  rw [size_flatK] at this
  rw [hk2]
  simpa using this
 ·exact zk3 (w:=w) (g:=g) (n:=n) (os:=os) (flatK jP 2 ys.toArray)
end Go.Proofs.YtggifbbiiickmaaGreatDoor
namespace Go.Proofs.YtggifbbiiickmaaGreatDoor.PX
open Go.RowKit
theorem rV:(Tryz.prog.info? 105).map (fun i=>(i.zero,i.size,i.bytes)) = some (some (.agg #[(.string ⟨#[]⟩),(.int .i64 0)]),2,24):=by kernel_rfl
end Go.Proofs.YtggifbbiiickmaaGreatDoor.PX
namespace Go.Proofs.YtggifbbiiickmaaGreatDoor
open Go.RowKit Go.Shelf Go.Proofs.zk.zm Go.Proofs.zk.yK Go.Proofs.zk.yc Go.Proofs.YtggifbbiiickmaaGreatDoor.PX
set_option linter.unusedSimpArgs false
theorem rY {w W w1:World} {r r':Option Nat} (h:w.grownBy W r) (g:W.grownBy w1 r') (hr:r' = r ∨ ∃ b,r' = some b ∧ w.heap.size ≤ b):w.grownBy w1 r:=by
 refine ⟨g.os.trans h.os,g.tape.trans h.tape,g.output.trans h.output,Nat.le_trans h.size g.size,fun k hk hne=>?_⟩
 refine (g.block k (Nat.lt_of_lt_of_le hk h.size) ?_).trans (h.block k hk hne)
 rcases hr with rfl | ⟨b,rfl,hb⟩
 ·exact hne
 ·intro e
  injection e with e
  omega
theorem Qa {w W w1:World} {r:Option Nat} (h:w.grownBy W r) (g:Below W.heap.size W w1):w.grownBy w1 r :=
 ⟨g.os.trans h.os,g.tape.trans h.tape,g.output.trans h.output,Nat.le_trans h.size g.size,fun k hk hne=>(g.block k (Nat.lt_of_lt_of_le hk h.size)).trans (h.block k hk hne)⟩
theorem wV {w W:World} {r:Option Nat} {g i:Nat} (h:w.grownBy W r) (hg:w.heap.size ≤ g) (v:Value):w.grownBy (W.setCell ⟨g,i,none⟩ v) r :=
 ⟨h.os,h.tape,h.output,by simpa using h.size,fun k hk hne=>(Below.heap_setCell W ⟨g,i,none⟩ v k (by show k ≠ g;omega)).trans (h.block k hk hne)⟩
theorem zvG {w W:World} {r:Option Nat} (h:w.grownBy W r):w.grownBy W.drew r:=Qa h ⟨rfl,rfl,rfl,Nat.le_refl _,fun _ _=>rfl⟩
theorem UN {α:Type} {d:Kd α} {e b0:Nat} {w wr w2:World} {ok:Nat → Prop} {u:Value} {xs:List α} (hB:Below b0 w wr) (hs:b0 ≤ wr.heap.size) (hR:d.R e wr b0 ok u xs) (hg:wr.grownBy w2 u.ownBlock):Below b0 w w2:=by
 refine hB.trans ⟨hg.os,hg.tape,hg.output,hg.size,fun k hk=>hg.block k (Nat.lt_of_lt_of_le hk hs) ?_⟩
 intro e
 obtain ⟨inner,ho⟩:=Kd.Qk hR
 have:=ZG ho k e.symm
 omega
def chr (c:Nat):ByteArray:=Utf8.encode (c:Int)
def kY (wd:Nat → Int) (c:Nat):List yP:=(List.range (c - 33)).map fun i=>⟨chr (33 + i),wd (33 + i)⟩
theorem zk4 (c:Nat):Utf8.encode (c:Int) = chr c:=rfl
attribute [irreducible] chr
theorem zqV (wd:Nat → Int) (c:Nat) (h:33 ≤ c):kY wd (c + 1) = kY wd c ++ [⟨chr c,wd c⟩]:=by
 obtain ⟨m,rfl⟩:∃ m,c = 33 + m:=⟨c - 33,by omega⟩
 unfold kY
 rw [show 33 + m + 1 - 33 = m + 1 by omega,show 33 + m - 33 = m by omega,List.range_succ,List.map_append]
 rfl
theorem VR (wd:Nat → Int) (c:Nat):(kY wd c).length = c - 33:=by simp [kY]
def made.T5:Bool × List (List Nat × List Nat):=(true,[([],[]),([0],[0]),([],[]),([2],[2]),([3],[3]),([],[]),([],[]),([5,6],[5,6]),([4,7],[4,7]),([8],[8]),([1,9,7],[1,9]),([0,1,2,3,4,5,6,7,8,9,10],[]),([11,10,10,0,1,2,3,4,5,6,7,8,9,10],[10,11])])
theorem made.QK:xJ .any (opsOf Tryz.f54 5) = made.T5:=by kernel_rfl
def zwj (name:ByteArray) (space:Int) (more:List yP) (wd:Nat → Int) (u0:Value) (b0:Nat) (w:World) (gr gf:Nat) (x:Value) (wr:World):Prop :=
 ∃ (c:Nat) (u:Value),x = .int .u8 (c:Int) ∧ 33 ≤ c ∧ c ≤ 127 ∧ Kd.R xG 105 wr b0 (fun _=>True) u (more ++ kY wd c) ∧
  wr.heap[gr]? = some (.cells #[.string (⟨#[]⟩:ByteArray),.bool false,.int .i64 0,.slice none 0 0,.slice none 0 0,.slice none 0 0] 60 (0,0)) ∧
  wr.heap[gf]? = some (.cells #[.string name,.bool false,.int .i64 space,u,.slice none 0 0,.slice none 0 0] 60 (0,0)) ∧
  Below b0 w wr ∧ w.grownBy wr u0.ownBlock ∧ (u.ownBlock = u0.ownBlock ∨ ∃ b,u.ownBlock = some b ∧ w.heap.size ≤ b)
set_option maxHeartbeats 8000000 in
set_option maxRecDepth 100000 in
theorem Qb (F:FuncId) (fn:Func) (hfn:Tryz.prog.funcs[F]? = some fn) (hname:(fn.name == "runtime.NumGoroutine") = false) (hbody:fn.body.isSome = true) (wd:Nat → Int)
  (hwd:∀ (c:Nat) (W:World),33 ≤ c → c ≤ 126 → Calls Tryz.prog F #[.int .u8 (c:Int)] W fun e w'=>e = .returned (.int .i64 (wd c)) ∧ Below W.heap.size W w')
  (name:ByteArray) (space:Int) (b0:Nat) (u0:Value) (more ys:List yP) (w:World) (hb0:b0 ≤ w.heap.size) (hR:Kd.R xG 105 w b0 (fun _=>True) u0 more) (hm:more.length ≤ 10)
  (hp:ys.Perm (more ++ kY wd 127)) (hs:ys.Pairwise fun a b=>xK a.f0 b.f0 < 0) :
  Calls Tryz.prog 54 #[.string name,.int .i64 space,.func (.func F) #[] #[],u0] w fun e w'=>∃ v,e = .returned (.agg #[.string name,.bool false,.int .i64 space,v,.slice none 0 0,.slice none 0 0]) ∧
   Kd.R xG 105 w' b0 (fun _=>True) v ys ∧ Below b0 w w' ∧ w.grownBy w' u0.ownBlock ∧ (v.ownBlock = u0.ownBlock ∨ ∃ b,v.ownBlock = some b ∧ w.heap.size ≤ b):=by
 have zxo:=Tryz.underlying60
 have HB:=zx.mk (Below.refl b0 w)
 have HG:=zx.mk (World.grownBy.refl w u0.ownBlock)
 have Qm:=zx.mk hR
 have HWD:=zx.mk hwd
 have HP:=zx.mk hp
 have HS:=zx.mk hs
 have zZT:=zx.mk (kF hfn hname hbody)
 clear hR hwd hp hs hfn hname hbody
 obtain ⟨A0,c0,e0⟩:=Kd.qD Qm.out
 subst e0
 go_enter Tryz.func54,Tryz.ntmps54
 go_wp2_with (first
  | ((with_reducible refine y9 (N:=8) rfl ?_);refine qQ ?hg (N:=8) ?hd (cs:=#[.string (⟨#[]⟩:ByteArray),.bool false,.int .i64 0,.slice none 0 0,.slice none 0 0,.slice none 0 0]) (t:=60) ?hr ?_;(case hd=>rfl);(case hg=>rfl);(case hr=>first | (go_simp;done) | (go_simp;rfl));intro gr hgr w2 BR hb2;have Kr:=zx.mk (Nat.le_of_eq hgr.symm);have zJ:=zx.mk (HB.out.trans (hb2.mono hb0));have za:=zx.mk (Qa HG.out hb2);clear HB HG;have HB:=zJ;have HG:=za;have HR1:=zx.mk (Kd.yO Qm.out hb2);have rW:=zx.mk BR;clear zJ za BR hb2 hgr)
  | ((with_reducible refine y9 (N:=9) rfl ?_);refine qQ ?hg (N:=9) ?hd (cs:=#[.string (⟨#[]⟩:ByteArray),.bool false,.int .i64 0,.slice none 0 0,.slice none 0 0,.slice none 0 0]) (t:=60) ?hr ?_;(case hd=>rfl);(case hg=>rfl);(case hr=>first | (go_simp;done) | (go_simp;rfl));intro gf hgf w3 BF hb3;have Kf:=zx.mk (Nat.le_trans HG.out.size (Nat.le_of_eq hgf.symm));have zJ:=zx.mk (HB.out.trans (hb3.mono (Nat.le_trans hb0 HG.out.size)));have za:=zx.mk (Qa HG.out hb3);have zh:=zx.mk (zW rW.out hb3);have zo:=zx.mk (Kd.yO HR1.out hb3);have bO:=zx.mk (show gr ≠ gf by rw [hgf];exact Nat.ne_of_lt (vU rW.out));clear HB HG rW HR1 Qm;have HB:=zJ;have HG:=za;have rW:=zh;have HR1:=zo;clear zJ za zh zo hgf hb3;have zk5:w3.cell? ⟨gf,0,none⟩ = some (.string (⟨#[]⟩:ByteArray)):=(zK BF 0).trans rfl;have zk6:w3.cell? ⟨gf,1,none⟩ = some (.bool false):=(zK BF 1).trans rfl;have zk7:w3.cell? ⟨gf,2,none⟩ = some (.int .i64 0):=(zK BF 2).trans rfl;have zk8:w3.cell? ⟨gf,3,none⟩ = some (.slice none 0 0):=(zK BF 3).trans rfl;have zk9:w3.cell? ⟨gf,4,none⟩ = some (.slice none 0 0):=(zK BF 4).trans rfl;have zyz:w3.cell? ⟨gf,5,none⟩ = some (.slice none 0 0):=(zK BF 5).trans rfl;have zKU:=zy BF 0;have zK0:=zy BF 1;have zK1:=zy BF 2;have zK2:=zy BF 3;have zK3:=zy BF 4;have zK4:=zy BF 5;have BFA:=zx.mk BF;clear BF))
 have bP:=zx.mk (Nat.le_trans hb0 Kf.out)
 go_loopw [10] (fun x wr=>zwj name space more wd (.slice A0 more.length c0) b0 w gr gf x wr) (fun x _=>127 - (intOf x).toNat)
 case atStart =>
  refine ⟨33,.slice A0 more.length c0,rfl,by omega,by omega,?_,?_,?_,?_,?_,Or.inl rfl⟩
  ·rw [show kY wd 33 = [] from rfl,List.append_nil]
   have h:=Kd.kE HR1.out BFA.out (by decide)
   exact Kd.vX (Kd.jr (p:=⟨gf,5,none⟩) (Kd.jr (p:=⟨gf,4,none⟩) (Kd.jr (p:=⟨gf,3,none⟩) (Kd.jr (p:=⟨gf,2,none⟩) (Kd.jr (p:=⟨gf,1,none⟩) (Kd.jr (p:=⟨gf,0,none⟩) h (fun _ hk=>hk.2) _) (fun _ hk=>hk.2) _) (fun _ hk=>hk.2) _) (fun _ hk=>hk.2) _) (fun _ hk=>hk.2) _) (fun _ hk=>hk.2) _) (fun _ _=>trivial)
  ·refine pI ?_ bO.out _
   refine pI ?_ bO.out _
   refine pI ?_ bO.out _
   refine pI ?_ bO.out _
   refine pI ?_ bO.out _
   refine pI ?_ bO.out _
   exact rW.out
  ·refine y8 (cs:=#[.string name,.bool false,.int .i64 space,.slice A0 more.length c0,.slice none 0 0,.slice none 0 0]) ?_ 5 _ rfl
   refine y8 (cs:=#[.string name,.bool false,.int .i64 space,.slice A0 more.length c0,.slice none 0 0,.slice none 0 0]) ?_ 4 _ rfl
   refine y8 (cs:=#[.string name,.bool false,.int .i64 space,.slice none 0 0,.slice none 0 0,.slice none 0 0]) ?_ 3 _ rfl
   refine y8 (cs:=#[.string name,.bool false,.int .i64 0,.slice none 0 0,.slice none 0 0,.slice none 0 0]) ?_ 2 _ rfl
   refine y8 (cs:=#[.string name,.bool false,.int .i64 0,.slice none 0 0,.slice none 0 0,.slice none 0 0]) ?_ 1 _ rfl
   refine y8 (cs:=#[.string (⟨#[]⟩:ByteArray),.bool false,.int .i64 0,.slice none 0 0,.slice none 0 0,.slice none 0 0]) ?_ 0 _ rfl
   exact BFA.out
  ·exact (((((HB.out.setCell bP.out _).setCell bP.out _).setCell bP.out _).setCell bP.out _).setCell bP.out _).setCell bP.out _
  ·exact wV (wV (wV (wV (wV (wV HG.out Kf.out _) Kf.out _) Kf.out _) Kf.out _) Kf.out _) Kf.out _
 case round =>
  obtain ⟨c,u,rfl,h33,h127,zyq,BR0,BF0,zyx,zyj,zyv⟩:=hrel
  have jN:=zx.mk zyq
  have BR:=zx.mk BR0
  have BF:=zx.mk BF0
  have kW:=zx.mk zyx
  have YQ:=zx.mk zyj
  have bR:=zx.mk zyv
  clear zyq BR0 BF0 zyx zyj zyv rW BFA HR1 HB HG
  by_cases hlt:c < 127
  ·have hw32:IntKind.i32.wrap (c:Int) = c:=by unfold IntKind.wrap;simp [IntKind.bits,IntKind.signed];omega
   have q1:decide ((c:Int) < 127) = true:=decide_eq_true (by omega)
   go_wp2
   have zJ:=zx.mk (Kd.uR jN.out)
   have za:=zx.mk (yQ BR.out)
   have zh:=zx.mk (yQ BF.out)
   have zo:=zx.mk (kW.out.drew)
   have z8:=zx.mk (zvG YQ.out)
   clear jN BR BF kW YQ
   have jN:=zJ
   have BR:=za
   have BF:=zh
   have kW:=zo
   have YQ:=z8
   clear zJ za zh zo z8
   refine uq (n:=13) (S:=fun w'=>w'.cell? ⟨gf,3,none⟩ = some u) (ds:=[12]) #[false,false,false,false,false,false,false,false,false,false,false,false,false] (by kernel_rfl) rfl rfl ((zK BF.out 3).trans rfl) (fun hHeld=>?_)
   refine Qw made.QK (fun zC=>?_)
   generalize wr.drew = w16 at jN BR BF kW YQ hHeld ⊢
   refine q9 (i:=0) (N:=some 19) (v:=?_) (a':=?_) #[true,false,false,false,false,false,false,false,false,false,false,false,false] rfl rfl (qE zC.out (by kernel_rfl)) (fun _ _ _ h=>h) (Or.inl ⟨by rfl,?_⟩) ?_ ?_
   rotate_left
   ·intro w'
    go_simp
    with_reducible rfl
   rotate_left
   ·simp only [Act.put,List.setIfInBounds_toArray,List.set_cons_zero,List.set_cons_succ]
    rfl
   refine q9 (i:=2) (N:=some 21) (v:=?_) (a':=?_) #[true,false,true,false,false,false,false,false,false,false,false,false,false] rfl rfl (qE zC.out (by kernel_rfl)) (fun _ _ _ h=>h) (Or.inl ⟨by rfl,?_⟩) ?_ ?_
   rotate_left
   ·intro w'
    go_simp
    with_reducible rfl
   rotate_left
   ·simp only [Act.put,List.setIfInBounds_toArray,List.set_cons_zero,List.set_cons_succ]
    rfl
   refine q9 (i:=3) (N:=some 22) (v:=?_) (a':=?_) #[true,false,true,true,false,false,false,false,false,false,false,false,false] rfl rfl (qE zC.out (by kernel_rfl)) (fun _ _ _ h=>h) (Or.inl ⟨by rfl,?_⟩) ?_ ?_
   rotate_left
   ·intro w'
    go_simp
    with_reducible rfl
   rotate_left
   ·simp only [Act.put,List.setIfInBounds_toArray,List.set_cons_zero,List.set_cons_succ,hw32]
    rfl
   refine q9 (i:=4) (N:=some 23) (v:=?_) (a':=?_) #[true,false,true,true,true,false,false,false,false,false,false,false,false] rfl rfl (qE zC.out (by kernel_rfl)) (fun _ _ _ h=>h) (Or.inl ⟨by rfl,?_⟩) ?_ ?_
   rotate_left
   ·intro w'
    go_simp
    with_reducible rfl
   rotate_left
   ·simp only [Act.put,List.setIfInBounds_toArray,List.set_cons_zero,List.set_cons_succ,zk4]
    rfl
   refine q9 (i:=5) (N:=some 24) (v:=?_) (a':=?_) #[true,false,true,true,true,true,false,false,false,false,false,false,false] rfl rfl (qE zC.out (by kernel_rfl)) (fun _ _ _ h=>h) (Or.inl ⟨by rfl,?_⟩) ?_ ?_
   rotate_left
   ·intro w'
    go_simp
    with_reducible rfl
   rotate_left
   ·simp only [Act.put,List.setIfInBounds_toArray,List.set_cons_zero,List.set_cons_succ]
    rfl
   refine q9 (i:=6) (N:=some 25) (v:=?_) (a':=?_) #[true,false,true,true,true,true,true,false,false,false,false,false,false] rfl rfl (qE zC.out (by kernel_rfl)) (fun _ _ _ h=>h) (Or.inl ⟨by rfl,?_⟩) ?_ ?_
   rotate_left
   ·intro w'
    go_simp
    with_reducible rfl
   rotate_left
   ·simp only [Act.put,List.setIfInBounds_toArray,List.set_cons_zero,List.set_cons_succ]
    rfl
   refine Z4 (i:=1) (N:=some 20) (v:=?_) (a':=?_) #[true,true,true,true,true,true,true,false,false,false,false,false,false] rfl rfl (Vv zC.out (by kernel_rfl)) (fun _ _ _ h=>h) (Or.inl ⟨by rfl,?_⟩) hHeld ?_ ?_
   rotate_left
   ·rintro w' s0
    go_simp
    with_reducible rfl
   rotate_left
   ·simp only [Act.put,List.setIfInBounds_toArray,List.set_cons_zero,List.set_cons_succ]
    rfl
   refine Z5 (i:=7) (N:=some 26) #[true,true,true,true,true,true,true,true,false,false,false,false,false] rfl rfl (jX zC.out (by kernel_rfl)) (by decide) (fun K hK=>?_)
   refine call_ F #[.int .u8 (c:Int)] (by rfl) rfl (by have he:=zZT.out #[.int .u8 (c:Int)] w16;go_simp) ?_
   refine (HWD.out c _ h33 (by omega)).mono ?_
   rintro e Vg ⟨rfl,hb⟩
   refine ⟨_,rfl,?_⟩
   have zJ:=zx.mk (Kd.yO jN.out hb)
   have za:=zx.mk (zW BR.out hb)
   have zh:=zx.mk (zW BF.out hb)
   have zo:=zx.mk (kW.out.trans (hb.mono (Nat.le_trans hb0 YQ.out.size)))
   have z8:=zx.mk (Qa YQ.out hb)
   clear jN BR BF kW YQ hHeld hb
   have jN:=zJ
   have BR:=za
   have BF:=zh
   have kW:=zo
   have YQ:=z8
   clear zJ za zh zo z8
   refine hK.out _ _ ((zK BF.out 3).trans rfl) (fun hHeld=>?_)
   clear hK K
   refine Z6 (a':=?_) ?_ ?_
   rotate_left
   ·show Act.put _ (some 26) _ = _
    simp only [Act.put,List.setIfInBounds_toArray,List.set_cons_zero,List.set_cons_succ]
    rfl
   refine q9 (i:=8) (N:=some 27) (v:=?_) (a':=?_) #[true,true,true,true,true,true,true,true,true,false,false,false,false] rfl rfl (qE zC.out (by kernel_rfl)) (fun _ _ _ h=>h) (Or.inl ⟨by rfl,?_⟩) ?_ ?_
   rotate_left
   ·intro w'
    go_simp
    with_reducible rfl
   rotate_left
   ·simp only [Act.put,List.setIfInBounds_toArray,List.set_cons_zero,List.set_cons_succ]
    rfl
   refine Z5 (i:=9) (N:=some 28) #[true,true,true,true,true,true,true,true,true,true,false,false,false] rfl rfl (jX zC.out (by kernel_rfl)) (by decide) (fun K hK=>?_)
   refine Pt (w1:=?_) (v:=?_) (by rfl) rfl ?_ ?_
   rotate_left 2
   ·go_simp
    constructor
    ·rfl
    ·rfl
   refine hK.out _ _ ((zK (yG BF.out _) 3).trans rfl) (fun hHeld=>?_)
   clear hK K
   refine Z6 (a':=?_) ?_ ?_
   rotate_left
   ·show Act.put _ (some 28) _ = _
    simp only [Act.put,List.setIfInBounds_toArray,List.set_cons_zero,List.set_cons_succ]
    rfl
   refine Z5 (i:=10) (N:=some 29) #[true,true,true,true,true,true,true,true,true,true,true,false,false] rfl rfl (jX zC.out (by kernel_rfl)) (by decide) (fun K hK=>?_)
   refine Kd.YG xG (w0:=w) b0 (by rfl) (.tmp 20) (.tmp 28) 56 105 (.agg #[(.string ⟨#[]⟩),(.int .i64 0)]) 24 rfl Tryz.underlying56 rV rfl (by decide) (by omega) u (more ++ kY wd c) (⟨chr c,wd c⟩:yP) [.string (chr c),.int .i64 (wd c)] (fun _=>True) (fun _=>False) rfl rfl ?aP (fun _ hk=>hk.elim) ?aF ?aO ?aB ?aS ?aL ?_
   (case aP=>exact YJ _ _ _ (⟨chr c,wd c⟩:yP))
   (case aF=>exact (fun _ _=>trivial))
   (case aO=>exact jN.out)
   (case aB=>exact kW.out)
   (case aS=>exact Nat.le_trans hb0 YQ.out.size)
   (case aL=>have:=VR wd c;rw [List.length_append];omega)
   intro v1 bS ho hb hg hat
   rw [List.append_assoc,← zqV wd c h33] at ho
   obtain ⟨Ao,co,eo⟩:=Kd.qD ho
   subst eo
   generalize (more ++ kY wd (c + 1)).length = nn at ho hat ⊢
   have zJ:=zx.mk (kX BR.out hg (Kd.Qr jN.out BR.out (by decide)))
   have za:=zx.mk (kX BF.out hg (Kd.Qr jN.out BF.out (by decide)))
   have zh:=zx.mk hb
   have zo:=zx.mk (rY YQ.out hg bR.out)
   have z8:=zx.mk ho
   have yD:zx ((Value.slice Ao nn co).ownBlock = (Value.slice A0 more.length c0).ownBlock ∨ ∃ b,(Value.slice Ao nn co).ownBlock = some b ∧ w.heap.size ≤ b):=zx.mk (by
    rcases hat with hat | ⟨b,h1,h2⟩
    ·rw [hat];exact bR.out
    ·exact Or.inr ⟨b,h1,Nat.le_trans YQ.out.size h2⟩)
   clear BR BF kW YQ jN bR ho hb hg hat hHeld
   have BR:=zJ
   have BF:=za
   have kW:=zh
   have YQ:=zo
   have jN:=z8
   have bR:=yD
   clear zJ za zh zo z8 yD
   refine hK.out _ _ ((zK BF.out 3).trans rfl) (fun hHeld=>?_)
   clear hK K
   refine Z6 (a':=?_) ?_ ?_
   rotate_left
   ·show Act.put _ (some 29) _ = _
    simp only [Act.put,List.setIfInBounds_toArray,List.set_cons_zero,List.set_cons_succ]
    rfl
   refine q9 (i:=11) (N:=some 30) (v:=?_) (a':=?_) #[true,true,true,true,true,true,true,true,true,true,true,true,false] rfl rfl (qE zC.out (by kernel_rfl)) (fun _ _ _ h=>h) (Or.inl ⟨by rfl,?_⟩) ?_ ?_
   rotate_left
   ·intro w'
    go_simp
    with_reducible rfl
   rotate_left
   ·simp only [Act.put,List.setIfInBounds_toArray,List.set_cons_zero,List.set_cons_succ]
    rfl
   refine UJ (i:=12) (N:=none) #[true,true,true,true,true,true,true,true,true,true,true,true,true] rfl rfl (jX zC.out (by kernel_rfl)) (by decide) (fun K hK=>?_)
   have zxp:bS.cell? ⟨gf,3,none⟩ = some u:=(zK BF.out 3).trans rfl
   have o7:=zy BF.out 3
   refine Qy (w1:=?_) (by rfl) rfl ?_ ?_
   rotate_left
   ·go_simp
    rfl
   refine hK.out _ _ ?_
   clear hK K
   refine xD (qb zC.out (by kernel_rfl)) ?_
   have zJ:=zx.mk (pI BR.out (p:=⟨gf,3,none⟩) bO.out (.slice Ao nn co:Value))
   have za:=zx.mk (y8 (cs':=#[.string name,.bool false,.int .i64 space,(.slice Ao nn co:Value),.slice none 0 0,.slice none 0 0]) BF.out 3 (.slice Ao nn co:Value) rfl)
   have zh:=zx.mk (kW.out.setCell (p:=⟨gf,3,none⟩) bP.out (.slice Ao nn co:Value))
   have zo:=zx.mk (wV (i:=3) YQ.out Kf.out (.slice Ao nn co:Value))
   have z8:=zx.mk (Kd.pO jN.out BF.out (by decide) 3 (.slice Ao nn co:Value))
   clear BR BF kW YQ jN hHeld zxp o7
   generalize bS.setCell ⟨gf,3,none⟩ (.slice Ao nn co:Value) = Ws at zJ za zh zo z8 ⊢
   go_wp2
   go_roundw
   case rel=>exact ⟨c + 1,(.slice Ao nn co:Value),by first | rfl | (simp;done) | go_num,by omega,by omega,z8.out,zJ.out,za.out,zh.out,zo.out,bR.out⟩
   case measure=>simp [intOf];omega
  ·have hc:c = 127:=by omega
   have q1:decide ((c:Int) < 127) = false:=decide_eq_false (by omega)
   obtain ⟨Au,cu,eu⟩:=Kd.qD jN.out
   generalize (more ++ kY wd c).length = nu at eu
   subst eu
   have hRs:=jN.out
   rw [hc] at hRs
   have hsort:=zvF wr b0 (.slice Au nu cu) _ ys hRs (by rw [List.length_append,VR];omega) (by rw [List.length_append,VR];omega) HP.out HS.out
   have zjC:=zx.mk hsort
   have hcu:wr.cell? ⟨gf,3,none⟩ = some (.slice Au nu cu):=(zK BF.out 3).trans rfl
   clear hsort hRs hlt h33 h127
   go_wp2_with (go_at_call 110;refine zjC.out.mono ?_;rintro e w2 ⟨rfl,hR2,hg2⟩;clear zjC hcu;have hne1:=Kd.Qr jN.out BF.out (by decide);have za:=zx.mk (kX BR.out hg2 (Kd.Qr jN.out BR.out (by decide)));have zh:=zx.mk (kX BF.out hg2 hne1);have zo:=zx.mk hR2;have z8:=zx.mk (rY YQ.out hg2 bR.out);have yD:=zx.mk (UN kW.out (Nat.le_trans hb0 YQ.out.size) jN.out hg2);clear jN BR BF kW YQ hne1 hR2 hg2;have BR:=za;have BF:=zh;have HR2:=zo;have HG2:=z8;have HB2:=yD;clear za zh zo z8 yD;have zk5:w2.cell? ⟨gf,0,none⟩ = some (.string name):=(zK BF.out 0).trans rfl;have zk6:w2.cell? ⟨gf,1,none⟩ = some (.bool false):=(zK BF.out 1).trans rfl;have zk7:w2.cell? ⟨gf,2,none⟩ = some (.int .i64 space):=(zK BF.out 2).trans rfl;have zk8:w2.cell? ⟨gf,3,none⟩ = some (.slice Au nu cu):=(zK BF.out 3).trans rfl;have zk9:w2.cell? ⟨gf,4,none⟩ = some (.slice none 0 0):=(zK BF.out 4).trans rfl;have zyz:w2.cell? ⟨gf,5,none⟩ = some (.slice none 0 0):=(zK BF.out 5).trans rfl;have zZU:w2.cell? ⟨gr,0,none⟩ = some (.string (⟨#[]⟩:ByteArray)):=(zK BR.out 0).trans rfl;have zZ0:w2.cell? ⟨gr,1,none⟩ = some (.bool false):=(zK BR.out 1).trans rfl;have zZ1:w2.cell? ⟨gr,2,none⟩ = some (.int .i64 0):=(zK BR.out 2).trans rfl;have zZ2:w2.cell? ⟨gr,3,none⟩ = some (.slice none 0 0):=(zK BR.out 3).trans rfl;have zZ3:w2.cell? ⟨gr,4,none⟩ = some (.slice none 0 0):=(zK BR.out 4).trans rfl;have zZ4:w2.cell? ⟨gr,5,none⟩ = some (.slice none 0 0):=(zK BR.out 5).trans rfl;have zZ5:=zy BR.out 0;have zZ6:=zy BR.out 1;have zZ7:=zy BR.out 2;have zZ8:=zy BR.out 3;have zZ9:=zy BR.out 4;have zQz:=zy BR.out 5)
   have zJ:=(y8 (cs':=#[.string name,.bool false,.int .i64 space,.slice Au nu cu,.slice none 0 0,.slice none 0 0]) (y8 (cs':=#[.string name,.bool false,.int .i64 space,.slice Au nu cu,.slice none 0 0,.slice none 0 0]) (y8 (cs':=#[.string name,.bool false,.int .i64 space,.slice Au nu cu,.slice none 0 0,.slice none 0 0]) (y8 (cs':=#[.string name,.bool false,.int .i64 space,.slice none 0 0,.slice none 0 0,.slice none 0 0]) (y8 (cs':=#[.string name,.bool false,.int .i64 0,.slice none 0 0,.slice none 0 0,.slice none 0 0]) (y8 (cs':=#[.string name,.bool false,.int .i64 0,.slice none 0 0,.slice none 0 0,.slice none 0 0]) BR.out 0 (.string name) rfl) 1 (.bool false) rfl) 2 (.int .i64 space) rfl) 3 (.slice Au nu cu) rfl) 4 (.slice none 0 0) rfl) 5 (.slice none 0 0) rfl)
   have za:=Kd.vX (Kd.jr (p:=⟨gr,5,none⟩) (Kd.jr (p:=⟨gr,4,none⟩) (Kd.jr (p:=⟨gr,3,none⟩) (Kd.jr (p:=⟨gr,2,none⟩) (Kd.jr (p:=⟨gr,1,none⟩) (Kd.jr (p:=⟨gr,0,none⟩) (Kd.kE HR2.out BR.out (by decide)) (fun _ hk=>hk.2) (.string name)) (fun _ hk=>hk.2) (.bool false)) (fun _ hk=>hk.2) (.int .i64 space)) (fun _ hk=>hk.2) (.slice Au nu cu)) (fun _ hk=>hk.2) (.slice none 0 0)) (fun _ hk=>hk.2) (.slice none 0 0)) (fun _ _=>trivial)
   have zh:=(wV (i:=5) (wV (i:=4) (wV (i:=3) (wV (i:=2) (wV (i:=1) (wV (i:=0) HG2.out Kr.out (.string name)) Kr.out (.bool false)) Kr.out (.int .i64 space)) Kr.out (.slice Au nu cu)) Kr.out (.slice none 0 0)) Kr.out (.slice none 0 0))
   have zo:=(Below.setCell (p:=⟨gr,5,none⟩) (Below.setCell (p:=⟨gr,4,none⟩) (Below.setCell (p:=⟨gr,3,none⟩) (Below.setCell (p:=⟨gr,2,none⟩) (Below.setCell (p:=⟨gr,1,none⟩) (Below.setCell (p:=⟨gr,0,none⟩) HB2.out (Nat.le_trans hb0 Kr.out) (.string name)) (Nat.le_trans hb0 Kr.out) (.bool false)) (Nat.le_trans hb0 Kr.out) (.int .i64 space)) (Nat.le_trans hb0 Kr.out) (.slice Au nu cu)) (Nat.le_trans hb0 Kr.out) (.slice none 0 0)) (Nat.le_trans hb0 Kr.out) (.slice none 0 0))
   clear zk5 zk6 zk7 zk8 zk9 zyz zZU zZ0 zZ1 zZ2 zZ3 zZ4 zZ5 zZ6 zZ7 zZ8 zZ9 zQz
   generalize ((((((w2.setCell ⟨gr,0,none⟩ (.string name)).setCell ⟨gr,1,none⟩ (.bool false)).setCell ⟨gr,2,none⟩ (.int .i64 space)).setCell ⟨gr,3,none⟩ (.slice Au nu cu)).setCell ⟨gr,4,none⟩ (.slice none 0 0)).setCell ⟨gr,5,none⟩ (.slice none 0 0)) = w5 at zJ za zh zo ⊢
   refine bodyPost_ret (results_cell_row rfl _ _ gr 60 #[.string name,.bool false,.int .i64 space,.slice Au nu cu,.slice none 0 0,.slice none 0 0] (0,0) _ rfl zJ Tryz.underlying60 rfl (by kernel_rfl)) rfl ?_
   exact ⟨_,rfl,za,zo,zh,bR.out⟩
end Go.Proofs.YtggifbbiiickmaaGreatDoor
namespace Go.Proofs.YtggifbbiiickmaaGreatDoor
open Go.RowKit Go.Shelf
def Y9 (l:List UInt8) (c:UInt8):Bool:=decide (0 ≤ Lib.indexByte l c)
def Zr (c:UInt8):Int :=
 if (Y9 [105,106,108,116,102,46,44,58,59,39,124,33] c || (c.toNat:Int) == 96) = true then 250
 else if Y9 [40,41,91,93,123,125,45,114,115,47,92,34] c = true then 350
 else if Y9 [109,119] c = true then 750
 else if Y9 [77,87,64,37] c = true then 900
 else if (decide (65 ≤ (c.toNat:Int)) && decide ((c.toNat:Int) ≤ 90)) = true then 650 else 500
set_option maxRecDepth 100000 in
theorem Yo (s:ByteArray) (c:UInt8) (B:Nat) (w:World) (hc:w.cell? ⟨B,0,none⟩ = some (.int .u8 c.toNat)) :
  Calls Tryz.prog 112 #[.string s,.pointer (some ⟨B,0,none⟩)] w fun e w'=>e = .returned (.bool (Y9 s.data.toList c)) ∧ w' = w:=by
 have hi:=Tryz.strings_IndexByte s (c.toNat:Int) w
 have hc8:((c.toNat:Int).toNat.toUInt8) = c:=by rw [Int.toNat_natCast];exact UInt8.ofNat_toNat
 rw [hc8] at hi
 have hx:Y9 s.data.toList c = decide (0 ≤ Lib.indexByte s.data.toList c):=rfl
 generalize Lib.indexByte s.data.toList c = ix at hi hx
 generalize Y9 s.data.toList c = b at hx ⊢
 subst hx
 clear hc8
 go_enter Tryz.func112,Tryz.ntmps112
 go_wp2_with (go_at_call 113;refine hi.mono ?_;rintro e w2 ⟨rfl,rfl⟩)
 go_ret
 exact ⟨rfl,rfl⟩
set_option maxRecDepth 100000 in
set_option maxHeartbeats 1000000 in
theorem zqK (c:UInt8) (w:World) :
  Calls Tryz.prog 55 #[.int .u8 c.toNat] w fun e w'=>e = .returned (.int .i64 (Zr c)) ∧ Below w.heap.size w w':=by
 have hb0:Below w.heap.size w (w.alloc (.cells #[.int .u8 c.toNat] 5)):=(Below.refl _ w).alloc (Nat.le_refl _) _
 have hcell:(w.alloc (.cells #[.int .u8 c.toNat] 5)).cell? ⟨w.heap.size,0,none⟩ = some (.int .u8 c.toNat):=by simp
 have h1:=Yo ⟨#[105,106,108,116,102,46,44,58,59,39,124,33]⟩ c w.heap.size _ hcell
 have h2:=Yo ⟨#[40,41,91,93,123,125,45,114,115,47,92,34]⟩ c w.heap.size _ hcell
 have h3:=Yo ⟨#[109,119]⟩ c w.heap.size _ hcell
 have h4:=Yo ⟨#[77,87,64,37]⟩ c w.heap.size _ hcell
 have hv:Zr c = if (Y9 (⟨#[105,106,108,116,102,46,44,58,59,39,124,33]⟩:ByteArray).data.toList c || (c.toNat:Int) == 96) = true then 250
  else if Y9 (⟨#[40,41,91,93,123,125,45,114,115,47,92,34]⟩:ByteArray).data.toList c = true then 350
  else if Y9 (⟨#[109,119]⟩:ByteArray).data.toList c = true then 750
  else if Y9 (⟨#[77,87,64,37]⟩:ByteArray).data.toList c = true then 900
  else if (decide (65 ≤ (c.toNat:Int)) && decide ((c.toNat:Int) ≤ 90)) = true then 650 else 500:=rfl
 rw [hv]
 clear hv
 generalize Y9 (⟨#[105,106,108,116,102,46,44,58,59,39,124,33]⟩:ByteArray).data.toList c = b1 at h1 ⊢
 generalize Y9 (⟨#[40,41,91,93,123,125,45,114,115,47,92,34]⟩:ByteArray).data.toList c = b2 at h2 ⊢
 generalize Y9 (⟨#[109,119]⟩:ByteArray).data.toList c = b3 at h3 ⊢
 generalize Y9 (⟨#[77,87,64,37]⟩:ByteArray).data.toList c = b4 at h4 ⊢
 have hx0:=c.toNat_lt
 generalize (c.toNat:Int) = x at hb0 hcell h1 h2 h3 h4 ⊢
 generalize h96:(x == 96) = b96
 generalize h65:decide (65 ≤ x) = b65
 generalize h90:decide (x ≤ 90) = b90
 cases b1 with
 | true =>
  go_enter Tryz.func55,Tryz.ntmps55
  go_wp2_with (first
   | (go_at_call 112;((with_reducible refine h1.mono ?_);rintro e w2 ⟨rfl,rfl⟩))
   | (go_at_call 112;((with_reducible refine h2.mono ?_);rintro e w2 ⟨rfl,rfl⟩))
   | (go_at_call 112;((with_reducible refine h3.mono ?_);rintro e w2 ⟨rfl,rfl⟩))
   | (go_at_call 112;((with_reducible refine h4.mono ?_);rintro e w2 ⟨rfl,rfl⟩)))
  go_ret
  exact ⟨rfl,hb0⟩
 | false =>
  cases b96 with
  | true =>
   go_enter Tryz.func55,Tryz.ntmps55
   go_wp2_with (first
    | (go_at_call 112;((with_reducible refine h1.mono ?_);rintro e w2 ⟨rfl,rfl⟩))
    | (go_at_call 112;((with_reducible refine h2.mono ?_);rintro e w2 ⟨rfl,rfl⟩))
    | (go_at_call 112;((with_reducible refine h3.mono ?_);rintro e w2 ⟨rfl,rfl⟩))
    | (go_at_call 112;((with_reducible refine h4.mono ?_);rintro e w2 ⟨rfl,rfl⟩)))
   go_ret
   exact ⟨rfl,hb0⟩
  | false =>
   cases b2 with
   | true =>
    go_enter Tryz.func55,Tryz.ntmps55
    go_wp2_with (first
     | (go_at_call 112;((with_reducible refine h1.mono ?_);rintro e w2 ⟨rfl,rfl⟩))
     | (go_at_call 112;((with_reducible refine h2.mono ?_);rintro e w2 ⟨rfl,rfl⟩))
     | (go_at_call 112;((with_reducible refine h3.mono ?_);rintro e w2 ⟨rfl,rfl⟩))
     | (go_at_call 112;((with_reducible refine h4.mono ?_);rintro e w2 ⟨rfl,rfl⟩)))
    go_ret
    exact ⟨rfl,hb0⟩
   | false =>
    cases b3 with
    | true =>
     go_enter Tryz.func55,Tryz.ntmps55
     go_wp2_with (first
      | (go_at_call 112;((with_reducible refine h1.mono ?_);rintro e w2 ⟨rfl,rfl⟩))
      | (go_at_call 112;((with_reducible refine h2.mono ?_);rintro e w2 ⟨rfl,rfl⟩))
      | (go_at_call 112;((with_reducible refine h3.mono ?_);rintro e w2 ⟨rfl,rfl⟩))
      | (go_at_call 112;((with_reducible refine h4.mono ?_);rintro e w2 ⟨rfl,rfl⟩)))
     go_ret
     exact ⟨rfl,hb0⟩
    | false =>
     cases b4 with
     | true =>
      go_enter Tryz.func55,Tryz.ntmps55
      go_wp2_with (first
       | (go_at_call 112;((with_reducible refine h1.mono ?_);rintro e w2 ⟨rfl,rfl⟩))
       | (go_at_call 112;((with_reducible refine h2.mono ?_);rintro e w2 ⟨rfl,rfl⟩))
       | (go_at_call 112;((with_reducible refine h3.mono ?_);rintro e w2 ⟨rfl,rfl⟩))
       | (go_at_call 112;((with_reducible refine h4.mono ?_);rintro e w2 ⟨rfl,rfl⟩)))
      go_ret
      exact ⟨rfl,hb0⟩
     | false =>
      cases b65 with
      | false =>
       go_enter Tryz.func55,Tryz.ntmps55
       go_wp2_with (first
        | (go_at_call 112;((with_reducible refine h1.mono ?_);rintro e w2 ⟨rfl,rfl⟩))
        | (go_at_call 112;((with_reducible refine h2.mono ?_);rintro e w2 ⟨rfl,rfl⟩))
        | (go_at_call 112;((with_reducible refine h3.mono ?_);rintro e w2 ⟨rfl,rfl⟩))
        | (go_at_call 112;((with_reducible refine h4.mono ?_);rintro e w2 ⟨rfl,rfl⟩)))
       go_ret
       exact ⟨rfl,hb0⟩
      | true =>
       cases b90 with
       | false =>
        go_enter Tryz.func55,Tryz.ntmps55
        go_wp2_with (first
         | (go_at_call 112;((with_reducible refine h1.mono ?_);rintro e w2 ⟨rfl,rfl⟩))
         | (go_at_call 112;((with_reducible refine h2.mono ?_);rintro e w2 ⟨rfl,rfl⟩))
         | (go_at_call 112;((with_reducible refine h3.mono ?_);rintro e w2 ⟨rfl,rfl⟩))
         | (go_at_call 112;((with_reducible refine h4.mono ?_);rintro e w2 ⟨rfl,rfl⟩)))
        go_ret
        exact ⟨rfl,hb0⟩
       | true =>
        go_enter Tryz.func55,Tryz.ntmps55
        go_wp2_with (first
         | (go_at_call 112;((with_reducible refine h1.mono ?_);rintro e w2 ⟨rfl,rfl⟩))
         | (go_at_call 112;((with_reducible refine h2.mono ?_);rintro e w2 ⟨rfl,rfl⟩))
         | (go_at_call 112;((with_reducible refine h3.mono ?_);rintro e w2 ⟨rfl,rfl⟩))
         | (go_at_call 112;((with_reducible refine h4.mono ?_);rintro e w2 ⟨rfl,rfl⟩)))
        go_ret
        exact ⟨rfl,hb0⟩
end Go.Proofs.YtggifbbiiickmaaGreatDoor
namespace Go.Proofs.YtggifbbiiickmaaGreatDoor
open Go.RowKit Go.Shelf Go.Proofs.zk.zm Go.Proofs.zk.yK Go.Proofs.zk.yc Go.Proofs.YtggifbbiiickmaaGreatDoor.PX
set_option linter.unusedSimpArgs false
def QN (s:ByteArray):Int × Bool:=if 6 < s.size then (0,false) else (Pb s.data.toList,Uh s.data.toList)
def number.T4:Bool × List (List Nat × List Nat):=(true,[([],[]),([],[]),([1],[1]),([0,0],[0]),([2,3,0,1,2,3],[2])])
theorem number.zyk:xJ .any (opsOf Tryz.f61 4) = number.T4:=by kernel_rfl
set_option maxRecDepth 100000 in
theorem o8 (s:ByteArray) (w:World) (hs:s.size ≤ 140737488355328) (hG:GW w) :
  Calls Tryz.prog 61 #[.string s] w fun e w'=>e = .returned (.tuple #[.int .i64 (QN s).1,.bool (QN s).2]) ∧ Below w.heap.size w w':=by
 unfold QN
 by_cases h6:6 < s.size
 ·rw [if_pos h6]
  have q1:decide ((6:Int) < (s.size:Int)) = true:=decide_eq_true (by omega)
  go_enter Tryz.func61,Tryz.ntmps61
  go_wp2
  go_ret2
  exact ⟨rfl,Below.refl _ _⟩
 ·rw [if_neg h6]
  have q1:decide ((6:Int) < (s.size:Int)) = false:=decide_eq_false (by omega)
  have ha:=zqL s w hs hG
  generalize Pb s.data.toList = N at ha ⊢
  generalize Uh s.data.toList = B at ha ⊢
  cases B with
  | true =>
   go_enter Tryz.func61,Tryz.ntmps61
   go_wp2_with fail
   refine ha.mono ?_;rintro e w2 ⟨ev,rfl,h1,_,hb⟩
   obtain rfl:=h1 (by simp)
   clear ha h1
   go_wp2
   refine uq (n:=5) (S:=fun _=>True) (ds:=[]) #[false,false,false,false,false] (by kernel_rfl) rfl rfl trivial (fun hHeld=>?_)
   refine Qw number.zyk (fun zC=>?_)
   refine q9 (i:=0) (N:=some 14) (v:=?_) (a':=?_) #[true,false,false,false,false] rfl rfl (qE zC.out (by kernel_rfl)) (fun _ _ _ h=>h) (Or.inl ⟨by rfl,?_⟩) ?_ ?_
   rotate_left
   ·intro w'
    go_simp
    with_reducible rfl
   rotate_left
   ·simp only [Act.put,List.setIfInBounds_toArray,List.set_cons_zero,List.set_cons_succ]
    rfl
   refine q9 (i:=1) (N:=some 15) (v:=?_) (a':=?_) #[true,true,false,false,false] rfl rfl (qE zC.out (by kernel_rfl)) (fun _ _ _ h=>h) (Or.inl ⟨by rfl,?_⟩) ?_ ?_
   rotate_left
   ·intro w'
    go_simp
    with_reducible rfl
   rotate_left
   ·simp only [Act.put,List.setIfInBounds_toArray,List.set_cons_zero,List.set_cons_succ]
    rfl
   refine q9 (i:=2) (N:=some 16) (v:=?_) (a':=?_) #[true,true,true,false,false] rfl rfl (qE zC.out (by kernel_rfl)) (fun _ _ _ h=>h) (Or.inl ⟨by rfl,?_⟩) ?_ ?_
   rotate_left
   ·intro w'
    go_simp
    with_reducible rfl
   rotate_left
   ·simp only [Act.put,List.setIfInBounds_toArray,List.set_cons_zero,List.set_cons_succ]
    rfl
   refine q9 (i:=3) (N:=some 2) (v:=?_) (a':=?_) #[true,true,true,true,false] rfl rfl (qE zC.out (by kernel_rfl)) (fun _ _ _ h=>h) (Or.inl ⟨by rfl,?_⟩) ?_ ?_
   rotate_left
   ·intro w'
    go_simp
    with_reducible rfl
   rotate_left
   ·simp only [Act.put,List.setIfInBounds_toArray,List.set_cons_zero,List.set_cons_succ]
    rfl
   refine q9 (i:=4) (N:=some 3) (v:=?_) (a':=?_) #[true,true,true,true,true] rfl rfl (qE zC.out (by kernel_rfl)) (fun _ _ _ h=>h) (Or.inl ⟨by rfl,?_⟩) ?_ ?_
   rotate_left
   ·intro w'
    go_simp
    with_reducible rfl
   rotate_left
   ·simp only [Act.put,List.setIfInBounds_toArray,List.set_cons_zero,List.set_cons_succ]
    rfl
   clear hHeld
   refine xD (qb zC.out (by kernel_rfl)) ?_
   go_wp2
   go_ret2
   exact ⟨rfl,hb.drew⟩
  | false =>
   go_enter Tryz.func61,Tryz.ntmps61
   go_wp2_with fail
   refine ha.mono ?_;rintro e w2 ⟨ev,rfl,_,h1,hb⟩
   obtain ⟨te,pe,rfl⟩:=h1 (by simp)
   clear ha h1
   go_wp2
   refine uq (n:=5) (S:=fun _=>True) (ds:=[]) #[false,false,false,false,false] (by kernel_rfl) rfl rfl trivial (fun hHeld=>?_)
   refine Qw number.zyk (fun zC=>?_)
   refine q9 (i:=0) (N:=some 14) (v:=?_) (a':=?_) #[true,false,false,false,false] rfl rfl (qE zC.out (by kernel_rfl)) (fun _ _ _ h=>h) (Or.inl ⟨by rfl,?_⟩) ?_ ?_
   rotate_left
   ·intro w'
    go_simp
    with_reducible rfl
   rotate_left
   ·simp only [Act.put,List.setIfInBounds_toArray,List.set_cons_zero,List.set_cons_succ]
    rfl
   refine q9 (i:=1) (N:=some 15) (v:=?_) (a':=?_) #[true,true,false,false,false] rfl rfl (qE zC.out (by kernel_rfl)) (fun _ _ _ h=>h) (Or.inl ⟨by rfl,?_⟩) ?_ ?_
   rotate_left
   ·intro w'
    go_simp
    with_reducible rfl
   rotate_left
   ·simp only [Act.put,List.setIfInBounds_toArray,List.set_cons_zero,List.set_cons_succ]
    rfl
   refine q9 (i:=2) (N:=some 16) (v:=?_) (a':=?_) #[true,true,true,false,false] rfl rfl (qE zC.out (by kernel_rfl)) (fun _ _ _ h=>h) (Or.inl ⟨by rfl,?_⟩) ?_ ?_
   rotate_left
   ·intro w'
    go_simp
    with_reducible rfl
   rotate_left
   ·simp only [Act.put,List.setIfInBounds_toArray,List.set_cons_zero,List.set_cons_succ]
    rfl
   refine q9 (i:=3) (N:=some 2) (v:=?_) (a':=?_) #[true,true,true,true,false] rfl rfl (qE zC.out (by kernel_rfl)) (fun _ _ _ h=>h) (Or.inl ⟨by rfl,?_⟩) ?_ ?_
   rotate_left
   ·intro w'
    go_simp
    with_reducible rfl
   rotate_left
   ·simp only [Act.put,List.setIfInBounds_toArray,List.set_cons_zero,List.set_cons_succ]
    rfl
   refine q9 (i:=4) (N:=some 3) (v:=?_) (a':=?_) #[true,true,true,true,true] rfl rfl (qE zC.out (by kernel_rfl)) (fun _ _ _ h=>h) (Or.inl ⟨by rfl,?_⟩) ?_ ?_
   rotate_left
   ·intro w'
    go_simp
    with_reducible rfl
   rotate_left
   ·simp only [Act.put,List.setIfInBounds_toArray,List.set_cons_zero,List.set_cons_succ]
    rfl
   clear hHeld
   refine xD (qb zC.out (by kernel_rfl)) ?_
   go_wp2
   go_ret2
   exact ⟨rfl,hb.drew⟩
theorem u8n (c:Nat) (h:c ≤ 126):((UInt8.ofNat c).toNat:Int) = c:=by
 have:(UInt8.ofNat c).toNat = c:=by simp;omega
 rw [this]
def UO (c:Nat):Int:=Zr (UInt8.ofNat c)
def bT (c:Nat):Int:=max 0 (Zr (UInt8.ofNat c) - 20)
def WE (c:Nat):Int:=Zr (UInt8.ofNat c) + 50
def bU (_:Nat):Int:=600
theorem QO (c:UInt8):0 ≤ Zr c ∧ Zr c ≤ 900:=by unfold Zr;repeat' split <;> try omega
theorem Km (c:Nat) (W:World) (_:33 ≤ c) (h:c ≤ 126):Calls Tryz.prog 55 #[.int .u8 (c:Int)] W fun e w'=>e = .returned (.int .i64 (UO c)) ∧ Below W.heap.size W w':=by
 have h:=zqK (UInt8.ofNat c) W
 rw [u8n c (by assumption)] at h
 exact h
set_option maxRecDepth 100000 in
theorem zvH (c:Nat) (W:World) (h0:33 ≤ c) (h:c ≤ 126):Calls Tryz.prog 57 #[.int .u8 (c:Int)] W fun e w'=>e = .returned (.int .i64 (bT c)) ∧ Below W.heap.size W w':=by
 have hr:=Km c W h0 h
 have hv:=QO (UInt8.ofNat c)
 unfold bT
 unfold UO at hr
 generalize Zr (UInt8.ofNat c) = v at hr hv ⊢
 go_enter Tryz.func57,Tryz.ntmps57
 have e1:IntKind.i64.wrap (v - 20) = v - 20:=IntWalk.i64_in _ (by omega)
 go_wp2_with (go_at_call 55;refine hr.mono ?_;rintro e w2 ⟨rfl,hb2⟩)
 go_ret
 exact ⟨by first | rfl | (simp;done) | (simp [Int.max_def];done),hb2⟩
set_option maxRecDepth 100000 in
theorem zvI (c:Nat) (W:World) (h0:33 ≤ c) (h:c ≤ 126):Calls Tryz.prog 58 #[.int .u8 (c:Int)] W fun e w'=>e = .returned (.int .i64 (WE c)) ∧ Below W.heap.size W w':=by
 have hr:=Km c W h0 h
 have hv:=QO (UInt8.ofNat c)
 unfold WE
 unfold UO at hr
 generalize Zr (UInt8.ofNat c) = v at hr hv ⊢
 have e1:IntKind.i64.wrap (v + 50) = v + 50:=IntWalk.i64_in _ (by omega)
 go_enter Tryz.func58,Tryz.ntmps58
 go_wp2_with (go_at_call 55;refine hr.mono ?_;rintro e w2 ⟨rfl,hb2⟩)
 go_ret
 exact ⟨by first | rfl | (rw [e1];done),hb2⟩
theorem zvL (c:Nat) (W:World) (_:33 ≤ c) (_:c ≤ 126):Calls Tryz.prog 59 #[.int .u8 (c:Int)] W fun e w'=>e = .returned (.int .i64 (bU c)) ∧ Below W.heap.size W w':=by
 unfold bU
 go_enter Tryz.func59,Tryz.ntmps59
 go_wp2
 go_ret
 exact ⟨rfl,Below.refl _ _⟩
end Go.Proofs.YtggifbbiiickmaaGreatDoor
namespace Go.Proofs.YtggifbbiiickmaaGreatDoor
open Go.RowKit Go.Shelf Go.Proofs.zk.zm Go.Proofs.zk.yc Go.Proofs.YtggifbbiiickmaaGreatDoor.PX
def Yx (wd:Nat → Int) (a n:Nat):List yP:=(List.range n).map fun i=>⟨chr (a + i),wd (a + i)⟩
def ru:ByteArray:=⟨#[102,105]⟩
def rA:ByteArray:=⟨#[102,108]⟩
def rD:ByteArray:=⟨#[102,102]⟩
def kg (x:Int):List yP:=[⟨ru,x⟩,⟨rA,x⟩,⟨rD,x⟩]
def Xz (wd:Nat → Int) (x:Int):List yP:=Yx wd 33 70 ++ ([⟨rD,x⟩,⟨ru,x⟩,⟨rA,x⟩] ++ Yx wd 103 24)
theorem zxr (wd:Nat → Int):kY wd 127 = Yx wd 33 70 ++ Yx wd 103 24:=by
 have e0:List.range (127 - 33) = List.range 70 ++ (List.range 24).map (70 + ·):=List.range_add (n:=70) (m:=24)
 have e1:((List.range 24).map (70 + ·)).map (fun i=>(⟨chr (33 + i),wd (33 + i)⟩:yP)) = Yx wd 103 24:=by
  rw [List.map_map]
  apply List.map_congr_left
  intro i _
  show (⟨chr (33 + (70 + i)),wd (33 + (70 + i))⟩:yP) = ⟨chr (103 + i),wd (103 + i)⟩
  rw [show 33 + (70 + i) = 103 + i by omega]
 unfold kY
 rw [e0,List.map_append,e1]
 unfold Yx
 exact rfl
theorem rE (wd:Nat → Int) (x:Int):(Xz wd x).Perm (kg x ++ kY wd 127):=by
 rw [zxr]
 unfold Xz kg
 have h1:([⟨rD,x⟩,⟨ru,x⟩,⟨rA,x⟩]:List yP).Perm [⟨ru,x⟩,⟨rA,x⟩,⟨rD,x⟩]:=by
  refine (List.Perm.swap _ _ _).trans ?_
  exact List.Perm.cons _ (List.Perm.swap _ _ _)
 generalize Yx wd 33 70 = A
 generalize Yx wd 103 24 = B
 refine (List.Perm.append_left A (List.Perm.append_right B h1)).trans ?_
 rw [← List.append_assoc,← List.append_assoc]
 exact List.Perm.append_right B List.perm_append_comm
def YT (n:Nat):List ByteArray:=if n = 0 then (List.range 94).map (fun i=>chr (33 + i)) else (List.range 70).map (fun i=>chr (33 + i)) ++ ([rD,ru,rA] ++ (List.range 24).map (fun i=>chr (103 + i)))
theorem o9:(YT 0).Pairwise fun a b=>xK a b < 0:=by decide +kernel
theorem zzq:(YT 1).Pairwise fun a b=>xK a b < 0:=by decide +kernel
theorem zqY (wd:Nat → Int) (x:Int):(Xz wd x).Pairwise fun a b=>xK a.f0 b.f0 < 0:=by
 have h:((Xz wd x).map (·.f0)) = YT 1:=by
  simp [Xz,YT,Yx,List.map_map,Function.comp_def]
 have h2:=zzq
 rw [← h,List.pairwise_map] at h2
 exact h2
theorem zqW (wd:Nat → Int):(kY wd 127).Pairwise fun a b=>xK a.f0 b.f0 < 0:=by
 have h:((kY wd 127).map (·.f0)) = YT 0:=by
  simp [kY,YT,List.map_map,Function.comp_def]
 have h2:=o9
 rw [← h,List.pairwise_map] at h2
 exact h2
end Go.Proofs.YtggifbbiiickmaaGreatDoor
namespace Go.Proofs.YtggifbbiiickmaaGreatDoor
open Go.RowKit Go.Shelf Go.Proofs.zk.zm Go.Proofs.zk.yK Go.Proofs.zk.yc Go.Proofs.YtggifbbiiickmaaGreatDoor.PX
set_option linter.unusedSimpArgs false
set_option linter.unusedVariables false
abbrev Vw:ByteArray:=⟨(([33,61,32,54,48,48,32,42,97,32,53,53,48,32,42,98,32,53,53,48,32,42,100,32,53,48,48,32,42,103,32,53,48,48,32,42,108,32,53,53,48,32,42,112,32,54,48,48,32,42,115,32,54,48,48,32,42,119,32,55,48].append [48,32,45,62,32,49,48,48,48,32,60,45,32,49,48,48,48,32,60,61,32,54,48,48,32,62,61,32,54,48,48,32,98,114,32,49,48,32,98,117,32,52,54,48,32,99,111,32,56,48,48,32,100,103,32,53,48,48,32,100,105,32]).append ([54,48,48,32,101,109,32,49,48,48,48,32,101,110,32,53,48,48,32,101,113,32,54,48,48,32,104,121,32,51,53,48,32,105,102,32,55,48,48,32,105,115,32,52,48,48,32,109,105,32,54,48,48,32,109,117,32,54,48,48,32,112].append [100,32,55,48,48,32,112,108,32,54,48,48,32,114,104,32,49,48,48,48,32,114,117,32,53,48,48,32,115,99,32,53,48,48,32,115,113,32,54,48,48,32,115,114,32,53,48,48,32,115,117,32,55,48,48,32,117,108,32,53,48,48])).toArray⟩
def VT:List (List UInt8):=Lib.fields Vw.data.toList
theorem cZ:VT.length = 70:=by decide +kernel
theorem zzx:∀ x ∈ VT,x.length ≤ 6:=by decide +kernel
theorem nQ:∀ (j:Nat) (b:UInt8),Vw.data.toList[j]? = some b → b.toNat < 128:=by
 have h:∀ b ∈ Vw.data.toList,b.toNat < 128:=by decide +kernel
 intro j b hj
 exact h b (List.mem_of_getElem? hj)
theorem cK (x:Int) (W:World) (b:Nat) (ok:Nat → Prop):yU (xG.M W b ok) xG.sz (kg x) [.string (⟨#[102,105]⟩:ByteArray),.int .i64 x,.string (⟨#[102,108]⟩:ByteArray),.int .i64 x,.string (⟨#[102,102]⟩:ByteArray),.int .i64 x]:=by
 have h:∀ (j:Nat) (p:yP),(kg x)[j]? = some p → xG.M W b ok p (([.string (⟨#[102,105]⟩:ByteArray),.int .i64 x,.string (⟨#[102,108]⟩:ByteArray),.int .i64 x,.string (⟨#[102,102]⟩:ByteArray),.int .i64 x].drop (j * 2)).take 2):=by
  intro j p hj
  rcases j with _ | _ | _ | j
  ·obtain rfl:=Option.some.inj hj
   exact YJ W b ok ⟨ru,x⟩
  ·obtain rfl:=Option.some.inj hj
   exact YJ W b ok ⟨rA,x⟩
  ·obtain rfl:=Option.some.inj hj
   exact YJ W b ok ⟨rD,x⟩
  ·simp [kg] at hj
 exact ⟨rfl,h⟩
def VZ:List qx:=[⟨⟨#[102]⟩,⟨#[102]⟩,⟨#[102,102]⟩⟩,⟨⟨#[102]⟩,⟨#[105]⟩,⟨#[102,105]⟩⟩,⟨⟨#[102]⟩,⟨#[108]⟩,⟨#[102,108]⟩⟩]
def Xq:List qC:=[(⟨(⟨#[65]⟩:ByteArray),(⟨#[86]⟩:ByteArray),(-80)⟩:qC),(⟨(⟨#[65]⟩:ByteArray),(⟨#[87]⟩:ByteArray),(-60)⟩:qC),(⟨(⟨#[84]⟩:ByteArray),(⟨#[111]⟩:ByteArray),(-70)⟩:qC),(⟨(⟨#[86]⟩:ByteArray),(⟨#[65]⟩:ByteArray),(-80)⟩:qC),(⟨(⟨#[89]⟩:ByteArray),(⟨#[111]⟩:ByteArray),(-90)⟩:qC)]
def FB (W:World) (lo hi g:Nat) (x:kV):Prop :=
 ∃ v3 v4 v5,W.heap[g]? = some (.cells #[.string x.f0,.bool x.f1,.int .i64 x.f2,v3,v4,v5] 60 (0,0)) ∧ lo ≤ g ∧ g < hi ∧ Kd.R xG 105 W lo (fun k=>lo ≤ k ∧ k < hi) v3 x.f3 ∧
  Kd.R uQ 108 W lo (fun k=>lo ≤ k ∧ k < hi) v4 x.f4 ∧ Kd.R uo 111 W lo (fun k=>lo ≤ k ∧ k < hi) v5 x.f5
theorem Uc {α:Type} {d:Kd α} {e lo hi:Nat} {W W':World} {v:Value} {xs:List α} (h:d.R e W lo (fun k=>lo ≤ k ∧ k < hi) v xs) (hb:Below hi W W'):d.R e W' lo (fun k=>lo ≤ k ∧ k < hi) v xs :=
 Kd.XE h (fun k hk _=>hb.block k hk.2)
theorem zxs {α:Type} {d:Kd α} {e lo:Nat} {W:World} {v:Value} {xs:List α} (h:d.R e W lo (fun _=>True) v xs):d.R e W lo (fun k=>lo ≤ k ∧ k < W.heap.size) v xs :=
 Kd.vX (Kd.wS h) (fun k hk=>⟨hk.2.1,hk.2.2.1⟩)
theorem FB.keep {W W':World} {lo hi g:Nat} {x:kV} (h:FB W lo hi g x) (hb:Below hi W W'):FB W' lo hi g x:=by
 obtain ⟨v3,v4,v5,h1,h2,h3,h4,h5,h6⟩:=h
 exact ⟨v3,v4,v5,(hb.block g h3).trans h1,h2,h3,Uc h4 hb,Uc h5 hb,Uc h6 hb⟩
theorem FB.mk {W:World} {lo g:Nat} (x:kV) {v3 v4 v5:Value} (h1:W.heap[g]? = some (.cells #[.string x.f0,.bool x.f1,.int .i64 x.f2,v3,v4,v5] 60 (0,0))) (h2:lo ≤ g) (h3:Kd.R xG 105 W lo (fun _=>True) v3 x.f3)
  (h4:Kd.R uQ 108 W lo (fun _=>True) v4 x.f4) (h5:Kd.R uo 111 W lo (fun _=>True) v5 x.f5):FB W lo W.heap.size g x :=
 ⟨v3,v4,v5,h1,h2,vU h1,zxs h3,zxs h4,zxs h5⟩
def zjD:kV:=⟨⟨#[82]⟩,false,250,Xz UO 550,VZ,Xq⟩
def zjE:kV:=⟨⟨#[73]⟩,false,250,kY bT 127,[],[]⟩
def zjF:kV:=⟨⟨#[66]⟩,false,250,Xz WE 600,VZ,[]⟩
def zjG:kV:=⟨⟨#[77]⟩,false,600,kY bU 127,[],[]⟩
theorem zqa (W:World) (b:Nat) (ok:Nat → Prop):yU (uo.M W b ok) uo.sz Xq [.string (⟨#[65]⟩:ByteArray),.string (⟨#[86]⟩:ByteArray),.int .i64 (-80),.string (⟨#[65]⟩:ByteArray),.string (⟨#[87]⟩:ByteArray),.int .i64 (-60),.string (⟨#[84]⟩:ByteArray),.string (⟨#[111]⟩:ByteArray),.int .i64 (-70),.string (⟨#[86]⟩:ByteArray),.string (⟨#[65]⟩:ByteArray),.int .i64 (-80),.string (⟨#[89]⟩:ByteArray),.string (⟨#[111]⟩:ByteArray),.int .i64 (-90)]:=by
 have h:∀ (j:Nat) (p:qC),Xq[j]? = some p → uo.M W b ok p ((([.string (⟨#[65]⟩:ByteArray),.string (⟨#[86]⟩:ByteArray),.int .i64 (-80),.string (⟨#[65]⟩:ByteArray),.string (⟨#[87]⟩:ByteArray),.int .i64 (-60),.string (⟨#[84]⟩:ByteArray),.string (⟨#[111]⟩:ByteArray),.int .i64 (-70),.string (⟨#[86]⟩:ByteArray),.string (⟨#[65]⟩:ByteArray),.int .i64 (-80),.string (⟨#[89]⟩:ByteArray),.string (⟨#[111]⟩:ByteArray),.int .i64 (-90)]:List Value).drop (j * 3)).take 3):=by
  intro j p hj
  rcases j with _ | _ | _ | _ | _ | j
  ·obtain rfl:=Option.some.inj hj
   exact Y2 W b ok (⟨(⟨#[65]⟩:ByteArray),(⟨#[86]⟩:ByteArray),(-80)⟩:qC)
  ·obtain rfl:=Option.some.inj hj
   exact Y2 W b ok (⟨(⟨#[65]⟩:ByteArray),(⟨#[87]⟩:ByteArray),(-60)⟩:qC)
  ·obtain rfl:=Option.some.inj hj
   exact Y2 W b ok (⟨(⟨#[84]⟩:ByteArray),(⟨#[111]⟩:ByteArray),(-70)⟩:qC)
  ·obtain rfl:=Option.some.inj hj
   exact Y2 W b ok (⟨(⟨#[86]⟩:ByteArray),(⟨#[65]⟩:ByteArray),(-80)⟩:qC)
  ·obtain rfl:=Option.some.inj hj
   exact Y2 W b ok (⟨(⟨#[89]⟩:ByteArray),(⟨#[111]⟩:ByteArray),(-90)⟩:qC)
  ·simp [Xq] at hj
 exact ⟨rfl,h⟩
theorem FB.cells {W:World} {lo hi g:Nat} {x:kV} (h:FB W lo hi g x):∃ A3 n3 c3 A4 n4 c4 A5 n5 c5,W.heap[g]? = some (.cells #[.string x.f0,.bool x.f1,.int .i64 x.f2,.slice A3 n3 c3,.slice A4 n4 c4,.slice A5 n5 c5] 60 (0,0)) ∧
  ∀ (W':World) (base:Nat) (ok:Nat → Prop),Below W.heap.size W W' → base ≤ lo → (∀ k,lo ≤ k → k < hi → ok k) → jh.M W' base ok x [.string x.f0,.bool x.f1,.int .i64 x.f2,.slice A3 n3 c3,.slice A4 n4 c4,.slice A5 n5 c5]:=by
 obtain ⟨v3,v4,v5,h1,h2,h3,h4,h5,h6⟩:=h
 obtain ⟨A3,c3,rfl⟩:=Kd.qD h4
 obtain ⟨A4,c4,rfl⟩:=Kd.qD h5
 obtain ⟨A5,c5,rfl⟩:=Kd.qD h6
 refine ⟨A3,_,c3,A4,_,c4,A5,_,c5,h1,fun W' base ok hb hl hok=>?_⟩
 exact zvW W' base ok x (Kd.vX (Kd.ql (Kd.yO h4 hb) hl) (fun k hk=>hok k hk.1 hk.2)) (Kd.vX (Kd.ql (Kd.yO h5 hb) hl) (fun k hk=>hok k hk.1 hk.2)) (Kd.vX (Kd.ql (Kd.yO h6 hb) hl) (fun k hk=>hok k hk.1 hk.2))
theorem Yj {W:World} {g:Nat} (h:W.heap[g]? = some (.cells #[.string (⟨#[]⟩:ByteArray),.bool false,.int .i64 0,.slice none 0 0,.slice none 0 0,.slice none 0 0] 60 (0,0))) (a:ByteArray) (b:Bool) (c:Int) (v3 v4 v5:Value) :
  ((((((W.setCell ⟨g,0,none⟩ (.string a)).setCell ⟨g,1,none⟩ (.bool b)).setCell ⟨g,2,none⟩ (.int .i64 c)).setCell ⟨g,3,none⟩ v3).setCell ⟨g,4,none⟩ v4).setCell ⟨g,5,none⟩ v5).heap[g]? = some (.cells #[.string a,.bool b,.int .i64 c,v3,v4,v5] 60 (0,0)) :=
 y8 (y8 (y8 (y8 (y8 (y8 (cs':=#[.string a,.bool false,.int .i64 0,.slice none 0 0,.slice none 0 0,.slice none 0 0]) h 0 _ rfl) (cs':=#[.string a,.bool b,.int .i64 0,.slice none 0 0,.slice none 0 0,.slice none 0 0]) 1 _ rfl)
  (cs':=#[.string a,.bool b,.int .i64 c,.slice none 0 0,.slice none 0 0,.slice none 0 0]) 2 _ rfl) (cs':=#[.string a,.bool b,.int .i64 c,v3,.slice none 0 0,.slice none 0 0]) 3 _ rfl) (cs':=#[.string a,.bool b,.int .i64 c,v3,v4,.slice none 0 0]) 4 _ rfl) 5 _ rfl
theorem YE {W0 W:World} {B g:Nat} (h:Below B W0 W) (hg:B ≤ g) (u0 u1 u2 u3 u4 u5:Value) :
  Below B W0 ((((((W.setCell ⟨g,0,none⟩ u0).setCell ⟨g,1,none⟩ u1).setCell ⟨g,2,none⟩ u2).setCell ⟨g,3,none⟩ u3).setCell ⟨g,4,none⟩ u4).setCell ⟨g,5,none⟩ u5) :=
 (((((h.setCell hg _).setCell hg _).setCell hg _).setCell hg _).setCell hg _).setCell hg _
def jS (j:Nat):ByteArray:=⟨(VT.getD j []).toArray⟩
theorem nX (j:Nat):(jS j).size ≤ 6:=by
 show ((VT.getD j []).toArray).size ≤ 6
 rw [List.size_toArray,List.getD_eq_getElem?_getD]
 cases h:VT[j]? with
 | none=>simp
 | some x=>exact zzx x (List.mem_of_getElem? h)
def Qc (m:Nat):List yP:=(List.range m).map fun i=>⟨jS (2 * i),(QN (jS (2 * i + 1))).1⟩
theorem zqb (m:Nat):Qc (m + 1) = Qc m ++ [⟨jS (2 * m),(QN (jS (2 * m + 1))).1⟩]:=by unfold Qc;rw [List.range_succ,List.map_append];rfl
theorem zxt (m:Nat):(Qc m).length = m:=by simp [Qc]
def zjH:kV:=⟨⟨#[83]⟩,true,250,Qc 35,[],[]⟩
def Z0:Array Value:=(VT.map fun l=>Value.string ⟨l.toArray⟩).toArray
theorem Qd (j:Nat) (h:j < 70):Z0[j]? = some (.string (jS j)):=by
 have hl:j < VT.length:=by rw [cZ];exact h
 unfold Z0 jS
 simp [List.getD_eq_getElem?_getD,hl]
def jm:List kV:=[zjD,zjE,zjF,zjG,zjH]
def std.T14:Bool × List (List Nat × List Nat):=(true,[([],[]),([0],[0]),([],[]),([],[]),([2,3],[2,3]),([4],[4]),([],[]),([5,6],[5,6]),([7],[7]),([1,8],[1,8]),([0,1,2,3,4,5,6,7,8,9],[]),([10,9,9,0,1,2,3,4,5,6,7,8,9],[9,10])])
theorem std.zwv:xJ .any (opsOf Tryz.f19 14) = std.T14:=by kernel_rfl
def zQq (W4:World) (g5 bw:Nat) (x:Value) (wr:World):Prop :=
 ∃ (m k:Nat) (u:Value),x = .int .i64 (k:Int) ∧ k = 2 * m ∧ m ≤ 35 ∧ Kd.R xG 105 wr W4.heap.size (fun _=>True) u (Qc m) ∧ wr.heap[g5]? = some (.cells #[.string (⟨#[83]⟩:ByteArray),.bool true,.int .i64 250,u,.slice none 0 0,.slice none 0 0] 60 (0,0)) ∧
  wr.heap[bw]? = some (.cells Z0 9 (0,0)) ∧ Below W4.heap.size W4 wr
set_option maxHeartbeats 8000000 in
set_option maxRecDepth 100000 in
theorem zvM (w:World) (hG:GW w):Calls Tryz.prog 19 #[] w fun e w'=>∃ v:Value,e = .returned v ∧ Kd.S jh 60 w' w.heap.size (fun _=>True) v jm ∧ Below w.heap.size w w':=by
 have zxo:=Tryz.underlying60
 have HGW:=zx.mk hG
 clear hG
 have zzj:=zx.mk (Below.refl w.heap.size w)
 generalize hW0:w = QS at zzj HGW
 go_enter Tryz.func19,Tryz.ntmps19
 go_wp2_with (first | ((with_reducible refine y9 (N:=13) rfl ?_);refine Kd.Xw xG QS.heap.size 105 ?hg (N:=13) ?hd (w0:=QS) (xs:=(kg 550)) (inner:=[.string (⟨#[102,105]⟩:ByteArray),.int .i64 550,.string (⟨#[102,108]⟩:ByteArray),.int .i64 550,.string (⟨#[102,102]⟩:ByteArray),.int .i64 550]) (ok:=fun _=>True) (uz:=fun _=>True) ?hr ?hp (fun _ hk=>hk) trivial zzj.out zzj.out.size (by simp [kg]) ?_;(case hd=>rfl);(case hg=>rfl);(case hr=>first | (go_simp;done) | (go_simp;rfl));(case hp=>exact cK 550 _ _ _);intro u0 wl hol hbl hgl VU;have HL_:=zx.mk hol;have V3:=zx.mk hbl;have zxu:=zx.mk VU;clear hol hbl hgl VU zzj))
 refine (Qb 55 _ Tryz.func55 (by kernel_rfl) rfl UO Km (⟨#[82]⟩:ByteArray) 250 QS.heap.size u0 (kg 550) (Xz UO 550) wl V3.out.size HL_.out (by simp [kg]) (rE UO 550) (zqY UO 550)).mono ?_
 rintro e w1 ⟨v1,rfl,hr,hb,-,-⟩
 have HR1:=zx.mk hr
 have HB1:=zx.mk (V3.out.trans hb)
 clear hr hb HL_ V3 zxu
 obtain ⟨A1,c1,e1⟩:=Kd.qD HR1.out
 generalize (Xz UO 550).length = n1 at e1
 subst e1
 go_wp2_with (first | ((with_reducible refine y9 (N:=1) rfl ?_);refine qQ ?hg (N:=1) ?hd (cs:=#[.string (⟨#[]⟩:ByteArray),.bool false,.int .i64 0,.slice none 0 0,.slice none 0 0,.slice none 0 0]) (t:=60) ?hr ?_;(case hd=>rfl);(case hg=>rfl);(case hr=>first | (go_simp;done) | (go_simp;rfl));intro g1 Xh w2 hbx hbq;have pJ:=zx.mk hbx;have zjI:=zx.mk hbq;have zzv:=zx.mk Xh;clear hbx hbq Xh;have zwk:w2.cell? ⟨g1,0,none⟩ = some (.string (⟨#[]⟩:ByteArray)):=(zK pJ.out 0).trans rfl;have zwy:w2.cell? ⟨g1,1,none⟩ = some (.bool false):=(zK pJ.out 1).trans rfl;have zww:w2.cell? ⟨g1,2,none⟩ = some (.int .i64 0):=(zK pJ.out 2).trans rfl;have zwZ:w2.cell? ⟨g1,3,none⟩ = some (.slice none 0 0):=(zK pJ.out 3).trans rfl;have zwQ:w2.cell? ⟨g1,4,none⟩ = some (.slice none 0 0):=(zK pJ.out 4).trans rfl;have zwX:w2.cell? ⟨g1,5,none⟩ = some (.slice none 0 0):=(zK pJ.out 5).trans rfl;have zwJ:=zy pJ.out 0;have zwV:=zy pJ.out 1;have zwK:=zy pJ.out 2;have zwY:=zy pJ.out 3;have zwW:=zy pJ.out 4;have zwa:=zy pJ.out 5))
 have zJ:=zx.mk (Yj pJ.out (⟨#[82]⟩:ByteArray) false 250 (.slice A1 n1 c1) (.slice none 0 0) (.slice none 0 0))
 have zh:=zx.mk (YE (zjI.out) (Nat.le_of_eq zzv.out.symm) (.string (⟨#[82]⟩:ByteArray)) (.bool false) (.int .i64 250) (.slice A1 n1 c1) (.slice none 0 0) (.slice none 0 0))
 have LG1:=zx.mk (Nat.le_trans HB1.out.size (Nat.le_of_eq zzv.out.symm))
 clear zwk zwy zww zwZ zwQ zwX zwJ zwV zwK zwY zwW zwa
 generalize ((((((w2.setCell ⟨g1,0,none⟩ (.string (⟨#[82]⟩:ByteArray))).setCell ⟨g1,1,none⟩ (.bool false)).setCell ⟨g1,2,none⟩ (.int .i64 250)).setCell ⟨g1,3,none⟩ (.slice A1 n1 c1)).setCell ⟨g1,4,none⟩ (.slice none 0 0)).setCell ⟨g1,5,none⟩ (.slice none 0 0)) = w3 at zJ zh ⊢
 have za:=zx.mk (Kd.yO HR1.out zh.out)
 have zo:=zx.mk (HB1.out.trans (zh.out.mono HB1.out.size))
 clear HR1 HB1 pJ zjI zzv zh
 have Zt:=zJ
 have HR1:=za
 have HB1:=zo
 clear zJ za zo
 refine (pR.calls VZ w3 rfl).mono ?_
 rintro e w4 ⟨v4,rfl,hr,hb⟩
 have zJ:=zx.mk (zW Zt.out hb)
 have za:=zx.mk (Kd.yO HR1.out hb)
 have zh:=zx.mk (Kd.ql hr HB1.out.size)
 have zo:=zx.mk (HB1.out.trans (hb.mono HB1.out.size))
 clear Zt HR1 HB1 hr hb
 have Zt:=zJ
 have HR1:=za
 have Vl:=zh
 have HB1:=zo
 clear zJ za zh zo
 obtain ⟨A4,c4,e4⟩:=Kd.qD Vl.out
 generalize VZ.length = n4 at e4
 subst e4
 have hq4:w4.cell? ⟨g1,4,none⟩ = some (.slice none 0 0):=(zK Zt.out 4).trans rfl
 have zxA:=zy Zt.out 4
 go_wp2_with (first | ((with_reducible refine y9 (N:=22) rfl ?_);have zJ:=zx.mk (y8 (cs':=#[.string (⟨#[82]⟩:ByteArray),.bool false,.int .i64 250,.slice A1 n1 c1,.slice A4 n4 c4,.slice none 0 0]) Zt.out 4 (.slice A4 n4 c4) rfl);have za:=zx.mk (Kd.pO HR1.out Zt.out (by decide) 4 (.slice A4 n4 c4));have zh:=zx.mk (Kd.pO Vl.out Zt.out (by decide) 4 (.slice A4 n4 c4));have zo:=zx.mk (HB1.out.setCell (p:=⟨g1,4,none⟩) LG1.out (.slice A4 n4 c4));clear Zt HR1 Vl HB1 hq4 zxA;have Zt:=zJ;have HR1:=za;have Vl:=zh;have HB1:=zo;clear zJ za zh zo;generalize w4.setCell ⟨g1,4,none⟩ (.slice A4 n4 c4) = w5 at Zt HR1 Vl HB1 ⊢;refine Kd.Xw uo QS.heap.size 111 ?hg (N:=22) ?hd (w0:=QS) (xs:=Xq) (inner:=[.string (⟨#[65]⟩:ByteArray),.string (⟨#[86]⟩:ByteArray),.int .i64 (-80),.string (⟨#[65]⟩:ByteArray),.string (⟨#[87]⟩:ByteArray),.int .i64 (-60),.string (⟨#[84]⟩:ByteArray),.string (⟨#[111]⟩:ByteArray),.int .i64 (-70),.string (⟨#[86]⟩:ByteArray),.string (⟨#[65]⟩:ByteArray),.int .i64 (-80),.string (⟨#[89]⟩:ByteArray),.string (⟨#[111]⟩:ByteArray),.int .i64 (-90)]) (ok:=fun _=>True) (uz:=fun _=>True) ?hr ?hp (fun _ hk=>hk) trivial HB1.out HB1.out.size (by simp [Xq]) ?_;(case hd=>rfl);(case hg=>rfl);(case hr=>first | (go_simp;done) | (go_simp;rfl));(case hp=>exact zqa _ _ _);intro v5 wk hol hbl hgl VU;obtain ⟨A5,c5,e5⟩:=Kd.qD hol;generalize Xq.length = n5 at e5;subst e5;have zJ:=zx.mk (kX Zt.out hgl (by simp));have za:=zx.mk (Kd.Vq HR1.out hgl (fun _ _=>by simp));have zh:=zx.mk (Kd.Vq Vl.out hgl (fun _ _=>by simp));have zo:=zx.mk hol;have z8:=zx.mk hbl;clear Zt HR1 Vl HB1 hol hbl hgl VU;have Zt:=zJ;have HR1:=za;have Vl:=zh;have XY:=zo;have HB1:=z8;clear zJ za zh zo z8;have hq5:wk.cell? ⟨g1,5,none⟩ = some (.slice none 0 0):=(zK Zt.out 5).trans rfl;have zQx:=zy Zt.out 5))
 have zJ:=zx.mk (y8 (cs':=#[.string (⟨#[82]⟩:ByteArray),.bool false,.int .i64 250,.slice A1 n1 c1,.slice A4 n4 c4,.slice A5 n5 c5]) Zt.out 5 (.slice A5 n5 c5) rfl)
 have za:=zx.mk (Kd.pO HR1.out Zt.out (by decide) 5 (.slice A5 n5 c5))
 have zh:=zx.mk (Kd.pO Vl.out Zt.out (by decide) 5 (.slice A5 n5 c5))
 have zo:=zx.mk (Kd.pO XY.out Zt.out (by decide) 5 (.slice A5 n5 c5))
 have z8:=zx.mk (HB1.out.setCell (p:=⟨g1,5,none⟩) LG1.out (.slice A5 n5 c5))
 clear Zt HR1 Vl XY HB1 hq5 zQx
 generalize wk.setCell ⟨g1,5,none⟩ (.slice A5 n5 c5) = WG at zJ za zh zo z8 ⊢
 have FB1:=zx.mk (FB.mk zjD zJ.out LG1.out za.out zh.out zo.out)
 have WH:=zx.mk z8.out
 clear zJ za zh zo z8 LG1
 refine (Qb 57 _ Tryz.func57 (by kernel_rfl) rfl bT zvH (⟨#[73]⟩:ByteArray) 250 WG.heap.size (.slice none 0 0) [] (kY bT 127) WG (Nat.le_refl _) (Kd.jM _ _ _ _ _) (by simp [kg]) (by rw [List.nil_append]) (zqW bT)).mono ?_
 rintro e w6 ⟨v6,rfl,hr,hb,-,-⟩
 have HR2:=zx.mk hr
 have HB2:=zx.mk hb
 clear hr hb
 obtain ⟨A6,c6,e6⟩:=Kd.qD HR2.out
 generalize (kY bT 127).length = n6 at e6
 subst e6
 go_wp2_with (first | ((with_reducible refine y9 (N:=2) rfl ?_);refine qQ ?hg (N:=2) ?hd (cs:=#[.string (⟨#[]⟩:ByteArray),.bool false,.int .i64 0,.slice none 0 0,.slice none 0 0,.slice none 0 0]) (t:=60) ?hr ?_;(case hd=>rfl);(case hg=>rfl);(case hr=>first | (go_simp;done) | (go_simp;rfl));intro g2 Xh w7 hbx hbq;have pV:=zx.mk hbx;have zjL:=zx.mk hbq;have zzk:=zx.mk Xh;clear hbx hbq Xh;have zwb:w7.cell? ⟨g2,0,none⟩ = some (.string (⟨#[]⟩:ByteArray)):=(zK pV.out 0).trans rfl;have zwc:w7.cell? ⟨g2,1,none⟩ = some (.bool false):=(zK pV.out 1).trans rfl;have zwd:w7.cell? ⟨g2,2,none⟩ = some (.int .i64 0):=(zK pV.out 2).trans rfl;have zwe:w7.cell? ⟨g2,3,none⟩ = some (.slice none 0 0):=(zK pV.out 3).trans rfl;have zwf:w7.cell? ⟨g2,4,none⟩ = some (.slice none 0 0):=(zK pV.out 4).trans rfl;have zwg:w7.cell? ⟨g2,5,none⟩ = some (.slice none 0 0):=(zK pV.out 5).trans rfl;have zwh:=zy pV.out 0;have zwi:=zy pV.out 1;have zwl:=zy pV.out 2;have zwm:=zy pV.out 3;have zwn:=zy pV.out 4;have zwo:=zy pV.out 5) | ((with_reducible refine y9 (N:=28) rfl ?_);have zJ:=zx.mk (Yj pV.out (⟨#[73]⟩:ByteArray) false 250 (.slice A6 n6 c6) (.slice none 0 0) (.slice none 0 0));have zh:=zx.mk (YE (zjL.out) (Nat.le_of_eq zzk.out.symm) (.string (⟨#[73]⟩:ByteArray)) (.bool false) (.int .i64 250) (.slice A6 n6 c6) (.slice none 0 0) (.slice none 0 0));have LG2:=zx.mk (Nat.le_trans HB2.out.size (Nat.le_of_eq zzk.out.symm));clear zwb zwc zwd zwe zwf zwg zwh zwi zwl zwm zwn zwo;generalize ((((((w7.setCell ⟨g2,0,none⟩ (.string (⟨#[73]⟩:ByteArray))).setCell ⟨g2,1,none⟩ (.bool false)).setCell ⟨g2,2,none⟩ (.int .i64 250)).setCell ⟨g2,3,none⟩ (.slice A6 n6 c6)).setCell ⟨g2,4,none⟩ (.slice none 0 0)).setCell ⟨g2,5,none⟩ (.slice none 0 0)) = UR at zJ zh ⊢;have FB2:=zx.mk (FB.mk zjE zJ.out LG2.out (Kd.yO HR2.out zh.out) (Kd.jM _ _ _ _ _) (Kd.jM _ _ _ _ _));have cB:=zx.mk (HB2.out.trans (zh.out.mono HB2.out.size));clear HR2 HB2 pV zjL zzk LG2 zJ zh;refine Kd.Xw xG UR.heap.size 105 ?hg (N:=28) ?hd (w0:=UR) (xs:=(kg 600)) (inner:=[.string (⟨#[102,105]⟩:ByteArray),.int .i64 600,.string (⟨#[102,108]⟩:ByteArray),.int .i64 600,.string (⟨#[102,102]⟩:ByteArray),.int .i64 600]) (ok:=fun _=>True) (uz:=fun _=>True) ?hr ?hp (fun _ hk=>hk) trivial (Below.refl _ _) (Nat.le_refl _) (by simp [kg]) ?_;(case hd=>rfl);(case hg=>rfl);(case hr=>first | (go_simp;done) | (go_simp;rfl));(case hp=>exact cK 600 _ _ _);intro u0 wl hol hbl hgl VU;have HL_:=zx.mk hol;have V3:=zx.mk hbl;have zxu:=zx.mk VU;clear hol hbl hgl VU))
 refine (Qb 58 _ Tryz.func58 (by kernel_rfl) rfl WE zvI (⟨#[66]⟩:ByteArray) 250 UR.heap.size u0 (kg 600) (Xz WE 600) wl V3.out.size HL_.out (by simp [kg]) (rE WE 600) (zqY WE 600)).mono ?_
 rintro e w9 ⟨v9,rfl,hr,hb,-,-⟩
 have HR3:=zx.mk hr
 have HB3:=zx.mk (V3.out.trans hb)
 clear hr hb HL_ V3 zxu
 obtain ⟨A9,c9,e9⟩:=Kd.qD HR3.out
 generalize (Xz WE 600).length = n9 at e9
 subst e9
 go_wp2_with (first | ((with_reducible refine y9 (N:=3) rfl ?_);refine qQ ?hg (N:=3) ?hd (cs:=#[.string (⟨#[]⟩:ByteArray),.bool false,.int .i64 0,.slice none 0 0,.slice none 0 0,.slice none 0 0]) (t:=60) ?hr ?_;(case hd=>rfl);(case hg=>rfl);(case hr=>first | (go_simp;done) | (go_simp;rfl));intro g3 Xh YD hbx hbq;have pK:=zx.mk hbx;have zjM:=zx.mk hbq;have zzy:=zx.mk Xh;clear hbx hbq Xh;have zwp:YD.cell? ⟨g3,0,none⟩ = some (.string (⟨#[]⟩:ByteArray)):=(zK pK.out 0).trans rfl;have zwr:YD.cell? ⟨g3,1,none⟩ = some (.bool false):=(zK pK.out 1).trans rfl;have zws:YD.cell? ⟨g3,2,none⟩ = some (.int .i64 0):=(zK pK.out 2).trans rfl;have zwt:YD.cell? ⟨g3,3,none⟩ = some (.slice none 0 0):=(zK pK.out 3).trans rfl;have zwu:YD.cell? ⟨g3,4,none⟩ = some (.slice none 0 0):=(zK pK.out 4).trans rfl;have zwA:YD.cell? ⟨g3,5,none⟩ = some (.slice none 0 0):=(zK pK.out 5).trans rfl;have zwB:=zy pK.out 0;have zwC:=zy pK.out 1;have zwD:=zy pK.out 2;have zwE:=zy pK.out 3;have zwF:=zy pK.out 4;have zwG:=zy pK.out 5))
 have zJ:=zx.mk (Yj pK.out (⟨#[66]⟩:ByteArray) false 250 (.slice A9 n9 c9) (.slice none 0 0) (.slice none 0 0))
 have zh:=zx.mk (YE (zjM.out) (Nat.le_of_eq zzy.out.symm) (.string (⟨#[66]⟩:ByteArray)) (.bool false) (.int .i64 250) (.slice A9 n9 c9) (.slice none 0 0) (.slice none 0 0))
 have LG3:=zx.mk (Nat.le_trans HB3.out.size (Nat.le_of_eq zzy.out.symm))
 clear zwp zwr zws zwt zwu zwA zwB zwC zwD zwE zwF zwG
 generalize ((((((YD.setCell ⟨g3,0,none⟩ (.string (⟨#[66]⟩:ByteArray))).setCell ⟨g3,1,none⟩ (.bool false)).setCell ⟨g3,2,none⟩ (.int .i64 250)).setCell ⟨g3,3,none⟩ (.slice A9 n9 c9)).setCell ⟨g3,4,none⟩ (.slice none 0 0)).setCell ⟨g3,5,none⟩ (.slice none 0 0)) = Ut at zJ zh ⊢
 have za:=zx.mk (Kd.yO HR3.out zh.out)
 have zo:=zx.mk (HB3.out.trans (zh.out.mono HB3.out.size))
 clear HR3 HB3 pK zjM zzy zh
 have UU:=zJ
 have HR3:=za
 have HB3:=zo
 clear zJ za zo
 refine (pR.calls VZ Ut rfl).mono ?_
 rintro e nI ⟨v12,rfl,hr,hb⟩
 have zJ:=zx.mk (zW UU.out hb)
 have za:=zx.mk (Kd.yO HR3.out hb)
 have zh:=zx.mk (Kd.ql hr HB3.out.size)
 have zo:=zx.mk (HB3.out.trans (hb.mono HB3.out.size))
 clear UU HR3 HB3 hr hb
 have UU:=zJ
 have HR3:=za
 have HL3:=zh
 have HB3:=zo
 clear zJ za zh zo
 obtain ⟨QT,c12,e12⟩:=Kd.qD HL3.out
 generalize VZ.length = n12 at e12
 subst e12
 have hq4:nI.cell? ⟨g3,4,none⟩ = some (.slice none 0 0):=(zK UU.out 4).trans rfl
 have zxA:=zy UU.out 4
 go_wp2_with fail
 have zJ:=zx.mk (y8 (cs':=#[.string (⟨#[66]⟩:ByteArray),.bool false,.int .i64 250,.slice A9 n9 c9,.slice QT n12 c12,.slice none 0 0]) UU.out 4 (.slice QT n12 c12) rfl)
 have za:=zx.mk (Kd.pO HR3.out UU.out (by decide) 4 (.slice QT n12 c12))
 have zh:=zx.mk (Kd.pO HL3.out UU.out (by decide) 4 (.slice QT n12 c12))
 have zo:=zx.mk (HB3.out.setCell (p:=⟨g3,4,none⟩) LG3.out (.slice QT n12 c12))
 clear UU HR3 HL3 HB3 hq4 zxA
 generalize nI.setCell ⟨g3,4,none⟩ (.slice QT n12 c12) = WI at zJ za zh zo ⊢
 have FB3:=zx.mk (FB.mk zjF zJ.out LG3.out za.out zh.out (Kd.jM _ _ _ _ _))
 have rF:=zx.mk zo.out
 clear zJ za zh zo LG3
 refine (Qb 59 _ Tryz.func59 (by kernel_rfl) rfl bU zvL (⟨#[77]⟩:ByteArray) 600 WI.heap.size (.slice none 0 0) [] (kY bU 127) WI (Nat.le_refl _) (Kd.jM _ _ _ _ _) (by simp [kg]) (by rw [List.nil_append]) (zqW bU)).mono ?_
 rintro e bJ ⟨v13,rfl,hr,hb,-,-⟩
 have HR4:=zx.mk hr
 have UM:=zx.mk hb
 clear hr hb
 obtain ⟨WL,c13,e13⟩:=Kd.qD HR4.out
 generalize (kY bU 127).length = n13 at e13
 subst e13
 go_wp2_with (first | ((with_reducible refine y9 (N:=4) rfl ?_);refine qQ ?hg (N:=4) ?hd (cs:=#[.string (⟨#[]⟩:ByteArray),.bool false,.int .i64 0,.slice none 0 0,.slice none 0 0,.slice none 0 0]) (t:=60) ?hr ?_;(case hd=>rfl);(case hg=>rfl);(case hr=>first | (go_simp;done) | (go_simp;rfl));intro g4 Xh cO hbx hbq;have pY:=zx.mk hbx;have zjN:=zx.mk hbq;have zzw:=zx.mk Xh;clear hbx hbq Xh;have zwH:cO.cell? ⟨g4,0,none⟩ = some (.string (⟨#[]⟩:ByteArray)):=(zK pY.out 0).trans rfl;have zwI:cO.cell? ⟨g4,1,none⟩ = some (.bool false):=(zK pY.out 1).trans rfl;have zwL:cO.cell? ⟨g4,2,none⟩ = some (.int .i64 0):=(zK pY.out 2).trans rfl;have zwM:cO.cell? ⟨g4,3,none⟩ = some (.slice none 0 0):=(zK pY.out 3).trans rfl;have zwN:cO.cell? ⟨g4,4,none⟩ = some (.slice none 0 0):=(zK pY.out 4).trans rfl;have zwO:cO.cell? ⟨g4,5,none⟩ = some (.slice none 0 0):=(zK pY.out 5).trans rfl;have zwP:=zy pY.out 0;have zwR:=zy pY.out 1;have zwS:=zy pY.out 2;have zwT:=zy pY.out 3;have zwU:=zy pY.out 4;have zw0:=zy pY.out 5) | ((with_reducible refine y9 (N:=5) rfl ?_);have zJ:=zx.mk (Yj pY.out (⟨#[77]⟩:ByteArray) false 600 (.slice WL n13 c13) (.slice none 0 0) (.slice none 0 0));have zh:=zx.mk (YE (zjN.out) (Nat.le_of_eq zzw.out.symm) (.string (⟨#[77]⟩:ByteArray)) (.bool false) (.int .i64 600) (.slice WL n13 c13) (.slice none 0 0) (.slice none 0 0));have LG4:=zx.mk (Nat.le_trans UM.out.size (Nat.le_of_eq zzw.out.symm));clear zwH zwI zwL zwM zwN zwO zwP zwR zwS zwT zwU zw0;generalize ((((((cO.setCell ⟨g4,0,none⟩ (.string (⟨#[77]⟩:ByteArray))).setCell ⟨g4,1,none⟩ (.bool false)).setCell ⟨g4,2,none⟩ (.int .i64 600)).setCell ⟨g4,3,none⟩ (.slice WL n13 c13)).setCell ⟨g4,4,none⟩ (.slice none 0 0)).setCell ⟨g4,5,none⟩ (.slice none 0 0)) = QU at zJ zh ⊢;have FB4:=zx.mk (FB.mk zjG zJ.out LG4.out (Kd.yO HR4.out zh.out) (Kd.jM _ _ _ _ _) (Kd.jM _ _ _ _ _));have BW3:=zx.mk (UM.out.trans (zh.out.mono UM.out.size));clear HR4 UM pY zjN zzw LG4 zJ zh;refine qQ ?hg (N:=5) ?hd (cs:=#[.string (⟨#[]⟩:ByteArray),.bool false,.int .i64 0,.slice none 0 0,.slice none 0 0,.slice none 0 0]) (t:=60) ?hr ?_;(case hd=>rfl);(case hg=>rfl);(case hr=>first | (go_simp;done) | (go_simp;rfl));intro g5 Xh Y7 hbx hbq;have pW:=zx.mk hbx;have zjO:=zx.mk hbq;have zzZ:=zx.mk Xh;clear hbx hbq Xh;have zw1:Y7.cell? ⟨g5,0,none⟩ = some (.string (⟨#[]⟩:ByteArray)):=(zK pW.out 0).trans rfl;have zw2:Y7.cell? ⟨g5,1,none⟩ = some (.bool false):=(zK pW.out 1).trans rfl;have zw3:Y7.cell? ⟨g5,2,none⟩ = some (.int .i64 0):=(zK pW.out 2).trans rfl;have zw4:Y7.cell? ⟨g5,3,none⟩ = some (.slice none 0 0):=(zK pW.out 3).trans rfl;have zw5:Y7.cell? ⟨g5,4,none⟩ = some (.slice none 0 0):=(zK pW.out 4).trans rfl;have zw6:Y7.cell? ⟨g5,5,none⟩ = some (.slice none 0 0):=(zK pW.out 5).trans rfl;have zw7:=zy pW.out 0;have zw8:=zy pW.out 1;have zw9:=zy pW.out 2;have zZz:=zy pW.out 3;have zZq:=zy pW.out 4;have zZx:=zy pW.out 5))
 have zJ:=zx.mk (Yj pW.out (⟨#[83]⟩:ByteArray) true 250 (.slice none 0 0) (.slice none 0 0) (.slice none 0 0))
 have zh:=zx.mk (YE (zjO.out) (Nat.le_of_eq zzZ.out.symm) (.string (⟨#[83]⟩:ByteArray)) (.bool true) (.int .i64 250) (.slice none 0 0) (.slice none 0 0) (.slice none 0 0))
 have LG5:=zx.mk (Nat.le_of_eq zzZ.out.symm)
 clear zw1 zw2 zw3 zw4 zw5 zw6 zw7 zw8 zw9 zZz zZq zZx
 generalize ((((((Y7.setCell ⟨g5,0,none⟩ (.string (⟨#[83]⟩:ByteArray))).setCell ⟨g5,1,none⟩ (.bool true)).setCell ⟨g5,2,none⟩ (.int .i64 250)).setCell ⟨g5,3,none⟩ (.slice none 0 0)).setCell ⟨g5,4,none⟩ (.slice none 0 0)).setCell ⟨g5,5,none⟩ (.slice none 0 0)) = w16 at zJ zh ⊢
 clear pW zjO zzZ
 have BX5:=zJ
 have dz:=zh
 clear zJ zh
 have GWS:=zx.mk (HGW.out.under (WH.out.trans ((cB.out.mono WH.out.size).trans ((rF.out.mono (Nat.le_trans WH.out.size cB.out.size)).trans (BW3.out.mono (Nat.le_trans WH.out.size (Nat.le_trans cB.out.size rF.out.size)))))))
 refine (Tryz.strings_Fields Vw w16 (by decide +kernel) nQ (GWS.out.under dz.out).spc).mono ?_
 rintro e Vg ⟨rfl,dw⟩
 have hlen:(Lib.fields Vw.data.toList).length = 70:=cZ
 rw [hlen]
 clear hlen
 have hcw:((Lib.fields Vw.data.toList).map fun l=>Value.string ⟨l.toArray⟩).toArray = Z0:=rfl
 rw [hcw] at dw
 have BKW:=zx.mk (show Vg.heap[w16.heap.size]? = some (.cells Z0 9 (0,0)) by rw [dw];exact uN _ _)
 have zJ:=yG BX5.out (.cells Z0 9)
 rw [← dw] at zJ
 have za:=zx.mk (show Below QU.heap.size QU Vg by rw [dw];exact dz.out.alloc dz.out.size _)
 clear BX5 dz dw hcw
 have BX5:=zx.mk zJ
 have dz:=za
 clear zJ za
 generalize w16.heap.size = bw at BKW ⊢
 go_wp2
 go_loopw [7,8,9] (fun x y z wr=>zQq QU g5 bw x wr) (fun x y z _=>70 - (intOf x).toNat)
 case atStart=>exact ⟨0,0,_,rfl,rfl,by omega,Kd.jM _ _ _ _ _,BX5.out,BKW.out,dz.out⟩
 case round =>
  obtain ⟨m,k,u,rfl,hk0,hm,Qm,BX0,BK0,HB0⟩:=hrel
  have HKK:=zx.mk hk0
  have hkm:k ≤ 2 * m:=by omega
  have hmk:2 * m ≤ k:=by omega
  clear hk0
  have jN:=zx.mk Qm
  have BX:=zx.mk BX0
  have BK:=zx.mk BK0
  have kW:=zx.mk HB0
  clear Qm BX0 BK0 HB0 BX5 BKW dz
  by_cases hlt:m < 35
  ·have q1:decide ((k:Int) < 70) = true:=decide_eq_true (by omega)
   have q2:IntKind.i64.wrap ((k:Int) + 1) = (k:Int) + 1:=IntWalk.i64_in _ (by omega)
   have hcell:wr.cell? ⟨bw,k + 1,none⟩ = some (.string (jS (k + 1))):=(zK BK.out _).trans (Qd _ (by omega))
   go_wp2_with fail
   have zyy:=o8 (jS (k + 1)) wr (by have:=nX (k + 1);omega) (GWS.out.under kW.out)
   refine zyy.mono ?_
   rintro e bS ⟨rfl,hb⟩
   clear zyy hcell q2
   have zJ:=zx.mk (Kd.uR (Kd.yO jN.out hb))
   have za:=zx.mk (yQ (zW BX.out hb))
   have zh:=zx.mk (yQ (zW BK.out hb))
   have zo:=zx.mk ((kW.out.trans (hb.mono kW.out.size)).drew)
   clear jN BX BK kW hb
   have jN:=zJ
   have BX:=za
   have BK:=zh
   have kW:=zo
   clear zJ za zh zo
   have zxB:k < 70:=by omega
   have q5:((k:Int) < 70) = True:=eq_true (by omega)
   go_wp2
   refine uq (n:=12) (S:=fun w'=>w'.cell? ⟨g5,3,none⟩ = some u ∧ w'.cell? ⟨bw,k,none⟩ = some (.string (jS k))) (ds:=[11]) #[false,false,false,false,false,false,false,false,false,false,false,false] (by kernel_rfl) rfl rfl ⟨(zK BX.out 3).trans rfl,(zK BK.out _).trans (Qd _ zxB)⟩ (fun hHeld=>?_)
   refine Qw std.zwv (fun zC=>?_)
   generalize bS.drew = w16 at jN BX BK kW hHeld ⊢
   refine q9 (i:=0) (N:=some 50) (v:=?_) (a':=?_) #[true,false,false,false,false,false,false,false,false,false,false,false] rfl rfl (qE zC.out (by kernel_rfl)) (fun _ _ _ h=>h) (Or.inl ⟨by rfl,?_⟩) ?_ ?_
   rotate_left
   ·intro w'
    go_simp
    with_reducible rfl
   rotate_left
   ·simp only [Act.put,List.setIfInBounds_toArray,List.set_cons_zero,List.set_cons_succ]
    rfl
   refine q9 (i:=2) (N:=some 52) (v:=?_) (a':=?_) #[true,false,true,false,false,false,false,false,false,false,false,false] rfl rfl (qE zC.out (by kernel_rfl)) (fun _ _ _ h=>h) (Or.inl ⟨by rfl,?_⟩) ?_ ?_
   rotate_left
   ·intro w'
    go_simp
    with_reducible rfl
   rotate_left
   ·simp only [Act.put,List.setIfInBounds_toArray,List.set_cons_zero,List.set_cons_succ]
    rfl
   refine q9 (i:=3) (N:=some 53) (v:=?_) (a':=?_) #[true,false,true,true,false,false,false,false,false,false,false,false] rfl rfl (qE zC.out (by kernel_rfl)) (fun _ _ _ h=>h) (Or.inl ⟨by rfl,?_⟩) ?_ ?_
   rotate_left
   ·intro w'
    go_simp
    with_reducible rfl
   rotate_left
   ·simp only [Act.put,List.setIfInBounds_toArray,List.set_cons_zero,List.set_cons_succ]
    rfl
   refine q9 (i:=4) (N:=some 54) (v:=?_) (a':=?_) #[true,false,true,true,true,false,false,false,false,false,false,false] rfl rfl (qE zC.out (by kernel_rfl)) (fun _ _ _ h=>h) (Or.inl ⟨by rfl,?_⟩) ?_ ?_
   rotate_left
   ·intro w'
    go_simp
    with_reducible rfl
   rotate_left
   ·simp only [Act.put,List.setIfInBounds_toArray,List.set_cons_zero,List.set_cons_succ]
    rfl
   refine q9 (i:=6) (N:=some 56) (v:=?_) (a':=?_) #[true,false,true,true,true,false,true,false,false,false,false,false] rfl rfl (qE zC.out (by kernel_rfl)) (fun _ _ _ h=>h) (Or.inl ⟨by rfl,?_⟩) ?_ ?_
   rotate_left
   ·intro w'
    go_simp
    with_reducible rfl
   rotate_left
   ·simp only [Act.put,List.setIfInBounds_toArray,List.set_cons_zero,List.set_cons_succ]
    rfl
   refine Z4 (i:=1) (N:=some 51) (v:=?_) (a':=?_) #[true,true,true,true,true,false,true,false,false,false,false,false] rfl rfl (Vv zC.out (by kernel_rfl)) (fun _ _ _ h=>h) (Or.inl ⟨by rfl,?_⟩) hHeld ?_ ?_
   rotate_left
   ·rintro w' ⟨s0,s1⟩
    go_simp
    with_reducible rfl
   rotate_left
   ·simp only [Act.put,List.setIfInBounds_toArray,List.set_cons_zero,List.set_cons_succ]
    rfl
   refine Z4 (i:=5) (N:=some 55) (v:=?_) (a':=?_) #[true,true,true,true,true,true,true,false,false,false,false,false] rfl rfl (Vv zC.out (by kernel_rfl)) (fun _ _ _ h=>h) (Or.inl ⟨by rfl,?_⟩) hHeld ?_ ?_
   rotate_left
   ·rintro w' ⟨s0,s1⟩
    go_simp
    with_reducible rfl
   rotate_left
   ·simp only [Act.put,List.setIfInBounds_toArray,List.set_cons_zero,List.set_cons_succ]
    rfl
   refine q9 (i:=7) (N:=some 57) (v:=?_) (a':=?_) #[true,true,true,true,true,true,true,true,false,false,false,false] rfl rfl (qE zC.out (by kernel_rfl)) (fun _ _ _ h=>h) (Or.inl ⟨by rfl,?_⟩) ?_ ?_
   rotate_left
   ·intro w'
    go_simp
    with_reducible rfl
   rotate_left
   ·simp only [Act.put,List.setIfInBounds_toArray,List.set_cons_zero,List.set_cons_succ]
    rfl
   refine Z5 (i:=8) (N:=some 58) #[true,true,true,true,true,true,true,true,true,false,false,false] rfl rfl (jX zC.out (by kernel_rfl)) (by decide) (fun K hK=>?_)
   refine Pt (w1:=?_) (v:=?_) (by rfl) rfl ?_ ?_
   rotate_left 2
   ·go_simp
    constructor
    ·rfl
    ·rfl
   refine hK.out _ _ ⟨(zK (yG BX.out _) 3).trans rfl,(zK (yG BK.out _) _).trans (Qd _ zxB)⟩ (fun hHeld=>?_)
   clear hK K
   refine Z6 (a':=?_) ?_ ?_
   rotate_left
   ·show Act.put _ (some 58) _ = _
    simp only [Act.put,List.setIfInBounds_toArray,List.set_cons_zero,List.set_cons_succ]
    rfl
   refine Z5 (i:=9) (N:=some 59) #[true,true,true,true,true,true,true,true,true,true,false,false] rfl rfl (jX zC.out (by kernel_rfl)) (by decide) (fun K hK=>?_)
   refine Kd.YG xG (w0:=QU) QU.heap.size (by rfl) (.tmp 51) (.tmp 58) 56 105 (.agg #[(.string ⟨#[]⟩),(.int .i64 0)]) 24 rfl Tryz.underlying56 rV rfl (by decide) (by omega) u (Qc m) (⟨jS k,(QN (jS (k + 1))).1⟩:yP) [.string (jS k),.int .i64 (QN (jS (k + 1))).1] (fun _=>True) (fun _=>False) rfl rfl ?aP (fun _ hk=>hk.elim) ?aF ?aO ?aB ?aS ?aL ?_
   (case aP=>exact YJ _ _ _ (⟨jS k,(QN (jS (k + 1))).1⟩:yP))
   (case aF=>exact (fun _ _=>trivial))
   (case aO=>exact jN.out)
   (case aB=>exact kW.out)
   (case aS=>exact kW.out.size)
   (case aL=>rw [zxt];omega)
   intro v1 bS ho hb hg hat
   rw [HKK.out,← zqb] at ho
   obtain ⟨Ao,co,eo⟩:=Kd.qD ho
   subst eo
   generalize (Qc (m + 1)).length = nn at ho hat ⊢
   have zJ:=zx.mk (kX BX.out hg (Kd.Qr jN.out BX.out (by decide)))
   have za:=zx.mk (kX BK.out hg (Kd.Qr jN.out BK.out (by decide)))
   have zh:=zx.mk hb
   have zo:=zx.mk ho
   clear BX BK kW jN ho hb hg hat hHeld
   have BX:=zJ
   have BK:=za
   have kW:=zh
   have jN:=zo
   clear zJ za zh zo
   refine hK.out _ _ ⟨(zK BX.out 3).trans rfl,(zK BK.out _).trans (Qd _ zxB)⟩ (fun hHeld=>?_)
   clear hK K
   refine Z6 (a':=?_) ?_ ?_
   rotate_left
   ·show Act.put _ (some 59) _ = _
    simp only [Act.put,List.setIfInBounds_toArray,List.set_cons_zero,List.set_cons_succ]
    rfl
   refine q9 (i:=10) (N:=some 60) (v:=?_) (a':=?_) #[true,true,true,true,true,true,true,true,true,true,true,false] rfl rfl (qE zC.out (by kernel_rfl)) (fun _ _ _ h=>h) (Or.inl ⟨by rfl,?_⟩) ?_ ?_
   rotate_left
   ·intro w'
    go_simp
    with_reducible rfl
   rotate_left
   ·simp only [Act.put,List.setIfInBounds_toArray,List.set_cons_zero,List.set_cons_succ]
    rfl
   refine UJ (i:=11) (N:=none) #[true,true,true,true,true,true,true,true,true,true,true,true] rfl rfl (jX zC.out (by kernel_rfl)) (by decide) (fun K hK=>?_)
   have zxp:bS.cell? ⟨g5,3,none⟩ = some u:=(zK BX.out 3).trans rfl
   have o7:=zy BX.out 3
   refine Qy (w1:=?_) (by rfl) rfl ?_ ?_
   rotate_left
   ·go_simp
    rfl
   refine hK.out _ _ ?_
   clear hK K
   refine xD (qb zC.out (by kernel_rfl)) ?_
   have zJ:=zx.mk (y8 (cs':=#[.string (⟨#[83]⟩:ByteArray),.bool true,.int .i64 250,.slice Ao nn co,.slice none 0 0,.slice none 0 0]) BX.out 3 (.slice Ao nn co) rfl)
   have za:=zx.mk (pI BK.out (p:=⟨g5,3,none⟩) (zv4 BK.out BX.out (by decide)) (.slice Ao nn co))
   have zh:=zx.mk (kW.out.setCell (p:=⟨g5,3,none⟩) LG5.out (.slice Ao nn co))
   have zo:=zx.mk (Kd.pO jN.out BX.out (by decide) 3 (.slice Ao nn co))
   clear BX BK kW jN hHeld zxp o7
   generalize bS.setCell ⟨g5,3,none⟩ (.slice Ao nn co) = Ws at zJ za zh zo ⊢
   have q4:IntKind.i64.wrap ((k:Int) + 2) = ((k + 2:Nat):Int):=(IntWalk.i64_in _ (by omega)).trans (by omega)
   go_wp2
   go_roundw
   case rel=>exact ⟨m + 1,k + 2,.slice Ao nn co,by first | rfl | (rw [q4];done) | (simp;done),by have:=HKK.out;omega,by omega,zo.out,zJ.out,za.out,zh.out⟩
   case measure=>first | (simp [intOf];omega) | (rw [q4];simp [intOf];omega)
  ·have zyw:m = 35:=by omega
   have q1:decide ((k:Int) < 70) = false:=decide_eq_false (by omega)
   have hR5:=jN.out
   rw [zyw] at hR5
   have BC3:=BW3.out.trans (kW.out.mono BW3.out.size)
   have BC2:=rF.out.trans (BC3.mono rF.out.size)
   have BC1:=cB.out.trans (BC2.mono cB.out.size)
   have BC0:=WH.out.trans (BC1.mono WH.out.size)
   obtain ⟨dZ,dQ,dX,dJ,dV,dK,dY,dW,dh,bk1,KM1⟩:=(FB1.out.keep BC1).cells
   obtain ⟨dn,dA,dB,dD,dF,dG,dH,dI,dL,bk2,KM2⟩:=(FB2.out.keep BC2).cells
   obtain ⟨dM,dN,dO,dP,dR,dS,dU,d9,gq,gy,KM3⟩:=(FB3.out.keep BC3).cells
   obtain ⟨gZ,gQ,gX,gJ,gV,gK,gY,gW,gu,gB,KM4⟩:=(FB4.out.keep kW.out).cells
   obtain ⟨gD,gF,gG,gH,gI,gL,gM,gN,gP,gT,KM5⟩:=(FB.mk zjH BX.out LG5.out hR5 (Kd.jM _ _ _ _ _) (Kd.jM _ _ _ _ _)).cells
   have BCA:=zx.mk BC0
   have KA1:=zx.mk KM1
   have KA2:=zx.mk KM2
   have KA3:=zx.mk KM3
   have KA4:=zx.mk KM4
   have KA5:=zx.mk KM5
   have S0:=zx.mk WH.out.size
   have S1:=zx.mk cB.out.size
   have S2:=zx.mk rF.out.size
   have S3:=zx.mk BW3.out.size
   have S4:=zx.mk kW.out.size
   have zQj:wr.cell? ⟨g1,0,none⟩ = some (.string (⟨#[82]⟩:ByteArray)):=(zK bk1 0).trans rfl
   have zQv:wr.cell? ⟨g1,1,none⟩ = some (.bool false):=(zK bk1 1).trans rfl
   have zQk:wr.cell? ⟨g1,2,none⟩ = some (.int .i64 250):=(zK bk1 2).trans rfl
   have zQy:wr.cell? ⟨g1,3,none⟩ = some (.slice dZ dQ dX):=(zK bk1 3).trans rfl
   have zQw:wr.cell? ⟨g1,4,none⟩ = some (.slice dJ dV dK):=(zK bk1 4).trans rfl
   have zQZ:wr.cell? ⟨g1,5,none⟩ = some (.slice dY dW dh):=(zK bk1 5).trans rfl
   have zQQ:wr.cell? ⟨g2,0,none⟩ = some (.string (⟨#[73]⟩:ByteArray)):=(zK bk2 0).trans rfl
   have zQX:wr.cell? ⟨g2,1,none⟩ = some (.bool false):=(zK bk2 1).trans rfl
   have zQJ:wr.cell? ⟨g2,2,none⟩ = some (.int .i64 250):=(zK bk2 2).trans rfl
   have zQV:wr.cell? ⟨g2,3,none⟩ = some (.slice dn dA dB):=(zK bk2 3).trans rfl
   have hx24:wr.cell? ⟨g2,4,none⟩ = some (.slice dD dF dG):=(zK bk2 4).trans rfl
   have hx25:wr.cell? ⟨g2,5,none⟩ = some (.slice dH dI dL):=(zK bk2 5).trans rfl
   have zQK:wr.cell? ⟨g3,0,none⟩ = some (.string (⟨#[66]⟩:ByteArray)):=(zK gy 0).trans rfl
   have hx31:wr.cell? ⟨g3,1,none⟩ = some (.bool false):=(zK gy 1).trans rfl
   have hx32:wr.cell? ⟨g3,2,none⟩ = some (.int .i64 250):=(zK gy 2).trans rfl
   have zQY:wr.cell? ⟨g3,3,none⟩ = some (.slice dM dN dO):=(zK gy 3).trans rfl
   have hx34:wr.cell? ⟨g3,4,none⟩ = some (.slice dP dR dS):=(zK gy 4).trans rfl
   have zQW:wr.cell? ⟨g3,5,none⟩ = some (.slice dU d9 gq):=(zK gy 5).trans rfl
   have zQa:wr.cell? ⟨g4,0,none⟩ = some (.string (⟨#[77]⟩:ByteArray)):=(zK gB 0).trans rfl
   have zQb:wr.cell? ⟨g4,1,none⟩ = some (.bool false):=(zK gB 1).trans rfl
   have zQc:wr.cell? ⟨g4,2,none⟩ = some (.int .i64 600):=(zK gB 2).trans rfl
   have zQd:wr.cell? ⟨g4,3,none⟩ = some (.slice gZ gQ gX):=(zK gB 3).trans rfl
   have zQe:wr.cell? ⟨g4,4,none⟩ = some (.slice gJ gV gK):=(zK gB 4).trans rfl
   have zQf:wr.cell? ⟨g4,5,none⟩ = some (.slice gY gW gu):=(zK gB 5).trans rfl
   have zQg:wr.cell? ⟨g5,0,none⟩ = some (.string (⟨#[83]⟩:ByteArray)):=(zK gT 0).trans rfl
   have zQh:wr.cell? ⟨g5,1,none⟩ = some (.bool true):=(zK gT 1).trans rfl
   have zQi:wr.cell? ⟨g5,2,none⟩ = some (.int .i64 250):=(zK gT 2).trans rfl
   have zQl:wr.cell? ⟨g5,3,none⟩ = some (.slice gD gF gG):=(zK gT 3).trans rfl
   have zQm:wr.cell? ⟨g5,4,none⟩ = some (.slice gH gI gL):=(zK gT 4).trans rfl
   have zQn:wr.cell? ⟨g5,5,none⟩ = some (.slice gM gN gP):=(zK gT 5).trans rfl
   clear hR5 BC0 BC1 BC2 BC3 KM1 KM2 KM3 KM4 KM5 bk1 bk2 gy gB gT jN BX BK kW hkm hmk zyw hm hlt HKK FB1 FB2 FB3 FB4 WH cB rF BW3 GWS HGW LG5
   go_wp2
   clear zQj zQv zQk zQy zQw zQZ zQQ zQX zQJ zQV hx24 hx25 zQK hx31 hx32 zQY hx34 zQW zQa zQb zQc zQd zQe zQf zQg zQh zQi zQl zQm zQn
   have hbn:=yI (Below.refl wr.heap.size wr) (.cells #[.string (⟨#[82]⟩:ByteArray),.bool false,.int .i64 250,.slice dZ dQ dX,.slice dJ dV dK,.slice dY dW dh,.string (⟨#[73]⟩:ByteArray),.bool false,.int .i64 250,.slice dn dA dB,.slice dD dF dG,.slice dH dI dL,.string (⟨#[66]⟩:ByteArray),.bool false,.int .i64 250,.slice dM dN dO,.slice dP dR dS,.slice dU d9 gq,.string (⟨#[77]⟩:ByteArray),.bool false,.int .i64 600,.slice gZ gQ gX,.slice gJ gV gK,.slice gY gW gu,.string (⟨#[83]⟩:ByteArray),.bool true,.int .i64 250,.slice gD gF gG,.slice gH gI gL,.slice gM gN gP] 60)
   have hnew:=uN wr (.cells #[.string (⟨#[82]⟩:ByteArray),.bool false,.int .i64 250,.slice dZ dQ dX,.slice dJ dV dK,.slice dY dW dh,.string (⟨#[73]⟩:ByteArray),.bool false,.int .i64 250,.slice dn dA dB,.slice dD dF dG,.slice dH dI dL,.string (⟨#[66]⟩:ByteArray),.bool false,.int .i64 250,.slice dM dN dO,.slice dP dR dS,.slice dU d9 gq,.string (⟨#[77]⟩:ByteArray),.bool false,.int .i64 600,.slice gZ gQ gX,.slice gJ gV gK,.slice gY gW gu,.string (⟨#[83]⟩:ByteArray),.bool true,.int .i64 250,.slice gD gF gG,.slice gH gI gL,.slice gM gN gP] 60 (0,0))
   have hbw:=BCA.out.alloc BCA.out.size (.cells #[.string (⟨#[82]⟩:ByteArray),.bool false,.int .i64 250,.slice dZ dQ dX,.slice dJ dV dK,.slice dY dW dh,.string (⟨#[73]⟩:ByteArray),.bool false,.int .i64 250,.slice dn dA dB,.slice dD dF dG,.slice dH dI dL,.string (⟨#[66]⟩:ByteArray),.bool false,.int .i64 250,.slice dM dN dO,.slice dP dR dS,.slice dU d9 gq,.string (⟨#[77]⟩:ByteArray),.bool false,.int .i64 600,.slice gZ gQ gX,.slice gJ gV gK,.slice gY gW gu,.string (⟨#[83]⟩:ByteArray),.bool true,.int .i64 250,.slice gD gF gG,.slice gH gI gL,.slice gM gN gP] 60)
   have hS:Kd.S jh 60 (wr.alloc (.cells #[.string (⟨#[82]⟩:ByteArray),.bool false,.int .i64 250,.slice dZ dQ dX,.slice dJ dV dK,.slice dY dW dh,.string (⟨#[73]⟩:ByteArray),.bool false,.int .i64 250,.slice dn dA dB,.slice dD dF dG,.slice dH dI dL,.string (⟨#[66]⟩:ByteArray),.bool false,.int .i64 250,.slice dM dN dO,.slice dP dR dS,.slice dU d9 gq,.string (⟨#[77]⟩:ByteArray),.bool false,.int .i64 600,.slice gZ gQ gX,.slice gJ gV gK,.slice gY gW gu,.string (⟨#[83]⟩:ByteArray),.bool true,.int .i64 250,.slice gD gF gG,.slice gH gI gL,.slice gM gN gP] 60)) QS.heap.size (fun _=>True) (.slice (some ⟨wr.heap.size,0,none⟩) 5 5) jm:=by
    generalize wr.alloc (.cells #[.string (⟨#[82]⟩:ByteArray),.bool false,.int .i64 250,.slice dZ dQ dX,.slice dJ dV dK,.slice dY dW dh,.string (⟨#[73]⟩:ByteArray),.bool false,.int .i64 250,.slice dn dA dB,.slice dD dF dG,.slice dH dI dL,.string (⟨#[66]⟩:ByteArray),.bool false,.int .i64 250,.slice dM dN dO,.slice dP dR dS,.slice dU d9 gq,.string (⟨#[77]⟩:ByteArray),.bool false,.int .i64 600,.slice gZ gQ gX,.slice gJ gV gK,.slice gY gW gu,.string (⟨#[83]⟩:ByteArray),.bool true,.int .i64 250,.slice gD gF gG,.slice gH gI gL,.slice gM gN gP] 60) = w' at hbn hnew ⊢
    have s0:=S0.out
    have s1:=S1.out
    have s2:=S2.out
    have s3:=S3.out
    have s4:=S4.out
    refine ⟨fun k=>if k < WG.heap.size then 0 else if k < UR.heap.size then 1 else if k < WI.heap.size then 2 else if k < QU.heap.size then 3 else 4,fun _ _=>trivial,[.string (⟨#[82]⟩:ByteArray),.bool false,.int .i64 250,.slice dZ dQ dX,.slice dJ dV dK,.slice dY dW dh,.string (⟨#[73]⟩:ByteArray),.bool false,.int .i64 250,.slice dn dA dB,.slice dD dF dG,.slice dH dI dL,.string (⟨#[66]⟩:ByteArray),.bool false,.int .i64 250,.slice dM dN dO,.slice dP dR dS,.slice dU d9 gq,.string (⟨#[77]⟩:ByteArray),.bool false,.int .i64 600,.slice gZ gQ gX,.slice gJ gV gK,.slice gY gW gu,.string (⟨#[83]⟩:ByteArray),.bool true,.int .i64 250,.slice gD gF gG,.slice gH gI gL,.slice gM gN gP],⟨rfl,.inr ⟨wr.heap.size,5,_,rfl,BCA.out.size,hnew,by decide,by decide,rfl,rfl⟩⟩,rfl,fun j p hj=>?_⟩
    have hne:∀ q,q < wr.heap.size → some q ≠ (Value.slice (some ⟨wr.heap.size,0,none⟩) 5 5).ownBlock:=by
     intro q hq e
     have:wr.heap.size = q:=by simpa [Value.ownBlock] using e.symm
     omega
    rcases j with _ | _ | _ | _ | _ | j
    ·obtain rfl:=Option.some.inj hj
     refine KA1.out w' QS.heap.size _ hbn (by omega) (fun q h1 h2=>⟨⟨trivial,hne q (by omega)⟩,?_⟩)
     show (if q < WG.heap.size then 0 else if q < UR.heap.size then 1 else if q < WI.heap.size then 2 else if q < QU.heap.size then 3 else 4) = 0
     repeat' split
     all_goals omega
    ·obtain rfl:=Option.some.inj hj
     refine KA2.out w' QS.heap.size _ hbn (by omega) (fun q h1 h2=>⟨⟨trivial,hne q (by omega)⟩,?_⟩)
     show (if q < WG.heap.size then 0 else if q < UR.heap.size then 1 else if q < WI.heap.size then 2 else if q < QU.heap.size then 3 else 4) = 1
     repeat' split
     all_goals omega
    ·obtain rfl:=Option.some.inj hj
     refine KA3.out w' QS.heap.size _ hbn (by omega) (fun q h1 h2=>⟨⟨trivial,hne q (by omega)⟩,?_⟩)
     show (if q < WG.heap.size then 0 else if q < UR.heap.size then 1 else if q < WI.heap.size then 2 else if q < QU.heap.size then 3 else 4) = 2
     repeat' split
     all_goals omega
    ·obtain rfl:=Option.some.inj hj
     refine KA4.out w' QS.heap.size _ hbn (by omega) (fun q h1 h2=>⟨⟨trivial,hne q (by omega)⟩,?_⟩)
     show (if q < WG.heap.size then 0 else if q < UR.heap.size then 1 else if q < WI.heap.size then 2 else if q < QU.heap.size then 3 else 4) = 3
     repeat' split
     all_goals omega
    ·obtain rfl:=Option.some.inj hj
     refine KA5.out w' QS.heap.size _ hbn (by omega) (fun q h1 h2=>⟨⟨trivial,hne q (by omega)⟩,?_⟩)
     show (if q < WG.heap.size then 0 else if q < UR.heap.size then 1 else if q < WI.heap.size then 2 else if q < QU.heap.size then 3 else 4) = 4
     repeat' split
     all_goals omega
    ·simp [jm] at hj
   clear hbn hnew
   go_ret
   exact ⟨_,rfl,hS,hbw⟩
def yJ.f:Option (List kV):=some jm
theorem yJ.calls (r:List kV) (w:World) (hG:GW w) (h:yJ.f = some r) :
  Calls Tryz.prog 19 #[] w fun e w'=>∃ XK:Value,e = .returned XK ∧ Kd.S jh 60 w' w.heap.size (fun _=>True) XK r ∧ Below w.heap.size w w':=by
 obtain rfl:=Option.some.inj h
 exact zvM w hG
end Go.Proofs.YtggifbbiiickmaaGreatDoor
namespace Go.Proofs.YtggifbbiiickmaaGreatDoor.PX
open Go.RowKit Go.Proofs.zk.zm Go.Proofs.zk.yK Go.Proofs.zk.yc
attribute [local go_sem] uf ug jW jc vL vM uh um   -- for this text's walks alone
set_option linter.unusedVariables false
set_option linter.unusedSimpArgs false
def yC.f  : Option (Bool):=(yJ.f).bind fun wU=>((yR.f wU 0 10 true false (([(⟨#[102]⟩:ByteArray),(⟨#[105]⟩:ByteArray)]:List ByteArray)) ([]:List (uj))).bind fun jV=>(if jV.2.2 = 0 then (if (jV.2.1.length:Int) = 0 then (if (jV.1.length:Int) = 1 then (if 0 < (jV.1.length:Int) then (some (((zI jV.1 0).f4).toList == ([102,105]:List UInt8))) else (none)) else (some false)) else (some false)) else (some false)))
set_option maxHeartbeats 8000000 in
set_option maxRecDepth 100000 in
theorem yC.calls  (r:Bool) (w:World) (hG:GW w) (h:yC.f  = some r) :
  Calls Tryz.prog 11 #[] w fun e w'=>e = .returned (.bool r) ∧ Below w.heap.size w w':=by
 have zxo:=Tryz.underlying26
 have HG:=zx.mk hG
 clear hG
 have HB:=zx.mk (Below.refl w.heap.size w)
 have H:((yJ.f).bind fun wU=>((yR.f wU 0 10 true false (([(⟨#[102]⟩:ByteArray),(⟨#[105]⟩:ByteArray)]:List ByteArray)) ([]:List (uj))).bind fun jV=>(if jV.2.2 = 0 then (if (jV.2.1.length:Int) = 0 then (if (jV.1.length:Int) = 1 then (if 0 < (jV.1.length:Int) then (some (((zI jV.1 0).f4).toList == ([102,105]:List UInt8))) else (none)) else (some false)) else (some false)) else (some false)))) = some r:=h
 clear h
 replace H:=Option.bind_eq_some_iff.mp H
 obtain ⟨wU,A10,H⟩:=H
 replace H:((yR.f wU 0 10 true false (([(⟨#[102]⟩:ByteArray),(⟨#[105]⟩:ByteArray)]:List ByteArray)) ([]:List (uj))).bind fun jV=>(if jV.2.2 = 0 then (if (jV.2.1.length:Int) = 0 then (if (jV.1.length:Int) = 1 then (if 0 < (jV.1.length:Int) then (some (((zI jV.1 0).f4).toList == ([102,105]:List UInt8))) else (none)) else (some false)) else (some false)) else (some false))) = some r:=H
 have A1:=zx.mk A10
 clear A10
 obtain ⟨y114,hy114⟩:∃ y_:List ByteArray,y_ = (([(⟨#[102]⟩:ByteArray),(⟨#[105]⟩:ByteArray)]:List ByteArray)):=⟨_,rfl⟩
 replace H:((yR.f wU 0 10 true false y114 ([]:List (uj))).bind fun jV=>(if jV.2.2 = 0 then (if (jV.2.1.length:Int) = 0 then (if (jV.1.length:Int) = 1 then (if 0 < (jV.1.length:Int) then (some (((zI jV.1 0).f4).toList == ([102,105]:List UInt8))) else (none)) else (some false)) else (some false)) else (some false))) = some r:=by first | (rw [hy114];with_reducible exact H) | (have Qu:=(Option.bind_some _ _).symm.trans H;rw [hy114];with_reducible exact Qu) | (have Qu:=(Option.bind_some _ _).symm.trans H;with_reducible exact Qu) | with_reducible exact H | (rw [hy114];exact H) | exact H
 have Xi:=zx.mk hy114
 clear hy114
 replace H:=Option.bind_eq_some_iff.mp H
 obtain ⟨⟨t117,Xx,XC⟩,A20,H⟩:=H
 replace H:(if XC = 0 then (if (Xx.length:Int) = 0 then (if (t117.length:Int) = 1 then (if 0 < (t117.length:Int) then (some (((zI t117 0).f4).toList == ([102,105]:List UInt8))) else (none)) else (some false)) else (some false)) else (some false)) = some r:=H
 have A2:=zx.mk A20
 clear A20
 by_cases c3:XC = 0
 ·rw [if_pos c3] at H
  have Xp:(XC == 0) = true:=beq_iff_eq.mpr c3
  have gU:(XC != 0) = false:=bne_eq_false_iff_eq.mpr c3
  clear c3
  by_cases c4:(Xx.length:Int) = 0
  ·rw [if_pos c4] at H
   have Xr:((Xx.length:Int) == 0) = true:=beq_iff_eq.mpr c4
   have zq9:((Xx.length:Int) != 0) = false:=bne_eq_false_iff_eq.mpr c4
   clear c4
   by_cases c5:(t117.length:Int) = 1
   ·rw [if_pos c5] at H
    have Vt:((t117.length:Int) == 1) = true:=beq_iff_eq.mpr c5
    have P6:((t117.length:Int) != 1) = false:=bne_eq_false_iff_eq.mpr c5
    clear c5
    by_cases c6:0 < (t117.length:Int)
    ·rw [if_pos c6] at H
     have Xt:decide (0 < (t117.length:Int)) = true:=decide_eq_true c6
     have zzQ:decide (0 < t117.length) = true:=decide_eq_true (by omega)
     clear c6
     obtain rfl:=Option.some.inj H
     go_enter Tryz.func11,Tryz.ntmps11
     go_wp2_with (first | ((with_reducible refine yu (f:=19) rfl ?_);refine jq (some 5) Tryz.func19 #[] ?_;(with_reducible refine (yJ.calls  wU _ ?yX A1.out).mono ?_);(case yX=>exact GW.under HG.out (zB HB.out));rintro e w7 ⟨zxC,rfl,ho0,hb⟩;refine ⟨_,rfl,?_⟩;have zJ:=zx.mk (Kd.qG ho0 (zf (zB HB.out)));have za:=zx.mk (zn (zB HB.out) hb);clear HB;have xg:=zJ;have HB:=za;clear zJ za;(try clear hb);(try clear hk);(try clear ho0)) | ((with_reducible refine y9 (N:=7) rfl ?_);(try (refine jA (by rfl) ?_;dsimp only));refine Kd.Xw Kd.string _ 9 ?hg (N:=7) ?hd (xs:=([(⟨#[102]⟩:ByteArray),(⟨#[105]⟩:ByteArray)]:List ByteArray)) (inner:=[.string (⟨#[102]⟩:ByteArray),.string (⟨#[105]⟩:ByteArray)]) (ok:=fun _=>True) (uz:=fun _=>True) ?hr ?hp (fun _ hk=>hk) trivial (Below.refl _ _) (Nat.le_refl _) (by simp) ?_;(case hd=>rfl);(case hg=>rfl);(case hr=>first | (go_simp;done) | (go_simp;rfl));(case hp=>exact (yU.one (show Kd.M Kd.string _ _ _ (⟨#[102]⟩:ByteArray) [.string (⟨#[102]⟩:ByteArray)] from rfl) (yU.one (show Kd.M Kd.string _ _ _ (⟨#[105]⟩:ByteArray) [.string (⟨#[105]⟩:ByteArray)] from rfl) (yU.none _ _))));intro zxD w8 ho9 hb Um YO;clear Um YO;(first | rw [← Xi.out] at ho9 | (simp only [Int.reduceToNat] at ho9;rw [← Xi.out] at ho9));have zJ:=zx.mk (Kd.zN (by (with_reducible repeat (first | apply Kd.xL | apply Kd.xM | apply Kd.qH));exact xg.out) hb);have za:=zx.mk (Kd.ql ho9 (zf (zB HB.out)));have zh:=zx.mk (zn (zB HB.out) hb);clear xg;clear HB;have xg:=zJ;have vF:=za;have HB:=zh;clear zJ za zh;clear hb ho9;obtain ⟨zQo,zQp,zQr⟩:=Kd.xq xg.out;subst zQr;obtain ⟨zQs,zQt,zQu⟩:=Kd.qD vF.out;subst zQu) | ((with_reducible refine yu (f:=13) rfl ?_);refine jq (some 8) Tryz.func13 #[.slice zQo wU.length zQp,.agg #[.int .i64 0,.int .i64 10,.bool true,.bool false],.slice zQs y114.length zQt,.slice none 0 0] ?_;(refine (yR.calls _ _ wU 0 10 true false _ _ y114 _ _ ([]:List (uj)) t117 Xx XC _ ?yX ?qy ?qw ?qZ ?qh ?qO ?qP A2.out).mono ?_);(case yX=>exact q8 ((Kd.yF xg.out).2.2));(case qy=>exact (Kd.yF xg.out).2.1);(case qw=>exact q8 ((Kd.qW vF.out).2.2));(case qZ=>exact (Kd.qW vF.out).2.1);(case qh=>exact Kd.pz _ _);(case qO=>exact Nat.le_refl _);(case qP=>exact GW.under HG.out (zB HB.out));rintro e nI ⟨zxE,zxF,rfl,ho0,ho1,hb⟩;refine ⟨_,rfl,?_⟩;have zJ:=zx.mk (Kd.zN (by (with_reducible repeat (first | apply Kd.xL | apply Kd.xM | apply Kd.qH));exact xg.out) hb);have za:=zx.mk (Kd.qL (qJ vF.out) (Kd.xE ho1) hb);have zh:=zx.mk (Kd.qG ho0 (zf (zB HB.out)));have zo:=zx.mk (Kd.ql (Kd.xI ho1 (Kd.jQ (qJ vF.out))) (zf (zB HB.out)));have z8:=zx.mk (zn (zB HB.out) hb);clear xg;clear vF;clear HB;have xg:=zJ;have vF:=za;have Xl:=zh;have VQ:=zo;have HB:=z8;clear zJ za zh zo z8;(try clear hb);(try clear hk);(try clear ho0);(try clear ho1);obtain ⟨zK5,zK6,zQA⟩:=Kd.qD VQ.out;subst zQA;obtain ⟨zK7,zK8,zQB⟩:=Kd.xq Xl.out;subst zQB;have zzX:0 ≤ (0:Int):=(by omega);have zzJ:0 < (t117.length:Int):=of_decide_eq_true kR;obtain ⟨zKW,zKk,zKy,zQC,Kn,Ko,Kt,Ku,KA,KC,VX,rG,rH⟩:=Y3 (Kd.yF Xl.out).2.2 0 zzX zzJ;cases zQC;obtain ⟨zKa,zyZ,zyQ,zqc⟩:=Kd.zyL Xl.out z53 0 zzX (by first | exact zzJ | exact of_decide_eq_true kR | (have e_:=(Kd.yF Xl.out).1;omega));obtain ⟨zJW,rfl,KD⟩:=XV zyQ;have X0:=zqc 6 _ rfl;rw [vw _ _ 6 (by omega)] at X0;replace X0:=Option.some.inj (X0.symm.trans VX);rw [X0] at KD;have zJa:=zx.mk (show Kd.R (Kd.int .i64) 3 _ _ _ _ ((zI t117 0).f6) from KD);clear X0 KD;clear zqc zyZ;have zKb:(0 < t117.length) = True:=eq_true (by omega);(try rw [show ((0:Int)).toNat = 0 from rfl] at Kn);(try rw [show 0 * 7 = 0 from rfl] at Kn);(try rw [Addr.add_zero'] at Kn);(try rw [show ((0:Int)).toNat = 0 from rfl] at Ko);(try rw [show 0 * 7 = 0 from rfl] at Ko);(try rw [Addr.add_zero'] at Ko);(try rw [show ((0:Int)).toNat = 0 from rfl] at Kt);(try rw [show 0 * 7 = 0 from rfl] at Kt);(try rw [Addr.add_zero'] at Kt);(try rw [show ((0:Int)).toNat = 0 from rfl] at Ku);(try rw [show 0 * 7 = 0 from rfl] at Ku);(try rw [Addr.add_zero'] at Ku);(try rw [show ((0:Int)).toNat = 0 from rfl] at KA);(try rw [show 0 * 7 = 0 from rfl] at KA);(try rw [Addr.add_zero'] at KA);(try rw [show ((0:Int)).toNat = 0 from rfl] at KC);(try rw [show 0 * 7 = 0 from rfl] at KC);(try rw [Addr.add_zero'] at KC);(try rw [show ((0:Int)).toNat = 0 from rfl] at VX);(try rw [show 0 * 7 = 0 from rfl] at VX);(try rw [Addr.add_zero'] at VX);have zJb:=zx.mk rH;have zJc:=zx.mk rG;clear rH rG;replace zzX:=eq_true zzX;replace zzJ:=eq_true zzJ))
     go_ret
     exact ⟨by first | rfl | (simp [yw,yZ] <;> rfl) | (simp [*,yw,yZ] <;> rfl),by repeat (first | (with_reducible first | exact HB.out | apply yI | apply yg | apply yj) | exact HB.out)⟩
    ·rw [if_neg c6] at H
     exact absurd H (by simp)
   ·rw [if_neg c5] at H
    have Vt:((t117.length:Int) == 1) = false:=beq_eq_false_iff_ne.mpr c5
    have P6:((t117.length:Int) != 1) = true:=bne_iff_ne.mpr c5
    obtain rfl:=Option.some.inj H
    go_enter Tryz.func11,Tryz.ntmps11
    go_wp2_with (first | ((with_reducible refine yu (f:=19) rfl ?_);refine jq (some 5) Tryz.func19 #[] ?_;(with_reducible refine (yJ.calls  wU _ ?yX A1.out).mono ?_);(case yX=>exact GW.under HG.out (zB HB.out));rintro e Y7 ⟨zxC,rfl,ho0,hb⟩;refine ⟨_,rfl,?_⟩;have zJ:=zx.mk (Kd.qG ho0 (zf (zB HB.out)));have za:=zx.mk (zn (zB HB.out) hb);clear HB;have xg:=zJ;have HB:=za;clear zJ za;(try clear hb);(try clear hk);(try clear ho0)) | ((with_reducible refine y9 (N:=7) rfl ?_);(try (refine jA (by rfl) ?_;dsimp only));refine Kd.Xw Kd.string _ 9 ?hg (N:=7) ?hd (xs:=([(⟨#[102]⟩:ByteArray),(⟨#[105]⟩:ByteArray)]:List ByteArray)) (inner:=[.string (⟨#[102]⟩:ByteArray),.string (⟨#[105]⟩:ByteArray)]) (ok:=fun _=>True) (uz:=fun _=>True) ?hr ?hp (fun _ hk=>hk) trivial (Below.refl _ _) (Nat.le_refl _) (by simp) ?_;(case hd=>rfl);(case hg=>rfl);(case hr=>first | (go_simp;done) | (go_simp;rfl));(case hp=>exact (yU.one (show Kd.M Kd.string _ _ _ (⟨#[102]⟩:ByteArray) [.string (⟨#[102]⟩:ByteArray)] from rfl) (yU.one (show Kd.M Kd.string _ _ _ (⟨#[105]⟩:ByteArray) [.string (⟨#[105]⟩:ByteArray)] from rfl) (yU.none _ _))));intro zxD w16 mq hb Um YO;clear Um YO;(first | rw [← Xi.out] at mq | (simp only [Int.reduceToNat] at mq;rw [← Xi.out] at mq));have zJ:=zx.mk (Kd.zN (by (with_reducible repeat (first | apply Kd.xL | apply Kd.xM | apply Kd.qH));exact xg.out) hb);have za:=zx.mk (Kd.ql mq (zf (zB HB.out)));have zh:=zx.mk (zn (zB HB.out) hb);clear xg;clear HB;have xg:=zJ;have vF:=za;have HB:=zh;clear zJ za zh;clear hb mq;obtain ⟨zQD,zQE,zQF⟩:=Kd.xq xg.out;subst zQF;obtain ⟨zQG,zQH,zQI⟩:=Kd.qD vF.out;subst zQI) | ((with_reducible refine yu (f:=13) rfl ?_);refine jq (some 8) Tryz.func13 #[.slice zQD wU.length zQE,.agg #[.int .i64 0,.int .i64 10,.bool true,.bool false],.slice zQG y114.length zQH,.slice none 0 0] ?_;(refine (yR.calls _ _ wU 0 10 true false _ _ y114 _ _ ([]:List (uj)) t117 Xx XC _ ?yX ?qy ?qw ?qZ ?qh ?qO ?qP A2.out).mono ?_);(case yX=>exact q8 ((Kd.yF xg.out).2.2));(case qy=>exact (Kd.yF xg.out).2.1);(case qw=>exact q8 ((Kd.qW vF.out).2.2));(case qZ=>exact (Kd.qW vF.out).2.1);(case qh=>exact Kd.pz _ _);(case qO=>exact Nat.le_refl _);(case qP=>exact GW.under HG.out (zB HB.out));rintro e w20 ⟨zxE,zxF,rfl,ho0,ho1,hb⟩;refine ⟨_,rfl,?_⟩;have zJ:=zx.mk (Kd.zN (by (with_reducible repeat (first | apply Kd.xL | apply Kd.xM | apply Kd.qH));exact xg.out) hb);have za:=zx.mk (Kd.qL (qJ vF.out) (Kd.xE ho1) hb);have zh:=zx.mk (Kd.qG ho0 (zf (zB HB.out)));have zo:=zx.mk (Kd.ql (Kd.xI ho1 (Kd.jQ (qJ vF.out))) (zf (zB HB.out)));have z8:=zx.mk (zn (zB HB.out) hb);clear xg;clear vF;clear HB;have xg:=zJ;have vF:=za;have Xl:=zh;have VQ:=zo;have HB:=z8;clear zJ za zh zo z8;(try clear hb);(try clear hk);(try clear ho0);(try clear ho1);obtain ⟨zK9,zYz,zQL⟩:=Kd.qD VQ.out;subst zQL;obtain ⟨zYq,zYx,zQM⟩:=Kd.xq Xl.out;subst zQM))
    go_ret
    exact ⟨by first | rfl | (simp [yw,yZ] <;> rfl) | (simp [*,yw,yZ] <;> rfl),by repeat (first | (with_reducible first | exact HB.out | apply yI | apply yg | apply yj) | exact HB.out)⟩
  ·rw [if_neg c4] at H
   have Xr:((Xx.length:Int) == 0) = false:=beq_eq_false_iff_ne.mpr c4
   have zq9:((Xx.length:Int) != 0) = true:=bne_iff_ne.mpr c4
   have zYj:¬ (Xx = []):=fun h_=>c4 (by rw [h_];rfl)
   obtain rfl:=Option.some.inj H
   go_enter Tryz.func11,Tryz.ntmps11
   go_wp2_with (first | ((with_reducible refine yu (f:=19) rfl ?_);refine jq (some 5) Tryz.func19 #[] ?_;(with_reducible refine (yJ.calls  wU _ ?yX A1.out).mono ?_);(case yX=>exact GW.under HG.out (zB HB.out));rintro e U0 ⟨zxC,rfl,ho0,hb⟩;refine ⟨_,rfl,?_⟩;have zJ:=zx.mk (Kd.qG ho0 (zf (zB HB.out)));have za:=zx.mk (zn (zB HB.out) hb);clear HB;have xg:=zJ;have HB:=za;clear zJ za;(try clear hb);(try clear hk);(try clear ho0)) | ((with_reducible refine y9 (N:=7) rfl ?_);(try (refine jA (by rfl) ?_;dsimp only));refine Kd.Xw Kd.string _ 9 ?hg (N:=7) ?hd (xs:=([(⟨#[102]⟩:ByteArray),(⟨#[105]⟩:ByteArray)]:List ByteArray)) (inner:=[.string (⟨#[102]⟩:ByteArray),.string (⟨#[105]⟩:ByteArray)]) (ok:=fun _=>True) (uz:=fun _=>True) ?hr ?hp (fun _ hk=>hk) trivial (Below.refl _ _) (Nat.le_refl _) (by simp) ?_;(case hd=>rfl);(case hg=>rfl);(case hr=>first | (go_simp;done) | (go_simp;rfl));(case hp=>exact (yU.one (show Kd.M Kd.string _ _ _ (⟨#[102]⟩:ByteArray) [.string (⟨#[102]⟩:ByteArray)] from rfl) (yU.one (show Kd.M Kd.string _ _ _ (⟨#[105]⟩:ByteArray) [.string (⟨#[105]⟩:ByteArray)] from rfl) (yU.none _ _))));intro zxD w24 mZ hb Um YO;clear Um YO;(first | rw [← Xi.out] at mZ | (simp only [Int.reduceToNat] at mZ;rw [← Xi.out] at mZ));have zJ:=zx.mk (Kd.zN (by (with_reducible repeat (first | apply Kd.xL | apply Kd.xM | apply Kd.qH));exact xg.out) hb);have za:=zx.mk (Kd.ql mZ (zf (zB HB.out)));have zh:=zx.mk (zn (zB HB.out) hb);clear xg;clear HB;have xg:=zJ;have vF:=za;have HB:=zh;clear zJ za zh;clear hb mZ;obtain ⟨zQN,zQO,zQP⟩:=Kd.xq xg.out;subst zQP;obtain ⟨zQR,zQS,zQT⟩:=Kd.qD vF.out;subst zQT) | ((with_reducible refine yu (f:=13) rfl ?_);refine jq (some 8) Tryz.func13 #[.slice zQN wU.length zQO,.agg #[.int .i64 0,.int .i64 10,.bool true,.bool false],.slice zQR y114.length zQS,.slice none 0 0] ?_;(refine (yR.calls _ _ wU 0 10 true false _ _ y114 _ _ ([]:List (uj)) t117 Xx XC _ ?yX ?qy ?qw ?qZ ?qh ?qO ?qP A2.out).mono ?_);(case yX=>exact q8 ((Kd.yF xg.out).2.2));(case qy=>exact (Kd.yF xg.out).2.1);(case qw=>exact q8 ((Kd.qW vF.out).2.2));(case qZ=>exact (Kd.qW vF.out).2.1);(case qh=>exact Kd.pz _ _);(case qO=>exact Nat.le_refl _);(case qP=>exact GW.under HG.out (zB HB.out));rintro e w28 ⟨zxE,zxF,rfl,ho0,ho1,hb⟩;refine ⟨_,rfl,?_⟩;have zJ:=zx.mk (Kd.zN (by (with_reducible repeat (first | apply Kd.xL | apply Kd.xM | apply Kd.qH));exact xg.out) hb);have za:=zx.mk (Kd.qL (qJ vF.out) (Kd.xE ho1) hb);have zh:=zx.mk (Kd.qG ho0 (zf (zB HB.out)));have zo:=zx.mk (Kd.ql (Kd.xI ho1 (Kd.jQ (qJ vF.out))) (zf (zB HB.out)));have z8:=zx.mk (zn (zB HB.out) hb);clear xg;clear vF;clear HB;have xg:=zJ;have vF:=za;have Xl:=zh;have VQ:=zo;have HB:=z8;clear zJ za zh zo z8;(try clear hb);(try clear hk);(try clear ho0);(try clear ho1);obtain ⟨zYv,zYk,zQU⟩:=Kd.qD VQ.out;subst zQU))
   go_ret
   exact ⟨by first | rfl | (simp [yw,yZ] <;> rfl) | (simp [*,yw,yZ] <;> rfl),by repeat (first | (with_reducible first | exact HB.out | apply yI | apply yg | apply yj) | exact HB.out)⟩
 ·rw [if_neg c3] at H
  have Xp:(XC == 0) = false:=beq_eq_false_iff_ne.mpr c3
  have gU:(XC != 0) = true:=bne_iff_ne.mpr c3
  obtain rfl:=Option.some.inj H
  go_enter Tryz.func11,Tryz.ntmps11
  go_wp2_with (first | ((with_reducible refine yu (f:=19) rfl ?_);refine jq (some 5) Tryz.func19 #[] ?_;(with_reducible refine (yJ.calls  wU _ ?yX A1.out).mono ?_);(case yX=>exact GW.under HG.out (zB HB.out));rintro e w30 ⟨zxC,rfl,ho0,hb⟩;refine ⟨_,rfl,?_⟩;have zJ:=zx.mk (Kd.qG ho0 (zf (zB HB.out)));have za:=zx.mk (zn (zB HB.out) hb);clear HB;have xg:=zJ;have HB:=za;clear zJ za;(try clear hb);(try clear hk);(try clear ho0)) | ((with_reducible refine y9 (N:=7) rfl ?_);(try (refine jA (by rfl) ?_;dsimp only));refine Kd.Xw Kd.string _ 9 ?hg (N:=7) ?hd (xs:=([(⟨#[102]⟩:ByteArray),(⟨#[105]⟩:ByteArray)]:List ByteArray)) (inner:=[.string (⟨#[102]⟩:ByteArray),.string (⟨#[105]⟩:ByteArray)]) (ok:=fun _=>True) (uz:=fun _=>True) ?hr ?hp (fun _ hk=>hk) trivial (Below.refl _ _) (Nat.le_refl _) (by simp) ?_;(case hd=>rfl);(case hg=>rfl);(case hr=>first | (go_simp;done) | (go_simp;rfl));(case hp=>exact (yU.one (show Kd.M Kd.string _ _ _ (⟨#[102]⟩:ByteArray) [.string (⟨#[102]⟩:ByteArray)] from rfl) (yU.one (show Kd.M Kd.string _ _ _ (⟨#[105]⟩:ByteArray) [.string (⟨#[105]⟩:ByteArray)] from rfl) (yU.none _ _))));intro zxD w31 mQ hb Um YO;clear Um YO;(first | rw [← Xi.out] at mQ | (simp only [Int.reduceToNat] at mQ;rw [← Xi.out] at mQ));have zJ:=zx.mk (Kd.zN (by (with_reducible repeat (first | apply Kd.xL | apply Kd.xM | apply Kd.qH));exact xg.out) hb);have za:=zx.mk (Kd.ql mQ (zf (zB HB.out)));have zh:=zx.mk (zn (zB HB.out) hb);clear xg;clear HB;have xg:=zJ;have vF:=za;have HB:=zh;clear zJ za zh;clear hb mQ;obtain ⟨zQ0,zQ1,zQ2⟩:=Kd.xq xg.out;subst zQ2;obtain ⟨mX,mJ,zxG⟩:=Kd.qD vF.out;subst zxG) | ((with_reducible refine yu (f:=13) rfl ?_);refine jq (some 8) Tryz.func13 #[.slice zQ0 wU.length zQ1,.agg #[.int .i64 0,.int .i64 10,.bool true,.bool false],.slice mX y114.length mJ,.slice none 0 0] ?_;(refine (yR.calls _ _ wU 0 10 true false _ _ y114 _ _ ([]:List (uj)) t117 Xx XC _ ?yX ?qy ?qw ?qZ ?qh ?qO ?qP A2.out).mono ?_);(case yX=>exact q8 ((Kd.yF xg.out).2.2));(case qy=>exact (Kd.yF xg.out).2.1);(case qw=>exact q8 ((Kd.qW vF.out).2.2));(case qZ=>exact (Kd.qW vF.out).2.1);(case qh=>exact Kd.pz _ _);(case qO=>exact Nat.le_refl _);(case qP=>exact GW.under HG.out (zB HB.out));rintro e w35 ⟨zxE,zxF,rfl,ho0,ho1,hb⟩;refine ⟨_,rfl,?_⟩;have zJ:=zx.mk (Kd.zN (by (with_reducible repeat (first | apply Kd.xL | apply Kd.xM | apply Kd.qH));exact xg.out) hb);have za:=zx.mk (Kd.qL (qJ vF.out) (Kd.xE ho1) hb);have zh:=zx.mk (Kd.qG ho0 (zf (zB HB.out)));have zo:=zx.mk (Kd.ql (Kd.xI ho1 (Kd.jQ (qJ vF.out))) (zf (zB HB.out)));have z8:=zx.mk (zn (zB HB.out) hb);clear xg;clear vF;clear HB;have xg:=zJ;have vF:=za;have Xl:=zh;have VQ:=zo;have HB:=z8;clear zJ za zh zo z8;(try clear hb);(try clear hk);(try clear ho0);(try clear ho1)))
  go_ret
  exact ⟨by first | rfl | (simp [yw,yZ] <;> rfl) | (simp [*,yw,yZ] <;> rfl),by repeat (first | (with_reducible first | exact HB.out | apply yI | apply yg | apply yj) | exact HB.out)⟩
end Go.Proofs.YtggifbbiiickmaaGreatDoor.PX
namespace Go.Proofs.YtggifbbiiickmaaGreatDoor.PX
open Go.RowKit Go.Proofs.zk.zm Go.Proofs.zk.yK Go.Proofs.zk.yc
attribute [local go_sem] uf ug jW jc vL vM uh um   -- for this text's walks alone
set_option linter.unusedVariables false
set_option linter.unusedSimpArgs false
def zO.l0:Nat → ByteArray → List ByteArray → Int → Option (List ByteArray)
 | 0,_,_,_=>none
 | k + 1,x0,x3,x4=>if x4 < (x0.size:Int) then (if 0 ≤ x4 then (if x4 ≤ (wrap64 (x4 + 1)) then (if (wrap64 (x4 + 1)) ≤ (x0.size:Int) then (if x3.length < 8796093022208 then (zO.l0 k x0 (x3 ++ [x0.extract (x4:Int).toNat ((wrap64 (x4 + 1)):Int).toNat]) (wrap64 (x4 + 1))) else (none)) else (none)) else (none)) else (none)) else (some x3)
def zO.f (k:Nat) (a0:ByteArray):Option (List ByteArray):=zO.l0 k a0 ([]:List ByteArray) 0
set_option maxHeartbeats 8000000 in
set_option maxRecDepth 100000 in
theorem zO.calls (k:Nat) (a0:ByteArray) (r:List ByteArray) (w:World) (h:zO.f k a0 = some r) :
  Calls Tryz.prog 20 #[.string a0] w fun e w'=>∃ XK:Value,e = .returned (XK) ∧ Kd.R Kd.string 9 w' w.heap.size (fun _=>True) XK r ∧ Below w.heap.size w w':=by
 have HB:=zx.mk (Below.refl w.heap.size w)
 have H:(zO.l0 k a0 ([]:List ByteArray) 0) = some r:=h
 clear h
 have H':=zx.mk H
 clear H
 go_enter Tryz.func20,Tryz.ntmps20
 go_wp2
 go_loopg [3,4] k (fun kq v3 v4 w'=>∃ (KE:List ByteArray) (kC:Int),v4 = .int .i64 kC ∧ zx (zO.l0 kq a0 KE kC = some r) ∧ zx (kq ≤ k) ∧ zx (Kd.R Kd.string 9 w' w.heap.size (fun _=>True) v3 KE) ∧ zx (Below w.heap.size w w'))
 case atStart=>exact ⟨(([]:List ByteArray)),(0),(by first | rfl | (simp;done) | (simp [*];done)),H',⟨Nat.le_refl _⟩,⟨by first | exact Kd.jM _ _ _ _ _ | exact Kd.zyP _ _ _ _ _ | exact Kd.zyR _ _ _ _ _ | exact Kd.zyH _ _ _ _ _ | exact Kd.UY _ _ _ _ _⟩,⟨zB HB.out⟩⟩
 case round =>
  clear H'
  obtain ⟨KE,kC,rfl,HA,XY,zxH,HB⟩:=hrel
  cases gk with
  | zero=>exact absurd HA.out (by simp [zO.l0])
  | succ k1 =>
   have H:=HA.out
   clear HA
   simp only [zO.l0] at H
   by_cases c2:kC < (a0.size:Int)
   ·rw [if_pos c2] at H
    have P5:decide (kC < (a0.size:Int)) = true:=decide_eq_true c2
    clear c2
    by_cases c3:0 ≤ kC
    ·rw [if_pos c3] at H
     have Xp:=eq_true c3
     have gU:decide (0 ≤ kC) = true:=decide_eq_true c3
     clear c3
     by_cases c4:kC ≤ (wrap64 (kC + 1))
     ·rw [if_pos c4] at H
      have Xr:=eq_true c4
      have zq9:decide (kC ≤ (wrap64 (kC + 1))) = true:=decide_eq_true c4
      by_cases c5:(wrap64 (kC + 1)) ≤ (a0.size:Int)
      ·rw [if_pos c5] at H
       have Vt:=eq_true c5
       have P6:decide ((wrap64 (kC + 1)) ≤ (a0.size:Int)) = true:=decide_eq_true c5
       by_cases c6:KE.length < 8796093022208
       ·rw [if_pos c6] at H
        have zQ3:=zx.mk c6
        clear c6
        obtain ⟨zyX,U1⟩:∃ y_:List ByteArray,y_ = (KE ++ [a0.extract (kC:Int).toNat ((wrap64 (kC + 1)):Int).toNat]):=⟨_,rfl⟩
        replace H:(zO.l0 k1 a0 zyX (wrap64 (kC + 1))) = some r:=by first | (rw [U1];with_reducible exact H) | (have Qu:=(Option.bind_some _ _).symm.trans H;rw [U1];with_reducible exact Qu) | (have Qu:=(Option.bind_some _ _).symm.trans H;with_reducible exact Qu) | with_reducible exact H | (rw [U1];exact H) | exact H
        have zZj:=zx.mk U1
        clear U1
        have H':=zx.mk H
        clear H
        go_wp2_with (first | ((with_reducible refine pE (b:=.append) (xs:=#[.tmp 11,.tmp 17]) rfl ?_);at_builtin;refine Kd.Vp Kd.string (w0:=w) w.heap.size rfl (.tmp 11) (.tmp 17) 27 9 (.string ⟨#[]⟩) 16 rfl Tryz.underlying27 zjm rfl (by decide) (by omega) u3 KE (a0.extract (kC:Int).toNat ((wrap64 (kC + 1)):Int).toNat) [.string (a0.extract (kC:Int).toNat ((wrap64 (kC + 1)):Int).toNat)] (fun _=>True) (fun _=>False) rfl rfl ?aP (fun _ hk=>hk.elim) ?aF ?aO ?aB ?aS ?aL ?_;(case aP=>exact rfl);(case aB=>exact (zB HB.out));(case aF=>exact (fun _ _=>trivial));(case aO=>exact (qJ zxH.out));(case aS=>exact (zf (zB HB.out)));(case aL=>have:=zQ3.out;omega);intro zYy w7 ho hb hg hat;rw [← zZj.out] at ho;have zJ:=zx.mk (hb);have za:=zx.mk (ho);clear HB;clear zxH;have HB:=zJ;have zZv:=za;clear zJ za;clear ho hb hg hat))
        go_roundg k1
        case measure=>have:=XY.out;omega
        case rel=>exact ⟨(zyX),(wrap64 (kC + 1)),(by first | rfl | (simp;done) | (simp [*];done)),H',⟨by have:=XY.out;omega⟩,⟨qJ zZv.out⟩,⟨zB HB.out⟩⟩
       ·rw [if_neg c6] at H
        exact absurd H (by simp)
      ·rw [if_neg c5] at H
       exact absurd H (by simp)
     ·rw [if_neg c4] at H
      exact absurd H (by simp)
    ·rw [if_neg c3] at H
     exact absurd H (by simp)
   ·rw [if_neg c2] at H
    have P5:decide (kC < (a0.size:Int)) = false:=decide_eq_false c2
    clear c2
    obtain rfl:=Option.some.inj H
    go_wp2
    go_ret
    exact ⟨_,by first | rfl | (simp [yw,yZ] <;> rfl) | (simp [*,yw,yZ] <;> rfl),by (with_reducible repeat (first | apply Kd.kU | apply Kd.wz | apply Kd.uR));exact zxH.out,by repeat (first | (with_reducible first | exact HB.out | apply yI | apply yg | apply yj) | exact HB.out)⟩
end Go.Proofs.YtggifbbiiickmaaGreatDoor.PX
namespace Go.Proofs.YtggifbbiiickmaaGreatDoor
open Go.RowKit Go.Proofs.zk.zm Go.Proofs.zk.yK Go.Proofs.zk.yc Go.Proofs.YtggifbbiiickmaaGreatDoor.PX
set_option linter.unusedSimpArgs false
set_option linter.unusedVariables false
theorem zqd:jm.all (fun x=>qK x && okF x) = true:=by decide +kernel
theorem KF:jm.length = 5:=rfl
theorem WM:∀ x ∈ jm,qK x = true:=fun x hx=>by
 have h:=List.all_eq_true.1 zqd x hx
 simp only [Bool.and_eq_true] at h
 exact h.1
theorem rM:jm.all okF = true:=List.all_eq_true.2 fun x hx=>by
 have h:=List.all_eq_true.1 zqd x hx
 simp only [Bool.and_eq_true] at h
 exact h.2
theorem mV:yC.f = some true:=by decide +kernel
def jZ (s:ByteArray):List ByteArray:=(List.range s.size).map fun i=>s.extract i (i + 1)
theorem Qe (s:ByteArray):(jZ s).length = s.size:=by simp [jZ]
theorem zvN (s:ByteArray) (hs:s.size ≤ 1000):∀ d i,i + d = s.size → Ev (fun k=>zO.l0 k s ((jZ s).take i) (i:Int)) (jZ s):=by
 intro d
 induction d with
 | zero =>
  intro i h
  refine Ev.step (fun k=>by rw [zO.l0]) (Z7 (by omega) (zZu ?_ (Ev.now _)))
  rw [List.take_of_length_le (by rw [Qe];omega)]
 | succ d ih =>
  intro i h
  have hw:wrap64 ((i:Int) + 1) = ((i + 1:Nat):Int):=(ji (by omega) (by omega)).trans (by omega)
  have q1:(i:Int) < (s.size:Int):=by omega
  have q2:(0:Int) ≤ (i:Int):=by omega
  have q3:(i:Int) ≤ ((i + 1:Nat):Int):=by omega
  have q4:((i + 1:Nat):Int) ≤ (s.size:Int):=by omega
  have q5:((jZ s).take i).length < 8796093022208:=by rw [List.length_take,Qe];omega
  have hr:=ih (i + 1) (by omega)
  have ht:(jZ s).take (i + 1) = (jZ s).take i ++ [s.extract (i:Int).toNat (((i + 1:Nat):Int)).toNat]:=by
   have hi:i < s.size:=by omega
   rw [List.take_add_one,Int.toNat_natCast,Int.toNat_natCast]
   congr 1
   simp [jZ,hi]
  rw [ht] at hr
  refine Ev.step (fun k=>by rw [zO.l0,hw]) (xH q1 (xH q2 (xH q3 (xH q4 (xH q5 hr)))))
theorem zxI (s:ByteArray) (hs:s.size ≤ 1000):Ev (fun k=>zO.f k s) (jZ s):=by
 have h:=zvN s hs s.size 0 (by omega)
 rw [List.take_zero] at h
 exact Ev.congr (fun k=>by rw [zO.f];rfl) h
theorem rO (l:List yM) (f s:Int) (yV zu:Bool) (chars:List ByteArray) (pairs:List kZ) (h1:l.all okF = true) (h2:l.length ≤ 1000000000) (h3:chars.length ≤ 1000000000) (h4:pairs.length ≤ 1000000000) :
  yR.f l f s yV zu chars pairs = some (UE l f s yV zu chars pairs):=by
 unfold yR.f
 rw [if_pos ⟨h1,h2,h3,h4⟩]
theorem rdB (l:List vH) (i:Nat) (b:vH) (h:l[i]? = some b):zI l (i:Int) = b:=by
 simp [zI,List.getD_eq_getElem?_getD,h]
def U2 (l:List yM) (s:Int) (b:vH) (a:Int) (n:ByteArray):Prop:=0 ≤ a ∧ a < (l.length:Int) ∧ ZN (qY l a) n = true ∧ b = YH (jB (qY l a) n s).1 a s n
def GoodAt (l:List yM) (s:Int) (zu:Bool) (out:List vH) (i:Nat):Prop :=
 (∃ b a n,out[i]? = some b ∧ U2 l s b a n) ∨
 (∃ Xc b b' a n n',0 < i ∧ out[i]? = some (XB Xc) ∧ out[i - 1]? = some b ∧ U2 l s b a n ∧ out[i + 1]? = some b' ∧ U2 l s b' a n' ∧ zu = true ∧ (ZA (qY l a) n n' s).1 = Xc ∧ Xc ≠ 0)
def X3 (l:List yM) (s:Int) (zu:Bool) (out:List vH):Prop :=
 (∀ i,i < out.length → GoodAt l s zu out i) ∧ (out = [] ∨ ∃ b a n,out.getLast? = some b ∧ U2 l s b a n)
theorem X4 {α:Type} {l m:List α} {i:Nat} {x:α} (h:l[i]? = some x):(l ++ m)[i]? = some x:=by
 rw [List.getElem?_append_left (List.getElem?_eq_some_iff.1 h).1];exact h
theorem GoodAt.app {l:List yM} {s:Int} {zu:Bool} {out:List vH} {i:Nat} (m:List vH) (h:GoodAt l s zu out i):GoodAt l s zu (out ++ m) i:=by
 rcases h with ⟨b,a,n,h1,h2⟩ | ⟨y,b,b',a,n,n',h0,h1,h2,h3,h4,h5,h6⟩
 ·exact Or.inl ⟨b,a,n,X4 h1,h2⟩
 ·exact Or.inr ⟨y,b,b',a,n,n',h0,X4 h1,X4 h2,h3,X4 h4,h5,h6⟩
theorem WO {l:List yM} {f:Int} {n:ByteArray} (h:0 ≤ vT l f n):ZN (qY l (vT l f n)) n = true:=by
 unfold vT at h ⊢
 split
 ·rename_i h1;exact h1
 ·rename_i h1
  rw [if_neg h1] at h
  have key:∀ (m:List yM) (i:Nat) (pre:List yM),pre.length = i → 0 ≤ ZB n m i → ZN (qY (pre ++ m) (ZB n m i)) n = true:=by
   intro m
   induction m with
   | nil=>intro i pre _ h;unfold ZB at h;omega
   | cons x r ih =>
    intro i pre hp h
    unfold ZB at h ⊢
    by_cases hx:(x.f1 && ZN x n) = true
    ·rw [if_pos hx]
     rw [Bool.and_eq_true] at hx
     have e:qY (pre ++ x :: r) (i:Int) = x:=by
      unfold qY vG
      rw [Int.toNat_natCast,List.getD_eq_getElem?_getD,List.getElem?_append_right (by omega),hp,Nat.sub_self]
      rfl
     rw [e];exact hx.2
    ·rw [if_neg hx] at h ⊢
     have:=ih (i + 1) (pre ++ [x]) (by simp [hp]) h
     simpa using this
  exact key l 0 [] rfl h
theorem zqe (l:List yM) (f s:Int) (zu:Bool) (st:List vH × List ByteArray) (n:ByteArray) (hf0:0 ≤ f) (hf1:f < (l.length:Int)) (h:X3 l s zu st.1):X3 l s zu (jC l f s zu st n).1:=by
 unfold jC
 by_cases h0:vT l f n < 0
 ·rw [if_pos h0];exact h
 ·rw [if_neg h0]
  have hlt:=VO (l:=l) n hf0 hf1
  have hh:=WO (l:=l) (f:=f) (n:=n) (by omega)
  generalize vT l f n = a at h0 hlt hh ⊢
  have hG:U2 l s (YH (jB (qY l a) n s).1 a s n) a n:=⟨by omega,by omega,hh,rfl⟩
  generalize YH (jB (qY l a) n s).1 a s n = g at hG ⊢
  have hlast:∀ (pre:List vH),(pre ++ [g]).getLast? = some g:=fun pre=>by simp
  obtain ⟨h1,h2⟩:=h
  have hk:pQ l s zu st.1 a n = [] ∨ ∃ y b,pQ l s zu st.1 a n = [XB y] ∧ st.1.getLast? = some b ∧ b.f2 = a ∧ zu = true ∧ (ZA (qY l a) b.f4 n s).1 = y ∧ y ≠ 0:=by
   unfold pQ
   cases hl:st.1.getLast? with
   | none=>exact Or.inl rfl
   | some b =>
    dsimp only
    by_cases hc:(zu && decide (b.f2 = a)) = true
    ·rw [if_pos hc]
     by_cases hz:(ZA (qY l a) b.f4 n s).1 = 0
     ·rw [if_pos hz];exact Or.inl rfl
     ·rw [if_neg hz]
      simp only [Bool.and_eq_true,decide_eq_true_eq] at hc
      exact Or.inr ⟨_,b,rfl,rfl,hc.2,hc.1,rfl,hz⟩
    ·rw [if_neg hc];exact Or.inl rfl
  rcases hk with hk | ⟨y,b,hk,hb,hba,hkt,hy,hy0⟩
  ·rw [hk,List.append_nil]
   refine ⟨fun i hi=>?_,Or.inr ⟨g,a,n,hlast _,hG⟩⟩
   by_cases e:i < st.1.length
   ·exact (h1 i e).app _
   ·have:i = st.1.length:=by simp at hi;omega
    subst this
    exact Or.inl ⟨g,a,n,by simp,hG⟩
  ·rw [hk]
   rcases h2 with h2 | ⟨b0,a0,n0,hb0,hG0⟩
   ·rw [h2] at hb;cases hb
   rw [hb] at hb0
   obtain rfl:=Option.some.inj hb0
   have ea:a0 = a:=by rw [← hba,hG0.2.2.2];rfl
   subst ea
   have en:b.f4 = n0:=by rw [hG0.2.2.2];rfl
   rw [en] at hy
   have hpos:0 < st.1.length:=by
    rcases Nat.eq_zero_or_pos st.1.length with h | h
    ·rw [List.eq_nil_of_length_eq_zero h] at hb;cases hb
    ·exact h
   have hget:st.1[st.1.length - 1]? = some b:=by rw [← List.getLast?_eq_getElem?];exact hb
   refine ⟨fun i hi=>?_,Or.inr ⟨g,a0,n,hlast _,hG⟩⟩
   by_cases e:i < st.1.length
   ·rw [List.append_assoc];exact (h1 i e).app _
   ·have hi2:i = st.1.length ∨ i = st.1.length + 1:=by simp at hi;omega
    rcases hi2 with rfl | rfl
    ·refine Or.inr ⟨y,b,g,a0,n0,n,hpos,by simp,?_,hG0,?_,hG,hkt,hy,hy0⟩
     ·rw [List.append_assoc];exact X4 hget
     ·simp
    ·exact Or.inl ⟨g,a0,n,by simp,hG⟩
theorem zqf (l:List yM) (f s:Int) (zu:Bool) (ns:List ByteArray) (hf0:0 ≤ f) (hf1:f < (l.length:Int)):X3 l s zu (jy l f s zu ns).1:=by
 have key:∀ (ns:List ByteArray) (st:List vH × List ByteArray),X3 l s zu st.1 → X3 l s zu (ns.foldl (jC l f s zu) st).1:=by
  intro ns
  induction ns with
  | nil=>intro st h;exact h
  | cons n r ih=>intro st h;exact ih _ (zqe l f s zu st n hf0 hf1 h)
 exact key ns ([],[]) ⟨fun i hi=>absurd hi (Nat.not_lt_zero _),Or.inl rfl⟩
theorem mK (l:List yM) (f s:Int) (zu:Bool) (ns:List ByteArray):(jy l f s zu ns).1.length ≤ 2 * ns.length ∧ (jy l f s zu ns).2.length ≤ ns.length:=by
 have key:∀ (ns:List ByteArray) (st:List vH × List ByteArray),(ns.foldl (jC l f s zu) st).1.length ≤ st.1.length + 2 * ns.length ∧ (ns.foldl (jC l f s zu) st).2.length ≤ st.2.length + ns.length:=by
  intro ns
  induction ns with
  | nil=>intro st;exact ⟨Nat.le_refl _,Nat.le_refl _⟩
  | cons n r ih =>
   intro st
   have h1:=ih (jC l f s zu st n)
   have h2:=bH l f s zu st n
   simp only [List.foldl_cons,List.length_cons]
   omega
 have:=key ns ([],[])
 simpa [jy] using this
theorem zxL {x:yM} {n:ByteArray} {s:Int} (hv:qK x = true) (h0:1 ≤ s) (h1:s ≤ 1000) (hh:ZN x n = true):(jB x n s).2 = 0:=by
 have Y6:wN s (qK x) = true:=by unfold wN;rw [hv,decide_eq_true h0,decide_eq_true h1];rfl
 unfold jB UA
 rw [if_pos Y6]
 cases hf:x.f3.find? (fun x=>decide (x.f0 = n)) with
 | some y=>rfl
 | none =>
  unfold ZN Xu at hh
  obtain ⟨y,hy,he⟩:=List.any_eq_true.1 hh
  rw [List.find?_eq_none] at hf
  exact absurd (decide_eq_true (QX.1 (beq_iff_eq.1 he))) (hf y hy)
end Go.Proofs.YtggifbbiiickmaaGreatDoor
namespace Go.Proofs.YtggifbbiiickmaaGreatDoor.PX
open Go.RowKit Go.Proofs.zk.zm Go.Proofs.zk.yK Go.Proofs.zk.yc
attribute [local go_sem] uf ug jW jc vL vM uh um   -- for this text's walks alone
set_option linter.unusedVariables false
set_option linter.unusedSimpArgs false
mutual
def zF.j0:Nat → Bool → Int → Int → Int → Int → ByteArray → ByteArray → List Int → Int → Int → Int → Int → ByteArray → ByteArray → List Int → Option (Bool)
 | 0,_,_,_,_,_,_,_,_,_,_,_,_,_,_,_=>none
 | k + 1,x54,KG,KH,KI,KL,KM,KN,X5,KO,KP,KR,KS,KT,KU,X6=>if x54 = true then (some false) else (zF.l0 k 0 KG KH KI KL KM KN X5 KO KP KR KS KT KU X6)
def zF.l0:Nat → Int → Int → Int → Int → Int → ByteArray → ByteArray → List Int → Int → Int → Int → Int → ByteArray → ByteArray → List Int → Option (Bool)
 | 0,_,_,_,_,_,_,_,_,_,_,_,_,_,_,_=>none
 | k + 1,x5,KG,KH,KI,KL,KM,KN,X5,KO,KP,KR,KS,KT,KU,X6=>if x5 < (X5.length:Int) then (if 0 ≤ x5 then (if x5 < (X6.length:Int) then (if (rd X5 x5) = (rd X6 x5) then (zF.l0 k (wrap64 (x5 + 1)) KG KH KI KL KM KN X5 KO KP KR KS KT KU X6) else (some false)) else (none)) else (none)) else (some true)
end
def zF.f (k:Nat) (zi:Int) (zY:Int) (zQ:Int) (zl:Int) (xw:ByteArray) (xZ:ByteArray) (qN:List Int) (xY:Int) (xW:Int) (xB:Int) (xC:Int) (vV:ByteArray) (vK:ByteArray) (xu:List Int):Option (Bool):=if zi = xY then (if zY = xW then (if zQ = xB then (if zl = xC then (if xw.toList = vV.toList then (if xZ.toList = vK.toList then (zF.j0 k ((qN.length:Int) != (xu.length:Int)) zi zY zQ zl xw xZ qN xY xW xB xC vV vK xu) else (zF.j0 k true zi zY zQ zl xw xZ qN xY xW xB xC vV vK xu)) else (zF.j0 k true zi zY zQ zl xw xZ qN xY xW xB xC vV vK xu)) else (zF.j0 k true zi zY zQ zl xw xZ qN xY xW xB xC vV vK xu)) else (zF.j0 k true zi zY zQ zl xw xZ qN xY xW xB xC vV vK xu)) else (zF.j0 k true zi zY zQ zl xw xZ qN xY xW xB xC vV vK xu)) else (zF.j0 k true zi zY zQ zl xw xZ qN xY xW xB xC vV vK xu)
set_option maxHeartbeats 8000000 in
set_option maxRecDepth 100000 in
theorem zF.calls (k:Nat) (zi:Int) (zY:Int) (zQ:Int) (zl:Int) (xw:ByteArray) (xZ:ByteArray) (jD:Option Addr) (jE:Nat) (qN:List Int) (xY:Int) (xW:Int) (xB:Int) (xC:Int) (vV:ByteArray) (vK:ByteArray) (Zn:Option Addr) (Zo:Nat) (xu:List Int) (r:Bool) (w:World) (zjP:Kd.C (Kd.int .i64) w jD qN.length qN) (zjR:qN.length ≤ jE) (zjS:Kd.C (Kd.int .i64) w Zn xu.length xu) (zjT:xu.length ≤ Zo) (h:zF.f k zi zY zQ zl xw xZ qN xY xW xB xC vV vK xu = some r) :
  Calls Tryz.prog 53 #[.agg #[.int .i64 zi,.int .i64 zY,.int .i64 zQ,.int .i64 zl,.string xw,.string xZ,.slice jD qN.length jE],.agg #[.int .i64 xY,.int .i64 xW,.int .i64 xB,.int .i64 xC,.string vV,.string vK,.slice Zn xu.length Zo]] w fun e w'=>e = .returned (.bool r) ∧ Below w.heap.size w w':=by
 have zQ4:=Tryz.underlying53
 have zjU:=zx.mk zjP
 have zKc:=zx.mk zjR
 clear zjP zjR
 have zj0:=zx.mk zjS
 have zKd:=zx.mk zjT
 clear zjS zjT
 have HB:=zx.mk (Below.refl w.heap.size w)
 have H:(if zi = xY then (if zY = xW then (if zQ = xB then (if zl = xC then (if xw.toList = vV.toList then (if xZ.toList = vK.toList then (zF.j0 k ((qN.length:Int) != (xu.length:Int)) zi zY zQ zl xw xZ qN xY xW xB xC vV vK xu) else (zF.j0 k true zi zY zQ zl xw xZ qN xY xW xB xC vV vK xu)) else (zF.j0 k true zi zY zQ zl xw xZ qN xY xW xB xC vV vK xu)) else (zF.j0 k true zi zY zQ zl xw xZ qN xY xW xB xC vV vK xu)) else (zF.j0 k true zi zY zQ zl xw xZ qN xY xW xB xC vV vK xu)) else (zF.j0 k true zi zY zQ zl xw xZ qN xY xW xB xC vV vK xu)) else (zF.j0 k true zi zY zQ zl xw xZ qN xY xW xB xC vV vK xu)) = some r:=h
 clear h
 have XU:=zx.mk H
 clear H
 go_enter Tryz.func53,Tryz.ntmps53
 go_upto_region 1 with (first | ((with_reducible refine y9 (N:=2) rfl ?_);(try (refine jA (by rfl) ?_;dsimp only));refine qQ ?hg (N:=2) ?hd (cs:=#[.int .i64 zi,.int .i64 zY,.int .i64 zQ,.int .i64 zl,.string xw,.string xZ,.slice jD qN.length jE]) (t:=53) ?hr ?_;(case hd=>rfl);(case hg=>rfl);(case hr=>first | (go_simp;done) | (go_simp;rfl));intro yY hg w4 qj hb;have zJ:=zx.mk (zn (zB HB.out) hb);have za:=zx.mk (qj);have zh:=zx.mk ((by rw [hg];exact (zf (zB HB.out)):w.heap.size ≤ yY));have zo:=zx.mk ((by rw [hg];exact (zf (zB HB.out)):w.heap.size ≤ yY));clear HB;have HB:=zJ;have zA:=za;have zj1:=zh;have U3:=zo;clear zJ za zh zo;clear hb qj hg) | ((with_reducible refine y9 (N:=3) rfl ?_);(try (refine jA (by rfl) ?_;dsimp only));refine qQ ?hg (N:=3) ?hd (cs:=#[.int .i64 xY,.int .i64 xW,.int .i64 xB,.int .i64 xC,.string vV,.string vK,.slice Zn xu.length Zo]) (t:=53) ?hr ?_;(case hd=>rfl);(case hg=>rfl);(case hr=>first | (go_simp;done) | (go_simp;rfl));intro yN hg w5 qj hb;have zJ:=zx.mk (zW (g:=yY) (o:=.cells #[.int .i64 zi,.int .i64 zY,.int .i64 zQ,.int .i64 zl,.string xw,.string xZ,.slice jD qN.length jE] 53 (0,0)) (yL zA.out) hb);have za:=zx.mk (zn (zB HB.out) hb);have zh:=zx.mk (qj);have zo:=zx.mk ((by rw [hg];exact (zf (zB HB.out)):w.heap.size ≤ yN));have z8:=zx.mk ((by rw [hg];exact (zf (zB HB.out)):w.heap.size ≤ yN));have yD:=zx.mk ((by rw [hg];exact Nat.ne_of_lt (vU (g:=yY) (o:=.cells #[.int .i64 zi,.int .i64 zY,.int .i64 zQ,.int .i64 zl,.string xw,.string xZ,.slice jD qN.length jE] 53 (0,0)) (yL zA.out)):yY ≠ yN));have yH:=zx.mk ((by rw [hg];exact Nat.ne_of_gt (vU (g:=yY) (o:=.cells #[.int .i64 zi,.int .i64 zY,.int .i64 zQ,.int .i64 zl,.string xw,.string xZ,.slice jD qN.length jE] 53 (0,0)) (yL zA.out)):yN ≠ yY));clear zA;clear HB;have zA:=zJ;have HB:=za;have zL:=zh;have zj2:=zo;have U4:=z8;have jd:=yD;have je:=yH;clear zJ za zh zo z8 yD yH;clear hb qj hg))
 repeat (go_quiet (first | ((with_reducible refine y9 (N:=2) rfl ?_);(try (refine jA (by rfl) ?_;dsimp only));refine qQ ?hg (N:=2) ?hd (cs:=#[.int .i64 zi,.int .i64 zY,.int .i64 zQ,.int .i64 zl,.string xw,.string xZ,.slice jD qN.length jE]) (t:=53) ?hr ?_;(case hd=>rfl);(case hg=>rfl);(case hr=>first | (go_simp;done) | (go_simp;rfl));intro yY hg w4 qj hb;have zJ:=zx.mk (zn (zB HB.out) hb);have za:=zx.mk (qj);have zh:=zx.mk ((by rw [hg];exact (zf (zB HB.out)):w.heap.size ≤ yY));have zo:=zx.mk ((by rw [hg];exact (zf (zB HB.out)):w.heap.size ≤ yY));clear HB;have HB:=zJ;have zA:=za;have zj1:=zh;have U3:=zo;clear zJ za zh zo;clear hb qj hg) | ((with_reducible refine y9 (N:=3) rfl ?_);(try (refine jA (by rfl) ?_;dsimp only));refine qQ ?hg (N:=3) ?hd (cs:=#[.int .i64 xY,.int .i64 xW,.int .i64 xB,.int .i64 xC,.string vV,.string vK,.slice Zn xu.length Zo]) (t:=53) ?hr ?_;(case hd=>rfl);(case hg=>rfl);(case hr=>first | (go_simp;done) | (go_simp;rfl));intro yN hg w5 qj hb;have zJ:=zx.mk (zW (g:=yY) (o:=.cells #[.int .i64 zi,.int .i64 zY,.int .i64 zQ,.int .i64 zl,.string xw,.string xZ,.slice jD qN.length jE] 53 (0,0)) (yL zA.out) hb);have za:=zx.mk (zn (zB HB.out) hb);have zh:=zx.mk (qj);have zo:=zx.mk ((by rw [hg];exact (zf (zB HB.out)):w.heap.size ≤ yN));have z8:=zx.mk ((by rw [hg];exact (zf (zB HB.out)):w.heap.size ≤ yN));have yD:=zx.mk ((by rw [hg];exact Nat.ne_of_lt (vU (g:=yY) (o:=.cells #[.int .i64 zi,.int .i64 zY,.int .i64 zQ,.int .i64 zl,.string xw,.string xZ,.slice jD qN.length jE] 53 (0,0)) (yL zA.out)):yY ≠ yN));have yH:=zx.mk ((by rw [hg];exact Nat.ne_of_gt (vU (g:=yY) (o:=.cells #[.int .i64 zi,.int .i64 zY,.int .i64 zQ,.int .i64 zl,.string xw,.string xZ,.slice jD qN.length jE] 53 (0,0)) (yL zA.out)):yN ≠ yY));clear zA;clear HB;have zA:=zJ;have HB:=za;have zL:=zh;have zj2:=zo;have U4:=z8;have jd:=yD;have je:=yH;clear zJ za zh zo z8 yD yH;clear hb qj hg));go_upto_region 1 with (first | ((with_reducible refine y9 (N:=2) rfl ?_);(try (refine jA (by rfl) ?_;dsimp only));refine qQ ?hg (N:=2) ?hd (cs:=#[.int .i64 zi,.int .i64 zY,.int .i64 zQ,.int .i64 zl,.string xw,.string xZ,.slice jD qN.length jE]) (t:=53) ?hr ?_;(case hd=>rfl);(case hg=>rfl);(case hr=>first | (go_simp;done) | (go_simp;rfl));intro yY hg w4 qj hb;have zJ:=zx.mk (zn (zB HB.out) hb);have za:=zx.mk (qj);have zh:=zx.mk ((by rw [hg];exact (zf (zB HB.out)):w.heap.size ≤ yY));have zo:=zx.mk ((by rw [hg];exact (zf (zB HB.out)):w.heap.size ≤ yY));clear HB;have HB:=zJ;have zA:=za;have zj1:=zh;have U3:=zo;clear zJ za zh zo;clear hb qj hg) | ((with_reducible refine y9 (N:=3) rfl ?_);(try (refine jA (by rfl) ?_;dsimp only));refine qQ ?hg (N:=3) ?hd (cs:=#[.int .i64 xY,.int .i64 xW,.int .i64 xB,.int .i64 xC,.string vV,.string vK,.slice Zn xu.length Zo]) (t:=53) ?hr ?_;(case hd=>rfl);(case hg=>rfl);(case hr=>first | (go_simp;done) | (go_simp;rfl));intro yN hg w5 qj hb;have zJ:=zx.mk (zW (g:=yY) (o:=.cells #[.int .i64 zi,.int .i64 zY,.int .i64 zQ,.int .i64 zl,.string xw,.string xZ,.slice jD qN.length jE] 53 (0,0)) (yL zA.out) hb);have za:=zx.mk (zn (zB HB.out) hb);have zh:=zx.mk (qj);have zo:=zx.mk ((by rw [hg];exact (zf (zB HB.out)):w.heap.size ≤ yN));have z8:=zx.mk ((by rw [hg];exact (zf (zB HB.out)):w.heap.size ≤ yN));have yD:=zx.mk ((by rw [hg];exact Nat.ne_of_lt (vU (g:=yY) (o:=.cells #[.int .i64 zi,.int .i64 zY,.int .i64 zQ,.int .i64 zl,.string xw,.string xZ,.slice jD qN.length jE] 53 (0,0)) (yL zA.out)):yY ≠ yN));have yH:=zx.mk ((by rw [hg];exact Nat.ne_of_gt (vU (g:=yY) (o:=.cells #[.int .i64 zi,.int .i64 zY,.int .i64 zQ,.int .i64 zl,.string xw,.string xZ,.slice jD qN.length jE] 53 (0,0)) (yL zA.out)):yN ≠ yY));clear zA;clear HB;have zA:=zJ;have HB:=za;have zL:=zh;have zj2:=zo;have U4:=z8;have jd:=yD;have je:=yH;clear zJ za zh zo z8 yD yH;clear hb qj hg)))
 (try simp only [Act.put,List.setIfInBounds_toArray,List.set_cons_zero,List.set_cons_succ])
 go_cut [54] (fun v54 wc=>∃ (kq:Nat) (Pg:Bool),v54 = .bool Pg ∧ zx (zF.j0 kq Pg zi zY zQ zl xw xZ qN xY xW xB xC vV vK xu = some r) ∧ zx (kq ≤ k) ∧ zx (wc.heap[yY]? = some (.cells #[.int .i64 zi,.int .i64 zY,.int .i64 zQ,.int .i64 zl,.string xw,.string xZ,(.slice jD qN.length jE)] 53 (0,0))) ∧ zx (wc.heap[yN]? = some (.cells #[.int .i64 xY,.int .i64 xW,.int .i64 xB,.int .i64 xC,.string vV,.string vK,(.slice Zn xu.length Zo)] 53 (0,0))) ∧ zx (Below w.heap.size w wc))
 case first =>
  have H:=XU.out
  clear XU
  by_cases c6:zi = xY
  ·rw [if_pos c6] at H
   have Xt:(zi == xY) = true:=beq_iff_eq.mpr c6
   have zzQ:(zi != xY) = false:=bne_eq_false_iff_eq.mpr c6
   clear c6
   (first | rw [Xt] | (simp only [vO,vP];rw [Xt]) | skip)
   by_cases c7:zY = xW
   ·rw [if_pos c7] at H
    have zxM:(zY == xW) = true:=beq_iff_eq.mpr c7
    have zxN:(zY != xW) = false:=bne_eq_false_iff_eq.mpr c7
    clear c7
    by_cases c8:zQ = xB
    ·rw [if_pos c8] at H
     have JW:(zQ == xB) = true:=beq_iff_eq.mpr c8
     have zxO:(zQ != xB) = false:=bne_eq_false_iff_eq.mpr c8
     clear c8
     by_cases c9:zl = xC
     ·rw [if_pos c9] at H
      have Ja:(zl == xC) = true:=beq_iff_eq.mpr c9
      have zxP:(zl != xC) = false:=bne_eq_false_iff_eq.mpr c9
      clear c9
      by_cases c10:xw.toList = vV.toList
      ·rw [if_pos c10] at H
       have U5:(xw.toList == vV.toList) = true:=beq_iff_eq.mpr c10
       have U6:(xw.toList != vV.toList) = false:=bne_eq_false_iff_eq.mpr c10
       clear c10
       by_cases c11:xZ.toList = vK.toList
       ·rw [if_pos c11] at H
        have zzV:(xZ.toList == vK.toList) = true:=beq_iff_eq.mpr c11
        have zzK:(xZ.toList != vK.toList) = false:=bne_eq_false_iff_eq.mpr c11
        clear c11
        have H':=zx.mk H
        clear H
        have zKe:=jd.out
        have zKf:=je.out
        have rR:w5.cell? ⟨yY,0,none⟩ = some (.int .i64 zi):=ze zA 0
        have r9:w5.cell? ⟨yY,1,none⟩ = some (.int .i64 zY):=ze zA 1
        have sj:w5.cell? ⟨yY,2,none⟩ = some (.int .i64 zQ):=ze zA 2
        have sw:w5.cell? ⟨yY,3,none⟩ = some (.int .i64 zl):=ze zA 3
        have sZ:w5.cell? ⟨yY,4,none⟩ = some (.string xw):=ze zA 4
        have sQ:w5.cell? ⟨yY,5,none⟩ = some (.string xZ):=ze zA 5
        have sJ:w5.cell? ⟨yY,6,none⟩ = some (.slice jD qN.length jE):=ze zA 6
        have sV:=zy zA.out 0
        have sK:=zy zA.out 1
        have sW:=zy zA.out 2
        have su:=zy zA.out 3
        have sD:=zy zA.out 4
        have sF:=zy zA.out 5
        have sG:=zy zA.out 6
        have Jf:w5.cell? ⟨yN,0,none⟩ = some (.int .i64 xY):=ze zL 0
        have Jg:w5.cell? ⟨yN,1,none⟩ = some (.int .i64 xW):=ze zL 1
        have Jh:w5.cell? ⟨yN,2,none⟩ = some (.int .i64 xB):=ze zL 2
        have Ji:w5.cell? ⟨yN,3,none⟩ = some (.int .i64 xC):=ze zL 3
        have Jl:w5.cell? ⟨yN,4,none⟩ = some (.string vV):=ze zL 4
        have Jm:w5.cell? ⟨yN,5,none⟩ = some (.string vK):=ze zL 5
        have sH:w5.cell? ⟨yN,6,none⟩ = some (.slice Zn xu.length Zo):=ze zL 6
        have Jo:=zy zL.out 0
        have Jp:=zy zL.out 1
        have Jr:=zy zL.out 2
        have Js:=zy zL.out 3
        have Jt:=zy zL.out 4
        have Ju:=zy zL.out 5
        have sI:=zy zL.out 6
        go_wp2
        repeat (go_quiet (fail);try go_wp2)
        go_meet
        case rel=>exact ⟨_,(((qN.length:Int) != (xu.length:Int))),(by first | rfl | (simp;done) | (simp [*];done)),H',⟨by first | omega | exact Nat.le_refl _⟩,⟨yL zA.out⟩,⟨yL zL.out⟩,⟨zB HB.out⟩⟩
       ·rw [if_neg c11] at H
        have zzV:(xZ.toList == vK.toList) = false:=beq_eq_false_iff_ne.mpr c11
        have zzK:(xZ.toList != vK.toList) = true:=bne_iff_ne.mpr c11
        have H':=zx.mk H
        clear H
        have zKg:=jd.out
        have zKh:=je.out
        have JA:w5.cell? ⟨yY,0,none⟩ = some (.int .i64 zi):=ze zA 0
        have JB:w5.cell? ⟨yY,1,none⟩ = some (.int .i64 zY):=ze zA 1
        have JC:w5.cell? ⟨yY,2,none⟩ = some (.int .i64 zQ):=ze zA 2
        have JD:w5.cell? ⟨yY,3,none⟩ = some (.int .i64 zl):=ze zA 3
        have JE:w5.cell? ⟨yY,4,none⟩ = some (.string xw):=ze zA 4
        have JF:w5.cell? ⟨yY,5,none⟩ = some (.string xZ):=ze zA 5
        have sM:w5.cell? ⟨yY,6,none⟩ = some (.slice jD qN.length jE):=ze zA 6
        have JG:=zy zA.out 0
        have JH:=zy zA.out 1
        have JI:=zy zA.out 2
        have JL:=zy zA.out 3
        have JM:=zy zA.out 4
        have JN:=zy zA.out 5
        have sN:=zy zA.out 6
        have sO:w5.cell? ⟨yN,0,none⟩ = some (.int .i64 xY):=ze zL 0
        have sP:w5.cell? ⟨yN,1,none⟩ = some (.int .i64 xW):=ze zL 1
        have sS:w5.cell? ⟨yN,2,none⟩ = some (.int .i64 xB):=ze zL 2
        have sU:w5.cell? ⟨yN,3,none⟩ = some (.int .i64 xC):=ze zL 3
        have tq:w5.cell? ⟨yN,4,none⟩ = some (.string vV):=ze zL 4
        have tZ:w5.cell? ⟨yN,5,none⟩ = some (.string vK):=ze zL 5
        have tQ:w5.cell? ⟨yN,6,none⟩ = some (.slice Zn xu.length Zo):=ze zL 6
        have tX:=zy zL.out 0
        have tJ:=zy zL.out 1
        have tV:=zy zL.out 2
        have tK:=zy zL.out 3
        have tY:=zy zL.out 4
        have tu:=zy zL.out 5
        have tC:=zy zL.out 6
        go_wp2
        repeat (go_quiet (fail);try go_wp2)
        go_meet
        case rel=>exact ⟨_,(true),(by first | rfl | (simp;done) | (simp [*];done)),H',⟨by first | omega | exact Nat.le_refl _⟩,⟨yL zA.out⟩,⟨yL zL.out⟩,⟨zB HB.out⟩⟩
      ·rw [if_neg c10] at H
       have U5:(xw.toList == vV.toList) = false:=beq_eq_false_iff_ne.mpr c10
       have U6:(xw.toList != vV.toList) = true:=bne_iff_ne.mpr c10
       have H':=zx.mk H
       clear H
       have zKi:=jd.out
       have zKl:=je.out
       have tF:w5.cell? ⟨yY,0,none⟩ = some (.int .i64 zi):=ze zA 0
       have tH:w5.cell? ⟨yY,1,none⟩ = some (.int .i64 zY):=ze zA 1
       have tL:w5.cell? ⟨yY,2,none⟩ = some (.int .i64 zQ):=ze zA 2
       have tN:w5.cell? ⟨yY,3,none⟩ = some (.int .i64 zl):=ze zA 3
       have tO:w5.cell? ⟨yY,4,none⟩ = some (.string xw):=ze zA 4
       have tT:w5.cell? ⟨yY,5,none⟩ = some (.string xZ):=ze zA 5
       have aj:w5.cell? ⟨yY,6,none⟩ = some (.slice jD qN.length jE):=ze zA 6
       have ak:=zy zA.out 0
       have ay:=zy zA.out 1
       have aZ:=zy zA.out 2
       have aQ:=zy zA.out 3
       have aX:=zy zA.out 4
       have aJ:=zy zA.out 5
       have aY:=zy zA.out 6
       have JU:w5.cell? ⟨yN,0,none⟩ = some (.int .i64 xY):=ze zL 0
       have J2:w5.cell? ⟨yN,1,none⟩ = some (.int .i64 xW):=ze zL 1
       have J3:w5.cell? ⟨yN,2,none⟩ = some (.int .i64 xB):=ze zL 2
       have J4:w5.cell? ⟨yN,3,none⟩ = some (.int .i64 xC):=ze zL 3
       have J5:w5.cell? ⟨yN,4,none⟩ = some (.string vV):=ze zL 4
       have J6:w5.cell? ⟨yN,5,none⟩ = some (.string vK):=ze zL 5
       have aW:w5.cell? ⟨yN,6,none⟩ = some (.slice Zn xu.length Zo):=ze zL 6
       have J7:=zy zL.out 0
       have J8:=zy zL.out 1
       have J9:=zy zL.out 2
       have Kz:=zy zL.out 3
       have Kq:=zy zL.out 4
       have Kj:=zy zL.out 5
       have ah:=zy zL.out 6
       go_wp2
       repeat (go_quiet (fail);try go_wp2)
       go_meet
       case rel=>exact ⟨_,(true),(by first | rfl | (simp;done) | (simp [*];done)),H',⟨by first | omega | exact Nat.le_refl _⟩,⟨yL zA.out⟩,⟨yL zL.out⟩,⟨zB HB.out⟩⟩
     ·rw [if_neg c9] at H
      have Ja:(zl == xC) = false:=beq_eq_false_iff_ne.mpr c9
      have zxP:(zl != xC) = true:=bne_iff_ne.mpr c9
      have H':=zx.mk H
      clear H
      have zKm:=jd.out
      have zKn:=je.out
      have au:w5.cell? ⟨yY,0,none⟩ = some (.int .i64 zi):=ze zA 0
      have aA:w5.cell? ⟨yY,1,none⟩ = some (.int .i64 zY):=ze zA 1
      have aC:w5.cell? ⟨yY,2,none⟩ = some (.int .i64 zQ):=ze zA 2
      have aD:w5.cell? ⟨yY,3,none⟩ = some (.int .i64 zl):=ze zA 3
      have aG:w5.cell? ⟨yY,4,none⟩ = some (.string xw):=ze zA 4
      have aH:w5.cell? ⟨yY,5,none⟩ = some (.string xZ):=ze zA 5
      have aI:w5.cell? ⟨yY,6,none⟩ = some (.slice jD qN.length jE):=ze zA 6
      have aT:=zy zA.out 0
      have aU:=zy zA.out 1
      have fq:=zy zA.out 2
      have fZ:=zy zA.out 3
      have fQ:=zy zA.out 4
      have fJ:=zy zA.out 5
      have fV:=zy zA.out 6
      have Kv:w5.cell? ⟨yN,0,none⟩ = some (.int .i64 xY):=ze zL 0
      have Kk:w5.cell? ⟨yN,1,none⟩ = some (.int .i64 xW):=ze zL 1
      have Ky:w5.cell? ⟨yN,2,none⟩ = some (.int .i64 xB):=ze zL 2
      have Kw:w5.cell? ⟨yN,3,none⟩ = some (.int .i64 xC):=ze zL 3
      have KZ:w5.cell? ⟨yN,4,none⟩ = some (.string vV):=ze zL 4
      have KQ:w5.cell? ⟨yN,5,none⟩ = some (.string vK):=ze zL 5
      have fK:w5.cell? ⟨yN,6,none⟩ = some (.slice Zn xu.length Zo):=ze zL 6
      have KX:=zy zL.out 0
      have KJ:=zy zL.out 1
      have KV:=zy zL.out 2
      have KY:=zy zL.out 3
      have KW:=zy zL.out 4
      have Ka:=zy zL.out 5
      have fu:=zy zL.out 6
      go_wp2
      repeat (go_quiet (fail);try go_wp2)
      go_meet
      case rel=>exact ⟨_,(true),(by first | rfl | (simp;done) | (simp [*];done)),H',⟨by first | omega | exact Nat.le_refl _⟩,⟨yL zA.out⟩,⟨yL zL.out⟩,⟨zB HB.out⟩⟩
    ·rw [if_neg c8] at H
     have JW:(zQ == xB) = false:=beq_eq_false_iff_ne.mpr c8
     have zxO:(zQ != xB) = true:=bne_iff_ne.mpr c8
     have H':=zx.mk H
     clear H
     have zZk:=jd.out
     have zZy:=je.out
     have K8:w5.cell? ⟨yY,0,none⟩ = some (.int .i64 zi):=ze zA 0
     have Wz:w5.cell? ⟨yY,1,none⟩ = some (.int .i64 zY):=ze zA 1
     have Wq:w5.cell? ⟨yY,2,none⟩ = some (.int .i64 zQ):=ze zA 2
     have Wx:w5.cell? ⟨yY,3,none⟩ = some (.int .i64 zl):=ze zA 3
     have fA:w5.cell? ⟨yY,4,none⟩ = some (.string xw):=ze zA 4
     have fB:w5.cell? ⟨yY,5,none⟩ = some (.string xZ):=ze zA 5
     have fC:w5.cell? ⟨yY,6,none⟩ = some (.slice jD qN.length jE):=ze zA 6
     have Wj:=zy zA.out 0
     have Wv:=zy zA.out 1
     have Wy:=zy zA.out 2
     have Ww:=zy zA.out 3
     have fD:=zy zA.out 4
     have fE:=zy zA.out 5
     have fF:=zy zA.out 6
     have fG:w5.cell? ⟨yN,0,none⟩ = some (.int .i64 xY):=ze zL 0
     have fH:w5.cell? ⟨yN,1,none⟩ = some (.int .i64 xW):=ze zL 1
     have fI:w5.cell? ⟨yN,2,none⟩ = some (.int .i64 xB):=ze zL 2
     have fM:w5.cell? ⟨yN,3,none⟩ = some (.int .i64 xC):=ze zL 3
     have fO:w5.cell? ⟨yN,4,none⟩ = some (.string vV):=ze zL 4
     have fP:w5.cell? ⟨yN,5,none⟩ = some (.string vK):=ze zL 5
     have fT:w5.cell? ⟨yN,6,none⟩ = some (.slice Zn xu.length Zo):=ze zL 6
     have fU:=zy zL.out 0
     have eZ:=zy zL.out 1
     have eX:=zy zL.out 2
     have eY:=zy zL.out 3
     have eB:=zy zL.out 4
     have eD:=zy zL.out 5
     have eF:=zy zL.out 6
     go_wp2
     repeat (go_quiet (fail);try go_wp2)
     go_meet
     case rel=>exact ⟨_,(true),(by first | rfl | (simp;done) | (simp [*];done)),H',⟨by first | omega | exact Nat.le_refl _⟩,⟨yL zA.out⟩,⟨yL zL.out⟩,⟨zB HB.out⟩⟩
   ·rw [if_neg c7] at H
    have zxM:(zY == xW) = false:=beq_eq_false_iff_ne.mpr c7
    have zxN:(zY != xW) = true:=bne_iff_ne.mpr c7
    have H':=zx.mk H
    clear H
    have zKo:=jd.out
    have zKp:=je.out
    have eG:w5.cell? ⟨yY,0,none⟩ = some (.int .i64 zi):=ze zA 0
    have eH:w5.cell? ⟨yY,1,none⟩ = some (.int .i64 zY):=ze zA 1
    have eO:w5.cell? ⟨yY,2,none⟩ = some (.int .i64 zQ):=ze zA 2
    have eP:w5.cell? ⟨yY,3,none⟩ = some (.int .i64 zl):=ze zA 3
    have eT:w5.cell? ⟨yY,4,none⟩ = some (.string xw):=ze zA 4
    have eU:w5.cell? ⟨yY,5,none⟩ = some (.string xZ):=ze zA 5
    have iq:w5.cell? ⟨yY,6,none⟩ = some (.slice jD qN.length jE):=ze zA 6
    have iy:=zy zA.out 0
    have iw:=zy zA.out 1
    have iZ:=zy zA.out 2
    have iQ:=zy zA.out 3
    have iX:=zy zA.out 4
    have iJ:=zy zA.out 5
    have iV:=zy zA.out 6
    have iK:w5.cell? ⟨yN,0,none⟩ = some (.int .i64 xY):=ze zL 0
    have iY:w5.cell? ⟨yN,1,none⟩ = some (.int .i64 xW):=ze zL 1
    have ig:w5.cell? ⟨yN,2,none⟩ = some (.int .i64 xB):=ze zL 2
    have iA:w5.cell? ⟨yN,3,none⟩ = some (.int .i64 xC):=ze zL 3
    have iB:w5.cell? ⟨yN,4,none⟩ = some (.string vV):=ze zL 4
    have iD:w5.cell? ⟨yN,5,none⟩ = some (.string vK):=ze zL 5
    have iE:w5.cell? ⟨yN,6,none⟩ = some (.slice Zn xu.length Zo):=ze zL 6
    have iF:=zy zL.out 0
    have iG:=zy zL.out 1
    have iH:=zy zL.out 2
    have iI:=zy zL.out 3
    have iL:=zy zL.out 4
    have iN:=zy zL.out 5
    have iO:=zy zL.out 6
    go_wp2
    repeat (go_quiet (fail);try go_wp2)
    go_meet
    case rel=>exact ⟨_,(true),(by first | rfl | (simp;done) | (simp [*];done)),H',⟨by first | omega | exact Nat.le_refl _⟩,⟨yL zA.out⟩,⟨yL zL.out⟩,⟨zB HB.out⟩⟩
  ·rw [if_neg c6] at H
   have Xt:(zi == xY) = false:=beq_eq_false_iff_ne.mpr c6
   have zzQ:(zi != xY) = true:=bne_iff_ne.mpr c6
   (first | rw [Xt] | (simp only [vO,vP];rw [Xt]) | skip)
   have H':=zx.mk H
   clear H
   have zKr:=jd.out
   have zKs:=je.out
   have iP:w5.cell? ⟨yY,0,none⟩ = some (.int .i64 zi):=ze zA 0
   have iR:w5.cell? ⟨yY,1,none⟩ = some (.int .i64 zY):=ze zA 1
   have iT:w5.cell? ⟨yY,2,none⟩ = some (.int .i64 zQ):=ze zA 2
   have iU:w5.cell? ⟨yY,3,none⟩ = some (.int .i64 zl):=ze zA 3
   have lq:w5.cell? ⟨yY,4,none⟩ = some (.string xw):=ze zA 4
   have lZ:w5.cell? ⟨yY,5,none⟩ = some (.string xZ):=ze zA 5
   have lQ:w5.cell? ⟨yY,6,none⟩ = some (.slice jD qN.length jE):=ze zA 6
   have lX:=zy zA.out 0
   have lJ:=zy zA.out 1
   have lV:=zy zA.out 2
   have lK:=zy zA.out 3
   have lY:=zy zA.out 4
   have lW:=zy zA.out 5
   have lg:=zy zA.out 6
   have lu:w5.cell? ⟨yN,0,none⟩ = some (.int .i64 xY):=ze zL 0
   have lC:w5.cell? ⟨yN,1,none⟩ = some (.int .i64 xW):=ze zL 1
   have lD:w5.cell? ⟨yN,2,none⟩ = some (.int .i64 xB):=ze zL 2
   have lF:w5.cell? ⟨yN,3,none⟩ = some (.int .i64 xC):=ze zL 3
   have lG:w5.cell? ⟨yN,4,none⟩ = some (.string vV):=ze zL 4
   have lH:w5.cell? ⟨yN,5,none⟩ = some (.string vK):=ze zL 5
   have lI:w5.cell? ⟨yN,6,none⟩ = some (.slice Zn xu.length Zo):=ze zL 6
   have lM:=zy zL.out 0
   have lN:=zy zL.out 1
   have lS:=zy zL.out 2
   have lT:=zy zL.out 3
   have lU:=zy zL.out 4
   have l7:=zy zL.out 5
   have l8:=zy zL.out 6
   go_wp2
   repeat (go_quiet (fail);try go_wp2)
   go_meet
   case rel=>exact ⟨_,(true),(by first | rfl | (simp;done) | (simp [*];done)),H',⟨by first | omega | exact Nat.le_refl _⟩,⟨yL zA.out⟩,⟨yL zL.out⟩,⟨zB HB.out⟩⟩
 case rest =>
  clear XU
  try clear c6
  try clear Xt
  try clear zzQ
  try clear c7
  try clear zxM
  try clear zxN
  try clear c8
  try clear JW
  try clear zxO
  try clear c9
  try clear Ja
  try clear zxP
  try clear c10
  try clear U5
  try clear U6
  try clear c11
  try clear zzV
  try clear zzK
  try clear rR
  try clear r9
  try clear sj
  try clear sw
  try clear sZ
  try clear sQ
  try clear sJ
  try clear Jf
  try clear Jg
  try clear Jh
  try clear Ji
  try clear Jl
  try clear Jm
  try clear sH
  try clear JA
  try clear JB
  try clear JC
  try clear JD
  try clear JE
  try clear JF
  try clear sM
  try clear sO
  try clear sP
  try clear sS
  try clear sU
  try clear tq
  try clear tZ
  try clear tQ
  try clear tF
  try clear tH
  try clear tL
  try clear tN
  try clear tO
  try clear tT
  try clear aj
  try clear JU
  try clear J2
  try clear J3
  try clear J4
  try clear J5
  try clear J6
  try clear aW
  try clear au
  try clear aA
  try clear aC
  try clear aD
  try clear aG
  try clear aH
  try clear aI
  try clear Kv
  try clear Kk
  try clear Ky
  try clear Kw
  try clear KZ
  try clear KQ
  try clear fK
  try clear K8
  try clear Wz
  try clear Wq
  try clear Wx
  try clear fA
  try clear fB
  try clear fC
  try clear fG
  try clear fH
  try clear fI
  try clear fM
  try clear fO
  try clear fP
  try clear fT
  try clear eG
  try clear eH
  try clear eO
  try clear eP
  try clear eT
  try clear eU
  try clear iq
  try clear iK
  try clear iY
  try clear ig
  try clear iA
  try clear iB
  try clear iD
  try clear iE
  try clear iP
  try clear iR
  try clear iT
  try clear iU
  try clear lq
  try clear lZ
  try clear lQ
  try clear lu
  try clear lC
  try clear lD
  try clear lF
  try clear lG
  try clear lH
  try clear lI
  try clear sV
  try clear sK
  try clear sW
  try clear su
  try clear sD
  try clear sF
  try clear sG
  try clear Jo
  try clear Jp
  try clear Jr
  try clear Js
  try clear Jt
  try clear Ju
  try clear sI
  try clear JG
  try clear JH
  try clear JI
  try clear JL
  try clear JM
  try clear JN
  try clear sN
  try clear tX
  try clear tJ
  try clear tV
  try clear tK
  try clear tY
  try clear tu
  try clear tC
  try clear ak
  try clear ay
  try clear aZ
  try clear aQ
  try clear aX
  try clear aJ
  try clear aY
  try clear J7
  try clear J8
  try clear J9
  try clear Kz
  try clear Kq
  try clear Kj
  try clear ah
  try clear aT
  try clear aU
  try clear fq
  try clear fZ
  try clear fQ
  try clear fJ
  try clear fV
  try clear KX
  try clear KJ
  try clear KV
  try clear KY
  try clear KW
  try clear Ka
  try clear fu
  try clear Wj
  try clear Wv
  try clear Wy
  try clear Ww
  try clear fD
  try clear fE
  try clear fF
  try clear fU
  try clear eZ
  try clear eX
  try clear eY
  try clear eB
  try clear eD
  try clear eF
  try clear iy
  try clear iw
  try clear iZ
  try clear iQ
  try clear iX
  try clear iJ
  try clear iV
  try clear iF
  try clear iG
  try clear iH
  try clear iI
  try clear iL
  try clear iN
  try clear iO
  try clear lX
  try clear lJ
  try clear lV
  try clear lK
  try clear lY
  try clear lW
  try clear lg
  try clear lM
  try clear lN
  try clear lS
  try clear lT
  try clear lU
  try clear l7
  try clear l8
  obtain ⟨kq,Pg,rfl,HA,HJ2,zA,zL,HB⟩:=hcut
  cases kq with
  | zero=>exact absurd HA.out (by simp [zF.j0])
  | succ kj2 =>
   have H:=HA.out
   clear HA
   simp only [zF.j0] at H
   by_cases c33:Pg = true
   ·subst c33
    have H1:(some false) = some r:=by rw [if_pos rfl] at H;exact H
    clear H
    have H:=H1
    clear H1
    obtain rfl:=Option.some.inj H
    go_wp2
    repeat (go_quiet (fail);try go_wp2)
    go_ret
    exact ⟨by first | rfl | (simp [yw,yZ] <;> rfl) | (simp [*,yw,yZ] <;> rfl),by repeat (first | (with_reducible first | exact HB.out | apply yI | apply yg | apply yj | refine qB ?_ U3.out | refine qB ?_ U4.out) | exact HB.out)⟩
   ·replace c33:=Bool.eq_false_iff.mpr c33
    subst c33
    have H1:(zF.l0 kj2 0 zi zY zQ zl xw xZ qN xY xW xB xC vV vK xu) = some r:=by rw [if_neg (show ¬ (false = true) by decide)] at H;exact H
    clear H
    have H:=H1
    clear H1
    have H':=zx.mk H
    clear H
    go_wp2
    repeat (go_quiet (fail);try go_wp2)
    go_loopg [5] kj2 (fun kq v5 w'=>∃ (uD:Int),v5 = .int .i64 uD ∧ zx (zF.l0 kq uD zi zY zQ zl xw xZ qN xY xW xB xC vV vK xu = some r) ∧ zx (kq ≤ kj2) ∧ zx (w'.heap[yY]? = some (.cells #[.int .i64 zi,.int .i64 zY,.int .i64 zQ,.int .i64 zl,.string xw,.string xZ,(.slice jD qN.length jE)] 53 (0,0))) ∧ zx (w'.heap[yN]? = some (.cells #[.int .i64 xY,.int .i64 xW,.int .i64 xB,.int .i64 xC,.string vV,.string vK,(.slice Zn xu.length Zo)] 53 (0,0))) ∧ zx (Below w.heap.size w w'))
    case atStart=>exact ⟨(0),(by first | rfl | (simp;done) | (simp [*];done)),H',⟨Nat.le_refl _⟩,⟨yL zA.out⟩,⟨yL zL.out⟩,⟨zB HB.out⟩⟩
    case round =>
     clear H'
     try clear c6
     try clear Xt
     try clear zzQ
     try clear c7
     try clear zxM
     try clear zxN
     try clear c8
     try clear JW
     try clear zxO
     try clear c9
     try clear Ja
     try clear zxP
     try clear c10
     try clear U5
     try clear U6
     try clear c11
     try clear zzV
     try clear zzK
     try clear c33
     try clear rR
     try clear r9
     try clear sj
     try clear sw
     try clear sZ
     try clear sQ
     try clear sJ
     try clear Jf
     try clear Jg
     try clear Jh
     try clear Ji
     try clear Jl
     try clear Jm
     try clear sH
     try clear JA
     try clear JB
     try clear JC
     try clear JD
     try clear JE
     try clear JF
     try clear sM
     try clear sO
     try clear sP
     try clear sS
     try clear sU
     try clear tq
     try clear tZ
     try clear tQ
     try clear tF
     try clear tH
     try clear tL
     try clear tN
     try clear tO
     try clear tT
     try clear aj
     try clear JU
     try clear J2
     try clear J3
     try clear J4
     try clear J5
     try clear J6
     try clear aW
     try clear au
     try clear aA
     try clear aC
     try clear aD
     try clear aG
     try clear aH
     try clear aI
     try clear Kv
     try clear Kk
     try clear Ky
     try clear Kw
     try clear KZ
     try clear KQ
     try clear fK
     try clear K8
     try clear Wz
     try clear Wq
     try clear Wx
     try clear fA
     try clear fB
     try clear fC
     try clear fG
     try clear fH
     try clear fI
     try clear fM
     try clear fO
     try clear fP
     try clear fT
     try clear eG
     try clear eH
     try clear eO
     try clear eP
     try clear eT
     try clear eU
     try clear iq
     try clear iK
     try clear iY
     try clear ig
     try clear iA
     try clear iB
     try clear iD
     try clear iE
     try clear iP
     try clear iR
     try clear iT
     try clear iU
     try clear lq
     try clear lZ
     try clear lQ
     try clear lu
     try clear lC
     try clear lD
     try clear lF
     try clear lG
     try clear lH
     try clear lI
     try clear sV
     try clear sK
     try clear sW
     try clear su
     try clear sD
     try clear sF
     try clear sG
     try clear Jo
     try clear Jp
     try clear Jr
     try clear Js
     try clear Jt
     try clear Ju
     try clear sI
     try clear JG
     try clear JH
     try clear JI
     try clear JL
     try clear JM
     try clear JN
     try clear sN
     try clear tX
     try clear tJ
     try clear tV
     try clear tK
     try clear tY
     try clear tu
     try clear tC
     try clear ak
     try clear ay
     try clear aZ
     try clear aQ
     try clear aX
     try clear aJ
     try clear aY
     try clear J7
     try clear J8
     try clear J9
     try clear Kz
     try clear Kq
     try clear Kj
     try clear ah
     try clear aT
     try clear aU
     try clear fq
     try clear fZ
     try clear fQ
     try clear fJ
     try clear fV
     try clear KX
     try clear KJ
     try clear KV
     try clear KY
     try clear KW
     try clear Ka
     try clear fu
     try clear Wj
     try clear Wv
     try clear Wy
     try clear Ww
     try clear fD
     try clear fE
     try clear fF
     try clear fU
     try clear eZ
     try clear eX
     try clear eY
     try clear eB
     try clear eD
     try clear eF
     try clear iy
     try clear iw
     try clear iZ
     try clear iQ
     try clear iX
     try clear iJ
     try clear iV
     try clear iF
     try clear iG
     try clear iH
     try clear iI
     try clear iL
     try clear iN
     try clear iO
     try clear lX
     try clear lJ
     try clear lV
     try clear lK
     try clear lY
     try clear lW
     try clear lg
     try clear lM
     try clear lN
     try clear lS
     try clear lT
     try clear lU
     try clear l7
     try clear l8
     obtain ⟨uD,rfl,HA,HK2,zA,zL,HB⟩:=hrel
     cases gk with
     | zero=>exact absurd HA.out (by simp [zF.l0])
     | succ k2 =>
      have H:=HA.out
      clear HA
      simp only [zF.l0] at H
      by_cases c34:uD < (qN.length:Int)
      ·rw [if_pos c34] at H
       have zZw:decide (uD < (qN.length:Int)) = true:=decide_eq_true c34
       clear c34
       by_cases c35:0 ≤ uD
       ·rw [if_pos c35] at H
        have zKt:decide (0 ≤ uD) = true:=decide_eq_true c35
        clear c35
        by_cases c36:uD < (xu.length:Int)
        ·rw [if_pos c36] at H
         have zKu:decide (uD < (xu.length:Int)) = true:=decide_eq_true c36
         clear c36
         by_cases c37:(rd qN uD) = (rd xu uD)
         ·rw [if_pos c37] at H
          have zZZ:((rd qN uD) == (rd xu uD)) = true:=beq_iff_eq.mpr c37
          have zZQ:((rd qN uD) != (rd xu uD)) = false:=bne_eq_false_iff_eq.mpr c37
          clear c37
          have H':=zx.mk H
          clear H
          have zKA:=jd.out
          have zKB:=je.out
          have zJd:wr.cell? ⟨yY,0,none⟩ = some (.int .i64 zi):=ze zA 0
          have zJe:wr.cell? ⟨yY,1,none⟩ = some (.int .i64 zY):=ze zA 1
          have zJf:wr.cell? ⟨yY,2,none⟩ = some (.int .i64 zQ):=ze zA 2
          have zJg:wr.cell? ⟨yY,3,none⟩ = some (.int .i64 zl):=ze zA 3
          have zJh:wr.cell? ⟨yY,4,none⟩ = some (.string xw):=ze zA 4
          have zJi:wr.cell? ⟨yY,5,none⟩ = some (.string xZ):=ze zA 5
          have zJl:wr.cell? ⟨yY,6,none⟩ = some (.slice jD qN.length jE):=ze zA 6
          have zJm:=zy zA.out 0
          have zJn:=zy zA.out 1
          have zJo:=zy zA.out 2
          have zJp:=zy zA.out 3
          have zJr:=zy zA.out 4
          have zJs:=zy zA.out 5
          have zJt:=zy zA.out 6
          have V4:0 ≤ (uD:Int):=of_decide_eq_true kR
          have V5:uD < (qN.length:Int):=of_decide_eq_true kR
          obtain ⟨zZX,e291,Yd⟩:=Kd.XF zjU.out uD V4 V5
          cases e291
          replace Yd:=(HB.out.cell (World.block_lt_of_cell? w _ Yd)).trans Yd
          replace V4:=eq_true V4
          replace V5:=eq_true V5
          have zJu:wr.cell? ⟨yN,0,none⟩ = some (.int .i64 xY):=ze zL 0
          have zJA:wr.cell? ⟨yN,1,none⟩ = some (.int .i64 xW):=ze zL 1
          have zJB:wr.cell? ⟨yN,2,none⟩ = some (.int .i64 xB):=ze zL 2
          have zJC:wr.cell? ⟨yN,3,none⟩ = some (.int .i64 xC):=ze zL 3
          have zJD:wr.cell? ⟨yN,4,none⟩ = some (.string vV):=ze zL 4
          have zJE:wr.cell? ⟨yN,5,none⟩ = some (.string vK):=ze zL 5
          have zJF:wr.cell? ⟨yN,6,none⟩ = some (.slice Zn xu.length Zo):=ze zL 6
          have zJG:=zy zL.out 0
          have zJH:=zy zL.out 1
          have zJI:=zy zL.out 2
          have zJL:=zy zL.out 3
          have zJM:=zy zL.out 4
          have zJN:=zy zL.out 5
          have zJO:=zy zL.out 6
          have V6:0 ≤ (uD:Int):=of_decide_eq_true kR
          have V7:uD < (xu.length:Int):=of_decide_eq_true kR
          obtain ⟨zZJ,zxR,Ye⟩:=Kd.XF zj0.out uD V6 V7
          cases zxR
          replace Ye:=(HB.out.cell (World.block_lt_of_cell? w _ Ye)).trans Ye
          replace V6:=eq_true V6
          replace V7:=eq_true V7
          go_wp2
          repeat (go_quiet (fail);try go_wp2)
          go_roundg k2
          case measure=>have:=HJ2.out;have:=HK2.out;omega
          case rel=>exact ⟨(wrap64 (uD + 1)),(by first | rfl | (simp;done) | (simp [*];done)),H',⟨by have:=HJ2.out;have:=HK2.out;omega⟩,⟨yL zA.out⟩,⟨yL zL.out⟩,⟨zB HB.out⟩⟩
         ·rw [if_neg c37] at H
          have zZZ:((rd qN uD) == (rd xu uD)) = false:=beq_eq_false_iff_ne.mpr c37
          have zZQ:((rd qN uD) != (rd xu uD)) = true:=bne_iff_ne.mpr c37
          obtain rfl:=Option.some.inj H
          have zKC:=jd.out
          have zKD:=je.out
          have zJP:wr.cell? ⟨yY,0,none⟩ = some (.int .i64 zi):=ze zA 0
          have zJR:wr.cell? ⟨yY,1,none⟩ = some (.int .i64 zY):=ze zA 1
          have zJS:wr.cell? ⟨yY,2,none⟩ = some (.int .i64 zQ):=ze zA 2
          have zJT:wr.cell? ⟨yY,3,none⟩ = some (.int .i64 zl):=ze zA 3
          have zJU:wr.cell? ⟨yY,4,none⟩ = some (.string xw):=ze zA 4
          have zJ0:wr.cell? ⟨yY,5,none⟩ = some (.string xZ):=ze zA 5
          have zJ1:wr.cell? ⟨yY,6,none⟩ = some (.slice jD qN.length jE):=ze zA 6
          have zJ2:=zy zA.out 0
          have zJ3:=zy zA.out 1
          have zJ4:=zy zA.out 2
          have zJ5:=zy zA.out 3
          have zJ6:=zy zA.out 4
          have zJ7:=zy zA.out 5
          have zJ8:=zy zA.out 6
          have V4:0 ≤ (uD:Int):=of_decide_eq_true kR
          have V5:uD < (qN.length:Int):=of_decide_eq_true kR
          obtain ⟨zZX,e291,Yd⟩:=Kd.XF zjU.out uD V4 V5
          cases e291
          replace Yd:=(HB.out.cell (World.block_lt_of_cell? w _ Yd)).trans Yd
          replace V4:=eq_true V4
          replace V5:=eq_true V5
          have zJ9:wr.cell? ⟨yN,0,none⟩ = some (.int .i64 xY):=ze zL 0
          have zVz:wr.cell? ⟨yN,1,none⟩ = some (.int .i64 xW):=ze zL 1
          have zVq:wr.cell? ⟨yN,2,none⟩ = some (.int .i64 xB):=ze zL 2
          have zVx:wr.cell? ⟨yN,3,none⟩ = some (.int .i64 xC):=ze zL 3
          have zVj:wr.cell? ⟨yN,4,none⟩ = some (.string vV):=ze zL 4
          have zVv:wr.cell? ⟨yN,5,none⟩ = some (.string vK):=ze zL 5
          have zVk:wr.cell? ⟨yN,6,none⟩ = some (.slice Zn xu.length Zo):=ze zL 6
          have zVy:=zy zL.out 0
          have zVw:=zy zL.out 1
          have zVZ:=zy zL.out 2
          have zVQ:=zy zL.out 3
          have zVX:=zy zL.out 4
          have zVJ:=zy zL.out 5
          have zVV:=zy zL.out 6
          have V6:0 ≤ (uD:Int):=of_decide_eq_true kR
          have V7:uD < (xu.length:Int):=of_decide_eq_true kR
          obtain ⟨zZJ,zxR,Ye⟩:=Kd.XF zj0.out uD V6 V7
          cases zxR
          replace Ye:=(HB.out.cell (World.block_lt_of_cell? w _ Ye)).trans Ye
          replace V6:=eq_true V6
          replace V7:=eq_true V7
          go_wp2
          repeat (go_quiet (fail);try go_wp2)
          go_ret
          exact ⟨by first | rfl | (simp [yw,yZ] <;> rfl) | (simp [*,yw,yZ] <;> rfl),by repeat (first | (with_reducible first | exact HB.out | apply yI | apply yg | apply yj | refine qB ?_ U3.out | refine qB ?_ U4.out) | exact HB.out)⟩
        ·rw [if_neg c36] at H
         exact absurd H (by simp)
       ·rw [if_neg c35] at H
        exact absurd H (by simp)
      ·rw [if_neg c34] at H
       have zZw:decide (uD < (qN.length:Int)) = false:=decide_eq_false c34
       clear c34
       obtain rfl:=Option.some.inj H
       have zKE:=jd.out
       have zKF:=je.out
       have zVK:wr.cell? ⟨yY,0,none⟩ = some (.int .i64 zi):=ze zA 0
       have zVY:wr.cell? ⟨yY,1,none⟩ = some (.int .i64 zY):=ze zA 1
       have zVW:wr.cell? ⟨yY,2,none⟩ = some (.int .i64 zQ):=ze zA 2
       have zVa:wr.cell? ⟨yY,3,none⟩ = some (.int .i64 zl):=ze zA 3
       have zVb:wr.cell? ⟨yY,4,none⟩ = some (.string xw):=ze zA 4
       have zVc:wr.cell? ⟨yY,5,none⟩ = some (.string xZ):=ze zA 5
       have zVd:wr.cell? ⟨yY,6,none⟩ = some (.slice jD qN.length jE):=ze zA 6
       have zVe:=zy zA.out 0
       have zVf:=zy zA.out 1
       have zVg:=zy zA.out 2
       have zVh:=zy zA.out 3
       have zVi:=zy zA.out 4
       have zVl:=zy zA.out 5
       have zVm:=zy zA.out 6
       go_wp2
       repeat (go_quiet (fail);try go_wp2)
       go_ret
       exact ⟨by first | rfl | (simp [yw,yZ] <;> rfl) | (simp [*,yw,yZ] <;> rfl),by repeat (first | (with_reducible first | exact HB.out | apply yI | apply yg | apply yj | refine qB ?_ U3.out | refine qB ?_ U4.out) | exact HB.out)⟩
end Go.Proofs.YtggifbbiiickmaaGreatDoor.PX
namespace Go.Proofs.YtggifbbiiickmaaGreatDoor.PX
open Go.RowKit Go.Proofs.zk.zm Go.Proofs.zk.yK Go.Proofs.zk.yc
attribute [local go_sem] uf ug jW jc vL vM uh um   -- for this text's walks alone
set_option linter.unusedVariables false
set_option linter.unusedSimpArgs false
def zM.l0:Nat → List (vJ) → List (vJ) → Int → Option (Bool)
 | 0,_,_,_=>none
 | k + 1,x0,x1,x5=>if x5 < (x0.length:Int) then (if 0 ≤ x5 then (if x5 < (x1.length:Int) then ((zF.f k ((zI x0 x5).f0) ((zI x0 x5).f1) ((zI x0 x5).f2) ((zI x0 x5).f3) ((zI x0 x5).f4) ((zI x0 x5).f5) ((zI x0 x5).f6) ((zI x1 x5).f0) ((zI x1 x5).f1) ((zI x1 x5).f2) ((zI x1 x5).f3) ((zI x1 x5).f4) ((zI x1 x5).f5) ((zI x1 x5).f6)).bind fun zzY=>(if zzY = true then (zM.l0 k x0 x1 (wrap64 (x5 + 1))) else (some false))) else (none)) else (none)) else (some true)
def zM.f (k:Nat) (l0:List (vJ)) (l1:List (vJ)):Option (Bool):=if (l0.length:Int) = (l1.length:Int) then (zM.l0 k l0 l1 0) else (some false)
def zM.T6:Bool × List (List Nat × List Nat):=(true,[([],[]),([],[]),([0,1],[0,1]),([2],[2]),([],[]),([],[]),([4,5],[4,5]),([6],[6]),([3,7],[3,7]),([8],[8])])
def zM.B6:List Nat:=[0,0,3,7,0,0,48,112,255,511]
theorem zM.zyJ:xJ .any (opsOf Tryz.f18 6) = zM.T6:=by kernel_rfl
theorem zM.zj3:vv zM.T6.2 zM.B6 = true:=by kernel_rfl
set_option maxHeartbeats 8000000 in
set_option maxRecDepth 100000 in
theorem zM.calls (k:Nat) (A0:Option Addr) (c0:Nat) (l0:List (vJ)) (A1:Option Addr) (c1:Nat) (l1:List (vJ)) (r:Bool) (w:World) (hr0:Kd.C xS w A0 l0.length l0) (hc0:l0.length ≤ c0) (hr1:Kd.C xS w A1 l1.length l1) (hc1:l1.length ≤ c1) (h:zM.f k l0 l1 = some r) :
  Calls Tryz.prog 18 #[.slice A0 l0.length c0,.slice A1 l1.length c1] w fun e w'=>e = .returned (.bool r) ∧ Below w.heap.size w w':=by
 have zQ4:=Tryz.underlying53
 have Qm:=zx.mk hr0
 have HC0:=zx.mk hc0
 clear hr0 hc0
 have HR1:=zx.mk hr1
 have HC1:=zx.mk hc1
 clear hr1 hc1
 have HB:=zx.mk (Below.refl w.heap.size w)
 have H:(if (l0.length:Int) = (l1.length:Int) then (zM.l0 k l0 l1 0) else (some false)) = some r:=h
 clear h
 by_cases c3:(l0.length:Int) = (l1.length:Int)
 ·rw [if_pos c3] at H
  have Xp:((l0.length:Int) == (l1.length:Int)) = true:=beq_iff_eq.mpr c3
  have gU:((l0.length:Int) != (l1.length:Int)) = false:=bne_eq_false_iff_eq.mpr c3
  have zyV:(l0.length == l1.length) = true:=by first | simpa using c3 | (simp at c3 ⊢;omega)
  clear c3
  have H':=zx.mk H
  clear H
  go_enter Tryz.func18,Tryz.ntmps18
  go_wp2
  go_loopg [5] k (fun kq v5 w'=>∃ (zP:Int),v5 = .int .i64 zP ∧ zx (zM.l0 kq l0 l1 zP = some r) ∧ zx (kq ≤ k) ∧ zx (Below w.heap.size w w'))
  case atStart=>exact ⟨(0),(by first | rfl | (simp;done) | (simp [*];done)),H',⟨Nat.le_refl _⟩,⟨zB HB.out⟩⟩
  case round =>
   clear H'
   try clear c1
   try clear c3
   try clear Xp
   try clear gU
   try clear zyV
   obtain ⟨zP,rfl,HA,XY,HB⟩:=hrel
   cases gk with
   | zero=>exact absurd HA.out (by simp [zM.l0])
   | succ k1 =>
    have H:=HA.out
    clear HA
    simp only [zM.l0] at H
    by_cases c4:zP < (l0.length:Int)
    ·rw [if_pos c4] at H
     have Xr:decide (zP < (l0.length:Int)) = true:=decide_eq_true c4
     clear c4
     by_cases c5:0 ≤ zP
     ·rw [if_pos c5] at H
      have Vt:decide (0 ≤ zP) = true:=decide_eq_true c5
      clear c5
      by_cases c6:zP < (l1.length:Int)
      ·rw [if_pos c6] at H
       have Xt:decide (zP < (l1.length:Int)) = true:=decide_eq_true c6
       clear c6
       replace H:=Option.bind_eq_some_iff.mp H
       obtain ⟨zzY,Wo,H⟩:=H
       replace H:(if zzY = true then (zM.l0 k1 l0 l1 (wrap64 (zP + 1))) else (some false)) = some r:=H
       have A7:=zx.mk Wo
       clear Wo
       by_cases c8:zzY = true
       ·subst c8
        have H1:(zM.l0 k1 l0 l1 (wrap64 (zP + 1))) = some r:=by rw [if_pos rfl] at H;exact H
        clear H
        have H:=H1
        clear H1
        have H':=zx.mk H
        clear H
        try go_wp2
        have zJ:=zx.mk (yj HB.out)
        clear HB
        have HB:=zJ
        clear zJ
        have V8:0 ≤ (zP:Int):=of_decide_eq_true kR
        have V9:zP < (l0.length:Int):=of_decide_eq_true kR
        obtain ⟨uJ,Q0,Q5,zxS,wK,wY,wW,wh,wm,wo,wu,X7,X8⟩:=Y3 Qm.out zP V8 V9
        have ZK:=wu
        have ZY:=wo
        have ZW:=wm
        have Za:=wh
        have Zb:=wW
        have Zc:=wY
        have Zd:=wK
        cases zxS
        replace wK:=(HB.out.cell (World.block_lt_of_cell? w _ wK)).trans wK
        replace wY:=(HB.out.cell (World.block_lt_of_cell? w _ wY)).trans wY
        replace wW:=(HB.out.cell (World.block_lt_of_cell? w _ wW)).trans wW
        replace wh:=(HB.out.cell (World.block_lt_of_cell? w _ wh)).trans wh
        replace wm:=(HB.out.cell (World.block_lt_of_cell? w _ wm)).trans wm
        replace wo:=(HB.out.cell (World.block_lt_of_cell? w _ wo)).trans wo
        replace wu:=(HB.out.cell (World.block_lt_of_cell? w _ wu)).trans wu
        have X9:=zx.mk X8
        have WZ:=zx.mk X7
        clear X8 X7
        replace V8:=eq_true V8
        replace V9:=eq_true V9
        have Uz:0 ≤ (zP:Int):=of_decide_eq_true kR
        have Uq:zP < (l1.length:Int):=of_decide_eq_true kR
        obtain ⟨uV,Q6,Q7,e294,wB,wC,wD,wE,wF,wG,wH,Qz,Qq⟩:=Y3 HR1.out zP Uz Uq
        have Ze:=wH
        have Zf:=wG
        have Zg:=wF
        have Zh:=wE
        have Zi:=wD
        have Zl:=wC
        have Zm:=wB
        cases e294
        replace wB:=(HB.out.cell (World.block_lt_of_cell? w _ wB)).trans wB
        replace wC:=(HB.out.cell (World.block_lt_of_cell? w _ wC)).trans wC
        replace wD:=(HB.out.cell (World.block_lt_of_cell? w _ wD)).trans wD
        replace wE:=(HB.out.cell (World.block_lt_of_cell? w _ wE)).trans wE
        replace wF:=(HB.out.cell (World.block_lt_of_cell? w _ wF)).trans wF
        replace wG:=(HB.out.cell (World.block_lt_of_cell? w _ wG)).trans wG
        replace wH:=(HB.out.cell (World.block_lt_of_cell? w _ wH)).trans wH
        have Qx:=zx.mk Qq
        have WQ:=zx.mk Qz
        clear Qq Qz
        replace Uz:=eq_true Uz
        replace Uq:=eq_true Uq
        refine uq (n:=10) (S:=fun w'=>w'.cell? (uJ.add ((zP).toNat * 7)) = some (.int .i64 ((zI l0 zP).f0)) ∧ w'.cell? ⟨(uJ.add ((zP).toNat * 7)).block,(uJ.add ((zP).toNat * 7)).off + 1,none⟩ = some (.int .i64 ((zI l0 zP).f1)) ∧ w'.cell? ⟨(uJ.add ((zP).toNat * 7)).block,(uJ.add ((zP).toNat * 7)).off + 2,none⟩ = some (.int .i64 ((zI l0 zP).f2)) ∧ w'.cell? ⟨(uJ.add ((zP).toNat * 7)).block,(uJ.add ((zP).toNat * 7)).off + 3,none⟩ = some (.int .i64 ((zI l0 zP).f3)) ∧ w'.cell? ⟨(uJ.add ((zP).toNat * 7)).block,(uJ.add ((zP).toNat * 7)).off + 4,none⟩ = some (.string ((zI l0 zP).f4)) ∧ w'.cell? ⟨(uJ.add ((zP).toNat * 7)).block,(uJ.add ((zP).toNat * 7)).off + 5,none⟩ = some (.string ((zI l0 zP).f5)) ∧ w'.cell? ⟨(uJ.add ((zP).toNat * 7)).block,(uJ.add ((zP).toNat * 7)).off + 6,none⟩ = some (.slice Q0 ((zI l0 zP).f6).length Q5) ∧ w'.cell? (uV.add ((zP).toNat * 7)) = some (.int .i64 ((zI l1 zP).f0)) ∧ w'.cell? ⟨(uV.add ((zP).toNat * 7)).block,(uV.add ((zP).toNat * 7)).off + 1,none⟩ = some (.int .i64 ((zI l1 zP).f1)) ∧ w'.cell? ⟨(uV.add ((zP).toNat * 7)).block,(uV.add ((zP).toNat * 7)).off + 2,none⟩ = some (.int .i64 ((zI l1 zP).f2)) ∧ w'.cell? ⟨(uV.add ((zP).toNat * 7)).block,(uV.add ((zP).toNat * 7)).off + 3,none⟩ = some (.int .i64 ((zI l1 zP).f3)) ∧ w'.cell? ⟨(uV.add ((zP).toNat * 7)).block,(uV.add ((zP).toNat * 7)).off + 4,none⟩ = some (.string ((zI l1 zP).f4)) ∧ w'.cell? ⟨(uV.add ((zP).toNat * 7)).block,(uV.add ((zP).toNat * 7)).off + 5,none⟩ = some (.string ((zI l1 zP).f5)) ∧ w'.cell? ⟨(uV.add ((zP).toNat * 7)).block,(uV.add ((zP).toNat * 7)).off + 6,none⟩ = some (.slice Q6 ((zI l1 zP).f6).length Q7)) (ds:=[]) #[false,false,false,false,false,false,false,false,false,false] (by kernel_rfl) rfl rfl ⟨((HB.out.cell (World.block_lt_of_cell? w _ Zd)).trans Zd),((HB.out.cell (World.block_lt_of_cell? w _ Zc)).trans Zc),((HB.out.cell (World.block_lt_of_cell? w _ Zb)).trans Zb),((HB.out.cell (World.block_lt_of_cell? w _ Za)).trans Za),((HB.out.cell (World.block_lt_of_cell? w _ ZW)).trans ZW),((HB.out.cell (World.block_lt_of_cell? w _ ZY)).trans ZY),((HB.out.cell (World.block_lt_of_cell? w _ ZK)).trans ZK),((HB.out.cell (World.block_lt_of_cell? w _ Zm)).trans Zm),((HB.out.cell (World.block_lt_of_cell? w _ Zl)).trans Zl),((HB.out.cell (World.block_lt_of_cell? w _ Zi)).trans Zi),((HB.out.cell (World.block_lt_of_cell? w _ Zh)).trans Zh),((HB.out.cell (World.block_lt_of_cell? w _ Zg)).trans Zg),((HB.out.cell (World.block_lt_of_cell? w _ Zf)).trans Zf),((HB.out.cell (World.block_lt_of_cell? w _ Ze)).trans Ze)⟩ (fun hHeld=>?_);refine vY zM.zyJ zM.zj3 (fun zC vW=>?_)
        generalize wr.drew = w9 at HB X9 Qx wK wY wW wh wm wo wu wB wC wD wE wF wG wH hHeld ⊢
        refine q9 (i:=0) (N:=some 17) (v:=?_) (a':=?_) #[true,false,false,false,false,false,false,false,false,false] rfl rfl (qE zC.out (by kernel_rfl)) (fun _ _ _ h=>h) (Or.inl ⟨by rfl,?_⟩) ?_ ?_
        rotate_left
        ·intro w'
         go_simp
         with_reducible rfl
        rotate_left
        ·simp only [Act.put,List.setIfInBounds_toArray,List.set_cons_zero,List.set_cons_succ,vO,vP]
         rfl
        refine q9 (i:=1) (N:=some 18) (v:=?_) (a':=?_) #[true,true,false,false,false,false,false,false,false,false] rfl rfl (qE zC.out (by kernel_rfl)) (fun _ _ _ h=>h) (Or.inl ⟨by rfl,?_⟩) ?_ ?_
        rotate_left
        ·intro w'
         go_simp
         with_reducible rfl
        rotate_left
        ·simp only [Act.put,List.setIfInBounds_toArray,List.set_cons_zero,List.set_cons_succ,vO,vP]
         rfl
        refine q9 (i:=2) (N:=some 19) (v:=?_) (a':=?_) #[true,true,true,false,false,false,false,false,false,false] rfl rfl (qE zC.out (by kernel_rfl)) (fun _ _ _ h=>h) (Or.inl ⟨by rfl,?_⟩) ?_ ?_
        rotate_left
        ·intro w'
         go_simp
         with_reducible rfl
        rotate_left
        ·simp only [Act.put,List.setIfInBounds_toArray,List.set_cons_zero,List.set_cons_succ,vO,vP]
         rfl
        refine q9 (i:=4) (N:=some 21) (v:=?_) (a':=?_) #[true,true,true,false,true,false,false,false,false,false] rfl rfl (qE zC.out (by kernel_rfl)) (fun _ _ _ h=>h) (Or.inl ⟨by rfl,?_⟩) ?_ ?_
        rotate_left
        ·intro w'
         go_simp
         with_reducible rfl
        rotate_left
        ·simp only [Act.put,List.setIfInBounds_toArray,List.set_cons_zero,List.set_cons_succ,vO,vP]
         rfl
        refine q9 (i:=5) (N:=some 22) (v:=?_) (a':=?_) #[true,true,true,false,true,true,false,false,false,false] rfl rfl (qE zC.out (by kernel_rfl)) (fun _ _ _ h=>h) (Or.inl ⟨by rfl,?_⟩) ?_ ?_
        rotate_left
        ·intro w'
         go_simp
         with_reducible rfl
        rotate_left
        ·simp only [Act.put,List.setIfInBounds_toArray,List.set_cons_zero,List.set_cons_succ,vO,vP]
         rfl
        refine q9 (i:=6) (N:=some 23) (v:=?_) (a':=?_) #[true,true,true,false,true,true,true,false,false,false] rfl rfl (qE zC.out (by kernel_rfl)) (fun _ _ _ h=>h) (Or.inl ⟨by rfl,?_⟩) ?_ ?_
        rotate_left
        ·intro w'
         go_simp
         with_reducible rfl
        rotate_left
        ·simp only [Act.put,List.setIfInBounds_toArray,List.set_cons_zero,List.set_cons_succ,vO,vP]
         rfl
        refine Z4 (i:=3) (N:=some 20) (v:=?_) (a':=?_) #[true,true,true,true,true,true,true,false,false,false] rfl rfl (YX zC.out vW.out (by kernel_rfl)) (fun _ _ _ h=>h) (Or.inl ⟨by rfl,?_⟩) hHeld ?_ ?_
        rotate_left
        ·rintro w' ⟨s0,s1,s2,s3,s4,s5,s6,s7,s8,s9,s10,s11,s12,s13⟩
         go_simp
         with_reducible rfl
        rotate_left
        ·simp only [Act.put,List.setIfInBounds_toArray,List.set_cons_zero,List.set_cons_succ,vO,vP]
         rfl
        refine Z4 (i:=7) (N:=some 24) (v:=?_) (a':=?_) #[true,true,true,true,true,true,true,true,false,false] rfl rfl (YX zC.out vW.out (by kernel_rfl)) (fun _ _ _ h=>h) (Or.inl ⟨by rfl,?_⟩) hHeld ?_ ?_
        rotate_left
        ·rintro w' ⟨s0,s1,s2,s3,s4,s5,s6,s7,s8,s9,s10,s11,s12,s13⟩
         go_simp
         with_reducible rfl
        rotate_left
        ·simp only [Act.put,List.setIfInBounds_toArray,List.set_cons_zero,List.set_cons_succ,vO,vP]
         rfl
        refine Z5 (i:=8) (N:=some 25) #[true,true,true,true,true,true,true,true,true,false] rfl rfl (jX zC.out (by kernel_rfl)) (by decide) (fun K hK=>?_)
        refine vI Tryz.func53 (by kernel_rfl) rfl #[.agg #[.int .i64 ((zI l0 zP).f0),.int .i64 ((zI l0 zP).f1),.int .i64 ((zI l0 zP).f2),.int .i64 ((zI l0 zP).f3),.string ((zI l0 zP).f4),.string ((zI l0 zP).f5),.slice Q0 ((zI l0 zP).f6).length Q5],.agg #[.int .i64 ((zI l1 zP).f0),.int .i64 ((zI l1 zP).f1),.int .i64 ((zI l1 zP).f2),.int .i64 ((zI l1 zP).f3),.string ((zI l1 zP).f4),.string ((zI l1 zP).f5),.slice Q6 ((zI l1 zP).f6).length Q7]] (by rfl) rfl rfl (by (try simp only [List.map_toArray,List.map_cons,List.map_nil]);first | done | rfl | (simp only [List.length_drop,List.length_take];rfl)) ?_
        with_reducible refine (zF.calls k1 ((zI l0 zP).f0) ((zI l0 zP).f1) ((zI l0 zP).f2) ((zI l0 zP).f3) ((zI l0 zP).f4) ((zI l0 zP).f5) _ _ ((zI l0 zP).f6) ((zI l1 zP).f0) ((zI l1 zP).f1) ((zI l1 zP).f2) ((zI l1 zP).f3) ((zI l1 zP).f4) ((zI l1 zP).f5) _ _ ((zI l1 zP).f6) true _ ?yX ?qy ?qw ?qZ A7.out).mono ?_
        (case yX=>exact q8 (Kd.zH X9.out HB.out))
        (case qy=>exact WZ.out)
        (case qw=>exact q8 (Kd.zH Qx.out HB.out))
        (case qZ=>exact WQ.out)
        rintro e YD ⟨rfl,hb⟩
        refine ⟨_,rfl,?_⟩
        have zJ:=zx.mk (zn (zB HB.out) hb)
        clear HB
        have HB:=zJ
        clear zJ
        (try clear hb)
        refine hK.out _ _ ⟨((HB.out.cell (World.block_lt_of_cell? w _ Zd)).trans Zd),((HB.out.cell (World.block_lt_of_cell? w _ Zc)).trans Zc),((HB.out.cell (World.block_lt_of_cell? w _ Zb)).trans Zb),((HB.out.cell (World.block_lt_of_cell? w _ Za)).trans Za),((HB.out.cell (World.block_lt_of_cell? w _ ZW)).trans ZW),((HB.out.cell (World.block_lt_of_cell? w _ ZY)).trans ZY),((HB.out.cell (World.block_lt_of_cell? w _ ZK)).trans ZK),((HB.out.cell (World.block_lt_of_cell? w _ Zm)).trans Zm),((HB.out.cell (World.block_lt_of_cell? w _ Zl)).trans Zl),((HB.out.cell (World.block_lt_of_cell? w _ Zi)).trans Zi),((HB.out.cell (World.block_lt_of_cell? w _ Zh)).trans Zh),((HB.out.cell (World.block_lt_of_cell? w _ Zg)).trans Zg),((HB.out.cell (World.block_lt_of_cell? w _ Zf)).trans Zf),((HB.out.cell (World.block_lt_of_cell? w _ Ze)).trans Ze)⟩ (fun hHeld=>?_)
        clear hK K
        refine Z6 (a':=?_) ?_ ?_
        rotate_left
        ·show Act.put _ (some 25) _ = _
         simp only [Act.put,List.setIfInBounds_toArray,List.set_cons_zero,List.set_cons_succ,vO,vP]
         rfl
        refine q9 (i:=9) (N:=some 26) (v:=?_) (a':=?_) #[true,true,true,true,true,true,true,true,true,true] rfl rfl (qE zC.out (by kernel_rfl)) (fun _ _ _ h=>h) (Or.inl ⟨by rfl,?_⟩) ?_ ?_
        rotate_left
        ·intro w'
         go_simp
         with_reducible rfl
        rotate_left
        ·simp only [Act.put,List.setIfInBounds_toArray,List.set_cons_zero,List.set_cons_succ,vO,vP]
         rfl
        refine xD (qb zC.out (by kernel_rfl)) ?_
        try go_wp2
        go_roundg k1
        case measure=>have:=XY.out;omega
        case rel=>exact ⟨(wrap64 (zP + 1)),(by first | rfl | (simp;done) | (simp [*];done)),H',⟨by have:=XY.out;omega⟩,⟨zB HB.out⟩⟩
       ·replace c8:=Bool.eq_false_iff.mpr c8
        subst c8
        have H1:(some false) = some r:=by rw [if_neg (show ¬ (false = true) by decide)] at H;exact H
        clear H
        have H:=H1
        clear H1
        obtain rfl:=Option.some.inj H
        try go_wp2
        have zJ:=zx.mk (yj HB.out)
        clear HB
        have HB:=zJ
        clear zJ
        have V8:0 ≤ (zP:Int):=of_decide_eq_true kR
        have V9:zP < (l0.length:Int):=of_decide_eq_true kR
        obtain ⟨uJ,Q0,Q5,zxS,wK,wY,wW,wh,wm,wo,wu,X7,X8⟩:=Y3 Qm.out zP V8 V9
        have ZK:=wu
        have ZY:=wo
        have ZW:=wm
        have Za:=wh
        have Zb:=wW
        have Zc:=wY
        have Zd:=wK
        cases zxS
        replace wK:=(HB.out.cell (World.block_lt_of_cell? w _ wK)).trans wK
        replace wY:=(HB.out.cell (World.block_lt_of_cell? w _ wY)).trans wY
        replace wW:=(HB.out.cell (World.block_lt_of_cell? w _ wW)).trans wW
        replace wh:=(HB.out.cell (World.block_lt_of_cell? w _ wh)).trans wh
        replace wm:=(HB.out.cell (World.block_lt_of_cell? w _ wm)).trans wm
        replace wo:=(HB.out.cell (World.block_lt_of_cell? w _ wo)).trans wo
        replace wu:=(HB.out.cell (World.block_lt_of_cell? w _ wu)).trans wu
        have X9:=zx.mk X8
        have WZ:=zx.mk X7
        clear X8 X7
        replace V8:=eq_true V8
        replace V9:=eq_true V9
        have Uz:0 ≤ (zP:Int):=of_decide_eq_true kR
        have Uq:zP < (l1.length:Int):=of_decide_eq_true kR
        obtain ⟨uV,Q6,Q7,e294,wB,wC,wD,wE,wF,wG,wH,Qz,Qq⟩:=Y3 HR1.out zP Uz Uq
        have Ze:=wH
        have Zf:=wG
        have Zg:=wF
        have Zh:=wE
        have Zi:=wD
        have Zl:=wC
        have Zm:=wB
        cases e294
        replace wB:=(HB.out.cell (World.block_lt_of_cell? w _ wB)).trans wB
        replace wC:=(HB.out.cell (World.block_lt_of_cell? w _ wC)).trans wC
        replace wD:=(HB.out.cell (World.block_lt_of_cell? w _ wD)).trans wD
        replace wE:=(HB.out.cell (World.block_lt_of_cell? w _ wE)).trans wE
        replace wF:=(HB.out.cell (World.block_lt_of_cell? w _ wF)).trans wF
        replace wG:=(HB.out.cell (World.block_lt_of_cell? w _ wG)).trans wG
        replace wH:=(HB.out.cell (World.block_lt_of_cell? w _ wH)).trans wH
        have Qx:=zx.mk Qq
        have WQ:=zx.mk Qz
        clear Qq Qz
        replace Uz:=eq_true Uz
        replace Uq:=eq_true Uq
        refine uq (n:=10) (S:=fun w'=>w'.cell? (uJ.add ((zP).toNat * 7)) = some (.int .i64 ((zI l0 zP).f0)) ∧ w'.cell? ⟨(uJ.add ((zP).toNat * 7)).block,(uJ.add ((zP).toNat * 7)).off + 1,none⟩ = some (.int .i64 ((zI l0 zP).f1)) ∧ w'.cell? ⟨(uJ.add ((zP).toNat * 7)).block,(uJ.add ((zP).toNat * 7)).off + 2,none⟩ = some (.int .i64 ((zI l0 zP).f2)) ∧ w'.cell? ⟨(uJ.add ((zP).toNat * 7)).block,(uJ.add ((zP).toNat * 7)).off + 3,none⟩ = some (.int .i64 ((zI l0 zP).f3)) ∧ w'.cell? ⟨(uJ.add ((zP).toNat * 7)).block,(uJ.add ((zP).toNat * 7)).off + 4,none⟩ = some (.string ((zI l0 zP).f4)) ∧ w'.cell? ⟨(uJ.add ((zP).toNat * 7)).block,(uJ.add ((zP).toNat * 7)).off + 5,none⟩ = some (.string ((zI l0 zP).f5)) ∧ w'.cell? ⟨(uJ.add ((zP).toNat * 7)).block,(uJ.add ((zP).toNat * 7)).off + 6,none⟩ = some (.slice Q0 ((zI l0 zP).f6).length Q5) ∧ w'.cell? (uV.add ((zP).toNat * 7)) = some (.int .i64 ((zI l1 zP).f0)) ∧ w'.cell? ⟨(uV.add ((zP).toNat * 7)).block,(uV.add ((zP).toNat * 7)).off + 1,none⟩ = some (.int .i64 ((zI l1 zP).f1)) ∧ w'.cell? ⟨(uV.add ((zP).toNat * 7)).block,(uV.add ((zP).toNat * 7)).off + 2,none⟩ = some (.int .i64 ((zI l1 zP).f2)) ∧ w'.cell? ⟨(uV.add ((zP).toNat * 7)).block,(uV.add ((zP).toNat * 7)).off + 3,none⟩ = some (.int .i64 ((zI l1 zP).f3)) ∧ w'.cell? ⟨(uV.add ((zP).toNat * 7)).block,(uV.add ((zP).toNat * 7)).off + 4,none⟩ = some (.string ((zI l1 zP).f4)) ∧ w'.cell? ⟨(uV.add ((zP).toNat * 7)).block,(uV.add ((zP).toNat * 7)).off + 5,none⟩ = some (.string ((zI l1 zP).f5)) ∧ w'.cell? ⟨(uV.add ((zP).toNat * 7)).block,(uV.add ((zP).toNat * 7)).off + 6,none⟩ = some (.slice Q6 ((zI l1 zP).f6).length Q7)) (ds:=[]) #[false,false,false,false,false,false,false,false,false,false] (by kernel_rfl) rfl rfl ⟨((HB.out.cell (World.block_lt_of_cell? w _ Zd)).trans Zd),((HB.out.cell (World.block_lt_of_cell? w _ Zc)).trans Zc),((HB.out.cell (World.block_lt_of_cell? w _ Zb)).trans Zb),((HB.out.cell (World.block_lt_of_cell? w _ Za)).trans Za),((HB.out.cell (World.block_lt_of_cell? w _ ZW)).trans ZW),((HB.out.cell (World.block_lt_of_cell? w _ ZY)).trans ZY),((HB.out.cell (World.block_lt_of_cell? w _ ZK)).trans ZK),((HB.out.cell (World.block_lt_of_cell? w _ Zm)).trans Zm),((HB.out.cell (World.block_lt_of_cell? w _ Zl)).trans Zl),((HB.out.cell (World.block_lt_of_cell? w _ Zi)).trans Zi),((HB.out.cell (World.block_lt_of_cell? w _ Zh)).trans Zh),((HB.out.cell (World.block_lt_of_cell? w _ Zg)).trans Zg),((HB.out.cell (World.block_lt_of_cell? w _ Zf)).trans Zf),((HB.out.cell (World.block_lt_of_cell? w _ Ze)).trans Ze)⟩ (fun hHeld=>?_);refine vY zM.zyJ zM.zj3 (fun zC vW=>?_)
        generalize wr.drew = Ut at HB X9 Qx wK wY wW wh wm wo wu wB wC wD wE wF wG wH hHeld ⊢
        refine q9 (i:=0) (N:=some 17) (v:=?_) (a':=?_) #[true,false,false,false,false,false,false,false,false,false] rfl rfl (qE zC.out (by kernel_rfl)) (fun _ _ _ h=>h) (Or.inl ⟨by rfl,?_⟩) ?_ ?_
        rotate_left
        ·intro w'
         go_simp
         with_reducible rfl
        rotate_left
        ·simp only [Act.put,List.setIfInBounds_toArray,List.set_cons_zero,List.set_cons_succ,vO,vP]
         rfl
        refine q9 (i:=1) (N:=some 18) (v:=?_) (a':=?_) #[true,true,false,false,false,false,false,false,false,false] rfl rfl (qE zC.out (by kernel_rfl)) (fun _ _ _ h=>h) (Or.inl ⟨by rfl,?_⟩) ?_ ?_
        rotate_left
        ·intro w'
         go_simp
         with_reducible rfl
        rotate_left
        ·simp only [Act.put,List.setIfInBounds_toArray,List.set_cons_zero,List.set_cons_succ,vO,vP]
         rfl
        refine q9 (i:=2) (N:=some 19) (v:=?_) (a':=?_) #[true,true,true,false,false,false,false,false,false,false] rfl rfl (qE zC.out (by kernel_rfl)) (fun _ _ _ h=>h) (Or.inl ⟨by rfl,?_⟩) ?_ ?_
        rotate_left
        ·intro w'
         go_simp
         with_reducible rfl
        rotate_left
        ·simp only [Act.put,List.setIfInBounds_toArray,List.set_cons_zero,List.set_cons_succ,vO,vP]
         rfl
        refine q9 (i:=4) (N:=some 21) (v:=?_) (a':=?_) #[true,true,true,false,true,false,false,false,false,false] rfl rfl (qE zC.out (by kernel_rfl)) (fun _ _ _ h=>h) (Or.inl ⟨by rfl,?_⟩) ?_ ?_
        rotate_left
        ·intro w'
         go_simp
         with_reducible rfl
        rotate_left
        ·simp only [Act.put,List.setIfInBounds_toArray,List.set_cons_zero,List.set_cons_succ,vO,vP]
         rfl
        refine q9 (i:=5) (N:=some 22) (v:=?_) (a':=?_) #[true,true,true,false,true,true,false,false,false,false] rfl rfl (qE zC.out (by kernel_rfl)) (fun _ _ _ h=>h) (Or.inl ⟨by rfl,?_⟩) ?_ ?_
        rotate_left
        ·intro w'
         go_simp
         with_reducible rfl
        rotate_left
        ·simp only [Act.put,List.setIfInBounds_toArray,List.set_cons_zero,List.set_cons_succ,vO,vP]
         rfl
        refine q9 (i:=6) (N:=some 23) (v:=?_) (a':=?_) #[true,true,true,false,true,true,true,false,false,false] rfl rfl (qE zC.out (by kernel_rfl)) (fun _ _ _ h=>h) (Or.inl ⟨by rfl,?_⟩) ?_ ?_
        rotate_left
        ·intro w'
         go_simp
         with_reducible rfl
        rotate_left
        ·simp only [Act.put,List.setIfInBounds_toArray,List.set_cons_zero,List.set_cons_succ,vO,vP]
         rfl
        refine Z4 (i:=3) (N:=some 20) (v:=?_) (a':=?_) #[true,true,true,true,true,true,true,false,false,false] rfl rfl (YX zC.out vW.out (by kernel_rfl)) (fun _ _ _ h=>h) (Or.inl ⟨by rfl,?_⟩) hHeld ?_ ?_
        rotate_left
        ·rintro w' ⟨s0,s1,s2,s3,s4,s5,s6,s7,s8,s9,s10,s11,s12,s13⟩
         go_simp
         with_reducible rfl
        rotate_left
        ·simp only [Act.put,List.setIfInBounds_toArray,List.set_cons_zero,List.set_cons_succ,vO,vP]
         rfl
        refine Z4 (i:=7) (N:=some 24) (v:=?_) (a':=?_) #[true,true,true,true,true,true,true,true,false,false] rfl rfl (YX zC.out vW.out (by kernel_rfl)) (fun _ _ _ h=>h) (Or.inl ⟨by rfl,?_⟩) hHeld ?_ ?_
        rotate_left
        ·rintro w' ⟨s0,s1,s2,s3,s4,s5,s6,s7,s8,s9,s10,s11,s12,s13⟩
         go_simp
         with_reducible rfl
        rotate_left
        ·simp only [Act.put,List.setIfInBounds_toArray,List.set_cons_zero,List.set_cons_succ,vO,vP]
         rfl
        refine Z5 (i:=8) (N:=some 25) #[true,true,true,true,true,true,true,true,true,false] rfl rfl (jX zC.out (by kernel_rfl)) (by decide) (fun K hK=>?_)
        refine vI Tryz.func53 (by kernel_rfl) rfl #[.agg #[.int .i64 ((zI l0 zP).f0),.int .i64 ((zI l0 zP).f1),.int .i64 ((zI l0 zP).f2),.int .i64 ((zI l0 zP).f3),.string ((zI l0 zP).f4),.string ((zI l0 zP).f5),.slice Q0 ((zI l0 zP).f6).length Q5],.agg #[.int .i64 ((zI l1 zP).f0),.int .i64 ((zI l1 zP).f1),.int .i64 ((zI l1 zP).f2),.int .i64 ((zI l1 zP).f3),.string ((zI l1 zP).f4),.string ((zI l1 zP).f5),.slice Q6 ((zI l1 zP).f6).length Q7]] (by rfl) rfl rfl (by (try simp only [List.map_toArray,List.map_cons,List.map_nil]);first | done | rfl | (simp only [List.length_drop,List.length_take];rfl)) ?_
        with_reducible refine (zF.calls k1 ((zI l0 zP).f0) ((zI l0 zP).f1) ((zI l0 zP).f2) ((zI l0 zP).f3) ((zI l0 zP).f4) ((zI l0 zP).f5) _ _ ((zI l0 zP).f6) ((zI l1 zP).f0) ((zI l1 zP).f1) ((zI l1 zP).f2) ((zI l1 zP).f3) ((zI l1 zP).f4) ((zI l1 zP).f5) _ _ ((zI l1 zP).f6) false _ ?yX ?qy ?qw ?qZ A7.out).mono ?_
        (case yX=>exact q8 (Kd.zH X9.out HB.out))
        (case qy=>exact WZ.out)
        (case qw=>exact q8 (Kd.zH Qx.out HB.out))
        (case qZ=>exact WQ.out)
        rintro e nI ⟨rfl,hb⟩
        refine ⟨_,rfl,?_⟩
        have zJ:=zx.mk (zn (zB HB.out) hb)
        clear HB
        have HB:=zJ
        clear zJ
        (try clear hb)
        refine hK.out _ _ ⟨((HB.out.cell (World.block_lt_of_cell? w _ Zd)).trans Zd),((HB.out.cell (World.block_lt_of_cell? w _ Zc)).trans Zc),((HB.out.cell (World.block_lt_of_cell? w _ Zb)).trans Zb),((HB.out.cell (World.block_lt_of_cell? w _ Za)).trans Za),((HB.out.cell (World.block_lt_of_cell? w _ ZW)).trans ZW),((HB.out.cell (World.block_lt_of_cell? w _ ZY)).trans ZY),((HB.out.cell (World.block_lt_of_cell? w _ ZK)).trans ZK),((HB.out.cell (World.block_lt_of_cell? w _ Zm)).trans Zm),((HB.out.cell (World.block_lt_of_cell? w _ Zl)).trans Zl),((HB.out.cell (World.block_lt_of_cell? w _ Zi)).trans Zi),((HB.out.cell (World.block_lt_of_cell? w _ Zh)).trans Zh),((HB.out.cell (World.block_lt_of_cell? w _ Zg)).trans Zg),((HB.out.cell (World.block_lt_of_cell? w _ Zf)).trans Zf),((HB.out.cell (World.block_lt_of_cell? w _ Ze)).trans Ze)⟩ (fun hHeld=>?_)
        clear hK K
        refine Z6 (a':=?_) ?_ ?_
        rotate_left
        ·show Act.put _ (some 25) _ = _
         simp only [Act.put,List.setIfInBounds_toArray,List.set_cons_zero,List.set_cons_succ,vO,vP]
         rfl
        refine q9 (i:=9) (N:=some 26) (v:=?_) (a':=?_) #[true,true,true,true,true,true,true,true,true,true] rfl rfl (qE zC.out (by kernel_rfl)) (fun _ _ _ h=>h) (Or.inl ⟨by rfl,?_⟩) ?_ ?_
        rotate_left
        ·intro w'
         go_simp
         with_reducible rfl
        rotate_left
        ·simp only [Act.put,List.setIfInBounds_toArray,List.set_cons_zero,List.set_cons_succ,vO,vP]
         rfl
        refine xD (qb zC.out (by kernel_rfl)) ?_
        try go_wp2
        go_ret
        exact ⟨by first | rfl | (simp [yw,yZ] <;> rfl) | (simp [*,yw,yZ] <;> rfl),by repeat (first | (with_reducible first | exact HB.out | apply yI | apply yg | apply yj) | exact HB.out)⟩
      ·rw [if_neg c6] at H
       exact absurd H (by simp)
     ·rw [if_neg c5] at H
      exact absurd H (by simp)
    ·rw [if_neg c4] at H
     have Xr:decide (zP < (l0.length:Int)) = false:=decide_eq_false c4
     clear c4
     obtain rfl:=Option.some.inj H
     go_wp2
     go_ret
     exact ⟨by first | rfl | (simp [yw,yZ] <;> rfl) | (simp [*,yw,yZ] <;> rfl),by repeat (first | (with_reducible first | exact HB.out | apply yI | apply yg | apply yj) | exact HB.out)⟩
 ·rw [if_neg c3] at H
  have Xp:((l0.length:Int) == (l1.length:Int)) = false:=beq_eq_false_iff_ne.mpr c3
  have gU:((l0.length:Int) != (l1.length:Int)) = true:=bne_iff_ne.mpr c3
  have zyV:(l0.length == l1.length) = false:=by first | simpa using c3 | (simp at c3 ⊢;omega)
  obtain rfl:=Option.some.inj H
  go_enter Tryz.func18,Tryz.ntmps18
  go_wp2
  go_ret
  exact ⟨by first | rfl | (simp [yw,yZ] <;> rfl) | (simp [*,yw,yZ] <;> rfl),by repeat (first | (with_reducible first | exact HB.out | apply yI | apply yg | apply yj) | exact HB.out)⟩
end Go.Proofs.YtggifbbiiickmaaGreatDoor.PX
namespace Go.Proofs.YtggifbbiiickmaaGreatDoor.PX
open Go.RowKit Go.Proofs.zk.zm Go.Proofs.zk.yK Go.Proofs.zk.yc
attribute [local go_sem] uf ug jW jc vL vM uh um   -- for this text's walks alone
set_option linter.unusedVariables false
set_option linter.unusedSimpArgs false
end Go.Proofs.YtggifbbiiickmaaGreatDoor.PX
namespace Go.Proofs.YtggifbbiiickmaaGreatDoor.PX
open Go.RowKit Go.Proofs.zk.zm Go.Proofs.zk.yK Go.Proofs.zk.yc
attribute [local go_sem] uf ug jW jc vL vM uh um   -- for this text's walks alone
set_option linter.unusedVariables false
set_option linter.unusedSimpArgs false
end Go.Proofs.YtggifbbiiickmaaGreatDoor.PX
namespace Go.Proofs.YtggifbbiiickmaaGreatDoor.PX
open Go.RowKit Go.Proofs.zk.zm Go.Proofs.zk.yK Go.Proofs.zk.yc
attribute [local go_sem] uf ug jW jc vL vM uh um   -- for this text's walks alone
set_option linter.unusedVariables false
set_option linter.unusedSimpArgs false
end Go.Proofs.YtggifbbiiickmaaGreatDoor.PX
namespace Go.Proofs.YtggifbbiiickmaaGreatDoor
open Go.RowKit Go.Proofs.zk.zm Go.Proofs.zk.yK Go.Proofs.zk.yc Go.Proofs.YtggifbbiiickmaaGreatDoor.PX
set_option linter.unusedSimpArgs false
set_option linter.unusedVariables false
theorem zqg (b:vH) (hl:b.f6.length ≤ 1000000000):∀ d i,i + d = b.f6.length → Ev (fun k=>zF.l0 k (i:Int) b.f0 b.f1 b.f2 b.f3 b.f4 b.f5 b.f6 b.f0 b.f1 b.f2 b.f3 b.f4 b.f5 b.f6) true:=by
 intro d
 induction d with
 | zero=>intro i h;exact Ev.step (fun k=>by rw [zF.l0]) (Z7 (by omega) (Ev.now _))
 | succ d ih =>
  intro i h
  have hw:wrap64 ((i:Int) + 1) = ((i + 1:Nat):Int):=(ji (by omega) (by omega)).trans (by omega)
  have q1:(i:Int) < (b.f6.length:Int):=by omega
  have q2:(0:Int) ≤ (i:Int):=by omega
  have hr:=ih (i + 1) (by omega)
  exact Ev.step (fun k=>by rw [zF.l0,hw]) (xH q1 (xH q2 (xH q1 (xH rfl hr))))
theorem mY (b:vH) (hl:b.f6.length ≤ 1000000000):Ev (fun k=>zF.f k b.f0 b.f1 b.f2 b.f3 b.f4 b.f5 b.f6 b.f0 b.f1 b.f2 b.f3 b.f4 b.f5 b.f6) true:=by
 have h:Ev (fun k=>zF.l0 k 0 b.f0 b.f1 b.f2 b.f3 b.f4 b.f5 b.f6 b.f0 b.f1 b.f2 b.f3 b.f4 b.f5 b.f6) true:=zqg b hl b.f6.length 0 (by omega)
 have e:((b.f6.length:Int) != (b.f6.length:Int)) = false:=by simp
 have h0:Ev (fun k=>zF.j0 k false b.f0 b.f1 b.f2 b.f3 b.f4 b.f5 b.f6 b.f0 b.f1 b.f2 b.f3 b.f4 b.f5 b.f6) true :=
  Ev.step (fun k=>by rw [zF.j0]) (Z7 Bool.false_ne_true h)
 exact Ev.congr (fun k=>by rw [zF.f,e]) (xH rfl (xH rfl (xH rfl (xH rfl (xH rfl (xH rfl h0))))))
theorem zyK (l:List vH) (hl:l.length ≤ 1000000000) (hb:∀ b ∈ l,b.f6.length ≤ 1000000000):∀ d i,i + d = l.length → Ev (fun k=>zM.l0 k l l (i:Int)) true:=by
 intro d
 induction d with
 | zero=>intro i h;exact Ev.step (fun k=>by rw [zM.l0]) (Z7 (by omega) (Ev.now _))
 | succ d ih =>
  intro i h
  have hi:i < l.length:=by omega
  have hw:wrap64 ((i:Int) + 1) = ((i + 1:Nat):Int):=(ji (by omega) (by omega)).trans (by omega)
  have q1:(i:Int) < (l.length:Int):=by omega
  have q2:(0:Int) ≤ (i:Int):=by omega
  have hr:=ih (i + 1) (by omega)
  have hd:=rdB l i _ (List.getElem?_eq_getElem hi)
  have hs:=mY l[i] (hb _ (List.getElem_mem hi))
  exact Ev.step (fun k=>by rw [zM.l0,hw,hd]) (xH q1 (xH q2 (xH q1 (Ev.bind hs (xH rfl hr)))))
theorem zqh (l:List vH) (hl:l.length ≤ 1000000000) (hb:∀ b ∈ l,b.f6.length ≤ 1000000000):Ev (fun k=>zM.f k l l) true :=
 Ev.congr (fun k=>by rw [zM.f];rfl) (xH rfl (zyK l hl hb l.length 0 (by omega)))
end Go.Proofs.YtggifbbiiickmaaGreatDoor
namespace Go.Proofs.YtggifbbiiickmaaGreatDoor.PX
open Go.RowKit Go.Proofs.zk.zm Go.Proofs.zk.yK Go.Proofs.zk.yc
attribute [local go_sem] uf ug jW jc vL vM uh um   -- for this text's walks alone
set_option linter.unusedVariables false
set_option linter.unusedSimpArgs false
end Go.Proofs.YtggifbbiiickmaaGreatDoor.PX
namespace Go.Proofs.YtggifbbiiickmaaGreatDoor
open Go.RowKit Go.Proofs.zk.zm Go.Proofs.zk.yK Go.Proofs.zk.yc Go.Proofs.YtggifbbiiickmaaGreatDoor.PX
set_option linter.unusedSimpArgs false
set_option linter.unusedVariables false
theorem Yp (l:List yM) (s:Int) (out:List vH) (a:Int) (n:ByteArray):pQ l s false out a n = []:=by
 unfold pQ
 split
 ·rfl
 ·rw [Bool.false_and,if_neg Bool.false_ne_true]
theorem zzW (l:List yM) (f s:Int) (st:List vH × List ByteArray) (n:ByteArray):jC l f s false st n = (st.1 ++ (jC l f s false ([],[]) n).1,st.2 ++ (jC l f s false ([],[]) n).2):=by
 unfold jC
 by_cases h:vT l f n < 0
 ·rw [if_pos h,if_pos h];simp
 ·rw [if_neg h,if_neg h,Yp,Yp];simp
theorem Q8 (l:List yM) (f s:Int):∀ (ns:List ByteArray) (st:List vH × List ByteArray),ns.foldl (jC l f s false) st = (st.1 ++ (jy l f s false ns).1,st.2 ++ (jy l f s false ns).2)
 | [],st=>by simp [jy]
 | n :: r,st=>by
  have e:jy l f s false (n :: r) = r.foldl (jC l f s false) (jC l f s false ([],[]) n):=rfl
  rw [e,List.foldl_cons,Q8 l f s r,Q8 l f s r (jC l f s false ([],[]) n),zzW l f s st n]
  simp
theorem zxT (l:List yM) (f s:Int) (x y:List ByteArray):jy l f s false (x ++ y) = ((jy l f s false x).1 ++ (jy l f s false y).1,(jy l f s false x).2 ++ (jy l f s false y).2):=by
 have e:jy l f s false (x ++ y) = y.foldl (jC l f s false) (jy l f s false x):=by unfold jy;rw [List.foldl_append]
 rw [e,Q8]
theorem nJ (l:List yM) (f:Int) (x:List ByteArray):Yq l f false x [] = x:=by
 unfold Yq
 rw [if_neg Bool.false_ne_true]
 have:nU [] = id:=by funext c;rfl
 rw [this,List.map_id]
theorem zqi (l:List yM) (f s:Int) (zu:Bool) (ns:List ByteArray) (hf0:0 ≤ f) (hf1:f < (l.length:Int)):∀ b ∈ (jy l f s zu ns).1,b.f6 = []:=fun b hb=>by
 obtain ⟨i,hi,rfl⟩:=List.getElem_of_mem hb
 rcases (zqf l f s zu ns hf0 hf1).1 i hi with ⟨b,a,n,h1,h2⟩ | ⟨y,b,b',a,n,n',h0,h1,_⟩
 ·rw [List.getElem?_eq_getElem hi] at h1
  rw [Option.some.inj h1,h2.2.2.2];rfl
 ·rw [List.getElem?_eq_getElem hi] at h1
  rw [Option.some.inj h1];rfl
end Go.Proofs.YtggifbbiiickmaaGreatDoor
