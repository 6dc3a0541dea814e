/-
  Texts that lean on one another, laid in one file. No condition.
-/
import Derived.Test.YtggifbbiiickmaaGreatDoorGWD3
import Derived.Deep.CutBlock
import Derived.Test.YtggifbbiiickmaaGreatDoorGWD2
import Derived.Shelf.SlSortCmp.WholeK
import Derived.Ground.SlsfProg
import Derived.Sort.OwnSortedInts
import Derived.Test.YtggifbbiiickmaaGreatDoorGWD1
import Derived.Laws.Runes
import Derived.ChangeAlike
import Derived.WalkKit
import Derived.WalkSpells
import Derived.WalkLawsBesides
import Derived.Lib.SliceRun
import Derived.Lib.Hide
import Derived.Deep.DeepCutAuto
namespace Go.Proofs.YtggifbbiiickmaaGreatDoor
open Go.RowKit Go.Shelf Go.Proofs.zx.zJ Go.Proofs.zx.zu Go.Proofs.zx.zo Go.Proofs.YtggifbbiiickmaaGreatDoor.PX Go.Proofs.YtggifbbiiickmaaGreatDoor.o8
set_option linter.unusedSimpArgs false
set_option linter.unusedVariables false
attribute [local go_sem] Oper.semAt_some
theorem zwI {P:Program} {c:Code} {K:Act → World → Prop} {Q':Exit → Act → World → Prop} {a:Act} {w:World} (h:c.wp P (Exit.then K (fun _ _ _=>False)) a w):c.wp P (Exit.then K Q') a w:=by
 refine wp_mono h ?_
 intro e a' w' hq
 cases e with
 | normal=>exact hq
 | _=>exact hq.elim
theorem nI {s:ByteArray} (h:Yq s = false):s.size ≤ 10:=by
 unfold Yq Zd at h
 simp only [Bool.not_eq_false',Bool.and_eq_true,decide_eq_true_eq] at h
 have h1:=h.2.1
 rwa [show s.data.toList.length = s.size from Array.length_toList] at h1
theorem below_grown {n:Nat} {A B:World} {row:Nat} (h:A.grownBy B (some row)) (hr:n ≤ row) (hn:n ≤ A.heap.size):Below n A B :=
 ⟨h.os,h.tape,h.output,h.size,fun k hk=>h.block k (by omega) (fun e=>by injection e;omega)⟩
theorem zxJ {W W':World} {m n:Nat} {f:ByteArray → Option ByteArray} {P:Program} {k e:TypeId} (h:W'.heap[m]? = W.heap[m]?) (hm:SMap P k e W m n f):SMap P k e W' m n f:=by
 obtain ⟨D,⟨es,clock,hb,F,h1,h2⟩,h3,h4⟩:=hm
 exact ⟨D,⟨es,clock,h.trans hb,F,h1,h2⟩,h3,h4⟩
def iY (m base:Nat) (w4:World) (pre:List nE) (W:World):Prop:=SMap Tryz.prog 9 9 W m pre.length (nG pre) ∧ Boxed W (m + 1) 82 (.map (some m)) ∧ Below m w4 W ∧ base ≤ W.heap.size
theorem zYZ (m base:Nat) (w4:World) (hm:m ≤ w4.heap.size) (hb:m + 1 < base):OwnFrom base (iY m base w4):=by
 rintro pre A B row ⟨h1,h2,h3,h4⟩ hg hr
 exact ⟨h1.kept hg (fun e=>by have:=(hr _ e.symm).1;omega),h2.kept hg (fun e=>by have:=(hr _ e.symm).1;omega),ownFrom_below (β:=Unit) hm (by omega) () A B row h3 hg hr,Nat.le_trans h4 hg.size⟩
theorem zYQ (m base:Nat) (w4:World) (hm:m + 1 + 1 < base):ZV (m + 1 + 1) (iY m base w4):=by
 rintro pre W u ⟨h1,h2,h3,h4⟩
 exact ⟨h1.kept (grownBy_setCell' W (m + 1 + 1) u) (fun e=>by injection e;omega),h2.other (by omega) u,h3.setCell (p:=⟨m + 1 + 1,0,none⟩) (by show m ≤ m + 1 + 1;omega) u,by simpa using h4⟩
theorem zXU {m base:Nat} {w4 W:World} {pre:List nE} (h:iY m base w4 pre W) (o:Obj):iY m base w4 pre (W.alloc o) :=
 ⟨h.1.kept (World.grownBy_alloc _ _ none) (by simp),h.2.1.alloc _,h.2.2.1.alloc (Nat.le_trans (Nat.le_of_lt h.1.lt) (Nat.le_refl _)) _,Nat.le_trans h.2.2.2 (by simp)⟩
theorem zYX {m base:Nat} {w4 W W':World} {pre:List nE} {x:nE} (h:iY m base w4 pre W) (hm:SMap Tryz.prog 9 9 W' m (pre.length + 1) (fun s=>if s = x.2.1.f0 then some x.2.1.f1 else nG pre s)) (hg:W.grownBy W' (some m)):iY m base w4 (pre ++ [x]) W':=by
 refine ⟨?_,h.2.1.kept hg (fun e=>by injection e;omega),h.2.2.1.trans (below_grown hg (Nat.le_refl _) (Nat.le_of_lt h.1.lt)),Nat.le_trans h.2.2.2 hg.size⟩
 rw [zVc,List.length_append]
 exact hm
def boxes.T19:Bool × List (List Nat × List Nat):=(true,[([],[]),([],[]),([1],[1]),([0,2],[0,2]),([3],[3]),([],[]),([],[]),([],[]),([],[]),([8],[8]),([7,9],[7,9]),([10],[10]),([6,11],[6,11]),([4,5,12,12],[4,5,12]),([13],[13]),([14],[14]),([14],[14]),([15,13,0,1,2,3,4,5,6,7,8,9,10,11,12,13,14,15],[15]),([16,17,0,1,2,3,4,5,6,7,8,9,10,11,12,13,14,15,16,17],[16])])
def boxes.B19:List Nat:=[0,0,2,7,15,0,0,0,0,256,896,1920,4032,8191,16383,32767,32767,65535,262143]
theorem boxes.zWk:q9 .any (opsOf Tryz.f13 19) = boxes.T19:=by kernel_rfl
theorem boxes.zVx:xC boxes.T19.2 boxes.B19 = true:=by kernel_rfl
def boxes.T24:Bool × List (List Nat × List Nat):=(true,[([],[]),([0],[0]),([1],[1]),([2],[2]),([],[]),([4],[4]),([5],[5]),([6],[6]),([3,0,1,2,3],[3]),([7,8,0,1,2,3,4,5,6,7,8],[7]),([9,0,1,2,3,4,5,6,7,8,9],[])])
def boxes.B24:List Nat:=[0,1,3,7,0,16,48,112,15,511,1023]
theorem boxes.zek:q9 .any (opsOf Tryz.f13 24) = boxes.T24:=by kernel_rfl
theorem boxes.zcc:xC boxes.T24.2 boxes.B24 = true:=by kernel_rfl
theorem zas (w0:World) (base g:Nat) (Af:Option Addr) (cf:Nat) (l:List ql) (f s:Int) (yh zT:Bool) (st:List qZ × List ByteArray) (n:ByteArray) (w:World) (hG:GW w0) (hC:Kd.C Zw w0 Af l.length l) (hl:l.length ≤ 1000000000) (hf0:0 ≤ f) (hf1:f < (l.length:Int)) (hv:∀ x ∈ l,q8 x = true) (hgb:g < base) (hb:base ≤ w.heap.size) (hg0:w0.heap.size ≤ g) (hw:Below w0.heap.size w0 w) (hlo:st.1.length ≤ 1000000) (hll:st.2.length ≤ 1000000) (hs0:1 ≤ s) (hs1:s ≤ 1000) (hS:UO base g w Af cf l f s yh zT st) :
  Calls Tryz.prog 46 #[.pointer (some ⟨g,0,none⟩),.string n] w fun e w'=>(∃ v,e = .returned v) ∧ UO base g w' Af cf l f s yh zT (gD l f s zT st n) ∧ vL base g w w':=by
 obtain ⟨vo,vl,hS⟩:=hS
 unfold gD
 by_cases h:wZ l f n < 0
 ·rw [if_pos h]
  exact zca w0 base g Af cf l f s yh zT st n w hG hC hl hf0 hf1 hv hgb hb hg0 hw hlo hll vo vl hS h
 ·rw [if_neg h]
  exact zam w0 base g Af cf l f s yh zT st n w hG hC hl hf0 hf1 hv hgb hb hg0 hw hlo hll vo vl hS (by omega) hs0 hs1
theorem zVe (l:List ql) (s:Int) (zT:Bool) (out:List qZ) (a:Int) (n:ByteArray):(Ju l s zT out a n).length ≤ 1:=by
 unfold Ju
 repeat' split
 all_goals first | exact Nat.zero_le _ | exact Nat.le_refl _
theorem zYJ (l:List ql) (f s:Int) (zT:Bool) (st:List qZ × List ByteArray) (n:ByteArray):(gD l f s zT st n).1.length ≤ st.1.length + 2 ∧ (gD l f s zT st n).2.length ≤ st.2.length + 1:=by
 unfold gD
 split
 ·simp
 ·have:=zVe l s zT st.1 (wZ l f n) n
  simp only [List.length_append,List.length_cons,List.length_nil]
  omega
def Ye (J:ByteArray → ByteArray → ByteArray × Bool) (yh:Bool) (A:List ByteArray) (k:Nat):List ByteArray:=if yh then Pf J (A.drop k) else A.drop k
theorem zk2 (J:ByteArray → ByteArray → ByteArray × Bool) (A:List ByteArray) (k:Nat) (h:k < A.length):Ye J false A k = A[k] :: Ye J false A (k + 1):=by
 unfold Ye
 rw [if_neg Bool.false_ne_true,if_neg Bool.false_ne_true,List.drop_eq_getElem_cons h]
theorem zzx (J:ByteArray → ByteArray → ByteArray × Bool) (A:List ByteArray) (k j:Nat) (c:ByteArray) (h:k < A.length) (hj:VA J A[k] (A.drop (k + 1)) = (c,A.drop (j + 1))):Ye J true A k = c :: Ye J true A (j + 1):=by
 unfold Ye
 rw [if_pos rfl,if_pos rfl,List.drop_eq_getElem_cons h,Pf,hj]
theorem zYV (J:ByteArray → ByteArray → ByteArray × Bool) (A:List ByteArray) (j:Nat) (c:ByteArray) (h:A.length ≤ j + 1):VA J c (A.drop (j + 1)) = (c,A.drop (j + 1)):=by
 rw [List.drop_eq_nil_of_le h];rfl
theorem zVf (J:ByteArray → ByteArray → ByteArray × Bool) (A:List ByteArray) (j:Nat) (c:ByteArray) (h:j + 1 < A.length) (hn:(J c A[j + 1]).2 = false):VA J c (A.drop (j + 1)) = (c,A.drop (j + 1)):=by
 rw [List.drop_eq_getElem_cons h,VA,if_neg (by rw [hn];exact Bool.false_ne_true)]
theorem zat (J:ByteArray → ByteArray → ByteArray × Bool) (A:List ByteArray) (j:Nat) (c:ByteArray) (h:j + 1 < A.length) (hy:(J c A[j + 1]).2 = true):VA J c (A.drop (j + 1)) = VA J (J c A[j + 1]).1 (A.drop (j + 1 + 1)):=by
 rw [List.drop_eq_getElem_cons h,VA,if_pos hy]
theorem zvw {tmps:Array Value} {W:World} {v0 v1 v2:Value} (h0:tmps.getD 8 undef = v0) (h1:tmps.getD 9 undef = v1) (h2:tmps.getD 10 undef = v2):(results Tryz.f13 tmps).run Tryz.prog W = .ok (.tuple #[v0,v1,v2]) W:=by
 subst h0 h1 h2
 simp [results,Tryz.f13,go_sem]
set_option maxRecDepth 100000 in
set_option maxHeartbeats 8000000 in
theorem zVg (Af:Option Addr) (cf:Nat) (l:List ql) (f s:Int) (yh zT:Bool) (Ac:Option Addr) (cc:Nat) (chars:List ByteArray) (Ap:Option Addr) (cp:Nat) (pairs:List ZJ) (w:World) (hG:GW w) (hC:Kd.C Zw w Af l.length l) (hz:∀ x ∈ l,x.f3.length ≤ 1000000000 ∧ x.f4.length ≤ 1000000000 ∧ x.f5.length ≤ 1000000000) (hl:l.length ≤ 1000000000) (hS:Kd.C Kd.string w Ac chars.length chars) (hlc:chars.length ≤ 1000000000) (hP:Kd.C VT w Ap pairs.length pairs) (hlp:pairs.length ≤ 1000000000) (h1:(l.any fun x=>!q8 x) = false) (h2:wG l.length f s = false) (h3:chars.length ≤ 2000) (h3':pairs.length ≤ 100) (h4:chars.any Yq = false) (h5:pairs.any gF = false) :
  Calls Tryz.prog 13 #[.slice Af l.length cf,.agg #[.int .i64 f,.int .i64 s,.bool yh,.bool zT],.slice Ac chars.length cc,.slice Ap pairs.length cp] w fun e w'=>∃ v0 v1,e = .returned (.tuple #[v0,v1,.int .i64 0]) ∧ Kd.S qK 53 w' w.heap.size (fun _=>True) v0 (iZ l f s zT (Ko l f yh chars pairs)).1 ∧ Kd.R Kd.string 9 w' w.heap.size (fun _=>True) v1 (iZ l f s zT (Ko l f yh chars pairs)).2 ∧ Below w.heap.size w w':=by
 have hps:∀ p ∈ pairs,p.f0.size ≤ maxLen ∧ p.f1.size ≤ maxLen:=fun p hp=>by
  have h:=List.any_eq_false.1 h5 p hp
  simp only [gF,Bool.or_eq_true,not_or,Bool.not_eq_true] at h
  have a1:=nI h.1
  have a2:=nI h.2
  unfold maxLen
  omega
 have d1:decide (f < 0) = false:=by cases h:decide (f < 0) with | false=>rfl | true=>(unfold wG at h2;rw [h,Bool.true_or] at h2;cases h2)
 have d2:decide ((l.length:Int) ≤ f) = false:=by cases h:decide ((l.length:Int) ≤ f) with | false=>rfl | true=>(unfold wG at h2;rw [h,Bool.true_or,Bool.or_true] at h2;cases h2)
 have d3:decide (s < 1) = false:=by cases h:decide (s < 1) with | false=>rfl | true=>(unfold wG at h2;rw [h,Bool.true_or,Bool.or_true,Bool.or_true] at h2;cases h2)
 have d4:decide (1000 < s) = false:=by cases h:decide (1000 < s) with | false=>rfl | true=>(unfold wG at h2;rw [h,Bool.or_true,Bool.or_true,Bool.or_true] at h2;cases h2)
 have r1:=of_decide_eq_false d1
 have r2:=of_decide_eq_false d2
 have r3:=of_decide_eq_false d3
 have r4:=of_decide_eq_false d4
 clear h2
 have d5:decide ((2000:Int) < (chars.length:Int)) = false:=decide_eq_false (by omega)
 have d6:decide ((100:Int) < (pairs.length:Int)) = false:=decide_eq_false (by omega)
 have hF:=zxZ Af cf l f s yh zT Ac cc chars Ap cp pairs w hG hC hz hl hS hlc hP hlp
 have hQ:=zxQ Af cf l f s yh zT Ac cc chars Ap cp pairs w hG hC hz hl hS hlc hP hlp
 have hR:=zxX Af cf l f s yh zT Ac cc chars Ap cp pairs w hG hC hz hl hS hlc hP hlp (w.heap.size + 1)
 have hb0:Below w.heap.size w ((w.alloc (.cells #[.int .i64 f,.int .i64 s,.bool yh,.bool zT] 26)).alloc (.cells #[.func (.func 35) #[] #[]] 75)):=((Below.refl _ w).alloc (Nat.le_refl _) _).alloc (by simp) _
 have Zh:=kN (uV w (.cells #[.int .i64 f,.int .i64 s,.bool yh,.bool zT] 26)) (.cells #[.func (.func 35) #[] #[]] 75)
 have hbad:Boxed ((w.alloc (.cells #[.int .i64 f,.int .i64 s,.bool yh,.bool zT] 26)).alloc (.cells #[.func (.func 35) #[] #[]] 75)) (w.heap.size + 1) 75 (.func (.func 35) #[] #[]):=by
  have h:=Boxed.new (w.alloc (.cells #[.int .i64 f,.int .i64 s,.bool yh,.bool zT] 26)) 75 (.func (.func 35) #[] #[])
  rwa [World.size_alloc] at h
 rw [h1] at hF
 rw [h4] at hQ
 rw [h5] at hR
 have HT1:=zk.mk Zh
 have HD1:=zk.mk hbad
 have HB1:=zk.mk hb0
 have HF:=zk.mk hF
 have HQ:=zk.mk hQ
 have HR:=zk.mk hR
 have HP:=zk.mk hP
 have HG:=zk.mk hG
 have HC:=zk.mk hC
 have HS:=zk.mk hS
 clear Zh hbad hb0 hF hQ hR
 have hmm:=@run_makeMap Tryz.prog
 refine (callsIn_wide (n:=12)).1 ?_
 refine callsIn_of_wp_marks Tryz.func13 rfl trivial ?_ rfl
 simp only [Tryz.ntmps13,List.size_toArray,List.length_cons,List.length_nil,Nat.reduceAdd,Nat.reduceSub,Array.replicate_succ,Array.replicate_zero,List.push_toArray,List.append_toArray,List.nil_append,List.cons_append]
 refine wpIn_wide.2 ?_
 go_wp2_with fail
 refine (HF.out _ HB1.out).mono ?_;rintro e w2 ⟨rfl,hb2⟩
 have HT2:=zk.mk (yY HT1.out hb2)
 have HD2:=zk.mk (yY HD1.out hb2)
 have HB2:=zk.mk (HB1.out.trans (hb2.mono HB1.out.size))
 clear hb2
 have a2:w2.cell? ⟨w.heap.size,0,none⟩ = some (.int .i64 f):=(zV HT2.out 0).trans rfl
 have b2:w2.cell? ⟨w.heap.size,1,none⟩ = some (.int .i64 s):=(zV HT2.out 1).trans rfl
 have c2:w2.cell? ⟨w.heap.size + 1,0,none⟩ = some (.func (.func 35) #[] #[]):=(zV HD2.out 0).trans rfl
 go_wp2_with fail
 refine (HQ.out _ HB2.out).mono ?_;rintro e w3 ⟨rfl,hb3⟩
 have HT3:=zk.mk (yY HT2.out hb3)
 have HD3:=zk.mk (yY HD2.out hb3)
 have HB3:=zk.mk (HB2.out.trans (hb3.mono HB2.out.size))
 clear hb3
 have a3:w3.cell? ⟨w.heap.size,0,none⟩ = some (.int .i64 f):=(zV HT3.out 0).trans rfl
 have b3:w3.cell? ⟨w.heap.size,1,none⟩ = some (.int .i64 s):=(zV HT3.out 1).trans rfl
 have c3:w3.cell? ⟨w.heap.size + 1,0,none⟩ = some (.func (.func 35) #[] #[]):=(zV HD3.out 0).trans rfl
 go_wp2_with fail
 refine (HR.out _ HB3.out c3).mono ?_;rintro e w4 ⟨rfl,hb4⟩
 have HT4:=zk.mk (yY HT3.out hb4)
 have HD4:=zk.mk (yY HD3.out hb4)
 have HB4:=zk.mk (HB3.out.trans (hb4.mono HB3.out.size))
 clear hb4
 have a4:w4.cell? ⟨w.heap.size,0,none⟩ = some (.int .i64 f):=(zV HT4.out 0).trans rfl
 have b4:w4.cell? ⟨w.heap.size,1,none⟩ = some (.int .i64 s):=(zV HT4.out 1).trans rfl
 have c4:w4.cell? ⟨w.heap.size + 1,0,none⟩ = some (.func (.func 35) #[] #[]):=(zV HD4.out 0).trans rfl
 clear a2 b2 c2 a3 b3 c3 c4
 go_wp2_with fail
 refine (callsIn_wide.1 (zar Fence.wide 5 trivial rfl Ap pairs.length cp _)).mono ?_;rintro e w5 ⟨rfl,rfl⟩
 go_wp2_with fail
 obtain ⟨W0,hW0⟩:∃ W0,(((w4.alloc (.map #[] 0)).alloc (.cells #[.map (some w4.heap.size)] 82)).alloc (.cells #[.slice Ap pairs.length cp] 28)) = W0:=⟨_,rfl⟩
 have hz0:W0.heap.size = w4.heap.size + 1 + 1 + 1:=by rw [← hW0];simp
 have hm0:SMap Tryz.prog 9 9 W0 w4.heap.size 0 (fun _=>none):=by
  rw [← hW0]
  have h:=SMap.made (P:=Tryz.prog) (k:=9) (e:=9) w4
  exact (h.kept (World.grownBy_alloc _ _ none) (by simp)).kept (World.grownBy_alloc _ _ none) (by simp)
 have hc0:Boxed W0 (w4.heap.size + 1) 82 (.map (some w4.heap.size)):=by
  rw [← hW0]
  have h:=Boxed.new (w4.alloc (.map #[] 0)) 82 (.map (some w4.heap.size))
  rw [World.size_alloc] at h
  exact h.alloc _
 have hs0:Boxed W0 (w4.heap.size + 1 + 1) 28 (.slice Ap pairs.length cp):=by
  rw [← hW0]
  have h:=Boxed.new ((w4.alloc (.map #[] 0)).alloc (.cells #[.map (some w4.heap.size)] 82)) 28 (.slice Ap pairs.length cp)
  rw [World.size_alloc,World.size_alloc] at h
  exact h
 have zX0:Below w4.heap.size w4 W0:=by rw [← hW0];exact (((Below.refl _ _).alloc (Nat.le_refl _) _).alloc (by simp) _).alloc (by simp;omega) _
 rw [hW0]
 clear hW0
 have hle:=HB4.out.size
 have hlt1:w.heap.size + 1 < w4.heap.size:=Zk HD4.out
 obtain ⟨zs,hzs⟩:∃ zs:List PS,zs.map (·.1) = pairs:=⟨pairs.attachWith _ hps,by simp⟩
 have hzl:zs.length = pairs.length:=by rw [← hzs,List.length_map]
 generalize hm:w4.heap.size = m at hz0 hm0 hc0 hs0 zX0 hle hlt1 ⊢
 have hCz:Kd.C VT w Ap zs.length (zs.map (·.1)):=by rw [hzs,hzl];exact HP.out
 have hlz:zs.length ≤ 1000000000:=by omega
 have zpi:zs.length ≤ 100:=by omega
 have HZ:=zk.mk hzs
 rw [← hzl] at hs0
 clear hzl
 have hw0:Below w.heap.size w W0:=HB4.out.trans (zX0.mono hle)
 refine (wpIn_wide (n:=12)).1 ?_
 refine zvy rfl (by omega) (gf:=104) (lb:=#[.pointer (some ⟨m + 1 + 1,0,none⟩)]) rfl trivial (enters_of Tryz.func104 (by kernel_rfl) rfl)
  (zK6 Fence.wide (12 - 1) trivial rfl (by omega) (m + 1 + 1) Ap cp zs hlz w W0 hCz hw0 hs0) (by omega) zwH (zao (by omega) (by omega)) (fun _=>rfl)
  (fun pre W=>iY m W0.heap.size w4 pre W) (fun _ _=>False) (zYZ m _ w4 (by omega) (by omega)) (fun _ _ _ _ hs _ _=>hs) (zYQ m _ w4 (by omega)) (fun _ _ _ hs=>hs) ⟨hm0,hc0,zX0,Nat.le_refl _⟩
  (fun x a' W=>∃ gx,W0.heap.size ≤ gx ∧ W.heap[gx]? = some (.cells #[.string x.2.1.f0,.string x.2.1.f1] 80 (0,0)) ∧ a' = { tmps:=#[Value.slice Af l.length cf,Value.agg #[Value.int .i64 f,Value.int .i64 s,Value.bool yh,Value.bool zT],Value.slice Ac chars.length cc,Value.slice Ap pairs.length cp,undef,Value.pointer (some ⟨w.heap.size,0,none⟩),undef,undef,Value.slice none 0 0,Value.slice none 0 0,Value.int .i64 0,Value.pointer (some ⟨w.heap.size + 1,0,none⟩),Value.pointer (some ⟨m + 1,0,none⟩),undef,Value.pointer (some ⟨gx,0,none⟩),undef,undef,undef,undef,undef,undef,Value.bool false,Value.slice Af l.length cf,Value.bool false,Value.pointer (some ⟨w.heap.size,0,none⟩),Value.int .i64 f,Value.bool false,Value.bool false,Value.pointer (some ⟨w.heap.size,0,none⟩),Value.int .i64 f,Value.slice Af l.length cf,Value.int .i64 (l.length:Int),Value.bool false,Value.bool false,Value.bool false,Value.pointer (some ⟨w.heap.size,1,none⟩),Value.int .i64 s,Value.bool false,Value.bool false,Value.bool false,Value.pointer (some ⟨w.heap.size,1,none⟩),Value.int .i64 s,Value.bool false,Value.bool false,Value.slice Ac chars.length cc,Value.int .i64 (chars.length:Int),Value.bool false,Value.bool false,Value.slice Ap pairs.length cp,Value.int .i64 (pairs.length:Int),Value.bool false,Value.bool false,Value.slice Ac chars.length cc,Value.func (.func 35) #[] #[],Value.bool false,Value.slice Ap pairs.length cp,Value.func (.func 42) #[] #[Value.pointer (some ⟨w.heap.size + 1,0,none⟩)],Value.bool false,Value.map (some m),Value.slice Ap pairs.length cp,Value.func (.func 104) #[] #[Value.pointer (some ⟨m + 1 + 1,0,none⟩)],Value.int .i64 (x.1:Int),Value.agg #[.string x.2.1.f0,.string x.2.1.f1],undef,undef,undef,undef,undef,undef,undef,undef,undef,undef,undef,undef,undef,undef,undef,undef,undef,undef,undef,undef,undef,undef,undef,undef,undef,undef,undef,undef,undef,undef,undef,undef,undef,undef,undef,undef,undef,undef,undef,undef,undef,undef,undef,undef,undef,undef,undef,undef,undef,undef,undef,undef,undef,undef,undef,undef,undef,undef,undef,undef,undef,undef,undef,undef],defers:=[] })
  (fun x a'=>by rintro _ A B row ⟨gx,h1,h2,h3⟩ hg hr;exact ⟨gx,h1,zal h2 hg (fun r e=>(hr r e).2),h3⟩) ?assign ?body ?done ?stop
 case assign =>
  intro l_ pre x W K hi hK
  unfold zvd
  gi_wp2
  refine hK _ _ ((KeepsOthers.alloc W _).from _) ⟨(Below.refl _ _).alloc (by have:=hi.2.2.2;omega) _,(Below.heap_alloc _ _ _ (by have:=hi.2.2.2;omega))⟩ (zXU hi _) ⟨W.heap.size,hi.2.2.2,uV W _,rfl⟩
 case body =>
  rintro l_ pre x a' W hl_ ⟨r,hrec⟩ hI ⟨gx,hgx,hbx,rfl⟩ hlen
  have q0:W.cell? ⟨gx,0,none⟩ = some (.string x.2.1.f0):=(zV hbx 0).trans rfl
  have q1:W.cell? ⟨gx,1,none⟩ = some (.string x.2.1.f1):=(zV hbx 1).trans rfl
  have q2:W.cell? ⟨m + 1,0,none⟩ = some (.map (some m)):=hI.2.1.cell
  obtain ⟨w',hrun,hm',hg'⟩:=hI.1.put (t:=82) Tryz.underlying9 Tryz.underlying82 Tryz.underlying9 (by unfold maxLen;omega) x.2.1.f0 x.2.1.f1 x.2.2.1 x.2.2.2
  have HI:=Lib.hid hI
  have HM:=Lib.hid hm'
  have HG':=Lib.hid hg'
  clear hI hm' hg' hrec hbx
  gi_wp2
  have hsz:=HI.out.2.2.2
  exact ⟨KeepsFrom.of_grownBy HG'.out (fun j e=>by cases e;omega),⟨below_grown HG'.out (by omega) (by omega),HG'.out.block _ (by omega) (fun e=>by injection e;omega)⟩,zYX HI.out HM.out HG'.out⟩
 case stop =>
  rintro D pre W hD hS hX hK
  exact hX.elim
 case done =>
  rintro D ys W hD rfl hI hK
  obtain ⟨iM,iC,iW,iS⟩:=hI
  have iW4:Below w4.heap.size w4 W:=by rw [hm];exact iW
  have hT:=yY HT4.out iW4
  have hwW:Below w.heap.size w W:=HB4.out.trans (iW4.mono HB4.out.size)
  have y0:W.cell? ⟨w.heap.size,0,none⟩ = some (.int .i64 f):=(zV hT 0).trans rfl
  have y1:W.cell? ⟨w.heap.size,1,none⟩ = some (.int .i64 s):=(zV hT 1).trans rfl
  have y2:W.cell? ⟨w.heap.size,2,none⟩ = some (.bool yh):=(zV hT 2).trans rfl
  have y3:W.cell? ⟨w.heap.size,3,none⟩ = some (.bool zT):=(zV hT 3).trans rfl
  go_upto_block 3 with (fail)
  clear y0 y1 y2 y3
  have hDl:=(Array.getElem?_eq_some_iff.1 hK).1
  obtain ⟨g,hg⟩:∃ g,W.heap.size = g:=⟨_,rfl⟩
  obtain ⟨W9,hW9⟩:∃ W9,W.alloc (.cells #[.slice Af l.length cf,.int .i64 f,.int .i64 s,.bool yh,.bool zT,.slice none 0 0,.slice none 0 0] 90) = W9:=⟨_,rfl⟩
  have S9:UO (g + 1) g W9 Af cf l f s yh zT ([],[]):=by
   rw [← hW9,← hg]
   exact ⟨_,_,uV W _,Kd.kC _ _ _ _ _,Kd.kC _ _ _ _ _⟩
  have hz9:W9.heap.size = g + 1:=by rw [← hW9,← hg];simp
  have b9:Below g W W9:=by rw [← hW9,← hg];exact (Below.refl _ _).alloc (Nat.le_refl _) _
  try rw [hW9]
  try rw [hg]
  have hgm:m + 1 < g:=by omega
  have hDg:D < g:=by omega
  have T9:W9.heap[w.heap.size]? = some (.cells #[.int .i64 f,.int .i64 s,.bool yh,.bool zT] 26 (0,0)):=(b9.block _ (by omega)).trans hT
  have M9:=zxJ (b9.block m (by omega)) iM
  have C9:Boxed W9 (m + 1) 82 (.map (some m)):=(b9.block _ (by omega)).trans iC
  have K9:W9.heap[D]? = some (.deferred (some [])):=(b9.block _ (by omega)).trans hK
  have hw9:Below w.heap.size w W9:=hwW.trans (b9.mono (by omega))
  have hbl:Zf zs zs.length = Zf zs zs.length:=rfl
  generalize hFm:nG (Zf zs zs.length) = Fm at M9
  generalize (Zf zs zs.length).length = nm at M9
  have hturn:∀ c,XU Fm c = trV pairs c:=fun c=>by
   rw [← hFm]
   unfold XU trV
   rw [zK4,HZ.out]
   cases pairs.find? (fun p=>decide (p.f0 = c)) <;> rfl
  obtain ⟨A,hA⟩:∃ A,chars.map (XU Fm) = A:=⟨_,rfl⟩
  have hAl:A.length = chars.length:=by rw [← hA,List.length_map]
  have hAg:∀ (i:Nat) (h:i < A.length) (h':i < chars.length),A[i] = XU Fm chars[i]:=fun i h h'=>by subst hA;simp
  have hfin:(Ye (fjoin (vw l f)) yh A 0).foldl (gD l f s zT) ([],[]) = iZ l f s zT (Ko l f yh chars pairs):=by
   unfold iZ Ko Ye
   rw [List.drop_zero,← hA,show XU Fm = trV pairs from funext hturn]
  generalize zcd:iZ l f s zT (Ko l f yh chars pairs) = FIN at hfin
  have hcs:∀ c ∈ chars,c.size ≤ maxLen:=fun c hc=>by
   have h:=List.any_eq_false.1 h4 c hc
   simp only [Bool.not_eq_true] at h
   have:=nI h
   unfold maxLen
   omega
  have hv:∀ x ∈ l,q8 x = true:=fun x hx=>by
   have h:=List.any_eq_false.1 h1 x hx
   simpa using h
  have hf0:0 ≤ f:=by omega
  have hf1:f < (l.length:Int):=by omega
  have zgv:1 ≤ s:=by omega
  have zgk:s ≤ 1000:=by omega
  have hx:=YB hv hf0 hf1
  have hzx:=XJ hx
  obtain ⟨ad,A3,c3,A4,c4,A5,c5,e,x0,x1,x2,x3,x4,x5,g3,q3,g4,q4,g5,q5⟩:=PK HC.out f hf0 (by omega)
  subst e
  have e:uE l f = vw l f:=rfl
  rw [e] at x0 x1 x2 x3 x4 x5 g3 q3 g4 q4 g5 q5
  clear e
  generalize vw l f = x at x0 x1 x2 x3 x4 x5 g3 q3 g4 q4 g5 q5 hx hzx hfin
  have HJN:=zk.mk (fun (a b:ByteArray) (V:World) (h:Below w.heap.size w V)=>zK0 x.f0 x.f1 x.f2 A3 c3 x.f3 A4 c4 x.f4 A5 c5 x.f5 a b V (HG.out.under h) (Kd.za q3 h) g3 (Kd.za q4 h) g4 (Kd.za q5 h) g5 (by omega) (by omega) (by omega))
  have HFT:=zk.mk (fun (V:World) (h:Below w.heap.size w V)=>(show V.cell? (ad.add (f.toNat * 6)) = some (.string x.f0) ∧ V.cell? ⟨(ad.add (f.toNat * 6)).block,(ad.add (f.toNat * 6)).off + 1,none⟩ = some (.bool x.f1) ∧ V.cell? ⟨(ad.add (f.toNat * 6)).block,(ad.add (f.toNat * 6)).off + 2,none⟩ = some (.int .i64 x.f2) ∧ V.cell? ⟨(ad.add (f.toNat * 6)).block,(ad.add (f.toNat * 6)).off + 3,none⟩ = some (.slice A3 x.f3.length c3) ∧ V.cell? ⟨(ad.add (f.toNat * 6)).block,(ad.add (f.toNat * 6)).off + 4,none⟩ = some (.slice A4 x.f4.length c4) ∧ V.cell? ⟨(ad.add (f.toNat * 6)).block,(ad.add (f.toNat * 6)).off + 5,none⟩ = some (.slice A5 x.f5.length c5) from ⟨(h.cell (World.block_lt_of_cell? w _ x0)).trans x0,(h.cell (World.block_lt_of_cell? w _ x1)).trans x1,(h.cell (World.block_lt_of_cell? w _ x2)).trans x2,(h.cell (World.block_lt_of_cell? w _ x3)).trans x3,(h.cell (World.block_lt_of_cell? w _ x4)).trans x4,(h.cell (World.block_lt_of_cell? w _ x5)).trans x5⟩))
  have zgy:=zk.mk (fun (st:List qZ × List ByteArray) (n:ByteArray) (V:World) (h2:g + 1 ≤ V.heap.size) (h3:Below w.heap.size w V) (h4:st.1.length ≤ 1000000) (h5:st.2.length ≤ 1000000) (h6:UO (g + 1) g V (some ad) cf l f s yh zT st)=>zas w (g + 1) g (some ad) cf l f s yh zT st n V HG.out HC.out hl hf0 hf1 hv (Nat.lt_succ_self _) h2 (by omega) h3 h4 h5 zgv zgk h6)
  have HT9:=zk.mk T9
  have HM9:=zk.mk M9
  have HC9:=zk.mk C9
  have HK9:=zk.mk K9
  have HW9:=zk.mk hw9
  have HAG:=zk.mk hAg
  have HCS:=zk.mk hcs
  have zce:=zk.mk zcd
  have HFI:=zk.mk hfin
  have KF:=zk.mk S9
  clear hT iM iC iW iS iW4 hwW T9 M9 C9 K9 hw9 S9 x0 x1 x2 x3 x4 x5 q3 q4 q5 g3 g4 g5 hx hzx hcs hAg hA hturn hFm hfin zcd hv hK b9 hW9 hbl hm0 hc0 hs0 hCz hw0 zX0 h1 h4 h5 hps hzs hm
  go_wp2_with fail
  go_loopw [17] (fun i V=>∃ (k:Nat) (st:List qZ × List ByteArray),i = .int .i64 (k:Int) ∧ k ≤ chars.length ∧ st.1.length ≤ 2 * k ∧ st.2.length ≤ k ∧ zk ((Ye (fjoin x) yh A k).foldl (gD l f s zT) st = FIN) ∧ zk (UO (g + 1) g V (some ad) cf l f s yh zT st) ∧ zk (vL (g + 1) g W9 V)) (fun i _=>chars.length - (intOf i).toNat)
  case atStart=>exact ⟨0,([],[]),rfl,Nat.zero_le _,Nat.le_refl _,Nat.le_refl _,HFI,KF,⟨vL.refl _ _ _⟩⟩
  case round =>
   obtain ⟨k,st,rfl,hk,zpl,zpm,om,HS2,HL2⟩:=hrel
   obtain ⟨W2,hW2⟩:∃ W2:World,W2 = wr:=⟨_,rfl⟩
   subst hW2
   have hwr:Below w.heap.size w W2:=HW9.out.trans (fE HL2.out (by omega) (by omega))
   have hbr:g + 1 ≤ W2.heap.size:=by have:=HL2.out.1.size;omega
   by_cases hlt:k < chars.length
   ·obtain ⟨cd,e,c0⟩:=Kd.U1 (Kd.za HS.out hwr) (k:Int) (by omega) (by omega)
    subst e
    have e:X3 ByteArray.empty chars (k:Int) = chars[k]:=by simp [X3,List.getD_eq_getElem?_getD,hlt]
    rw [e,Int.toNat_natCast] at c0
    have hcs:=HCS.out _ (List.getElem_mem hlt)
    have hak:=HAG.out k (by omega) hlt
    generalize chars[k] = ch at c0 hcs hak
    have hcell:Boxed W2 (m + 1) 82 (.map (some m)):=(HL2.out.2.2 _ (by omega) (by omega)).trans HC9.out
    have hmap:=zxJ (HL2.out.2.2 m (by omega) (by omega)) HM9.out
    have htn:=o9 (m + 1) m nm Fm ch W2 hcs hcell.cell hmap
    have Zh:=(HL2.out.2.2 w.heap.size (by omega) (by omega)).trans HT9.out
    have q1:(k:Int) < (chars.length:Int):=by omega
    have q0:(0:Int) ≤ (k:Int):=by omega
    have q3:((k:Int)).toNat = k:=Int.toNat_natCast k
    have HTN:=zk.mk htn
    have HWR:=zk.mk hwr
    have HAK:=zk.mk hak
    have HMP:=zk.mk hmap
    have HCL:=zk.mk hcell
    have HSY:=zk.mk Zh
    clear htn hwr hak hmap hcell Zh hcs e
    go_upto_block 5 with (refine HTN.out.mono ?_;rintro e w8 ⟨rfl,rfl⟩)
    clear c0
    go_cut [17,18] from 73 to 118 (fun i c V=>∃ (j:Nat) (cn:ByteArray),i = .int .i64 (j:Int) ∧ c = .string cn ∧ k ≤ j ∧ j < chars.length ∧ zk (Ye (fjoin x) yh A k = cn :: Ye (fjoin x) yh A (j + 1)) ∧ zk (Below W2.heap.size W2 V))
    case first =>
     go_wp2_with fail
     go_loopw [17,18] (fun i c V=>∃ (j:Nat) (cn:ByteArray),i = .int .i64 (j:Int) ∧ c = .string cn ∧ k ≤ j ∧ j < chars.length ∧ zk (yh = true → ∃ h:k < A.length,VA (fjoin x) A[k] (A.drop (k + 1)) = VA (fjoin x) cn (A.drop (j + 1))) ∧ zk (yh = false → j = k ∧ ∃ h:k < A.length,A[k] = cn) ∧ zk (Below W2.heap.size W2 V)) (fun i _ _=>chars.length - (intOf i).toNat)
     case atStart=>exact ⟨k,XU Fm ch,rfl,rfl,Nat.le_refl _,hlt,⟨fun _=>⟨by omega,by rw [HAK.out]⟩⟩,⟨fun _=>⟨rfl,by omega,HAK.out⟩⟩,⟨Below.refl _ _⟩⟩
     case round =>
      obtain ⟨j,cn,rfl,rfl,hkj,hj,HE,HN,HB3⟩:=hrel
      obtain ⟨W3,hW3⟩:∃ W3:World,W3 = wr:=⟨_,rfl⟩
      subst hW3
      have zX1:=yY HSY.out HB3.out
      have z2:W3.cell? ⟨w.heap.size,2,none⟩ = some (.bool yh):=(zV zX1 2).trans rfl
      have zpn:=hAl
      cases yh with
      | false =>
       obtain ⟨rfl,hka,hc⟩:=HN.out rfl
       have JV:=zk.mk (show Ye (fjoin x) false A j = cn :: Ye (fjoin x) false A (j + 1) by rw [zk2 _ A j hka,hc])
       clear hc
       go_wp2_with fail
       go_meet
       exact ⟨j,cn,rfl,rfl,Nat.le_refl _,hj,JV,HB3⟩
      | true =>
      obtain ⟨hka,hea⟩:=HE.out rfl
      by_cases hj1:j + 1 < chars.length
      ·have hjA:j + 1 < A.length:=by omega
       have hw3:Below w.heap.size w W3:=HWR.out.trans (HB3.out.mono HWR.out.size)
       obtain ⟨cd',e,c0⟩:=Kd.U1 (Kd.za HS.out hw3) (((j + 1:Nat):Int)) (by omega) (by omega)
       cases e
       have e:X3 ByteArray.empty chars ((j + 1:Nat):Int) = chars[j + 1]:=by simp [X3,List.getD_eq_getElem?_getD,hj1]
       rw [e,Int.toNat_natCast,show cd.add (j + 1) = ⟨cd.block,cd.off + (j + 1),none⟩ from by simp [Addr.add]] at c0
       have hcs2:=HCS.out _ (List.getElem_mem hj1)
       have zYK:=HAG.out (j + 1) hjA hj1
       generalize chars[j + 1] = ch2 at c0 hcs2 zYK
       have zgw:=zk.mk (fun (V:World) (h:Below W3.heap.size W3 V)=>o9 (m + 1) m nm Fm ch2 V hcs2 (yY (yY HCL.out HB3.out) h |> Boxed.cell) (zxJ (((HB3.out.trans (h.mono HB3.out.size)).block m (by have:=HMP.out.lt;omega))) HMP.out))
       have r1:(j:Int) + 1 < (chars.length:Int):=by omega
       have r0:(0:Int) ≤ (j:Int) + 1:=by omega
       have r4:decide ((j:Int) + 1 < (chars.length:Int)) = true:=decide_eq_true r1
       have HJ:=zk.mk hj
       have wL:=zk.mk hj1
       have HJA:=zk.mk hjA
       have z0:W3.cell? ⟨w.heap.size,0,none⟩ = some (.int .i64 f):=(zV zX1 0).trans rfl
       have YJ:=zk.mk c0
       have HZ0:=zk.mk z0
       have HW3:=zk.mk hw3
       have HEA:=zk.mk hea
       have zgZ:=zk.mk zYK
       have HHK:=zk.mk hka
       clear zX1 z0 c0 hw3 hea zYK hcs2 e hj hj1
       go_wp2_with fail
       clear z2 r4
       have r5:wrap64 ((j:Int) + 1) = (j:Int) + 1:=pI (by omega) (by omega)
       have Jo:=zk.mk (fun (V:World) (h:Below W3.heap.size W3 V)=>(show V.cell? ⟨w.heap.size,0,none⟩ = some (.int .i64 f) ∧ V.cell? ⟨cd.block,cd.off + (j + 1),none⟩ = some (.string ch2) ∧ (V.cell? (ad.add (f.toNat * 6)) = some (.string x.f0) ∧ V.cell? ⟨(ad.add (f.toNat * 6)).block,(ad.add (f.toNat * 6)).off + 1,none⟩ = some (.bool x.f1) ∧ V.cell? ⟨(ad.add (f.toNat * 6)).block,(ad.add (f.toNat * 6)).off + 2,none⟩ = some (.int .i64 x.f2) ∧ V.cell? ⟨(ad.add (f.toNat * 6)).block,(ad.add (f.toNat * 6)).off + 3,none⟩ = some (.slice A3 x.f3.length c3) ∧ V.cell? ⟨(ad.add (f.toNat * 6)).block,(ad.add (f.toNat * 6)).off + 4,none⟩ = some (.slice A4 x.f4.length c4) ∧ V.cell? ⟨(ad.add (f.toNat * 6)).block,(ad.add (f.toNat * 6)).off + 5,none⟩ = some (.slice A5 x.f5.length c5)) from
        ⟨(h.cell (World.block_lt_of_cell? _ _ HZ0.out)).trans HZ0.out,(h.cell (World.block_lt_of_cell? _ _ YJ.out)).trans YJ.out,HFT.out V (HW3.out.trans (h.mono HW3.out.size))⟩))
       refine zwI ?_
       refine RW.rS (n:=19) Jo boxes.zWk boxes.zVx (by kernel_rfl) rfl rfl (fun w5 H5 T U h=>?_)
       refine RW.rP 0 (some 95) T ?_
       refine RW.rP 1 (some 96) T ?_
       refine RW.rT 2 (some 97) T U h ?_
       refine RW.rP 3 (some 98) T ?_
       refine RW.rT 4 (some 99) T U h ?_
       refine RW.rP 5 (some 100) T ?_
       refine RW.rP 6 (some 101) T ?_
       refine RW.rP 7 (some 102) T ?_
       refine RW.rP 8 (some 103) T ?_
       refine RW.rP 9 (some 104) T ?_
       refine RW.rP 10 (some 105) T ?_
       refine RW.rT 11 (some 106) T U h ?_
       clear h
       refine Yr (i:=12) (N:=some 107) #[true,true,true,true,true,true,true,true,true,true,true,true,true,false,false,false,false,false,false] rfl rfl (jY T.out (by kernel_rfl)) (by decide) (fun K hK=>?_)
       refine call_ 44 #[.string ch2,.pointer (some ⟨m + 1,0,none⟩)] (by rfl) rfl (by have he:=pV Tryz.func44 (by kernel_rfl) rfl #[.string ch2,.pointer (some ⟨m + 1,0,none⟩)] w5;go_simp) ?_
       refine (zgw.out w5 H5.out).mono ?_
       rintro e w6 ⟨rfl,rfl⟩
       refine ⟨_,rfl,?_⟩
       refine hK.out _ _ (Jo.out _ H5.out) (fun h=>?_)
       clear hK K h
       refine YI (a':=?_) ?_ ?_
       rotate_left
       ·show Act.put _ (some 107) _ = _
        simp only [Act.put,List.setIfInBounds_toArray,List.set_cons_zero,List.set_cons_succ]
        rfl
       have hjn:=HJN.out cn (XU Fm ch2) w5 (HW3.out.trans (H5.out.mono HW3.out.size))
       have hjv:sU (xW x.f0 x.f2 x.f3 x.f4 x.f5) x.f4 cn (XU Fm ch2) = fjoin x cn (XU Fm ch2):=rfl
       rw [hjv] at hjn
       have hgo:=@zat (fjoin x) A j cn hjA
       have hstop:=@zVf (fjoin x) A j cn hjA
       rw [zgZ.out] at hgo hstop
       generalize fjoin x cn (XU Fm ch2) = jv at hjn hgo hstop
       obtain ⟨j1,j2⟩:=jv
       dsimp only at hgo hstop
       have HGO:=zk.mk hgo
       have HST:=zk.mk hstop
       clear hjv hgo hstop
       refine RW.rC 13 (some 108) T Jo H5 Tryz.func45 hjn (fun w7 H7 h=>?_) (by kernel_rfl)
       refine RW.rP 14 (some 94) T ?_
       refine RW.rP 15 (some 109) T ?_
       refine RW.rP 16 (some 110) T ?_
       refine RW.rP 17 (some 19) T ?_
       refine RW.rP 18 (some 20) T ?_
       refine um (xK T.out (by kernel_rfl)) ?_
       clear h hjn r5
       have HB7:=zk.mk (HB3.out.trans (H7.out.mono HB3.out.size))
       cases j2 with
       | false =>
        have JV:=zk.mk (zzx (fjoin x) A k j cn HHK.out (HEA.out.trans (HST.out rfl)))
        go_wp2_with fail
        go_meet
        exact ⟨j,cn,rfl,rfl,hkj,HJ.out,JV,HB7⟩
       | true =>
        have JV:=zk.mk (HEA.out.trans (HGO.out rfl))
        go_wp2_with fail
        go_roundw
        case rel=>exact ⟨j + 1,j1,by first | rfl | go_num,rfl,by omega,wL.out,⟨fun _=>⟨HHK.out,JV.out⟩⟩,⟨fun h=>by cases h⟩,HB7⟩
        case measure=>(have:=wL.out;simp [intOf];omega)
      ·have JV:=zk.mk (zzx (fjoin x) A k j cn hka (hea.trans (zYV _ A j cn (by omega))))
       have r4:decide ((j:Int) + 1 < (chars.length:Int)) = false:=decide_eq_false (by omega)
       have hjb:(j:Int) ≤ 1000000:=by omega
       have HJ:=zk.mk hj
       clear hea zX1 hj1 hj
       go_wp2_with fail
       go_meet
       exact ⟨j,cn,rfl,rfl,hkj,HJ.out,JV,HB3⟩
    case rest =>
     obtain ⟨j,cn,e1,e2,hkj,hj,JV,HB3⟩:=hcut
     subst e1 e2
     obtain ⟨vo_,vl_,hSA⟩:=HS2.out
     have hput:=zgy.out st cn wc (Nat.le_trans hbr HB3.out.size) (HWR.out.trans (HB3.out.mono HWR.out.size)) (by omega) (by omega) ⟨vo_,vl_,hSA.below HB3.out⟩
     have hlen:=zYJ l f s zT st cn
     have hfl:=om.out
     rw [JV.out,List.foldl_cons] at hfl
     generalize gD l f s zT st cn = st2 at hput hlen hfl
     have HFL:=zk.mk hfl
     have HLK:=zk.mk (HL2.out.trans (vL.below (B:=g) HB3.out hbr))
     clear hfl hSA
     go_wp2_with fail
     refine hput.mono ?_;rintro e w8 ⟨⟨v,rfl⟩,hS8,hL8⟩
     have HS8:=zk.mk hS8
     have HL8:=zk.mk (HLK.out.trans hL8)
     clear hput hS8 hL8
     go_wp2_with fail
     go_roundw
     case rel=>exact ⟨j + 1,st2,by first | rfl | go_num,by omega,by omega,by omega,HFL,HS8,HL8⟩
     case measure=>simp [intOf];omega
   ·obtain rfl:k = chars.length:=by omega
    have hfe:st = FIN:=by
     have h:=om.out
     unfold Ye at h
     rw [List.drop_eq_nil_of_le (by omega),Pf] at h
     have h2:(if yh = true then ([]:List ByteArray) else []) = []:=by split <;> rfl
     rw [h2] at h
     exact h
    subst hfe
    obtain ⟨vo,vl,hSA⟩:=HS2.out
    have t5:W2.cell? ⟨g,5,none⟩ = some vo:=(zV hSA.1 5).trans rfl
    have t6:W2.cell? ⟨g,6,none⟩ = some vl:=(zV hSA.1 6).trans rfl
    have HSA:=zk.mk hSA
    have HWR:=zk.mk hwr
    have q1:decide ((chars.length:Int) < (chars.length:Int)) = false:=decide_eq_false (by omega)
    clear hSA hwr
    have Jo:=zk.mk (fun (V:World) (h:Below W2.heap.size W2 V)=>(show V.cell? ⟨g,5,none⟩ = some vo ∧ V.cell? ⟨g,6,none⟩ = some vl from ⟨(h.cell (World.block_lt_of_cell? _ _ t5)).trans t5,(h.cell (World.block_lt_of_cell? _ _ t6)).trans t6⟩))
    clear t5 t6
    go_wp2_with fail
    refine zwI ?_
    refine RW.rS (n:=11) Jo boxes.zek boxes.zcc (by kernel_rfl) rfl rfl (fun w5 H5 T U h=>?_)
    refine RW.rP 0 (some 119) T ?_
    refine RW.rP 1 (some 120) T ?_
    refine RW.rP 2 (some 121) T ?_
    refine RW.rT 3 (some 122) T U h ?_
    refine RW.rP 4 (some 123) T ?_
    refine RW.rP 5 (some 124) T ?_
    refine RW.rP 6 (some 125) T ?_
    refine RW.rT 7 (some 126) T U h ?_
    refine RW.rP 8 (some 8) T ?_
    refine RW.rP 9 (some 9) T ?_
    refine RW.rP 10 (some 10) T ?_
    refine um (xK T.out (by kernel_rfl)) ?_
    clear h
    have hK5:w5.heap[D]? = some (.deferred (some [])):=(H5.out.block D (by omega)).trans ((HL2.out.2.2 D (by omega) (by omega)).trans HK9.out)
    have S5:=HSA.out.below H5.out
    have nL:=HWR.out.trans (H5.out.mono HWR.out.size)
    clear Jo
    go_wp2_with fail
    refine ⟨by simp,.inl ⟨_,_,rfl,run_takeDeferred hK5,?_⟩⟩
    refine ⟨_,zvw rfl rfl rfl,vo,vl,rfl,?_,?_,?_⟩
    ·rw [zce.out]
     exact Kd.zvu (Kd.uH (zwE S5.2.1 (grownBy_putObj' _ D (.deferred none)) (fun r er=>by cases er;exact ⟨_,hK5,rfl⟩)) (by omega))
    ·rw [zce.out]
     exact Kd.uH (zwE S5.2.2 (grownBy_putObj' _ D (.deferred none)) (fun r er=>by cases er;exact ⟨_,hK5,rfl⟩)) (by omega)
    ·exact nL.trans (belowK_b (w:=w) (Nat.le_refl _) _ D _ _ (by omega) hK5 rfl rfl)
end Go.Proofs.YtggifbbiiickmaaGreatDoor
namespace Go.Proofs.YtggifbbiiickmaaGreatDoor
open Go.RowKit Go.Proofs.zx.zJ Go.Proofs.zx.zu Go.Proofs.zx.zo Go.Proofs.YtggifbbiiickmaaGreatDoor.PX
set_option linter.unusedSimpArgs false
set_option linter.unusedVariables false
def okF (x:ql):Bool:=decide (x.f3.length ≤ 1000000000 ∧ x.f4.length ≤ 1000000000 ∧ x.f5.length ≤ 1000000000)
def jM.f (l0:List pX) (xG xH:Int) (xR xS:Bool) (l2:List ByteArray) (l3:List Z6):Option (List yD × List ByteArray × Int) :=
 if l0.all okF = true ∧ l0.length ≤ 1000000000 ∧ l2.length ≤ 1000000000 ∧ l3.length ≤ 1000000000 then some (zVX l0 xG xH xR xS l2 l3) else none
theorem jM.calls (A0:Option Addr) (c0:Nat) (l0:List pX) (xG xH:Int) (xR xS:Bool) (A2:Option Addr) (c2:Nat) (l2:List ByteArray) (A3:Option Addr) (c3:Nat) (l3:List Z6) (r1:List yD) (r2:List ByteArray) (r3:Int) (w:World) (hr0:Kd.C Zw w A0 l0.length l0) (hc0:l0.length ≤ c0) (hr2:Kd.C Kd.string w A2 l2.length l2) (hc2:l2.length ≤ c2) (hr3:Kd.C VT w A3 l3.length l3) (hc3:l3.length ≤ c3) (hG:GW w) (h:jM.f l0 xG xH xR xS l2 l3 = some (r1,r2,r3)) :
  Calls Tryz.prog 13 #[.slice A0 l0.length c0,.agg #[.int .i64 xG,.int .i64 xH,.bool xR,.bool xS],.slice A2 l2.length c2,.slice A3 l3.length c3] w fun e w'=>∃ U5 v1_:Value,e = .returned (.tuple #[U5,v1_,.int .i64 r3]) ∧ Kd.S qK 53 w' w.heap.size (fun _=>True) U5 r1 ∧ Kd.R Kd.string 9 w' w.heap.size (fun _=>True) v1_ r2 ∧ Below w.heap.size w w':=by
 unfold jM.f at h
 split at h
 ·rename_i hl
  have hz:∀ x ∈ l0,x.f3.length ≤ 1000000000 ∧ x.f4.length ≤ 1000000000 ∧ x.f5.length ≤ 1000000000:=fun x hx=>of_decide_eq_true (List.all_eq_true.1 hl.1 x hx)
  have he:=Option.some.inj h
  unfold zVX at he
  cases hb:Kt l0 xG xH l2 l3 with
  | true =>
   rw [hb,if_pos rfl] at he
   cases he
   exact (zYw A0 c0 l0 xG xH xR xS A2 c2 l2 A3 c3 l3 w hG hr0 hz hl.2.1 hr2 hl.2.2.1 hr3 hl.2.2.2 hb).mono fun e w' ⟨h1,h2⟩=>⟨_,_,h1,Kd.gK _ _ _ _ _,Kd.kC _ _ _ _ _,h2⟩
  | false =>
   rw [hb,if_neg Bool.false_ne_true] at he
   cases he
   rw [zzq] at hb
   simp only [Bool.or_eq_false_iff,decide_eq_false_iff_not,Nat.not_lt] at hb
   exact zVg A0 c0 l0 xG xH xR xS A2 c2 l2 A3 c3 l3 w hG hr0 hz hl.2.1 hr2 hl.2.2.1 hr3 hl.2.2.2 hb.1.1.1.1 hb.1.1.1.2 hb.1.1.2.1 hb.1.1.2.2 hb.1.2 hb.2
 ·cases h
end Go.Proofs.YtggifbbiiickmaaGreatDoor
namespace Go.Proofs
end Go.Proofs
namespace Go.Proofs.YtggifbbiiickmaaGreatDoor
open Go.RowKit Go.Shelf Go.Sort Go.Proofs.zx.zJ Go.Proofs.zx.zo Go.Proofs.YtggifbbiiickmaaGreatDoor.PX
theorem zYY (x:yT):(wF x).length = 2:=rfl
theorem zYW (x:yT):∀ v ∈ wF x,v.oneCell' = true:=by
 intro v hv
 simp only [wF,List.mem_cons,List.mem_nil_iff,or_false] at hv
 rcases hv with rfl | rfl <;> rfl
theorem zcf {w:World} {g:Nat} {cur:Array Value} {e:TypeId} {F:Array Value} (hb:w.heap[g]? = some (.cells cur e (0,0))) (ht:cur.toList.take F.size = F.toList):Holds id w g 0 F:=by
 intro j hj
 refine ⟨?_,by simp [World.frozen?,hb]⟩
 have h1:(cur.toList.take F.size)[j]? = F.toList[j]?:=by rw [ht]
 rw [List.getElem?_take_of_lt hj] at h1
 simp only [World.cell?,hb,Nat.zero_add]
 simp only [Option.isSome_none,Bool.false_eq_true,if_false]
 rw [← Array.getElem?_toList,h1]
 simp [hj]
theorem zey {w:World} {g n:Nat} {os:Array Obj} {cur:Array Value} {e:TypeId} {fr:Nat × Nat} (d:Array Value) (hb:w.heap[g]? = some (.cells cur e fr)) :
  (Sort.grow (Sort.putRow id (Sort.ahead w n) g 0 d) os).heap[g]? = some (.cells (Sort.putCells id 0 d cur) e fr):=by
 have hg:g < w.heap.size:=(Array.getElem?_eq_some_iff.1 hb).1
 rw [heap_grow_old _ _ (by simpa using hg)]
 simp [Sort.putRow,Sort.mapBlock,Sort.ahead,Array.getElem?_modify,hb,Sort.onCells]
theorem zcg {w:World} {g n:Nat} {os:Array Obj} (d:Array Value):w.grownBy (Sort.grow (Sort.putRow id (Sort.ahead w n) g 0 d) os) (some g):=by
 refine ⟨rfl,rfl,rfl,by simp,fun k hk hne=>?_⟩
 rw [heap_grow_old _ _ (by simpa using hk)]
 have:g ≠ k:=fun e=>hne (by rw [e])
 simp [Sort.putRow,Sort.mapBlock,Sort.ahead,Array.getElem?_modify,this]
theorem zew (cur:Array Value) (F:Array Value) (h:F.size ≤ cur.size):(Sort.putCells id 0 F cur).toList.take F.size = F.toList:=by
 apply List.ext_getElem?
 intro j
 by_cases hj:j < F.size
 ·rw [List.getElem?_take_of_lt hj,Array.getElem?_toList]
  simp [Sort.putCells,hj,show j < cur.size by omega]
 ·rw [List.getElem?_take_eq_none (by omega),List.getElem?_eq_none (by simp;omega)]
theorem flat_get (xs:List yT) (j:Nat) (hj:j < xs.length):((flatK wF 2 xs.toArray).toList.drop (j * 2)).take 2 = wF xs[j]:=by
 have hsz:(flatK wF 2 xs.toArray).toList.length = xs.length * 2:=by simp
 have key:∀ t,t < xs.length * 2 → (flatK wF 2 xs.toArray).toList[t]? = some ((wF xs.toArray[t / 2]!)[t % 2]!):=by
  intro t ht
  have h:=get_flatK wF 2 xs.toArray t (by simpa using ht)
  rw [Array.getElem?_toList]
  rw [← h]
  simp [show t < xs.length * 2 by omega]
 apply List.ext_getElem?
 intro i
 rcases Nat.lt_or_ge i 2 with hi | hi
 ·rw [List.getElem?_take_of_lt hi,List.getElem?_drop,key _ (by omega)]
  have e1:(j * 2 + i) / 2 = j:=by omega
  have e2:(j * 2 + i) % 2 = i:=by omega
  rw [e1,e2]
  have e3:xs.toArray[j]! = xs[j]:=by simp [hj]
  rw [e3]
  rcases i with _ | _ | i
  ·rfl
  ·rfl
  ·omega
 ·rw [List.getElem?_take_eq_none hi,List.getElem?_eq_none (by simp [wF];omega)]
theorem zX2 {w:World} {b:Nat} {ok:Nat → Prop} {xs:List yT} {inner:List Value} (h:qx (vk.M w b ok) 2 xs inner):inner = (flatK wF 2 xs.toArray).toList:=by
 have hsz:(flatK wF 2 xs.toArray).toList.length = xs.length * 2:=by simp
 apply List.ext_getElem?
 intro t
 rcases Nat.lt_or_ge t (xs.length * 2) with ht | ht
 ·have hj:t / 2 < xs.length:=by omega
  have h1:=h.2 (t / 2) _ (List.getElem?_eq_getElem hj)
  have h2:(inner.drop (t / 2 * 2)).take 2 = wF xs[t / 2]:=zXe h1
  have h3:=flat_get xs (t / 2) hj
  have h4:=h2.trans h3.symm
  have h5:=congrArg (fun l:List Value=>l[t % 2]?) h4
  simp only [List.getElem?_take_of_lt (show t % 2 < 2 by omega),List.getElem?_drop] at h5
  rw [show t / 2 * 2 + t % 2 = t by omega] at h5
  exact h5
 ·rw [List.getElem?_eq_none (by have:=h.1;omega),List.getElem?_eq_none (by omega)]
theorem zVh (w:World) (b:Nat) (ok:Nat → Prop) (xs:List yT):qx (vk.M w b ok) 2 xs (flatK wF 2 xs.toArray).toList:=by
 refine ⟨by simp,fun j p hj=>?_⟩
 obtain ⟨hl,rfl⟩:=List.getElem?_eq_some_iff.1 hj
 rw [flat_get xs j hl]
 exact V6 _ _ _ _
set_option maxRecDepth 100000 in
theorem zk3 (x y:yT) (w:World) :
  Calls Tryz.prog 111 #[.agg #[.string x.f0,.int .i64 x.f1],.agg #[.string y.f0,.int .i64 y.f1]] w fun e w'=>e = .returned (.int .i64 (xE x.f0 y.f0)) ∧ ∃ q os,w' = Sort.grow (w.drewN q) os:=by
 have hc:=xP.calls x.f0 y.f0 _ ((w.alloc (.cells #[.string x.f0,.int .i64 x.f1] 105)).alloc (.cells #[.string y.f0,.int .i64 y.f1] 105)) (Qg x.f0 y.f0)
 generalize xE x.f0 y.f0 = r at hc ⊢
 go_enter Tryz.func111,Tryz.ntmps111
 go_wp2_with (go_at_call 91;refine hc.mono ?_;rintro e w2 ⟨rfl,nd,rfl⟩)
 go_ret
 refine ⟨rfl,nd,#[.cells #[.string x.f0,.int .i64 x.f1] 105] ++ #[.cells #[.string y.f0,.int .i64 y.f1] 105],?_⟩
 rw [← Sort.grow_grow,Sort.alloc_eq_grow,Sort.alloc_eq_grow]
 rfl
theorem zau (a b:ByteArray):decide (xE a b < 0) = Op.bytesLess a.toList b.toList:=by
 unfold xE
 cases h1:Op.bytesLess a.toList b.toList
 ·cases h2:Op.bytesLess b.toList a.toList <;> simp
 ·simp
theorem zkz (x y:yT):ltOf (fun x y:yT=>xE x.f0 y.f0) x y = decide (x.f0.toList < y.f0.toList):=by
 show decide (xE x.f0 y.f0 < 0) = _
 rw [zau,bytesLess_eq]
theorem zYa:SWO (ltOf (fun x y:yT=>xE x.f0 y.f0)) where
 irrefl x:=by rw [zkz];simp [List.lt_irrefl]
 trans x y z h1 h2:=by
  rw [zkz] at *
  simp only [decide_eq_true_eq] at *
  exact List.lt_trans h1 h2
 ntrans x y z h1 h2:=by
  rw [zkz] at *
  simp only [decide_eq_false_iff_not,List.not_lt] at *
  exact List.le_trans h2 h1
theorem zX3 (xs ys:List yT) (d':Array yT) (hp:ys.Perm xs) (hs:ys.Pairwise fun a b=>xE a.f0 b.f0 < 0)
  (hP:PermIn 0 xs.toArray.size xs.toArray d') (hS:SortedIn (ltOf (fun x y:yT=>xE x.f0 y.f0)) 0 xs.toArray.size d'):d'.toList = ys:=by
 obtain ⟨hsz,_,hperm⟩:=hP
 have e1:d'.extract 0 xs.toArray.size = d':=by rw [← hsz];exact Array.extract_size
 rw [e1,Array.extract_size] at hperm
 refine List.Perm.eq_of_pairwise (le:=fun x y=>(!ltOf (fun x y:yT=>xE x.f0 y.f0) y x) = true) ?_ ?_ ?_ (hperm.trans hp.symm)
 ·intro a b ha hb h1 h2
  have ha':a ∈ ys:=(hperm.trans hp.symm).mem_iff.1 ha
  obtain ⟨i,hi,rfl⟩:=List.getElem_of_mem ha'
  obtain ⟨j,hj,rfl⟩:=List.getElem_of_mem hb
  simp only [Bool.not_eq_true',ltOf,decide_eq_false_iff_not] at h1 h2
  rcases Nat.lt_trichotomy i j with h | h | h
  ·exact absurd (List.pairwise_iff_getElem.1 hs i j hi hj h) h2
  ·subst h;rfl
  ·exact absurd (List.pairwise_iff_getElem.1 hs j i hj hi h) h1
 ·rw [List.pairwise_iff_getElem]
  intro i j hi hj hij
  have h:=hS i j (Nat.zero_le _) hij (by rw [← hsz];simpa using hj)
  have hi':i < d'.size:=by simpa using hi
  have hj':j < d'.size:=by simpa using hj
  rw [getElem!_pos d' i hi',getElem!_pos d' j hj'] at h
  simpa using h
 ·refine hs.imp ?_
  intro a b h
  have h1:ltOf (fun x y:yT=>xE x.f0 y.f0) a b = true:=decide_eq_true h
  cases h2:ltOf (fun x y:yT=>xE x.f0 y.f0) b a with
  | false=>rfl
  | true=>exact absurd (zYa.trans _ _ _ h1 h2) (by rw [zYa.irrefl];simp)
theorem zaA (w:World) (b0:Nat) (u:Value) (xs ys:List yT) (hR:Kd.R vk 105 w b0 (fun _=>True) u xs) (h0:0 < xs.length) (hl:xs.length ≤ 1000) (hp:ys.Perm xs) (hs:ys.Pairwise fun a b=>xE a.f0 b.f0 < 0) :
  Calls Tryz.prog 110 #[u,.func (.func 111) #[] #[]] w fun e w'=>e = .returned (.tuple #[]) ∧ Kd.R vk 105 w' b0 (fun _=>True) u ys ∧ w.grownBy w' u.ownBlock:=by
 obtain ⟨hok,inner,ho,hr⟩:=hR
 have hin:=zX2 hr
 subst hin
 rcases ho.2 with ⟨_,h⟩ | ⟨g,cap,cur,rfl,hbase,hb,h1,h2,h3,h4⟩
 ·omega
 have hg:g < w.heap.size:=(Array.getElem?_eq_some_iff.1 hb).1
 have hk2:vk.sz = 2:=rfl
 rw [hk2] at h3 h4
 have hH:HoldsK wF 2 w g 0 xs.toArray:=zcf hb (by rw [size_flatK];exact h4)
 have hlen:=hp.length_eq
 refine (AnyQ.slices_SortFunc Tryz.sortG 2 (fun w=>by kernel_rfl) (fun w=>by kernel_rfl) wF zYY zYW (fun x y=>xE x.f0 y.f0) zYa 111 #[] g 0 cap xs.toArray w (Go.Proofs.zx.zu.pV Tryz.func111 (by kernel_rfl) rfl)
  (fun m os dk hdk x y=>zk3 x y _) hH hg (by simp;omega)).mono fun e w' ⟨he,d',n,os,hP,hS,hw⟩=>?_
 have hd:=zX3 xs ys d' hp hs hP hS
 have hd':d' = ys.toArray:=by rw [← hd]
 subst hd'
 subst hw
 refine ⟨he,⟨fun _ _=>trivial,(flatK wF 2 ys.toArray).toList,⟨by rw [hk2];simp,.inr ⟨g,cap,_,by rw [hlen],hbase,zey _ hb,by rw [hlen];exact h1,h2,by rw [hk2];simp [Sort.putCells,h3],?_⟩⟩,zVh _ _ _ _⟩,?_⟩
 ·have:=zew cur (flatK wF 2 ys.toArray) (by rw [size_flatK,h3];simp;omega)
  rw [size_flatK] at this
  rw [hk2]
  simpa using this
 ·exact zcg (w:=w) (g:=g) (n:=n) (os:=os) (flatK wF 2 ys.toArray)
end Go.Proofs.YtggifbbiiickmaaGreatDoor
namespace Go.Proofs.YtggifbbiiickmaaGreatDoor.PX
open Go.RowKit
theorem zwL:(Tryz.prog.info? 105).map (fun i=>(i.zero,i.size,i.bytes)) = some (some (.agg #[(.string ⟨#[]⟩),(.int .i64 0)]),2,24):=by kernel_rfl
end Go.Proofs.YtggifbbiiickmaaGreatDoor.PX
namespace Go.Proofs.YtggifbbiiickmaaGreatDoor
open Go.RowKit Go.Shelf Go.Proofs.zx.zJ Go.Proofs.zx.zu Go.Proofs.zx.zo Go.Proofs.YtggifbbiiickmaaGreatDoor.PX
set_option linter.unusedSimpArgs false
theorem zwM {w W w1:World} {r r':Option Nat} (h:w.grownBy W r) (g:W.grownBy w1 r') (hr:r' = r ∨ ∃ b,r' = some b ∧ w.heap.size ≤ b):w.grownBy w1 r:=by
 refine ⟨g.os.trans h.os,g.tape.trans h.tape,g.output.trans h.output,Nat.le_trans h.size g.size,fun k hk hne=>?_⟩
 refine (g.block k (Nat.lt_of_lt_of_le hk h.size) ?_).trans (h.block k hk hne)
 rcases hr with rfl | ⟨b,rfl,hb⟩
 ·exact hne
 ·intro e
  injection e with e
  omega
theorem gN {w W w1:World} {r:Option Nat} (h:w.grownBy W r) (g:Below W.heap.size W w1):w.grownBy w1 r :=
 ⟨g.os.trans h.os,g.tape.trans h.tape,g.output.trans h.output,Nat.le_trans h.size g.size,fun k hk hne=>(g.block k (Nat.lt_of_lt_of_le hk h.size)).trans (h.block k hk hne)⟩
theorem Zi {w W:World} {r:Option Nat} {g i:Nat} (h:w.grownBy W r) (hg:w.heap.size ≤ g) (v:Value):w.grownBy (W.setCell ⟨g,i,none⟩ v) r :=
 ⟨h.os,h.tape,h.output,by simpa using h.size,fun k hk hne=>(Below.heap_setCell W ⟨g,i,none⟩ v k (by show k ≠ g;omega)).trans (h.block k hk hne)⟩
theorem zaB {w W:World} {r:Option Nat} (h:w.grownBy W r):w.grownBy W.drew r:=gN h ⟨rfl,rfl,rfl,Nat.le_refl _,fun _ _=>rfl⟩
theorem zzj {α:Type} {d:Kd α} {e b0:Nat} {w wr w2:World} {ok:Nat → Prop} {u:Value} {xs:List α} (hB:Below b0 w wr) (hs:b0 ≤ wr.heap.size) (hR:d.R e wr b0 ok u xs) (hg:wr.grownBy w2 u.ownBlock):Below b0 w w2:=by
 refine hB.trans ⟨hg.os,hg.tape,hg.output,hg.size,fun k hk=>hg.block k (Nat.lt_of_lt_of_le hk hs) ?_⟩
 intro e
 obtain ⟨inner,ho⟩:=Kd.gQ hR
 have:=X0 ho k e.symm
 omega
def chr (c:Nat):ByteArray:=Utf8.encode (c:Int)
def pO (wd:Nat → Int) (c:Nat):List yT:=(List.range (c - 33)).map fun i=>⟨chr (33 + i),wd (33 + i)⟩
theorem zch (c:Nat):Utf8.encode (c:Int) = chr c:=rfl
attribute [irreducible] chr
theorem zVi (wd:Nat → Int) (c:Nat) (h:33 ≤ c):pO wd (c + 1) = pO wd c ++ [⟨chr c,wd c⟩]:=by
 obtain ⟨m,rfl⟩:∃ m,c = 33 + m:=⟨c - 33,by omega⟩
 unfold pO
 rw [show 33 + m + 1 - 33 = m + 1 by omega,show 33 + m - 33 = m by omega,List.range_succ,List.map_append]
 rfl
theorem ig (wd:Nat → Int) (c:Nat):(pO wd c).length = c - 33:=by simp [pO]
def made.T5:Bool × List (List Nat × List Nat):=(true,[([],[]),([0],[0]),([],[]),([2],[2]),([3],[3]),([],[]),([],[]),([5,6],[5,6]),([4,7],[4,7]),([8],[8]),([1,9,7],[1,9]),([0,1,2,3,4,5,6,7,8,9,10],[]),([11,10,10,0,1,2,3,4,5,6,7,8,9,10],[10,11])])
theorem made.zK2:q9 .any (opsOf Tryz.f54 5) = made.T5:=by kernel_rfl
def zeZ (name:ByteArray) (space:Int) (more:List yT) (wd:Nat → Int) (u0:Value) (b0:Nat) (w:World) (gr gf:Nat) (x:Value) (wr:World):Prop :=
 ∃ (c:Nat) (u:Value),x = .int .u8 (c:Int) ∧ 33 ≤ c ∧ c ≤ 127 ∧ Kd.R vk 105 wr b0 (fun _=>True) u (more ++ pO wd c) ∧
  wr.heap[gr]? = some (.cells #[.string (⟨#[]⟩:ByteArray),.bool false,.int .i64 0,.slice none 0 0,.slice none 0 0,.slice none 0 0] 60 (0,0)) ∧
  wr.heap[gf]? = some (.cells #[.string name,.bool false,.int .i64 space,u,.slice none 0 0,.slice none 0 0] 60 (0,0)) ∧
  Below b0 w wr ∧ w.grownBy wr u0.ownBlock ∧ (u.ownBlock = u0.ownBlock ∨ ∃ b,u.ownBlock = some b ∧ w.heap.size ≤ b)
set_option maxHeartbeats 8000000 in
set_option maxRecDepth 100000 in
theorem gP (F:FuncId) (fn:Func) (hfn:Tryz.prog.funcs[F]? = some fn) (hname:(fn.name == "runtime.NumGoroutine") = false) (hbody:fn.body.isSome = true) (wd:Nat → Int)
  (hwd:∀ (c:Nat) (W:World),33 ≤ c → c ≤ 126 → Calls Tryz.prog F #[.int .u8 (c:Int)] W fun e w'=>e = .returned (.int .i64 (wd c)) ∧ Below W.heap.size W w')
  (name:ByteArray) (space:Int) (b0:Nat) (u0:Value) (more ys:List yT) (w:World) (hb0:b0 ≤ w.heap.size) (hR:Kd.R vk 105 w b0 (fun _=>True) u0 more) (hm:more.length ≤ 10)
  (hp:ys.Perm (more ++ pO wd 127)) (hs:ys.Pairwise fun a b=>xE a.f0 b.f0 < 0) :
  Calls Tryz.prog 54 #[.string name,.int .i64 space,.func (.func F) #[] #[],u0] w fun e w'=>∃ v,e = .returned (.agg #[.string name,.bool false,.int .i64 space,v,.slice none 0 0,.slice none 0 0]) ∧
   Kd.R vk 105 w' b0 (fun _=>True) v ys ∧ Below b0 w w' ∧ w.grownBy w' u0.ownBlock ∧ (v.ownBlock = u0.ownBlock ∨ ∃ b,v.ownBlock = some b ∧ w.heap.size ≤ b):=by
 have zci:=Tryz.underlying60
 have HB:=zk.mk (Below.refl b0 w)
 have HG:=zk.mk (World.grownBy.refl w u0.ownBlock)
 have qA:=zk.mk hR
 have HWD:=zk.mk hwd
 have HP:=zk.mk hp
 have HS:=zk.mk hs
 have zgQ:=zk.mk (pV hfn hname hbody)
 clear hR hwd hp hs hfn hname hbody
 obtain ⟨A0,c0,e0⟩:=Kd.xV qA.out
 subst e0
 go_enter Tryz.func54,Tryz.ntmps54
 go_wp2_with (first
  | ((with_reducible refine qY (N:=8) rfl ?_);refine qm ?hg (N:=8) ?hd (cs:=#[.string (⟨#[]⟩:ByteArray),.bool false,.int .i64 0,.slice none 0 0,.slice none 0 0,.slice none 0 0]) (t:=60) ?hr ?_;(case hd=>rfl);(case hg=>rfl);(case hr=>first | (go_simp;done) | (go_simp;rfl));intro gr hgr w2 BR hb2;have Kr:=zk.mk (Nat.le_of_eq hgr.symm);have zh:=zk.mk (HB.out.trans (hb2.mono hb0));have zG:=zk.mk (gN HG.out hb2);clear HB HG;have HB:=zh;have HG:=zG;have HR1:=zk.mk (Kd.jf qA.out hb2);have BRA:=zk.mk BR;clear zh zG BR hb2 hgr)
  | ((with_reducible refine qY (N:=9) rfl ?_);refine qm ?hg (N:=9) ?hd (cs:=#[.string (⟨#[]⟩:ByteArray),.bool false,.int .i64 0,.slice none 0 0,.slice none 0 0,.slice none 0 0]) (t:=60) ?hr ?_;(case hd=>rfl);(case hg=>rfl);(case hr=>first | (go_simp;done) | (go_simp;rfl));intro gf hgf w3 BF hb3;have Kf:=zk.mk (Nat.le_trans HG.out.size (Nat.le_of_eq hgf.symm));have zh:=zk.mk (HB.out.trans (hb3.mono (Nat.le_trans hb0 HG.out.size)));have zG:=zk.mk (gN HG.out hb3);have zU:=zk.mk (yY BRA.out hb3);have yc:=zk.mk (Kd.jf HR1.out hb3);have HNE:=zk.mk (show gr ≠ gf by rw [hgf];exact Nat.ne_of_lt (Zk BRA.out));clear HB HG BRA HR1 qA;have HB:=zh;have HG:=zG;have BRA:=zU;have HR1:=yc;clear zh zG zU yc hgf hb3;have zcl:w3.cell? ⟨gf,0,none⟩ = some (.string (⟨#[]⟩:ByteArray)):=(zV BF 0).trans rfl;have zcm:w3.cell? ⟨gf,1,none⟩ = some (.bool false):=(zV BF 1).trans rfl;have zcn:w3.cell? ⟨gf,2,none⟩ = some (.int .i64 0):=(zV BF 2).trans rfl;have zco:w3.cell? ⟨gf,3,none⟩ = some (.slice none 0 0):=(zV BF 3).trans rfl;have zcp:w3.cell? ⟨gf,4,none⟩ = some (.slice none 0 0):=(zV BF 4).trans rfl;have zcr:w3.cell? ⟨gf,5,none⟩ = some (.slice none 0 0):=(zV BF 5).trans rfl;have zpo:=zy BF 0;have zpp:=zy BF 1;have zpr:=zy BF 2;have zps:=zy BF 3;have zpt:=zy BF 4;have zpu:=zy BF 5;have BFA:=zk.mk BF;clear BF))
 have KfB:=zk.mk (Nat.le_trans hb0 Kf.out)
 go_loopw [10] (fun x wr=>zeZ name space more wd (.slice A0 more.length c0) b0 w gr gf x wr) (fun x _=>127 - (intOf x).toNat)
 case atStart =>
  refine ⟨33,.slice A0 more.length c0,rfl,by omega,by omega,?_,?_,?_,?_,?_,Or.inl rfl⟩
  ·rw [show pO wd 33 = [] from rfl,List.append_nil]
   have h:=Kd.zzi HR1.out BFA.out (by decide)
   exact Kd.jC (Kd.YE (p:=⟨gf,5,none⟩) (Kd.YE (p:=⟨gf,4,none⟩) (Kd.YE (p:=⟨gf,3,none⟩) (Kd.YE (p:=⟨gf,2,none⟩) (Kd.YE (p:=⟨gf,1,none⟩) (Kd.YE (p:=⟨gf,0,none⟩) h (fun _ hk=>hk.2) _) (fun _ hk=>hk.2) _) (fun _ hk=>hk.2) _) (fun _ hk=>hk.2) _) (fun _ hk=>hk.2) _) (fun _ hk=>hk.2) _) (fun _ _=>trivial)
  ·refine QW ?_ HNE.out _
   refine QW ?_ HNE.out _
   refine QW ?_ HNE.out _
   refine QW ?_ HNE.out _
   refine QW ?_ HNE.out _
   refine QW ?_ HNE.out _
   exact BRA.out
  ·refine vY (cs:=#[.string name,.bool false,.int .i64 space,.slice A0 more.length c0,.slice none 0 0,.slice none 0 0]) ?_ 5 _ rfl
   refine vY (cs:=#[.string name,.bool false,.int .i64 space,.slice A0 more.length c0,.slice none 0 0,.slice none 0 0]) ?_ 4 _ rfl
   refine vY (cs:=#[.string name,.bool false,.int .i64 space,.slice none 0 0,.slice none 0 0,.slice none 0 0]) ?_ 3 _ rfl
   refine vY (cs:=#[.string name,.bool false,.int .i64 0,.slice none 0 0,.slice none 0 0,.slice none 0 0]) ?_ 2 _ rfl
   refine vY (cs:=#[.string name,.bool false,.int .i64 0,.slice none 0 0,.slice none 0 0,.slice none 0 0]) ?_ 1 _ rfl
   refine vY (cs:=#[.string (⟨#[]⟩:ByteArray),.bool false,.int .i64 0,.slice none 0 0,.slice none 0 0,.slice none 0 0]) ?_ 0 _ rfl
   exact BFA.out
  ·exact (((((HB.out.setCell KfB.out _).setCell KfB.out _).setCell KfB.out _).setCell KfB.out _).setCell KfB.out _).setCell KfB.out _
  ·exact Zi (Zi (Zi (Zi (Zi (Zi HG.out Kf.out _) Kf.out _) Kf.out _) Kf.out _) Kf.out _) Kf.out _
 case round =>
  obtain ⟨c,u,rfl,h33,h127,zcs,BR0,BF0,zct,zcu,zcA⟩:=hrel
  have wh:=zk.mk zcs
  have BR:=zk.mk BR0
  have BF:=zk.mk BF0
  have pR:=zk.mk zct
  have V3:=zk.mk zcu
  have HAc:=zk.mk zcA
  clear zcs BR0 BF0 zct zcu zcA BRA BFA HR1 HB HG
  by_cases hlt:c < 127
  ·have hw32:IntKind.i32.wrap (c:Int) = c:=by unfold IntKind.wrap;simp [IntKind.bits,IntKind.signed];omega
   have q1:decide ((c:Int) < 127) = true:=decide_eq_true (by omega)
   go_wp2
   have zh:=zk.mk (Kd.lF wh.out)
   have zG:=zk.mk (KY BR.out)
   have zU:=zk.mk (KY BF.out)
   have yc:=zk.mk (pR.out.drew)
   have xJ:=zk.mk (zaB V3.out)
   clear wh BR BF pR V3
   have wh:=zh
   have BR:=zG
   have BF:=zU
   have pR:=yc
   have V3:=xJ
   clear zh zG zU yc xJ
   refine pG (n:=13) (S:=fun w'=>w'.cell? ⟨gf,3,none⟩ = some u) (ds:=[12]) #[false,false,false,false,false,false,false,false,false,false,false,false,false] (by kernel_rfl) rfl rfl ((zV BF.out 3).trans rfl) (fun hHeld=>?_)
   refine gV made.zK2 (fun yP=>?_)
   generalize wr.drew = w16 at wh BR BF pR V3 hHeld ⊢
   refine xk (i:=0) (N:=some 19) (v:=?_) (a':=?_) #[true,false,false,false,false,false,false,false,false,false,false,false,false] rfl rfl (qD yP.out (by kernel_rfl)) (fun _ _ _ h=>h) (Or.inl ⟨by rfl,?_⟩) ?_ ?_
   rotate_left
   ·intro w'
    go_simp
    with_reducible rfl
   rotate_left
   ·simp only [Act.put,List.setIfInBounds_toArray,List.set_cons_zero,List.set_cons_succ]
    rfl
   refine xk (i:=2) (N:=some 21) (v:=?_) (a':=?_) #[true,false,true,false,false,false,false,false,false,false,false,false,false] rfl rfl (qD yP.out (by kernel_rfl)) (fun _ _ _ h=>h) (Or.inl ⟨by rfl,?_⟩) ?_ ?_
   rotate_left
   ·intro w'
    go_simp
    with_reducible rfl
   rotate_left
   ·simp only [Act.put,List.setIfInBounds_toArray,List.set_cons_zero,List.set_cons_succ]
    rfl
   refine xk (i:=3) (N:=some 22) (v:=?_) (a':=?_) #[true,false,true,true,false,false,false,false,false,false,false,false,false] rfl rfl (qD yP.out (by kernel_rfl)) (fun _ _ _ h=>h) (Or.inl ⟨by rfl,?_⟩) ?_ ?_
   rotate_left
   ·intro w'
    go_simp
    with_reducible rfl
   rotate_left
   ·simp only [Act.put,List.setIfInBounds_toArray,List.set_cons_zero,List.set_cons_succ,hw32]
    rfl
   refine xk (i:=4) (N:=some 23) (v:=?_) (a':=?_) #[true,false,true,true,true,false,false,false,false,false,false,false,false] rfl rfl (qD yP.out (by kernel_rfl)) (fun _ _ _ h=>h) (Or.inl ⟨by rfl,?_⟩) ?_ ?_
   rotate_left
   ·intro w'
    go_simp
    with_reducible rfl
   rotate_left
   ·simp only [Act.put,List.setIfInBounds_toArray,List.set_cons_zero,List.set_cons_succ,zch]
    rfl
   refine xk (i:=5) (N:=some 24) (v:=?_) (a':=?_) #[true,false,true,true,true,true,false,false,false,false,false,false,false] rfl rfl (qD yP.out (by kernel_rfl)) (fun _ _ _ h=>h) (Or.inl ⟨by rfl,?_⟩) ?_ ?_
   rotate_left
   ·intro w'
    go_simp
    with_reducible rfl
   rotate_left
   ·simp only [Act.put,List.setIfInBounds_toArray,List.set_cons_zero,List.set_cons_succ]
    rfl
   refine xk (i:=6) (N:=some 25) (v:=?_) (a':=?_) #[true,false,true,true,true,true,true,false,false,false,false,false,false] rfl rfl (qD yP.out (by kernel_rfl)) (fun _ _ _ h=>h) (Or.inl ⟨by rfl,?_⟩) ?_ ?_
   rotate_left
   ·intro w'
    go_simp
    with_reducible rfl
   rotate_left
   ·simp only [Act.put,List.setIfInBounds_toArray,List.set_cons_zero,List.set_cons_succ]
    rfl
   refine XL (i:=1) (N:=some 20) (v:=?_) (a':=?_) #[true,true,true,true,true,true,true,false,false,false,false,false,false] rfl rfl (sZ yP.out (by kernel_rfl)) (fun _ _ _ h=>h) (Or.inl ⟨by rfl,?_⟩) hHeld ?_ ?_
   rotate_left
   ·rintro w' s0
    go_simp
    with_reducible rfl
   rotate_left
   ·simp only [Act.put,List.setIfInBounds_toArray,List.set_cons_zero,List.set_cons_succ]
    rfl
   refine Yr (i:=7) (N:=some 26) #[true,true,true,true,true,true,true,true,false,false,false,false,false] rfl rfl (jY yP.out (by kernel_rfl)) (by decide) (fun K hK=>?_)
   refine call_ F #[.int .u8 (c:Int)] (by rfl) rfl (by have he:=zgQ.out #[.int .u8 (c:Int)] w16;go_simp) ?_
   refine (HWD.out c _ h33 (by omega)).mono ?_
   rintro e fu ⟨rfl,hb⟩
   refine ⟨_,rfl,?_⟩
   have zh:=zk.mk (Kd.jf wh.out hb)
   have zG:=zk.mk (yY BR.out hb)
   have zU:=zk.mk (yY BF.out hb)
   have yc:=zk.mk (pR.out.trans (hb.mono (Nat.le_trans hb0 V3.out.size)))
   have xJ:=zk.mk (gN V3.out hb)
   clear wh BR BF pR V3 hHeld hb
   have wh:=zh
   have BR:=zG
   have BF:=zU
   have pR:=yc
   have V3:=xJ
   clear zh zG zU yc xJ
   refine hK.out _ _ ((zV BF.out 3).trans rfl) (fun hHeld=>?_)
   clear hK K
   refine YI (a':=?_) ?_ ?_
   rotate_left
   ·show Act.put _ (some 26) _ = _
    simp only [Act.put,List.setIfInBounds_toArray,List.set_cons_zero,List.set_cons_succ]
    rfl
   refine xk (i:=8) (N:=some 27) (v:=?_) (a':=?_) #[true,true,true,true,true,true,true,true,true,false,false,false,false] rfl rfl (qD yP.out (by kernel_rfl)) (fun _ _ _ h=>h) (Or.inl ⟨by rfl,?_⟩) ?_ ?_
   rotate_left
   ·intro w'
    go_simp
    with_reducible rfl
   rotate_left
   ·simp only [Act.put,List.setIfInBounds_toArray,List.set_cons_zero,List.set_cons_succ]
    rfl
   refine Yr (i:=9) (N:=some 28) #[true,true,true,true,true,true,true,true,true,true,false,false,false] rfl rfl (jY yP.out (by kernel_rfl)) (by decide) (fun K hK=>?_)
   refine lN (w1:=?_) (v:=?_) (by rfl) rfl ?_ ?_
   rotate_left 2
   ·go_simp
    constructor
    ·rfl
    ·rfl
   refine hK.out _ _ ((zV (kN BF.out _) 3).trans rfl) (fun hHeld=>?_)
   clear hK K
   refine YI (a':=?_) ?_ ?_
   rotate_left
   ·show Act.put _ (some 28) _ = _
    simp only [Act.put,List.setIfInBounds_toArray,List.set_cons_zero,List.set_cons_succ]
    rfl
   refine Yr (i:=10) (N:=some 29) #[true,true,true,true,true,true,true,true,true,true,true,false,false] rfl rfl (jY yP.out (by kernel_rfl)) (by decide) (fun K hK=>?_)
   refine Kd.XM vk (w0:=w) b0 (by rfl) (.tmp 20) (.tmp 28) 56 105 (.agg #[(.string ⟨#[]⟩),(.int .i64 0)]) 24 rfl Tryz.underlying56 zwL rfl (by decide) (by omega) u (more ++ pO wd c) (⟨chr c,wd c⟩:yT) [.string (chr c),.int .i64 (wd c)] (fun _=>True) (fun _=>False) rfl rfl ?aP (fun _ hk=>hk.elim) ?aF ?aO ?aB ?aS ?aL ?_
   (case aP=>exact V6 _ _ _ (⟨chr c,wd c⟩:yT))
   (case aF=>exact (fun _ _=>trivial))
   (case aO=>exact wh.out)
   (case aB=>exact pR.out)
   (case aS=>exact Nat.le_trans hb0 V3.out.size)
   (case aL=>have:=ig wd c;rw [List.length_append];omega)
   intro v1 KG ho hb hg hat
   rw [List.append_assoc,← zVi wd c h33] at ho
   obtain ⟨Ao,co,eo⟩:=Kd.xV ho
   subst eo
   generalize (more ++ pO wd (c + 1)).length = nn at ho hat ⊢
   have zh:=zk.mk (pQ BR.out hg (Kd.mP wh.out BR.out (by decide)))
   have zG:=zk.mk (pQ BF.out hg (Kd.mP wh.out BF.out (by decide)))
   have zU:=zk.mk hb
   have yc:=zk.mk (zwM V3.out hg HAc.out)
   have xJ:=zk.mk ho
   have jI:zk ((Value.slice Ao nn co).ownBlock = (Value.slice A0 more.length c0).ownBlock ∨ ∃ b,(Value.slice Ao nn co).ownBlock = some b ∧ w.heap.size ≤ b):=zk.mk (by
    rcases hat with hat | ⟨b,h1,h2⟩
    ·rw [hat];exact HAc.out
    ·exact Or.inr ⟨b,h1,Nat.le_trans V3.out.size h2⟩)
   clear BR BF pR V3 wh HAc ho hb hg hat hHeld
   have BR:=zh
   have BF:=zG
   have pR:=zU
   have V3:=yc
   have wh:=xJ
   have HAc:=jI
   clear zh zG zU yc xJ jI
   refine hK.out _ _ ((zV BF.out 3).trans rfl) (fun hHeld=>?_)
   clear hK K
   refine YI (a':=?_) ?_ ?_
   rotate_left
   ·show Act.put _ (some 29) _ = _
    simp only [Act.put,List.setIfInBounds_toArray,List.set_cons_zero,List.set_cons_succ]
    rfl
   refine xk (i:=11) (N:=some 30) (v:=?_) (a':=?_) #[true,true,true,true,true,true,true,true,true,true,true,true,false] rfl rfl (qD yP.out (by kernel_rfl)) (fun _ _ _ h=>h) (Or.inl ⟨by rfl,?_⟩) ?_ ?_
   rotate_left
   ·intro w'
    go_simp
    with_reducible rfl
   rotate_left
   ·simp only [Act.put,List.setIfInBounds_toArray,List.set_cons_zero,List.set_cons_succ]
    rfl
   refine sj (i:=12) (N:=none) #[true,true,true,true,true,true,true,true,true,true,true,true,true] rfl rfl (jY yP.out (by kernel_rfl)) (by decide) (fun K hK=>?_)
   have zYb:KG.cell? ⟨gf,3,none⟩ = some u:=(zV BF.out 3).trans rfl
   have zX4:=zy BF.out 3
   refine WJ (w1:=?_) (by rfl) rfl ?_ ?_
   rotate_left
   ·go_simp
    rfl
   refine hK.out _ _ ?_
   clear hK K
   refine um (xK yP.out (by kernel_rfl)) ?_
   have zh:=zk.mk (QW BR.out (p:=⟨gf,3,none⟩) HNE.out (.slice Ao nn co:Value))
   have zG:=zk.mk (vY (cs':=#[.string name,.bool false,.int .i64 space,(.slice Ao nn co:Value),.slice none 0 0,.slice none 0 0]) BF.out 3 (.slice Ao nn co:Value) rfl)
   have zU:=zk.mk (pR.out.setCell (p:=⟨gf,3,none⟩) KfB.out (.slice Ao nn co:Value))
   have yc:=zk.mk (Zi (i:=3) V3.out Kf.out (.slice Ao nn co:Value))
   have xJ:=zk.mk (Kd.YF wh.out BF.out (by decide) 3 (.slice Ao nn co:Value))
   clear BR BF pR V3 wh hHeld zYb zX4
   generalize KG.setCell ⟨gf,3,none⟩ (.slice Ao nn co:Value) = w19 at zh zG zU yc xJ ⊢
   go_wp2
   go_roundw
   case rel=>exact ⟨c + 1,(.slice Ao nn co:Value),by first | rfl | (simp;done) | go_num,by omega,by omega,xJ.out,zh.out,zG.out,zU.out,yc.out,HAc.out⟩
   case measure=>simp [intOf];omega
  ·have hc:c = 127:=by omega
   have q1:decide ((c:Int) < 127) = false:=decide_eq_false (by omega)
   obtain ⟨Au,cu,eu⟩:=Kd.xV wh.out
   generalize (more ++ pO wd c).length = nu at eu
   subst eu
   have hRs:=wh.out
   rw [hc] at hRs
   have hsort:=zaA wr b0 (.slice Au nu cu) _ ys hRs (by rw [List.length_append,ig];omega) (by rw [List.length_append,ig];omega) HP.out HS.out
   have zWK:=zk.mk hsort
   have hcu:wr.cell? ⟨gf,3,none⟩ = some (.slice Au nu cu):=(zV BF.out 3).trans rfl
   clear hsort hRs hlt h33 h127
   go_wp2_with (go_at_call 110;refine zWK.out.mono ?_;rintro e w2 ⟨rfl,hR2,hg2⟩;clear zWK hcu;have hne1:=Kd.mP wh.out BF.out (by decide);have zG:=zk.mk (pQ BR.out hg2 (Kd.mP wh.out BR.out (by decide)));have zU:=zk.mk (pQ BF.out hg2 hne1);have yc:=zk.mk hR2;have xJ:=zk.mk (zwM V3.out hg2 HAc.out);have jI:=zk.mk (zzj pR.out (Nat.le_trans hb0 V3.out.size) wh.out hg2);clear wh BR BF pR V3 hne1 hR2 hg2;have BR:=zG;have BF:=zU;have HR2:=yc;have HG2:=xJ;have HB2:=jI;clear zG zU yc xJ jI;have zcl:w2.cell? ⟨gf,0,none⟩ = some (.string name):=(zV BF.out 0).trans rfl;have zcm:w2.cell? ⟨gf,1,none⟩ = some (.bool false):=(zV BF.out 1).trans rfl;have zcn:w2.cell? ⟨gf,2,none⟩ = some (.int .i64 space):=(zV BF.out 2).trans rfl;have zco:w2.cell? ⟨gf,3,none⟩ = some (.slice Au nu cu):=(zV BF.out 3).trans rfl;have zcp:w2.cell? ⟨gf,4,none⟩ = some (.slice none 0 0):=(zV BF.out 4).trans rfl;have zcr:w2.cell? ⟨gf,5,none⟩ = some (.slice none 0 0):=(zV BF.out 5).trans rfl;have zgX:w2.cell? ⟨gr,0,none⟩ = some (.string (⟨#[]⟩:ByteArray)):=(zV BR.out 0).trans rfl;have zgJ:w2.cell? ⟨gr,1,none⟩ = some (.bool false):=(zV BR.out 1).trans rfl;have zgV:w2.cell? ⟨gr,2,none⟩ = some (.int .i64 0):=(zV BR.out 2).trans rfl;have zgK:w2.cell? ⟨gr,3,none⟩ = some (.slice none 0 0):=(zV BR.out 3).trans rfl;have zgY:w2.cell? ⟨gr,4,none⟩ = some (.slice none 0 0):=(zV BR.out 4).trans rfl;have zgW:w2.cell? ⟨gr,5,none⟩ = some (.slice none 0 0):=(zV BR.out 5).trans rfl;have zga:=zy BR.out 0;have zgb:=zy BR.out 1;have zgc:=zy BR.out 2;have zgd:=zy BR.out 3;have zge:=zy BR.out 4;have zgf:=zy BR.out 5)
   have zh:=(vY (cs':=#[.string name,.bool false,.int .i64 space,.slice Au nu cu,.slice none 0 0,.slice none 0 0]) (vY (cs':=#[.string name,.bool false,.int .i64 space,.slice Au nu cu,.slice none 0 0,.slice none 0 0]) (vY (cs':=#[.string name,.bool false,.int .i64 space,.slice Au nu cu,.slice none 0 0,.slice none 0 0]) (vY (cs':=#[.string name,.bool false,.int .i64 space,.slice none 0 0,.slice none 0 0,.slice none 0 0]) (vY (cs':=#[.string name,.bool false,.int .i64 0,.slice none 0 0,.slice none 0 0,.slice none 0 0]) (vY (cs':=#[.string name,.bool false,.int .i64 0,.slice none 0 0,.slice none 0 0,.slice none 0 0]) BR.out 0 (.string name) rfl) 1 (.bool false) rfl) 2 (.int .i64 space) rfl) 3 (.slice Au nu cu) rfl) 4 (.slice none 0 0) rfl) 5 (.slice none 0 0) rfl)
   have zG:=Kd.jC (Kd.YE (p:=⟨gr,5,none⟩) (Kd.YE (p:=⟨gr,4,none⟩) (Kd.YE (p:=⟨gr,3,none⟩) (Kd.YE (p:=⟨gr,2,none⟩) (Kd.YE (p:=⟨gr,1,none⟩) (Kd.YE (p:=⟨gr,0,none⟩) (Kd.zzi HR2.out BR.out (by decide)) (fun _ hk=>hk.2) (.string name)) (fun _ hk=>hk.2) (.bool false)) (fun _ hk=>hk.2) (.int .i64 space)) (fun _ hk=>hk.2) (.slice Au nu cu)) (fun _ hk=>hk.2) (.slice none 0 0)) (fun _ hk=>hk.2) (.slice none 0 0)) (fun _ _=>trivial)
   have zU:=(Zi (i:=5) (Zi (i:=4) (Zi (i:=3) (Zi (i:=2) (Zi (i:=1) (Zi (i:=0) HG2.out Kr.out (.string name)) Kr.out (.bool false)) Kr.out (.int .i64 space)) Kr.out (.slice Au nu cu)) Kr.out (.slice none 0 0)) Kr.out (.slice none 0 0))
   have yc:=(Below.setCell (p:=⟨gr,5,none⟩) (Below.setCell (p:=⟨gr,4,none⟩) (Below.setCell (p:=⟨gr,3,none⟩) (Below.setCell (p:=⟨gr,2,none⟩) (Below.setCell (p:=⟨gr,1,none⟩) (Below.setCell (p:=⟨gr,0,none⟩) HB2.out (Nat.le_trans hb0 Kr.out) (.string name)) (Nat.le_trans hb0 Kr.out) (.bool false)) (Nat.le_trans hb0 Kr.out) (.int .i64 space)) (Nat.le_trans hb0 Kr.out) (.slice Au nu cu)) (Nat.le_trans hb0 Kr.out) (.slice none 0 0)) (Nat.le_trans hb0 Kr.out) (.slice none 0 0))
   clear zcl zcm zcn zco zcp zcr zgX zgJ zgV zgK zgY zgW zga zgb zgc zgd zge zgf
   generalize ((((((w2.setCell ⟨gr,0,none⟩ (.string name)).setCell ⟨gr,1,none⟩ (.bool false)).setCell ⟨gr,2,none⟩ (.int .i64 space)).setCell ⟨gr,3,none⟩ (.slice Au nu cu)).setCell ⟨gr,4,none⟩ (.slice none 0 0)).setCell ⟨gr,5,none⟩ (.slice none 0 0)) = w5 at zh zG zU yc ⊢
   refine bodyPost_ret (results_cell_row rfl _ _ gr 60 #[.string name,.bool false,.int .i64 space,.slice Au nu cu,.slice none 0 0,.slice none 0 0] (0,0) _ rfl zh Tryz.underlying60 rfl (by kernel_rfl)) rfl ?_
   exact ⟨_,rfl,zG,yc,zU,HAc.out⟩
end Go.Proofs.YtggifbbiiickmaaGreatDoor
namespace Go.Proofs.YtggifbbiiickmaaGreatDoor
open Go.RowKit Go.Shelf
def KH (l:List UInt8) (c:UInt8):Bool:=decide (0 ≤ Lib.indexByte l c)
def XE (c:UInt8):Int :=
 if (KH [105,106,108,116,102,46,44,58,59,39,124,33] c || (c.toNat:Int) == 96) = true then 250
 else if KH [40,41,91,93,123,125,45,114,115,47,92,34] c = true then 350
 else if KH [109,119] c = true then 750
 else if KH [77,87,64,37] c = true then 900
 else if (decide (65 ≤ (c.toNat:Int)) && decide ((c.toNat:Int) ≤ 90)) = true then 650 else 500
set_option maxRecDepth 100000 in
theorem UR (s:ByteArray) (c:UInt8) (B:Nat) (w:World) (hc:w.cell? ⟨B,0,none⟩ = some (.int .u8 c.toNat)) :
  Calls Tryz.prog 112 #[.string s,.pointer (some ⟨B,0,none⟩)] w fun e w'=>e = .returned (.bool (KH s.data.toList c)) ∧ w' = w:=by
 have hi:=Tryz.strings_IndexByte s (c.toNat:Int) w
 have hc8:((c.toNat:Int).toNat.toUInt8) = c:=by rw [Int.toNat_natCast];exact UInt8.ofNat_toNat
 rw [hc8] at hi
 have hx:KH s.data.toList c = decide (0 ≤ Lib.indexByte s.data.toList c):=rfl
 generalize Lib.indexByte s.data.toList c = ix at hi hx
 generalize KH s.data.toList c = b at hx ⊢
 subst hx
 clear hc8
 go_enter Tryz.func112,Tryz.ntmps112
 go_wp2_with (go_at_call 113;refine hi.mono ?_;rintro e w2 ⟨rfl,rfl⟩)
 go_ret
 exact ⟨rfl,rfl⟩
set_option maxRecDepth 100000 in
set_option maxHeartbeats 1000000 in
theorem zVl (c:UInt8) (w:World) :
  Calls Tryz.prog 55 #[.int .u8 c.toNat] w fun e w'=>e = .returned (.int .i64 (XE c)) ∧ Below w.heap.size w w':=by
 have hb0:Below w.heap.size w (w.alloc (.cells #[.int .u8 c.toNat] 5)):=(Below.refl _ w).alloc (Nat.le_refl _) _
 have hcell:(w.alloc (.cells #[.int .u8 c.toNat] 5)).cell? ⟨w.heap.size,0,none⟩ = some (.int .u8 c.toNat):=by simp
 have h1:=UR ⟨#[105,106,108,116,102,46,44,58,59,39,124,33]⟩ c w.heap.size _ hcell
 have h2:=UR ⟨#[40,41,91,93,123,125,45,114,115,47,92,34]⟩ c w.heap.size _ hcell
 have h3:=UR ⟨#[109,119]⟩ c w.heap.size _ hcell
 have h4:=UR ⟨#[77,87,64,37]⟩ c w.heap.size _ hcell
 have hv:XE c = if (KH (⟨#[105,106,108,116,102,46,44,58,59,39,124,33]⟩:ByteArray).data.toList c || (c.toNat:Int) == 96) = true then 250
  else if KH (⟨#[40,41,91,93,123,125,45,114,115,47,92,34]⟩:ByteArray).data.toList c = true then 350
  else if KH (⟨#[109,119]⟩:ByteArray).data.toList c = true then 750
  else if KH (⟨#[77,87,64,37]⟩:ByteArray).data.toList c = true then 900
  else if (decide (65 ≤ (c.toNat:Int)) && decide ((c.toNat:Int) ≤ 90)) = true then 650 else 500:=rfl
 rw [hv]
 clear hv
 generalize KH (⟨#[105,106,108,116,102,46,44,58,59,39,124,33]⟩:ByteArray).data.toList c = b1 at h1 ⊢
 generalize KH (⟨#[40,41,91,93,123,125,45,114,115,47,92,34]⟩:ByteArray).data.toList c = b2 at h2 ⊢
 generalize KH (⟨#[109,119]⟩:ByteArray).data.toList c = b3 at h3 ⊢
 generalize KH (⟨#[77,87,64,37]⟩:ByteArray).data.toList c = b4 at h4 ⊢
 have hx0:=c.toNat_lt
 generalize (c.toNat:Int) = x at hb0 hcell h1 h2 h3 h4 ⊢
 generalize h96:(x == 96) = b96
 generalize h65:decide (65 ≤ x) = b65
 generalize h90:decide (x ≤ 90) = b90
 cases b1 with
 | true =>
  go_enter Tryz.func55,Tryz.ntmps55
  go_wp2_with (first
   | (go_at_call 112;((with_reducible refine h1.mono ?_);rintro e w2 ⟨rfl,rfl⟩))
   | (go_at_call 112;((with_reducible refine h2.mono ?_);rintro e w2 ⟨rfl,rfl⟩))
   | (go_at_call 112;((with_reducible refine h3.mono ?_);rintro e w2 ⟨rfl,rfl⟩))
   | (go_at_call 112;((with_reducible refine h4.mono ?_);rintro e w2 ⟨rfl,rfl⟩)))
  go_ret
  exact ⟨rfl,hb0⟩
 | false =>
  cases b96 with
  | true =>
   go_enter Tryz.func55,Tryz.ntmps55
   go_wp2_with (first
    | (go_at_call 112;((with_reducible refine h1.mono ?_);rintro e w2 ⟨rfl,rfl⟩))
    | (go_at_call 112;((with_reducible refine h2.mono ?_);rintro e w2 ⟨rfl,rfl⟩))
    | (go_at_call 112;((with_reducible refine h3.mono ?_);rintro e w2 ⟨rfl,rfl⟩))
    | (go_at_call 112;((with_reducible refine h4.mono ?_);rintro e w2 ⟨rfl,rfl⟩)))
   go_ret
   exact ⟨rfl,hb0⟩
  | false =>
   cases b2 with
   | true =>
    go_enter Tryz.func55,Tryz.ntmps55
    go_wp2_with (first
     | (go_at_call 112;((with_reducible refine h1.mono ?_);rintro e w2 ⟨rfl,rfl⟩))
     | (go_at_call 112;((with_reducible refine h2.mono ?_);rintro e w2 ⟨rfl,rfl⟩))
     | (go_at_call 112;((with_reducible refine h3.mono ?_);rintro e w2 ⟨rfl,rfl⟩))
     | (go_at_call 112;((with_reducible refine h4.mono ?_);rintro e w2 ⟨rfl,rfl⟩)))
    go_ret
    exact ⟨rfl,hb0⟩
   | false =>
    cases b3 with
    | true =>
     go_enter Tryz.func55,Tryz.ntmps55
     go_wp2_with (first
      | (go_at_call 112;((with_reducible refine h1.mono ?_);rintro e w2 ⟨rfl,rfl⟩))
      | (go_at_call 112;((with_reducible refine h2.mono ?_);rintro e w2 ⟨rfl,rfl⟩))
      | (go_at_call 112;((with_reducible refine h3.mono ?_);rintro e w2 ⟨rfl,rfl⟩))
      | (go_at_call 112;((with_reducible refine h4.mono ?_);rintro e w2 ⟨rfl,rfl⟩)))
     go_ret
     exact ⟨rfl,hb0⟩
    | false =>
     cases b4 with
     | true =>
      go_enter Tryz.func55,Tryz.ntmps55
      go_wp2_with (first
       | (go_at_call 112;((with_reducible refine h1.mono ?_);rintro e w2 ⟨rfl,rfl⟩))
       | (go_at_call 112;((with_reducible refine h2.mono ?_);rintro e w2 ⟨rfl,rfl⟩))
       | (go_at_call 112;((with_reducible refine h3.mono ?_);rintro e w2 ⟨rfl,rfl⟩))
       | (go_at_call 112;((with_reducible refine h4.mono ?_);rintro e w2 ⟨rfl,rfl⟩)))
      go_ret
      exact ⟨rfl,hb0⟩
     | false =>
      cases b65 with
      | false =>
       go_enter Tryz.func55,Tryz.ntmps55
       go_wp2_with (first
        | (go_at_call 112;((with_reducible refine h1.mono ?_);rintro e w2 ⟨rfl,rfl⟩))
        | (go_at_call 112;((with_reducible refine h2.mono ?_);rintro e w2 ⟨rfl,rfl⟩))
        | (go_at_call 112;((with_reducible refine h3.mono ?_);rintro e w2 ⟨rfl,rfl⟩))
        | (go_at_call 112;((with_reducible refine h4.mono ?_);rintro e w2 ⟨rfl,rfl⟩)))
       go_ret
       exact ⟨rfl,hb0⟩
      | true =>
       cases b90 with
       | false =>
        go_enter Tryz.func55,Tryz.ntmps55
        go_wp2_with (first
         | (go_at_call 112;((with_reducible refine h1.mono ?_);rintro e w2 ⟨rfl,rfl⟩))
         | (go_at_call 112;((with_reducible refine h2.mono ?_);rintro e w2 ⟨rfl,rfl⟩))
         | (go_at_call 112;((with_reducible refine h3.mono ?_);rintro e w2 ⟨rfl,rfl⟩))
         | (go_at_call 112;((with_reducible refine h4.mono ?_);rintro e w2 ⟨rfl,rfl⟩)))
        go_ret
        exact ⟨rfl,hb0⟩
       | true =>
        go_enter Tryz.func55,Tryz.ntmps55
        go_wp2_with (first
         | (go_at_call 112;((with_reducible refine h1.mono ?_);rintro e w2 ⟨rfl,rfl⟩))
         | (go_at_call 112;((with_reducible refine h2.mono ?_);rintro e w2 ⟨rfl,rfl⟩))
         | (go_at_call 112;((with_reducible refine h3.mono ?_);rintro e w2 ⟨rfl,rfl⟩))
         | (go_at_call 112;((with_reducible refine h4.mono ?_);rintro e w2 ⟨rfl,rfl⟩)))
        go_ret
        exact ⟨rfl,hb0⟩
end Go.Proofs.YtggifbbiiickmaaGreatDoor
namespace Go.Proofs.YtggifbbiiickmaaGreatDoor
open Go.RowKit Go.Shelf Go.Proofs.zx.zJ Go.Proofs.zx.zu Go.Proofs.zx.zo Go.Proofs.YtggifbbiiickmaaGreatDoor.PX
set_option linter.unusedSimpArgs false
def nM (s:ByteArray):Int × Bool:=if 6 < s.size then (0,false) else (zvQ s.data.toList,oV s.data.toList)
def number.T4:Bool × List (List Nat × List Nat):=(true,[([],[]),([],[]),([1],[1]),([0,0],[0]),([2,3,0,1,2,3],[2])])
theorem number.zcB:q9 .any (opsOf Tryz.f61 4) = number.T4:=by kernel_rfl
set_option maxRecDepth 100000 in
theorem zX5 (s:ByteArray) (w:World) (hs:s.size ≤ 140737488355328) (hG:GW w) :
  Calls Tryz.prog 61 #[.string s] w fun e w'=>e = .returned (.tuple #[.int .i64 (nM s).1,.bool (nM s).2]) ∧ Below w.heap.size w w':=by
 unfold nM
 by_cases h6:6 < s.size
 ·rw [if_pos h6]
  have q1:decide ((6:Int) < (s.size:Int)) = true:=decide_eq_true (by omega)
  go_enter Tryz.func61,Tryz.ntmps61
  go_wp2
  go_ret2
  exact ⟨rfl,Below.refl _ _⟩
 ·rw [if_neg h6]
  have q1:decide ((6:Int) < (s.size:Int)) = false:=decide_eq_false (by omega)
  have ha:=zKe s w hs hG
  generalize zvQ s.data.toList = N at ha ⊢
  generalize oV s.data.toList = B at ha ⊢
  cases B with
  | true =>
   go_enter Tryz.func61,Tryz.ntmps61
   go_wp2_with fail
   refine ha.mono ?_;rintro e w2 ⟨ev,rfl,h1,_,hb⟩
   obtain rfl:=h1 (by simp)
   clear ha h1
   go_wp2
   refine pG (n:=5) (S:=fun _=>True) (ds:=[]) #[false,false,false,false,false] (by kernel_rfl) rfl rfl trivial (fun hHeld=>?_)
   refine gV number.zcB (fun yP=>?_)
   refine xk (i:=0) (N:=some 14) (v:=?_) (a':=?_) #[true,false,false,false,false] rfl rfl (qD yP.out (by kernel_rfl)) (fun _ _ _ h=>h) (Or.inl ⟨by rfl,?_⟩) ?_ ?_
   rotate_left
   ·intro w'
    go_simp
    with_reducible rfl
   rotate_left
   ·simp only [Act.put,List.setIfInBounds_toArray,List.set_cons_zero,List.set_cons_succ]
    rfl
   refine xk (i:=1) (N:=some 15) (v:=?_) (a':=?_) #[true,true,false,false,false] rfl rfl (qD yP.out (by kernel_rfl)) (fun _ _ _ h=>h) (Or.inl ⟨by rfl,?_⟩) ?_ ?_
   rotate_left
   ·intro w'
    go_simp
    with_reducible rfl
   rotate_left
   ·simp only [Act.put,List.setIfInBounds_toArray,List.set_cons_zero,List.set_cons_succ]
    rfl
   refine xk (i:=2) (N:=some 16) (v:=?_) (a':=?_) #[true,true,true,false,false] rfl rfl (qD yP.out (by kernel_rfl)) (fun _ _ _ h=>h) (Or.inl ⟨by rfl,?_⟩) ?_ ?_
   rotate_left
   ·intro w'
    go_simp
    with_reducible rfl
   rotate_left
   ·simp only [Act.put,List.setIfInBounds_toArray,List.set_cons_zero,List.set_cons_succ]
    rfl
   refine xk (i:=3) (N:=some 2) (v:=?_) (a':=?_) #[true,true,true,true,false] rfl rfl (qD yP.out (by kernel_rfl)) (fun _ _ _ h=>h) (Or.inl ⟨by rfl,?_⟩) ?_ ?_
   rotate_left
   ·intro w'
    go_simp
    with_reducible rfl
   rotate_left
   ·simp only [Act.put,List.setIfInBounds_toArray,List.set_cons_zero,List.set_cons_succ]
    rfl
   refine xk (i:=4) (N:=some 3) (v:=?_) (a':=?_) #[true,true,true,true,true] rfl rfl (qD yP.out (by kernel_rfl)) (fun _ _ _ h=>h) (Or.inl ⟨by rfl,?_⟩) ?_ ?_
   rotate_left
   ·intro w'
    go_simp
    with_reducible rfl
   rotate_left
   ·simp only [Act.put,List.setIfInBounds_toArray,List.set_cons_zero,List.set_cons_succ]
    rfl
   clear hHeld
   refine um (xK yP.out (by kernel_rfl)) ?_
   go_wp2
   go_ret2
   exact ⟨rfl,hb.drew⟩
  | false =>
   go_enter Tryz.func61,Tryz.ntmps61
   go_wp2_with fail
   refine ha.mono ?_;rintro e w2 ⟨ev,rfl,_,h1,hb⟩
   obtain ⟨te,pe,rfl⟩:=h1 (by simp)
   clear ha h1
   go_wp2
   refine pG (n:=5) (S:=fun _=>True) (ds:=[]) #[false,false,false,false,false] (by kernel_rfl) rfl rfl trivial (fun hHeld=>?_)
   refine gV number.zcB (fun yP=>?_)
   refine xk (i:=0) (N:=some 14) (v:=?_) (a':=?_) #[true,false,false,false,false] rfl rfl (qD yP.out (by kernel_rfl)) (fun _ _ _ h=>h) (Or.inl ⟨by rfl,?_⟩) ?_ ?_
   rotate_left
   ·intro w'
    go_simp
    with_reducible rfl
   rotate_left
   ·simp only [Act.put,List.setIfInBounds_toArray,List.set_cons_zero,List.set_cons_succ]
    rfl
   refine xk (i:=1) (N:=some 15) (v:=?_) (a':=?_) #[true,true,false,false,false] rfl rfl (qD yP.out (by kernel_rfl)) (fun _ _ _ h=>h) (Or.inl ⟨by rfl,?_⟩) ?_ ?_
   rotate_left
   ·intro w'
    go_simp
    with_reducible rfl
   rotate_left
   ·simp only [Act.put,List.setIfInBounds_toArray,List.set_cons_zero,List.set_cons_succ]
    rfl
   refine xk (i:=2) (N:=some 16) (v:=?_) (a':=?_) #[true,true,true,false,false] rfl rfl (qD yP.out (by kernel_rfl)) (fun _ _ _ h=>h) (Or.inl ⟨by rfl,?_⟩) ?_ ?_
   rotate_left
   ·intro w'
    go_simp
    with_reducible rfl
   rotate_left
   ·simp only [Act.put,List.setIfInBounds_toArray,List.set_cons_zero,List.set_cons_succ]
    rfl
   refine xk (i:=3) (N:=some 2) (v:=?_) (a':=?_) #[true,true,true,true,false] rfl rfl (qD yP.out (by kernel_rfl)) (fun _ _ _ h=>h) (Or.inl ⟨by rfl,?_⟩) ?_ ?_
   rotate_left
   ·intro w'
    go_simp
    with_reducible rfl
   rotate_left
   ·simp only [Act.put,List.setIfInBounds_toArray,List.set_cons_zero,List.set_cons_succ]
    rfl
   refine xk (i:=4) (N:=some 3) (v:=?_) (a':=?_) #[true,true,true,true,true] rfl rfl (qD yP.out (by kernel_rfl)) (fun _ _ _ h=>h) (Or.inl ⟨by rfl,?_⟩) ?_ ?_
   rotate_left
   ·intro w'
    go_simp
    with_reducible rfl
   rotate_left
   ·simp only [Act.put,List.setIfInBounds_toArray,List.set_cons_zero,List.set_cons_succ]
    rfl
   clear hHeld
   refine um (xK yP.out (by kernel_rfl)) ?_
   go_wp2
   go_ret2
   exact ⟨rfl,hb.drew⟩
theorem u8n (c:Nat) (h:c ≤ 126):((UInt8.ofNat c).toNat:Int) = c:=by
 have:(UInt8.ofNat c).toNat = c:=by simp;omega
 rw [this]
def wdR (c:Nat):Int:=XE (UInt8.ofNat c)
def wdI (c:Nat):Int:=max 0 (XE (UInt8.ofNat c) - 20)
def wdB (c:Nat):Int:=XE (UInt8.ofNat c) + 50
def wdM (_:Nat):Int:=600
theorem nN (c:UInt8):0 ≤ XE c ∧ XE c ≤ 900:=by unfold XE;repeat' split <;> try omega
theorem zxV (c:Nat) (W:World) (_:33 ≤ c) (h:c ≤ 126):Calls Tryz.prog 55 #[.int .u8 (c:Int)] W fun e w'=>e = .returned (.int .i64 (wdR c)) ∧ Below W.heap.size W w':=by
 have h:=zVl (UInt8.ofNat c) W
 rw [u8n c (by assumption)] at h
 exact h
set_option maxRecDepth 100000 in
theorem zaC (c:Nat) (W:World) (h0:33 ≤ c) (h:c ≤ 126):Calls Tryz.prog 57 #[.int .u8 (c:Int)] W fun e w'=>e = .returned (.int .i64 (wdI c)) ∧ Below W.heap.size W w':=by
 have hr:=zxV c W h0 h
 have hv:=nN (UInt8.ofNat c)
 unfold wdI
 unfold wdR at hr
 generalize XE (UInt8.ofNat c) = v at hr hv ⊢
 go_enter Tryz.func57,Tryz.ntmps57
 have e1:IntKind.i64.wrap (v - 20) = v - 20:=IntWalk.i64_in _ (by omega)
 go_wp2_with (go_at_call 55;refine hr.mono ?_;rintro e w2 ⟨rfl,hb2⟩)
 go_ret
 exact ⟨by first | rfl | (simp;done) | (simp [Int.max_def];done),hb2⟩
set_option maxRecDepth 100000 in
theorem zaD (c:Nat) (W:World) (h0:33 ≤ c) (h:c ≤ 126):Calls Tryz.prog 58 #[.int .u8 (c:Int)] W fun e w'=>e = .returned (.int .i64 (wdB c)) ∧ Below W.heap.size W w':=by
 have hr:=zxV c W h0 h
 have hv:=nN (UInt8.ofNat c)
 unfold wdB
 unfold wdR at hr
 generalize XE (UInt8.ofNat c) = v at hr hv ⊢
 have e1:IntKind.i64.wrap (v + 50) = v + 50:=IntWalk.i64_in _ (by omega)
 go_enter Tryz.func58,Tryz.ntmps58
 go_wp2_with (go_at_call 55;refine hr.mono ?_;rintro e w2 ⟨rfl,hb2⟩)
 go_ret
 exact ⟨by first | rfl | (rw [e1];done),hb2⟩
theorem zaE (c:Nat) (W:World) (_:33 ≤ c) (_:c ≤ 126):Calls Tryz.prog 59 #[.int .u8 (c:Int)] W fun e w'=>e = .returned (.int .i64 (wdM c)) ∧ Below W.heap.size W w':=by
 unfold wdM
 go_enter Tryz.func59,Tryz.ntmps59
 go_wp2
 go_ret
 exact ⟨rfl,Below.refl _ _⟩
end Go.Proofs.YtggifbbiiickmaaGreatDoor
namespace Go.Proofs.YtggifbbiiickmaaGreatDoor
open Go.RowKit Go.Shelf Go.Proofs.zx.zJ Go.Proofs.zx.zo Go.Proofs.YtggifbbiiickmaaGreatDoor.PX
def VH (wd:Nat → Int) (a n:Nat):List yT:=(List.range n).map fun i=>⟨chr (a + i),wd (a + i)⟩
def bFi:ByteArray:=⟨#[102,105]⟩
def bFl:ByteArray:=⟨#[102,108]⟩
def bFf:ByteArray:=⟨#[102,102]⟩
def pU (x:Int):List yT:=[⟨bFi,x⟩,⟨bFl,x⟩,⟨bFf,x⟩]
def KI (wd:Nat → Int) (x:Int):List yT:=VH wd 33 70 ++ ([⟨bFf,x⟩,⟨bFi,x⟩,⟨bFl,x⟩] ++ VH wd 103 24)
theorem zYc (wd:Nat → Int):pO wd 127 = VH wd 33 70 ++ VH wd 103 24:=by
 have e0:List.range (127 - 33) = List.range 70 ++ (List.range 24).map (70 + ·):=List.range_add (n:=70) (m:=24)
 have e1:((List.range 24).map (70 + ·)).map (fun i=>(⟨chr (33 + i),wd (33 + i)⟩:yT)) = VH wd 103 24:=by
  rw [List.map_map]
  apply List.map_congr_left
  intro i _
  show (⟨chr (33 + (70 + i)),wd (33 + (70 + i))⟩:yT) = ⟨chr (103 + i),wd (103 + i)⟩
  rw [show 33 + (70 + i) = 103 + i by omega]
 unfold pO
 rw [e0,List.map_append,e1]
 unfold VH
 exact rfl
theorem zwN (wd:Nat → Int) (x:Int):(KI wd x).Perm (pU x ++ pO wd 127):=by
 rw [zYc]
 unfold KI pU
 have h1:([⟨bFf,x⟩,⟨bFi,x⟩,⟨bFl,x⟩]:List yT).Perm [⟨bFi,x⟩,⟨bFl,x⟩,⟨bFf,x⟩]:=by
  refine (List.Perm.swap _ _ _).trans ?_
  exact List.Perm.cons _ (List.Perm.swap _ _ _)
 generalize VH wd 33 70 = A
 generalize VH wd 103 24 = B
 refine (List.Perm.append_left A (List.Perm.append_right B h1)).trans ?_
 rw [← List.append_assoc,← List.append_assoc]
 exact List.Perm.append_right B List.perm_append_comm
def KV (n:Nat):List ByteArray:=if n = 0 then (List.range 94).map (fun i=>chr (33 + i)) else (List.range 70).map (fun i=>chr (33 + i)) ++ ([bFf,bFi,bFl] ++ (List.range 24).map (fun i=>chr (103 + i)))
theorem zX6:(KV 0).Pairwise fun a b=>xE a b < 0:=by decide +kernel
theorem zX7:(KV 1).Pairwise fun a b=>xE a b < 0:=by decide +kernel
theorem zVm (wd:Nat → Int) (x:Int):(KI wd x).Pairwise fun a b=>xE a.f0 b.f0 < 0:=by
 have h:((KI wd x).map (·.f0)) = KV 1:=by
  simp [KI,KV,VH,List.map_map,Function.comp_def]
 have h2:=zX7
 rw [← h,List.pairwise_map] at h2
 exact h2
theorem zVn (wd:Nat → Int):(pO wd 127).Pairwise fun a b=>xE a.f0 b.f0 < 0:=by
 have h:((pO wd 127).map (·.f0)) = KV 0:=by
  simp [pO,KV,List.map_map,Function.comp_def]
 have h2:=zX6
 rw [← h,List.pairwise_map] at h2
 exact h2
end Go.Proofs.YtggifbbiiickmaaGreatDoor
namespace Go.Proofs.YtggifbbiiickmaaGreatDoor
open Go.RowKit Go.Shelf Go.Proofs.zx.zJ Go.Proofs.zx.zu Go.Proofs.zx.zo Go.Proofs.YtggifbbiiickmaaGreatDoor.PX
set_option linter.unusedSimpArgs false
set_option linter.unusedVariables false
abbrev tQ:ByteArray:=⟨(([33,61,32,54,48,48,32,42,97,32,53,53,48,32,42,98,32,53,53,48,32,42,100,32,53,48,48,32,42,103,32,53,48,48,32,42,108,32,53,53,48,32,42,112,32,54,48,48,32,42,115,32,54,48,48,32,42,119,32,55,48].append [48,32,45,62,32,49,48,48,48,32,60,45,32,49,48,48,48,32,60,61,32,54,48,48,32,62,61,32,54,48,48,32,98,114,32,49,48,32,98,117,32,52,54,48,32,99,111,32,56,48,48,32,100,103,32,53,48,48,32,100,105,32]).append ([54,48,48,32,101,109,32,49,48,48,48,32,101,110,32,53,48,48,32,101,113,32,54,48,48,32,104,121,32,51,53,48,32,105,102,32,55,48,48,32,105,115,32,52,48,48,32,109,105,32,54,48,48,32,109,117,32,54,48,48,32,112].append [100,32,55,48,48,32,112,108,32,54,48,48,32,114,104,32,49,48,48,48,32,114,117,32,53,48,48,32,115,99,32,53,48,48,32,115,113,32,54,48,48,32,115,114,32,53,48,48,32,115,117,32,55,48,48,32,117,108,32,53,48,48])).toArray⟩
def iA:List (List UInt8):=Lib.fields tQ.data.toList
theorem zkq:iA.length = 70:=by decide +kernel
theorem zX8:∀ x ∈ iA,x.length ≤ 6:=by decide +kernel
theorem zk4:∀ (j:Nat) (b:UInt8),tQ.data.toList[j]? = some b → b.toNat < 128:=by
 have h:∀ b ∈ tQ.data.toList,b.toNat < 128:=by decide +kernel
 intro j b hj
 exact h b (List.mem_of_getElem? hj)
theorem zkx (x:Int) (W:World) (b:Nat) (ok:Nat → Prop):qx (vk.M W b ok) vk.sz (pU x) [.string (⟨#[102,105]⟩:ByteArray),.int .i64 x,.string (⟨#[102,108]⟩:ByteArray),.int .i64 x,.string (⟨#[102,102]⟩:ByteArray),.int .i64 x]:=by
 have h:∀ (j:Nat) (p:yT),(pU x)[j]? = some p → vk.M W b ok p (([.string (⟨#[102,105]⟩:ByteArray),.int .i64 x,.string (⟨#[102,108]⟩:ByteArray),.int .i64 x,.string (⟨#[102,102]⟩:ByteArray),.int .i64 x].drop (j * 2)).take 2):=by
  intro j p hj
  rcases j with _ | _ | _ | j
  ·obtain rfl:=Option.some.inj hj
   exact V6 W b ok ⟨bFi,x⟩
  ·obtain rfl:=Option.some.inj hj
   exact V6 W b ok ⟨bFl,x⟩
  ·obtain rfl:=Option.some.inj hj
   exact V6 W b ok ⟨bFf,x⟩
  ·simp [pU] at hj
 exact ⟨rfl,h⟩
def tX:List qW:=[⟨⟨#[102]⟩,⟨#[102]⟩,⟨#[102,102]⟩⟩,⟨⟨#[102]⟩,⟨#[105]⟩,⟨#[102,105]⟩⟩,⟨⟨#[102]⟩,⟨#[108]⟩,⟨#[102,108]⟩⟩]
def KL:List qM:=[(⟨(⟨#[65]⟩:ByteArray),(⟨#[86]⟩:ByteArray),(-80)⟩:qM),(⟨(⟨#[65]⟩:ByteArray),(⟨#[87]⟩:ByteArray),(-60)⟩:qM),(⟨(⟨#[84]⟩:ByteArray),(⟨#[111]⟩:ByteArray),(-70)⟩:qM),(⟨(⟨#[86]⟩:ByteArray),(⟨#[65]⟩:ByteArray),(-80)⟩:qM),(⟨(⟨#[89]⟩:ByteArray),(⟨#[111]⟩:ByteArray),(-90)⟩:qM)]
def FB (W:World) (lo hi g:Nat) (x:pX):Prop :=
 ∃ v3 v4 v5,W.heap[g]? = some (.cells #[.string x.f0,.bool x.f1,.int .i64 x.f2,v3,v4,v5] 60 (0,0)) ∧ lo ≤ g ∧ g < hi ∧ Kd.R vk 105 W lo (fun k=>lo ≤ k ∧ k < hi) v3 x.f3 ∧
  Kd.R jg 108 W lo (fun k=>lo ≤ k ∧ k < hi) v4 x.f4 ∧ Kd.R jE 111 W lo (fun k=>lo ≤ k ∧ k < hi) v5 x.f5
theorem l9 {α:Type} {d:Kd α} {e lo hi:Nat} {W W':World} {v:Value} {xs:List α} (h:d.R e W lo (fun k=>lo ≤ k ∧ k < hi) v xs) (hb:Below hi W W'):d.R e W' lo (fun k=>lo ≤ k ∧ k < hi) v xs :=
 Kd.KW h (fun k hk _=>hb.block k hk.2)
theorem zYd {α:Type} {d:Kd α} {e lo:Nat} {W:World} {v:Value} {xs:List α} (h:d.R e W lo (fun _=>True) v xs):d.R e W lo (fun k=>lo ≤ k ∧ k < W.heap.size) v xs :=
 Kd.jC (Kd.Zg h) (fun k hk=>⟨hk.2.1,hk.2.2.1⟩)
theorem FB.keep {W W':World} {lo hi g:Nat} {x:pX} (h:FB W lo hi g x) (hb:Below hi W W'):FB W' lo hi g x:=by
 obtain ⟨v3,v4,v5,h1,h2,h3,h4,h5,h6⟩:=h
 exact ⟨v3,v4,v5,(hb.block g h3).trans h1,h2,h3,l9 h4 hb,l9 h5 hb,l9 h6 hb⟩
theorem FB.mk {W:World} {lo g:Nat} (x:pX) {v3 v4 v5:Value} (h1:W.heap[g]? = some (.cells #[.string x.f0,.bool x.f1,.int .i64 x.f2,v3,v4,v5] 60 (0,0))) (h2:lo ≤ g) (h3:Kd.R vk 105 W lo (fun _=>True) v3 x.f3)
  (h4:Kd.R jg 108 W lo (fun _=>True) v4 x.f4) (h5:Kd.R jE 111 W lo (fun _=>True) v5 x.f5):FB W lo W.heap.size g x :=
 ⟨v3,v4,v5,h1,h2,Zk h1,zYd h3,zYd h4,zYd h5⟩
def zWY:pX:=⟨⟨#[82]⟩,false,250,KI wdR 550,tX,KL⟩
def zWW:pX:=⟨⟨#[73]⟩,false,250,pO wdI 127,[],[]⟩
def zWa:pX:=⟨⟨#[66]⟩,false,250,KI wdB 600,tX,[]⟩
def zWb:pX:=⟨⟨#[77]⟩,false,600,pO wdM 127,[],[]⟩
theorem zVo (W:World) (b:Nat) (ok:Nat → Prop):qx (jE.M W b ok) jE.sz KL [.string (⟨#[65]⟩:ByteArray),.string (⟨#[86]⟩:ByteArray),.int .i64 (-80),.string (⟨#[65]⟩:ByteArray),.string (⟨#[87]⟩:ByteArray),.int .i64 (-60),.string (⟨#[84]⟩:ByteArray),.string (⟨#[111]⟩:ByteArray),.int .i64 (-70),.string (⟨#[86]⟩:ByteArray),.string (⟨#[65]⟩:ByteArray),.int .i64 (-80),.string (⟨#[89]⟩:ByteArray),.string (⟨#[111]⟩:ByteArray),.int .i64 (-90)]:=by
 have h:∀ (j:Nat) (p:qM),KL[j]? = some p → jE.M W b ok p ((([.string (⟨#[65]⟩:ByteArray),.string (⟨#[86]⟩:ByteArray),.int .i64 (-80),.string (⟨#[65]⟩:ByteArray),.string (⟨#[87]⟩:ByteArray),.int .i64 (-60),.string (⟨#[84]⟩:ByteArray),.string (⟨#[111]⟩:ByteArray),.int .i64 (-70),.string (⟨#[86]⟩:ByteArray),.string (⟨#[65]⟩:ByteArray),.int .i64 (-80),.string (⟨#[89]⟩:ByteArray),.string (⟨#[111]⟩:ByteArray),.int .i64 (-90)]:List Value).drop (j * 3)).take 3):=by
  intro j p hj
  rcases j with _ | _ | _ | _ | _ | j
  ·obtain rfl:=Option.some.inj hj
   exact Kh W b ok (⟨(⟨#[65]⟩:ByteArray),(⟨#[86]⟩:ByteArray),(-80)⟩:qM)
  ·obtain rfl:=Option.some.inj hj
   exact Kh W b ok (⟨(⟨#[65]⟩:ByteArray),(⟨#[87]⟩:ByteArray),(-60)⟩:qM)
  ·obtain rfl:=Option.some.inj hj
   exact Kh W b ok (⟨(⟨#[84]⟩:ByteArray),(⟨#[111]⟩:ByteArray),(-70)⟩:qM)
  ·obtain rfl:=Option.some.inj hj
   exact Kh W b ok (⟨(⟨#[86]⟩:ByteArray),(⟨#[65]⟩:ByteArray),(-80)⟩:qM)
  ·obtain rfl:=Option.some.inj hj
   exact Kh W b ok (⟨(⟨#[89]⟩:ByteArray),(⟨#[111]⟩:ByteArray),(-90)⟩:qM)
  ·simp [KL] at hj
 exact ⟨rfl,h⟩
theorem FB.cells {W:World} {lo hi g:Nat} {x:pX} (h:FB W lo hi g x):∃ A3 n3 c3 A4 n4 c4 A5 n5 c5,W.heap[g]? = some (.cells #[.string x.f0,.bool x.f1,.int .i64 x.f2,.slice A3 n3 c3,.slice A4 n4 c4,.slice A5 n5 c5] 60 (0,0)) ∧
  ∀ (W':World) (base:Nat) (ok:Nat → Prop),Below W.heap.size W W' → base ≤ lo → (∀ k,lo ≤ k → k < hi → ok k) → Zw.M W' base ok x [.string x.f0,.bool x.f1,.int .i64 x.f2,.slice A3 n3 c3,.slice A4 n4 c4,.slice A5 n5 c5]:=by
 obtain ⟨v3,v4,v5,h1,h2,h3,h4,h5,h6⟩:=h
 obtain ⟨A3,c3,rfl⟩:=Kd.xV h4
 obtain ⟨A4,c4,rfl⟩:=Kd.xV h5
 obtain ⟨A5,c5,rfl⟩:=Kd.xV h6
 refine ⟨A3,_,c3,A4,_,c4,A5,_,c5,h1,fun W' base ok hb hl hok=>?_⟩
 exact zW9 W' base ok x (Kd.jC (Kd.uH (Kd.jf h4 hb) hl) (fun k hk=>hok k hk.1 hk.2)) (Kd.jC (Kd.uH (Kd.jf h5 hb) hl) (fun k hk=>hok k hk.1 hk.2)) (Kd.jC (Kd.uH (Kd.jf h6 hb) hl) (fun k hk=>hok k hk.1 hk.2))
theorem VI {W:World} {g:Nat} (h:W.heap[g]? = some (.cells #[.string (⟨#[]⟩:ByteArray),.bool false,.int .i64 0,.slice none 0 0,.slice none 0 0,.slice none 0 0] 60 (0,0))) (a:ByteArray) (b:Bool) (c:Int) (v3 v4 v5:Value) :
  ((((((W.setCell ⟨g,0,none⟩ (.string a)).setCell ⟨g,1,none⟩ (.bool b)).setCell ⟨g,2,none⟩ (.int .i64 c)).setCell ⟨g,3,none⟩ v3).setCell ⟨g,4,none⟩ v4).setCell ⟨g,5,none⟩ v5).heap[g]? = some (.cells #[.string a,.bool b,.int .i64 c,v3,v4,v5] 60 (0,0)) :=
 vY (vY (vY (vY (vY (vY (cs':=#[.string a,.bool false,.int .i64 0,.slice none 0 0,.slice none 0 0,.slice none 0 0]) h 0 _ rfl) (cs':=#[.string a,.bool b,.int .i64 0,.slice none 0 0,.slice none 0 0,.slice none 0 0]) 1 _ rfl)
  (cs':=#[.string a,.bool b,.int .i64 c,.slice none 0 0,.slice none 0 0,.slice none 0 0]) 2 _ rfl) (cs':=#[.string a,.bool b,.int .i64 c,v3,.slice none 0 0,.slice none 0 0]) 3 _ rfl) (cs':=#[.string a,.bool b,.int .i64 c,v3,v4,.slice none 0 0]) 4 _ rfl) 5 _ rfl
theorem JK {W0 W:World} {B g:Nat} (h:Below B W0 W) (hg:B ≤ g) (u0 u1 u2 u3 u4 u5:Value) :
  Below B W0 ((((((W.setCell ⟨g,0,none⟩ u0).setCell ⟨g,1,none⟩ u1).setCell ⟨g,2,none⟩ u2).setCell ⟨g,3,none⟩ u3).setCell ⟨g,4,none⟩ u4).setCell ⟨g,5,none⟩ u5) :=
 (((((h.setCell hg _).setCell hg _).setCell hg _).setCell hg _).setCell hg _).setCell hg _
def wM (j:Nat):ByteArray:=⟨(iA.getD j []).toArray⟩
theorem zk5 (j:Nat):(wM j).size ≤ 6:=by
 show ((iA.getD j []).toArray).size ≤ 6
 rw [List.size_toArray,List.getD_eq_getElem?_getD]
 cases h:iA[j]? with
 | none=>simp
 | some x=>exact zX8 x (List.mem_of_getElem? h)
def gT (m:Nat):List yT:=(List.range m).map fun i=>⟨wM (2 * i),(nM (wM (2 * i + 1))).1⟩
theorem zVp (m:Nat):gT (m + 1) = gT m ++ [⟨wM (2 * m),(nM (wM (2 * m + 1))).1⟩]:=by unfold gT;rw [List.range_succ,List.map_append];rfl
theorem zYe (m:Nat):(gT m).length = m:=by simp [gT]
def zWc:pX:=⟨⟨#[83]⟩,true,250,gT 35,[],[]⟩
def Q7:Array Value:=(iA.map fun l=>Value.string ⟨l.toArray⟩).toArray
theorem gU (j:Nat) (h:j < 70):Q7[j]? = some (.string (wM j)):=by
 have hl:j < iA.length:=by rw [zkq];exact h
 unfold Q7 wM
 simp [List.getD_eq_getElem?_getD,hl]
def zX9:List pX:=[zWY,zWW,zWa,zWb,zWc]
def std.T14:Bool × List (List Nat × List Nat):=(true,[([],[]),([0],[0]),([],[]),([],[]),([2,3],[2,3]),([4],[4]),([],[]),([5,6],[5,6]),([7],[7]),([1,8],[1,8]),([0,1,2,3,4,5,6,7,8,9],[]),([10,9,9,0,1,2,3,4,5,6,7,8,9],[9,10])])
theorem std.zeQ:q9 .any (opsOf Tryz.f19 14) = std.T14:=by kernel_rfl
def zgg (W4:World) (g5 bw:Nat) (x:Value) (wr:World):Prop :=
 ∃ (m k:Nat) (u:Value),x = .int .i64 (k:Int) ∧ k = 2 * m ∧ m ≤ 35 ∧ Kd.R vk 105 wr W4.heap.size (fun _=>True) u (gT m) ∧ wr.heap[g5]? = some (.cells #[.string (⟨#[83]⟩:ByteArray),.bool true,.int .i64 250,u,.slice none 0 0,.slice none 0 0] 60 (0,0)) ∧
  wr.heap[bw]? = some (.cells Q7 9 (0,0)) ∧ Below W4.heap.size W4 wr
set_option maxHeartbeats 8000000 in
set_option maxRecDepth 100000 in
theorem zaF (w:World) (hG:GW w):Calls Tryz.prog 19 #[] w fun e w'=>∃ v:Value,e = .returned v ∧ Kd.S Zw 60 w' w.heap.size (fun _=>True) v zX9 ∧ Below w.heap.size w w':=by
 have zci:=Tryz.underlying60
 have HGW:=zk.mk hG
 clear hG
 have zJz:=zk.mk (Below.refl w.heap.size w)
 generalize hW0:w = nO at zJz HGW
 go_enter Tryz.func19,Tryz.ntmps19
 go_wp2_with (first | ((with_reducible refine qY (N:=13) rfl ?_);refine Kd.WQ vk nO.heap.size 105 ?hg (N:=13) ?hd (w0:=nO) (xs:=(pU 550)) (inner:=[.string (⟨#[102,105]⟩:ByteArray),.int .i64 550,.string (⟨#[102,108]⟩:ByteArray),.int .i64 550,.string (⟨#[102,102]⟩:ByteArray),.int .i64 550]) (ok:=fun _=>True) (xU:=fun _=>True) ?hr ?hp (fun _ hk=>hk) trivial zJz.out zJz.out.size (by simp [pU]) ?_;(case hd=>rfl);(case hg=>rfl);(case hr=>first | (go_simp;done) | (go_simp;rfl));(case hp=>exact zkx 550 _ _ _);intro u0 wl hol hbl hgl iB;have HL_:=zk.mk hol;have iD:=zk.mk hbl;have zYf:=zk.mk iB;clear hol hbl hgl iB zJz))
 refine (gP 55 _ Tryz.func55 (by kernel_rfl) rfl wdR zxV (⟨#[82]⟩:ByteArray) 250 nO.heap.size u0 (pU 550) (KI wdR 550) wl iD.out.size HL_.out (by simp [pU]) (zwN wdR 550) (zVm wdR 550)).mono ?_
 rintro e w1 ⟨v1,rfl,hr,hb,-,-⟩
 have HR1:=zk.mk hr
 have HB1:=zk.mk (iD.out.trans hb)
 clear hr hb HL_ iD zYf
 obtain ⟨A1,c1,e1⟩:=Kd.xV HR1.out
 generalize (KI wdR 550).length = n1 at e1
 subst e1
 go_wp2_with (first | ((with_reducible refine qY (N:=1) rfl ?_);refine qm ?hg (N:=1) ?hd (cs:=#[.string (⟨#[]⟩:ByteArray),.bool false,.int .i64 0,.slice none 0 0,.slice none 0 0,.slice none 0 0]) (t:=60) ?hr ?_;(case hd=>rfl);(case hg=>rfl);(case hr=>first | (go_simp;done) | (go_simp;rfl));intro g1 WG w2 hbx hbq;have Yf:=zk.mk hbx;have zWd:=zk.mk hbq;have zJq:=zk.mk WG;clear hbx hbq WG;have zeX:w2.cell? ⟨g1,0,none⟩ = some (.string (⟨#[]⟩:ByteArray)):=(zV Yf.out 0).trans rfl;have zeJ:w2.cell? ⟨g1,1,none⟩ = some (.bool false):=(zV Yf.out 1).trans rfl;have zeV:w2.cell? ⟨g1,2,none⟩ = some (.int .i64 0):=(zV Yf.out 2).trans rfl;have zeK:w2.cell? ⟨g1,3,none⟩ = some (.slice none 0 0):=(zV Yf.out 3).trans rfl;have zeY:w2.cell? ⟨g1,4,none⟩ = some (.slice none 0 0):=(zV Yf.out 4).trans rfl;have zeW:w2.cell? ⟨g1,5,none⟩ = some (.slice none 0 0):=(zV Yf.out 5).trans rfl;have zea:=zy Yf.out 0;have zeb:=zy Yf.out 1;have zec:=zy Yf.out 2;have zed:=zy Yf.out 3;have zee:=zy Yf.out 4;have zef:=zy Yf.out 5))
 have zh:=zk.mk (VI Yf.out (⟨#[82]⟩:ByteArray) false 250 (.slice A1 n1 c1) (.slice none 0 0) (.slice none 0 0))
 have zU:=zk.mk (JK (zWd.out) (Nat.le_of_eq zJq.out.symm) (.string (⟨#[82]⟩:ByteArray)) (.bool false) (.int .i64 250) (.slice A1 n1 c1) (.slice none 0 0) (.slice none 0 0))
 have LG1:=zk.mk (Nat.le_trans HB1.out.size (Nat.le_of_eq zJq.out.symm))
 clear zeX zeJ zeV zeK zeY zeW zea zeb zec zed zee zef
 generalize ((((((w2.setCell ⟨g1,0,none⟩ (.string (⟨#[82]⟩:ByteArray))).setCell ⟨g1,1,none⟩ (.bool false)).setCell ⟨g1,2,none⟩ (.int .i64 250)).setCell ⟨g1,3,none⟩ (.slice A1 n1 c1)).setCell ⟨g1,4,none⟩ (.slice none 0 0)).setCell ⟨g1,5,none⟩ (.slice none 0 0)) = w3 at zh zU ⊢
 have zG:=zk.mk (Kd.jf HR1.out zU.out)
 have yc:=zk.mk (HB1.out.trans (zU.out.mono HB1.out.size))
 clear HR1 HB1 Yf zWd zJq zU
 have XF:=zh
 have HR1:=zG
 have HB1:=yc
 clear zh zG yc
 refine (YN.calls tX w3 rfl).mono ?_
 rintro e w4 ⟨v4,rfl,hr,hb⟩
 have zh:=zk.mk (yY XF.out hb)
 have zG:=zk.mk (Kd.jf HR1.out hb)
 have zU:=zk.mk (Kd.uH hr HB1.out.size)
 have yc:=zk.mk (HB1.out.trans (hb.mono HB1.out.size))
 clear XF HR1 HB1 hr hb
 have XF:=zh
 have HR1:=zG
 have fI:=zU
 have HB1:=yc
 clear zh zG zU yc
 obtain ⟨A4,c4,e4⟩:=Kd.xV fI.out
 generalize tX.length = n4 at e4
 subst e4
 have hq4:w4.cell? ⟨g1,4,none⟩ = some (.slice none 0 0):=(zV XF.out 4).trans rfl
 have zYg:=zy XF.out 4
 go_wp2_with (first | ((with_reducible refine qY (N:=22) rfl ?_);have zh:=zk.mk (vY (cs':=#[.string (⟨#[82]⟩:ByteArray),.bool false,.int .i64 250,.slice A1 n1 c1,.slice A4 n4 c4,.slice none 0 0]) XF.out 4 (.slice A4 n4 c4) rfl);have zG:=zk.mk (Kd.YF HR1.out XF.out (by decide) 4 (.slice A4 n4 c4));have zU:=zk.mk (Kd.YF fI.out XF.out (by decide) 4 (.slice A4 n4 c4));have yc:=zk.mk (HB1.out.setCell (p:=⟨g1,4,none⟩) LG1.out (.slice A4 n4 c4));clear XF HR1 fI HB1 hq4 zYg;have XF:=zh;have HR1:=zG;have fI:=zU;have HB1:=yc;clear zh zG zU yc;generalize w4.setCell ⟨g1,4,none⟩ (.slice A4 n4 c4) = w5 at XF HR1 fI HB1 ⊢;refine Kd.WQ jE nO.heap.size 111 ?hg (N:=22) ?hd (w0:=nO) (xs:=KL) (inner:=[.string (⟨#[65]⟩:ByteArray),.string (⟨#[86]⟩:ByteArray),.int .i64 (-80),.string (⟨#[65]⟩:ByteArray),.string (⟨#[87]⟩:ByteArray),.int .i64 (-60),.string (⟨#[84]⟩:ByteArray),.string (⟨#[111]⟩:ByteArray),.int .i64 (-70),.string (⟨#[86]⟩:ByteArray),.string (⟨#[65]⟩:ByteArray),.int .i64 (-80),.string (⟨#[89]⟩:ByteArray),.string (⟨#[111]⟩:ByteArray),.int .i64 (-90)]) (ok:=fun _=>True) (xU:=fun _=>True) ?hr ?hp (fun _ hk=>hk) trivial HB1.out HB1.out.size (by simp [KL]) ?_;(case hd=>rfl);(case hg=>rfl);(case hr=>first | (go_simp;done) | (go_simp;rfl));(case hp=>exact zVo _ _ _);intro v5 wk hol hbl hgl iB;obtain ⟨A5,c5,e5⟩:=Kd.xV hol;generalize KL.length = n5 at e5;subst e5;have zh:=zk.mk (pQ XF.out hgl (by simp));have zG:=zk.mk (Kd.r9 HR1.out hgl (fun _ _=>by simp));have zU:=zk.mk (Kd.r9 fI.out hgl (fun _ _=>by simp));have yc:=zk.mk hol;have xJ:=zk.mk hbl;clear XF HR1 fI HB1 hol hbl hgl iB;have XF:=zh;have HR1:=zG;have fI:=zU;have vQ:=yc;have HB1:=xJ;clear zh zG zU yc xJ;have hq5:wk.cell? ⟨g1,5,none⟩ = some (.slice none 0 0):=(zV XF.out 5).trans rfl;have zgh:=zy XF.out 5))
 have zh:=zk.mk (vY (cs':=#[.string (⟨#[82]⟩:ByteArray),.bool false,.int .i64 250,.slice A1 n1 c1,.slice A4 n4 c4,.slice A5 n5 c5]) XF.out 5 (.slice A5 n5 c5) rfl)
 have zG:=zk.mk (Kd.YF HR1.out XF.out (by decide) 5 (.slice A5 n5 c5))
 have zU:=zk.mk (Kd.YF fI.out XF.out (by decide) 5 (.slice A5 n5 c5))
 have yc:=zk.mk (Kd.YF vQ.out XF.out (by decide) 5 (.slice A5 n5 c5))
 have xJ:=zk.mk (HB1.out.setCell (p:=⟨g1,5,none⟩) LG1.out (.slice A5 n5 c5))
 clear XF HR1 fI vQ HB1 hq5 zgh
 generalize wk.setCell ⟨g1,5,none⟩ (.slice A5 n5 c5) = W1_ at zh zG zU yc xJ ⊢
 have FB1:=zk.mk (FB.mk zWY zh.out LG1.out zG.out zU.out yc.out)
 have BW0:=zk.mk xJ.out
 clear zh zG zU yc xJ LG1
 refine (gP 57 _ Tryz.func57 (by kernel_rfl) rfl wdI zaC (⟨#[73]⟩:ByteArray) 250 W1_.heap.size (.slice none 0 0) [] (pO wdI 127) W1_ (Nat.le_refl _) (Kd.kC _ _ _ _ _) (by simp [pU]) (by rw [List.nil_append]) (zVn wdI)).mono ?_
 rintro e w6 ⟨v6,rfl,hr,hb,-,-⟩
 have HR2:=zk.mk hr
 have HB2:=zk.mk hb
 clear hr hb
 obtain ⟨A6,c6,e6⟩:=Kd.xV HR2.out
 generalize (pO wdI 127).length = n6 at e6
 subst e6
 go_wp2_with (first | ((with_reducible refine qY (N:=2) rfl ?_);refine qm ?hg (N:=2) ?hd (cs:=#[.string (⟨#[]⟩:ByteArray),.bool false,.int .i64 0,.slice none 0 0,.slice none 0 0,.slice none 0 0]) (t:=60) ?hr ?_;(case hd=>rfl);(case hg=>rfl);(case hr=>first | (go_simp;done) | (go_simp;rfl));intro g2 WG w7 hbx hbq;have Yg:=zk.mk hbx;have zWe:=zk.mk hbq;have zJx:=zk.mk WG;clear hbx hbq WG;have zeg:w7.cell? ⟨g2,0,none⟩ = some (.string (⟨#[]⟩:ByteArray)):=(zV Yg.out 0).trans rfl;have zeh:w7.cell? ⟨g2,1,none⟩ = some (.bool false):=(zV Yg.out 1).trans rfl;have zei:w7.cell? ⟨g2,2,none⟩ = some (.int .i64 0):=(zV Yg.out 2).trans rfl;have zel:w7.cell? ⟨g2,3,none⟩ = some (.slice none 0 0):=(zV Yg.out 3).trans rfl;have zem:w7.cell? ⟨g2,4,none⟩ = some (.slice none 0 0):=(zV Yg.out 4).trans rfl;have zen:w7.cell? ⟨g2,5,none⟩ = some (.slice none 0 0):=(zV Yg.out 5).trans rfl;have zeo:=zy Yg.out 0;have zep:=zy Yg.out 1;have zer:=zy Yg.out 2;have zes:=zy Yg.out 3;have zet:=zy Yg.out 4;have zeu:=zy Yg.out 5) | ((with_reducible refine qY (N:=28) rfl ?_);have zh:=zk.mk (VI Yg.out (⟨#[73]⟩:ByteArray) false 250 (.slice A6 n6 c6) (.slice none 0 0) (.slice none 0 0));have zU:=zk.mk (JK (zWe.out) (Nat.le_of_eq zJx.out.symm) (.string (⟨#[73]⟩:ByteArray)) (.bool false) (.int .i64 250) (.slice A6 n6 c6) (.slice none 0 0) (.slice none 0 0));have LG2:=zk.mk (Nat.le_trans HB2.out.size (Nat.le_of_eq zJx.out.symm));clear zeg zeh zei zel zem zen zeo zep zer zes zet zeu;generalize ((((((w7.setCell ⟨g2,0,none⟩ (.string (⟨#[73]⟩:ByteArray))).setCell ⟨g2,1,none⟩ (.bool false)).setCell ⟨g2,2,none⟩ (.int .i64 250)).setCell ⟨g2,3,none⟩ (.slice A6 n6 c6)).setCell ⟨g2,4,none⟩ (.slice none 0 0)).setCell ⟨g2,5,none⟩ (.slice none 0 0)) = W2_ at zh zU ⊢;have FB2:=zk.mk (FB.mk zWW zh.out LG2.out (Kd.jf HR2.out zU.out) (Kd.kC _ _ _ _ _) (Kd.kC _ _ _ _ _));have BW1:=zk.mk (HB2.out.trans (zU.out.mono HB2.out.size));clear HR2 HB2 Yg zWe zJx LG2 zh zU;refine Kd.WQ vk W2_.heap.size 105 ?hg (N:=28) ?hd (w0:=W2_) (xs:=(pU 600)) (inner:=[.string (⟨#[102,105]⟩:ByteArray),.int .i64 600,.string (⟨#[102,108]⟩:ByteArray),.int .i64 600,.string (⟨#[102,102]⟩:ByteArray),.int .i64 600]) (ok:=fun _=>True) (xU:=fun _=>True) ?hr ?hp (fun _ hk=>hk) trivial (Below.refl _ _) (Nat.le_refl _) (by simp [pU]) ?_;(case hd=>rfl);(case hg=>rfl);(case hr=>first | (go_simp;done) | (go_simp;rfl));(case hp=>exact zkx 600 _ _ _);intro u0 wl hol hbl hgl iB;have HL_:=zk.mk hol;have iD:=zk.mk hbl;have zYf:=zk.mk iB;clear hol hbl hgl iB))
 refine (gP 58 _ Tryz.func58 (by kernel_rfl) rfl wdB zaD (⟨#[66]⟩:ByteArray) 250 W2_.heap.size u0 (pU 600) (KI wdB 600) wl iD.out.size HL_.out (by simp [pU]) (zwN wdB 600) (zVm wdB 600)).mono ?_
 rintro e w9 ⟨v9,rfl,hr,hb,-,-⟩
 have HR3:=zk.mk hr
 have HB3:=zk.mk (iD.out.trans hb)
 clear hr hb HL_ iD zYf
 obtain ⟨A9,c9,e9⟩:=Kd.xV HR3.out
 generalize (KI wdB 600).length = n9 at e9
 subst e9
 go_wp2_with (first | ((with_reducible refine qY (N:=3) rfl ?_);refine qm ?hg (N:=3) ?hd (cs:=#[.string (⟨#[]⟩:ByteArray),.bool false,.int .i64 0,.slice none 0 0,.slice none 0 0,.slice none 0 0]) (t:=60) ?hr ?_;(case hd=>rfl);(case hg=>rfl);(case hr=>first | (go_simp;done) | (go_simp;rfl));intro g3 WG JX hbx hbq;have Yh:=zk.mk hbx;have zWf:=zk.mk hbq;have zJj:=zk.mk WG;clear hbx hbq WG;have zeA:JX.cell? ⟨g3,0,none⟩ = some (.string (⟨#[]⟩:ByteArray)):=(zV Yh.out 0).trans rfl;have zeB:JX.cell? ⟨g3,1,none⟩ = some (.bool false):=(zV Yh.out 1).trans rfl;have zeC:JX.cell? ⟨g3,2,none⟩ = some (.int .i64 0):=(zV Yh.out 2).trans rfl;have zeD:JX.cell? ⟨g3,3,none⟩ = some (.slice none 0 0):=(zV Yh.out 3).trans rfl;have zeE:JX.cell? ⟨g3,4,none⟩ = some (.slice none 0 0):=(zV Yh.out 4).trans rfl;have zeF:JX.cell? ⟨g3,5,none⟩ = some (.slice none 0 0):=(zV Yh.out 5).trans rfl;have zeG:=zy Yh.out 0;have zeH:=zy Yh.out 1;have zeI:=zy Yh.out 2;have zeL:=zy Yh.out 3;have zeM:=zy Yh.out 4;have zeN:=zy Yh.out 5))
 have zh:=zk.mk (VI Yh.out (⟨#[66]⟩:ByteArray) false 250 (.slice A9 n9 c9) (.slice none 0 0) (.slice none 0 0))
 have zU:=zk.mk (JK (zWf.out) (Nat.le_of_eq zJj.out.symm) (.string (⟨#[66]⟩:ByteArray)) (.bool false) (.int .i64 250) (.slice A9 n9 c9) (.slice none 0 0) (.slice none 0 0))
 have LG3:=zk.mk (Nat.le_trans HB3.out.size (Nat.le_of_eq zJj.out.symm))
 clear zeA zeB zeC zeD zeE zeF zeG zeH zeI zeL zeM zeN
 generalize ((((((JX.setCell ⟨g3,0,none⟩ (.string (⟨#[66]⟩:ByteArray))).setCell ⟨g3,1,none⟩ (.bool false)).setCell ⟨g3,2,none⟩ (.int .i64 250)).setCell ⟨g3,3,none⟩ (.slice A9 n9 c9)).setCell ⟨g3,4,none⟩ (.slice none 0 0)).setCell ⟨g3,5,none⟩ (.slice none 0 0)) = fK at zh zU ⊢
 have zG:=zk.mk (Kd.jf HR3.out zU.out)
 have yc:=zk.mk (HB3.out.trans (zU.out.mono HB3.out.size))
 clear HR3 HB3 Yh zWf zJj zU
 have BX3:=zh
 have HR3:=zG
 have HB3:=yc
 clear zh zG yc
 refine (YN.calls tX fK rfl).mono ?_
 rintro e Kn ⟨v12,rfl,hr,hb⟩
 have zh:=zk.mk (yY BX3.out hb)
 have zG:=zk.mk (Kd.jf HR3.out hb)
 have zU:=zk.mk (Kd.uH hr HB3.out.size)
 have yc:=zk.mk (HB3.out.trans (hb.mono HB3.out.size))
 clear BX3 HR3 HB3 hr hb
 have BX3:=zh
 have HR3:=zG
 have HL3:=zU
 have HB3:=yc
 clear zh zG zU yc
 obtain ⟨A12,c12,e12⟩:=Kd.xV HL3.out
 generalize tX.length = n12 at e12
 subst e12
 have hq4:Kn.cell? ⟨g3,4,none⟩ = some (.slice none 0 0):=(zV BX3.out 4).trans rfl
 have zYg:=zy BX3.out 4
 go_wp2_with fail
 have zh:=zk.mk (vY (cs':=#[.string (⟨#[66]⟩:ByteArray),.bool false,.int .i64 250,.slice A9 n9 c9,.slice A12 n12 c12,.slice none 0 0]) BX3.out 4 (.slice A12 n12 c12) rfl)
 have zG:=zk.mk (Kd.YF HR3.out BX3.out (by decide) 4 (.slice A12 n12 c12))
 have zU:=zk.mk (Kd.YF HL3.out BX3.out (by decide) 4 (.slice A12 n12 c12))
 have yc:=zk.mk (HB3.out.setCell (p:=⟨g3,4,none⟩) LG3.out (.slice A12 n12 c12))
 clear BX3 HR3 HL3 HB3 hq4 zYg
 generalize Kn.setCell ⟨g3,4,none⟩ (.slice A12 n12 c12) = W3_ at zh zG zU yc ⊢
 have FB3:=zk.mk (FB.mk zWa zh.out LG3.out zG.out zU.out (Kd.kC _ _ _ _ _))
 have BW2:=zk.mk yc.out
 clear zh zG zU yc LG3
 refine (gP 59 _ Tryz.func59 (by kernel_rfl) rfl wdM zaE (⟨#[77]⟩:ByteArray) 600 W3_.heap.size (.slice none 0 0) [] (pO wdM 127) W3_ (Nat.le_refl _) (Kd.kC _ _ _ _ _) (by simp [pU]) (by rw [List.nil_append]) (zVn wdM)).mono ?_
 rintro e w13 ⟨v13,rfl,hr,hb,-,-⟩
 have HR4:=zk.mk hr
 have HB4:=zk.mk hb
 clear hr hb
 obtain ⟨A13,c13,e13⟩:=Kd.xV HR4.out
 generalize (pO wdM 127).length = n13 at e13
 subst e13
 go_wp2_with (first | ((with_reducible refine qY (N:=4) rfl ?_);refine qm ?hg (N:=4) ?hd (cs:=#[.string (⟨#[]⟩:ByteArray),.bool false,.int .i64 0,.slice none 0 0,.slice none 0 0,.slice none 0 0]) (t:=60) ?hr ?_;(case hd=>rfl);(case hg=>rfl);(case hr=>first | (go_simp;done) | (go_simp;rfl));intro g4 WG w14 hbx hbq;have Yi:=zk.mk hbx;have zWg:=zk.mk hbq;have zJv:=zk.mk WG;clear hbx hbq WG;have zeO:w14.cell? ⟨g4,0,none⟩ = some (.string (⟨#[]⟩:ByteArray)):=(zV Yi.out 0).trans rfl;have zeP:w14.cell? ⟨g4,1,none⟩ = some (.bool false):=(zV Yi.out 1).trans rfl;have zeR:w14.cell? ⟨g4,2,none⟩ = some (.int .i64 0):=(zV Yi.out 2).trans rfl;have zeS:w14.cell? ⟨g4,3,none⟩ = some (.slice none 0 0):=(zV Yi.out 3).trans rfl;have zeT:w14.cell? ⟨g4,4,none⟩ = some (.slice none 0 0):=(zV Yi.out 4).trans rfl;have zeU:w14.cell? ⟨g4,5,none⟩ = some (.slice none 0 0):=(zV Yi.out 5).trans rfl;have ze0:=zy Yi.out 0;have ze1:=zy Yi.out 1;have ze2:=zy Yi.out 2;have ze3:=zy Yi.out 3;have ze4:=zy Yi.out 4;have ze5:=zy Yi.out 5) | ((with_reducible refine qY (N:=5) rfl ?_);have zh:=zk.mk (VI Yi.out (⟨#[77]⟩:ByteArray) false 600 (.slice A13 n13 c13) (.slice none 0 0) (.slice none 0 0));have zU:=zk.mk (JK (zWg.out) (Nat.le_of_eq zJv.out.symm) (.string (⟨#[77]⟩:ByteArray)) (.bool false) (.int .i64 600) (.slice A13 n13 c13) (.slice none 0 0) (.slice none 0 0));have LG4:=zk.mk (Nat.le_trans HB4.out.size (Nat.le_of_eq zJv.out.symm));clear zeO zeP zeR zeS zeT zeU ze0 ze1 ze2 ze3 ze4 ze5;generalize ((((((w14.setCell ⟨g4,0,none⟩ (.string (⟨#[77]⟩:ByteArray))).setCell ⟨g4,1,none⟩ (.bool false)).setCell ⟨g4,2,none⟩ (.int .i64 600)).setCell ⟨g4,3,none⟩ (.slice A13 n13 c13)).setCell ⟨g4,4,none⟩ (.slice none 0 0)).setCell ⟨g4,5,none⟩ (.slice none 0 0)) = nP at zh zU ⊢;have FB4:=zk.mk (FB.mk zWb zh.out LG4.out (Kd.jf HR4.out zU.out) (Kd.kC _ _ _ _ _) (Kd.kC _ _ _ _ _));have BW3:=zk.mk (HB4.out.trans (zU.out.mono HB4.out.size));clear HR4 HB4 Yi zWg zJv LG4 zh zU;refine qm ?hg (N:=5) ?hd (cs:=#[.string (⟨#[]⟩:ByteArray),.bool false,.int .i64 0,.slice none 0 0,.slice none 0 0,.slice none 0 0]) (t:=60) ?hr ?_;(case hd=>rfl);(case hg=>rfl);(case hr=>first | (go_simp;done) | (go_simp;rfl));intro g5 WG Yd hbx hbq;have Yl:=zk.mk hbx;have zWh:=zk.mk hbq;have zJk:=zk.mk WG;clear hbx hbq WG;have ze6:Yd.cell? ⟨g5,0,none⟩ = some (.string (⟨#[]⟩:ByteArray)):=(zV Yl.out 0).trans rfl;have ze7:Yd.cell? ⟨g5,1,none⟩ = some (.bool false):=(zV Yl.out 1).trans rfl;have ze8:Yd.cell? ⟨g5,2,none⟩ = some (.int .i64 0):=(zV Yl.out 2).trans rfl;have ze9:Yd.cell? ⟨g5,3,none⟩ = some (.slice none 0 0):=(zV Yl.out 3).trans rfl;have zfz:Yd.cell? ⟨g5,4,none⟩ = some (.slice none 0 0):=(zV Yl.out 4).trans rfl;have zfq:Yd.cell? ⟨g5,5,none⟩ = some (.slice none 0 0):=(zV Yl.out 5).trans rfl;have zfx:=zy Yl.out 0;have zfj:=zy Yl.out 1;have zfv:=zy Yl.out 2;have zfk:=zy Yl.out 3;have zfy:=zy Yl.out 4;have zfw:=zy Yl.out 5))
 have zh:=zk.mk (VI Yl.out (⟨#[83]⟩:ByteArray) true 250 (.slice none 0 0) (.slice none 0 0) (.slice none 0 0))
 have zU:=zk.mk (JK (zWh.out) (Nat.le_of_eq zJk.out.symm) (.string (⟨#[83]⟩:ByteArray)) (.bool true) (.int .i64 250) (.slice none 0 0) (.slice none 0 0) (.slice none 0 0))
 have LG5:=zk.mk (Nat.le_of_eq zJk.out.symm)
 clear ze6 ze7 ze8 ze9 zfz zfq zfx zfj zfv zfk zfy zfw
 generalize ((((((Yd.setCell ⟨g5,0,none⟩ (.string (⟨#[83]⟩:ByteArray))).setCell ⟨g5,1,none⟩ (.bool true)).setCell ⟨g5,2,none⟩ (.int .i64 250)).setCell ⟨g5,3,none⟩ (.slice none 0 0)).setCell ⟨g5,4,none⟩ (.slice none 0 0)).setCell ⟨g5,5,none⟩ (.slice none 0 0)) = w16 at zh zU ⊢
 clear Yl zWh zJk
 have BX5:=zh
 have HB5:=zU
 clear zh zU
 have GWS:=zk.mk (HGW.out.under (BW0.out.trans ((BW1.out.mono BW0.out.size).trans ((BW2.out.mono (Nat.le_trans BW0.out.size BW1.out.size)).trans (BW3.out.mono (Nat.le_trans BW0.out.size (Nat.le_trans BW1.out.size BW2.out.size)))))))
 refine (Tryz.strings_Fields tQ w16 (by decide +kernel) zk4 (GWS.out.under HB5.out).spc).mono ?_
 rintro e fu ⟨rfl,zkj⟩
 have hlen:(Lib.fields tQ.data.toList).length = 70:=zkq
 rw [hlen]
 clear hlen
 have hcw:((Lib.fields tQ.data.toList).map fun l=>Value.string ⟨l.toArray⟩).toArray = Q7:=rfl
 rw [hcw] at zkj
 have BKW:=zk.mk (show fu.heap[w16.heap.size]? = some (.cells Q7 9 (0,0)) by rw [zkj];exact uV _ _)
 have zh:=kN BX5.out (.cells Q7 9)
 rw [← zkj] at zh
 have zG:=zk.mk (show Below nP.heap.size nP fu by rw [zkj];exact HB5.out.alloc HB5.out.size _)
 clear BX5 HB5 zkj hcw
 have BX5:=zk.mk zh
 have HB5:=zG
 clear zh zG
 generalize w16.heap.size = bw at BKW ⊢
 go_wp2
 go_loopw [7,8,9] (fun x y z wr=>zgg nP g5 bw x wr) (fun x y z _=>70 - (intOf x).toNat)
 case atStart=>exact ⟨0,0,_,rfl,rfl,by omega,Kd.kC _ _ _ _ _,BX5.out,BKW.out,HB5.out⟩
 case round =>
  obtain ⟨m,k,u,rfl,hk0,hm,qA,BX0,BK0,HB0⟩:=hrel
  have HKK:=zk.mk hk0
  have hkm:k ≤ 2 * m:=by omega
  have hmk:2 * m ≤ k:=by omega
  clear hk0
  have wh:=zk.mk qA
  have BX:=zk.mk BX0
  have BK:=zk.mk BK0
  have pR:=zk.mk HB0
  clear qA BX0 BK0 HB0 BX5 BKW HB5
  by_cases hlt:m < 35
  ·have q1:decide ((k:Int) < 70) = true:=decide_eq_true (by omega)
   have q2:IntKind.i64.wrap ((k:Int) + 1) = (k:Int) + 1:=IntWalk.i64_in _ (by omega)
   have hcell:wr.cell? ⟨bw,k + 1,none⟩ = some (.string (wM (k + 1))):=(zV BK.out _).trans (gU _ (by omega))
   go_wp2_with fail
   have zcC:=zX5 (wM (k + 1)) wr (by have:=zk5 (k + 1);omega) (GWS.out.under pR.out)
   refine zcC.mono ?_
   rintro e KG ⟨rfl,hb⟩
   clear zcC hcell q2
   have zh:=zk.mk (Kd.lF (Kd.jf wh.out hb))
   have zG:=zk.mk (KY (yY BX.out hb))
   have zU:=zk.mk (KY (yY BK.out hb))
   have yc:=zk.mk ((pR.out.trans (hb.mono pR.out.size)).drew)
   clear wh BX BK pR hb
   have wh:=zh
   have BX:=zG
   have BK:=zU
   have pR:=yc
   clear zh zG zU yc
   have zYh:k < 70:=by omega
   have q5:((k:Int) < 70) = True:=eq_true (by omega)
   go_wp2
   refine pG (n:=12) (S:=fun w'=>w'.cell? ⟨g5,3,none⟩ = some u ∧ w'.cell? ⟨bw,k,none⟩ = some (.string (wM k))) (ds:=[11]) #[false,false,false,false,false,false,false,false,false,false,false,false] (by kernel_rfl) rfl rfl ⟨(zV BX.out 3).trans rfl,(zV BK.out _).trans (gU _ zYh)⟩ (fun hHeld=>?_)
   refine gV std.zeQ (fun yP=>?_)
   generalize KG.drew = w16 at wh BX BK pR hHeld ⊢
   refine xk (i:=0) (N:=some 50) (v:=?_) (a':=?_) #[true,false,false,false,false,false,false,false,false,false,false,false] rfl rfl (qD yP.out (by kernel_rfl)) (fun _ _ _ h=>h) (Or.inl ⟨by rfl,?_⟩) ?_ ?_
   rotate_left
   ·intro w'
    go_simp
    with_reducible rfl
   rotate_left
   ·simp only [Act.put,List.setIfInBounds_toArray,List.set_cons_zero,List.set_cons_succ]
    rfl
   refine xk (i:=2) (N:=some 52) (v:=?_) (a':=?_) #[true,false,true,false,false,false,false,false,false,false,false,false] rfl rfl (qD yP.out (by kernel_rfl)) (fun _ _ _ h=>h) (Or.inl ⟨by rfl,?_⟩) ?_ ?_
   rotate_left
   ·intro w'
    go_simp
    with_reducible rfl
   rotate_left
   ·simp only [Act.put,List.setIfInBounds_toArray,List.set_cons_zero,List.set_cons_succ]
    rfl
   refine xk (i:=3) (N:=some 53) (v:=?_) (a':=?_) #[true,false,true,true,false,false,false,false,false,false,false,false] rfl rfl (qD yP.out (by kernel_rfl)) (fun _ _ _ h=>h) (Or.inl ⟨by rfl,?_⟩) ?_ ?_
   rotate_left
   ·intro w'
    go_simp
    with_reducible rfl
   rotate_left
   ·simp only [Act.put,List.setIfInBounds_toArray,List.set_cons_zero,List.set_cons_succ]
    rfl
   refine xk (i:=4) (N:=some 54) (v:=?_) (a':=?_) #[true,false,true,true,true,false,false,false,false,false,false,false] rfl rfl (qD yP.out (by kernel_rfl)) (fun _ _ _ h=>h) (Or.inl ⟨by rfl,?_⟩) ?_ ?_
   rotate_left
   ·intro w'
    go_simp
    with_reducible rfl
   rotate_left
   ·simp only [Act.put,List.setIfInBounds_toArray,List.set_cons_zero,List.set_cons_succ]
    rfl
   refine xk (i:=6) (N:=some 56) (v:=?_) (a':=?_) #[true,false,true,true,true,false,true,false,false,false,false,false] rfl rfl (qD yP.out (by kernel_rfl)) (fun _ _ _ h=>h) (Or.inl ⟨by rfl,?_⟩) ?_ ?_
   rotate_left
   ·intro w'
    go_simp
    with_reducible rfl
   rotate_left
   ·simp only [Act.put,List.setIfInBounds_toArray,List.set_cons_zero,List.set_cons_succ]
    rfl
   refine XL (i:=1) (N:=some 51) (v:=?_) (a':=?_) #[true,true,true,true,true,false,true,false,false,false,false,false] rfl rfl (sZ yP.out (by kernel_rfl)) (fun _ _ _ h=>h) (Or.inl ⟨by rfl,?_⟩) hHeld ?_ ?_
   rotate_left
   ·rintro w' ⟨s0,s1⟩
    go_simp
    with_reducible rfl
   rotate_left
   ·simp only [Act.put,List.setIfInBounds_toArray,List.set_cons_zero,List.set_cons_succ]
    rfl
   refine XL (i:=5) (N:=some 55) (v:=?_) (a':=?_) #[true,true,true,true,true,true,true,false,false,false,false,false] rfl rfl (sZ yP.out (by kernel_rfl)) (fun _ _ _ h=>h) (Or.inl ⟨by rfl,?_⟩) hHeld ?_ ?_
   rotate_left
   ·rintro w' ⟨s0,s1⟩
    go_simp
    with_reducible rfl
   rotate_left
   ·simp only [Act.put,List.setIfInBounds_toArray,List.set_cons_zero,List.set_cons_succ]
    rfl
   refine xk (i:=7) (N:=some 57) (v:=?_) (a':=?_) #[true,true,true,true,true,true,true,true,false,false,false,false] rfl rfl (qD yP.out (by kernel_rfl)) (fun _ _ _ h=>h) (Or.inl ⟨by rfl,?_⟩) ?_ ?_
   rotate_left
   ·intro w'
    go_simp
    with_reducible rfl
   rotate_left
   ·simp only [Act.put,List.setIfInBounds_toArray,List.set_cons_zero,List.set_cons_succ]
    rfl
   refine Yr (i:=8) (N:=some 58) #[true,true,true,true,true,true,true,true,true,false,false,false] rfl rfl (jY yP.out (by kernel_rfl)) (by decide) (fun K hK=>?_)
   refine lN (w1:=?_) (v:=?_) (by rfl) rfl ?_ ?_
   rotate_left 2
   ·go_simp
    constructor
    ·rfl
    ·rfl
   refine hK.out _ _ ⟨(zV (kN BX.out _) 3).trans rfl,(zV (kN BK.out _) _).trans (gU _ zYh)⟩ (fun hHeld=>?_)
   clear hK K
   refine YI (a':=?_) ?_ ?_
   rotate_left
   ·show Act.put _ (some 58) _ = _
    simp only [Act.put,List.setIfInBounds_toArray,List.set_cons_zero,List.set_cons_succ]
    rfl
   refine Yr (i:=9) (N:=some 59) #[true,true,true,true,true,true,true,true,true,true,false,false] rfl rfl (jY yP.out (by kernel_rfl)) (by decide) (fun K hK=>?_)
   refine Kd.XM vk (w0:=nP) nP.heap.size (by rfl) (.tmp 51) (.tmp 58) 56 105 (.agg #[(.string ⟨#[]⟩),(.int .i64 0)]) 24 rfl Tryz.underlying56 zwL rfl (by decide) (by omega) u (gT m) (⟨wM k,(nM (wM (k + 1))).1⟩:yT) [.string (wM k),.int .i64 (nM (wM (k + 1))).1] (fun _=>True) (fun _=>False) rfl rfl ?aP (fun _ hk=>hk.elim) ?aF ?aO ?aB ?aS ?aL ?_
   (case aP=>exact V6 _ _ _ (⟨wM k,(nM (wM (k + 1))).1⟩:yT))
   (case aF=>exact (fun _ _=>trivial))
   (case aO=>exact wh.out)
   (case aB=>exact pR.out)
   (case aS=>exact pR.out.size)
   (case aL=>rw [zYe];omega)
   intro v1 KG ho hb hg hat
   rw [HKK.out,← zVp] at ho
   obtain ⟨Ao,co,eo⟩:=Kd.xV ho
   subst eo
   generalize (gT (m + 1)).length = nn at ho hat ⊢
   have zh:=zk.mk (pQ BX.out hg (Kd.mP wh.out BX.out (by decide)))
   have zG:=zk.mk (pQ BK.out hg (Kd.mP wh.out BK.out (by decide)))
   have zU:=zk.mk hb
   have yc:=zk.mk ho
   clear BX BK pR wh ho hb hg hat hHeld
   have BX:=zh
   have BK:=zG
   have pR:=zU
   have wh:=yc
   clear zh zG zU yc
   refine hK.out _ _ ⟨(zV BX.out 3).trans rfl,(zV BK.out _).trans (gU _ zYh)⟩ (fun hHeld=>?_)
   clear hK K
   refine YI (a':=?_) ?_ ?_
   rotate_left
   ·show Act.put _ (some 59) _ = _
    simp only [Act.put,List.setIfInBounds_toArray,List.set_cons_zero,List.set_cons_succ]
    rfl
   refine xk (i:=10) (N:=some 60) (v:=?_) (a':=?_) #[true,true,true,true,true,true,true,true,true,true,true,false] rfl rfl (qD yP.out (by kernel_rfl)) (fun _ _ _ h=>h) (Or.inl ⟨by rfl,?_⟩) ?_ ?_
   rotate_left
   ·intro w'
    go_simp
    with_reducible rfl
   rotate_left
   ·simp only [Act.put,List.setIfInBounds_toArray,List.set_cons_zero,List.set_cons_succ]
    rfl
   refine sj (i:=11) (N:=none) #[true,true,true,true,true,true,true,true,true,true,true,true] rfl rfl (jY yP.out (by kernel_rfl)) (by decide) (fun K hK=>?_)
   have zYb:KG.cell? ⟨g5,3,none⟩ = some u:=(zV BX.out 3).trans rfl
   have zX4:=zy BX.out 3
   refine WJ (w1:=?_) (by rfl) rfl ?_ ?_
   rotate_left
   ·go_simp
    rfl
   refine hK.out _ _ ?_
   clear hK K
   refine um (xK yP.out (by kernel_rfl)) ?_
   have zh:=zk.mk (vY (cs':=#[.string (⟨#[83]⟩:ByteArray),.bool true,.int .i64 250,.slice Ao nn co,.slice none 0 0,.slice none 0 0]) BX.out 3 (.slice Ao nn co) rfl)
   have zG:=zk.mk (QW BK.out (p:=⟨g5,3,none⟩) (zbD BK.out BX.out (by decide)) (.slice Ao nn co))
   have zU:=zk.mk (pR.out.setCell (p:=⟨g5,3,none⟩) LG5.out (.slice Ao nn co))
   have yc:=zk.mk (Kd.YF wh.out BX.out (by decide) 3 (.slice Ao nn co))
   clear BX BK pR wh hHeld zYb zX4
   generalize KG.setCell ⟨g5,3,none⟩ (.slice Ao nn co) = w19 at zh zG zU yc ⊢
   have q4:IntKind.i64.wrap ((k:Int) + 2) = ((k + 2:Nat):Int):=(IntWalk.i64_in _ (by omega)).trans (by omega)
   go_wp2
   go_roundw
   case rel=>exact ⟨m + 1,k + 2,.slice Ao nn co,by first | rfl | (rw [q4];done) | (simp;done),by have:=HKK.out;omega,by omega,yc.out,zh.out,zG.out,zU.out⟩
   case measure=>first | (simp [intOf];omega) | (rw [q4];simp [intOf];omega)
  ·have zcD:m = 35:=by omega
   have q1:decide ((k:Int) < 70) = false:=decide_eq_false (by omega)
   have hR5:=wh.out
   rw [zcD] at hR5
   have BC3:=BW3.out.trans (pR.out.mono BW3.out.size)
   have BC2:=BW2.out.trans (BC3.mono BW2.out.size)
   have BC1:=BW1.out.trans (BC2.mono BW1.out.size)
   have BC0:=BW0.out.trans (BC1.mono BW0.out.size)
   obtain ⟨Aa1,na1,ca1,Ab1,nb1,cb1,Ac1,nc1,cc1,bk1,KM1⟩:=(FB1.out.keep BC1).cells
   obtain ⟨Aa2,na2,ca2,Ab2,nb2,cb2,Ac2,nc2,cc2,bk2,KM2⟩:=(FB2.out.keep BC2).cells
   obtain ⟨Aa3,na3,ca3,Ab3,nb3,cb3,Ac3,nc3,cc3,bk3,KM3⟩:=(FB3.out.keep BC3).cells
   obtain ⟨Aa4,na4,ca4,Ab4,nb4,cb4,Ac4,nc4,cc4,bk4,KM4⟩:=(FB4.out.keep pR.out).cells
   obtain ⟨Aa5,na5,ca5,Ab5,nb5,cb5,Ac5,nc5,cc5,bk5,KM5⟩:=(FB.mk zWc BX.out LG5.out hR5 (Kd.kC _ _ _ _ _) (Kd.kC _ _ _ _ _)).cells
   have BCA:=zk.mk BC0
   have KA1:=zk.mk KM1
   have KA2:=zk.mk KM2
   have KA3:=zk.mk KM3
   have KA4:=zk.mk KM4
   have KA5:=zk.mk KM5
   have S0:=zk.mk BW0.out.size
   have S1:=zk.mk BW1.out.size
   have S2:=zk.mk BW2.out.size
   have S3:=zk.mk BW3.out.size
   have S4:=zk.mk pR.out.size
   have zgi:wr.cell? ⟨g1,0,none⟩ = some (.string (⟨#[82]⟩:ByteArray)):=(zV bk1 0).trans rfl
   have zgl:wr.cell? ⟨g1,1,none⟩ = some (.bool false):=(zV bk1 1).trans rfl
   have zgm:wr.cell? ⟨g1,2,none⟩ = some (.int .i64 250):=(zV bk1 2).trans rfl
   have zgn:wr.cell? ⟨g1,3,none⟩ = some (.slice Aa1 na1 ca1):=(zV bk1 3).trans rfl
   have zgo:wr.cell? ⟨g1,4,none⟩ = some (.slice Ab1 nb1 cb1):=(zV bk1 4).trans rfl
   have zgp:wr.cell? ⟨g1,5,none⟩ = some (.slice Ac1 nc1 cc1):=(zV bk1 5).trans rfl
   have zgr:wr.cell? ⟨g2,0,none⟩ = some (.string (⟨#[73]⟩:ByteArray)):=(zV bk2 0).trans rfl
   have zgs:wr.cell? ⟨g2,1,none⟩ = some (.bool false):=(zV bk2 1).trans rfl
   have zgt:wr.cell? ⟨g2,2,none⟩ = some (.int .i64 250):=(zV bk2 2).trans rfl
   have zgu:wr.cell? ⟨g2,3,none⟩ = some (.slice Aa2 na2 ca2):=(zV bk2 3).trans rfl
   have hx24:wr.cell? ⟨g2,4,none⟩ = some (.slice Ab2 nb2 cb2):=(zV bk2 4).trans rfl
   have hx25:wr.cell? ⟨g2,5,none⟩ = some (.slice Ac2 nc2 cc2):=(zV bk2 5).trans rfl
   have zgA:wr.cell? ⟨g3,0,none⟩ = some (.string (⟨#[66]⟩:ByteArray)):=(zV bk3 0).trans rfl
   have hx31:wr.cell? ⟨g3,1,none⟩ = some (.bool false):=(zV bk3 1).trans rfl
   have hx32:wr.cell? ⟨g3,2,none⟩ = some (.int .i64 250):=(zV bk3 2).trans rfl
   have zgB:wr.cell? ⟨g3,3,none⟩ = some (.slice Aa3 na3 ca3):=(zV bk3 3).trans rfl
   have hx34:wr.cell? ⟨g3,4,none⟩ = some (.slice Ab3 nb3 cb3):=(zV bk3 4).trans rfl
   have zgC:wr.cell? ⟨g3,5,none⟩ = some (.slice Ac3 nc3 cc3):=(zV bk3 5).trans rfl
   have zgD:wr.cell? ⟨g4,0,none⟩ = some (.string (⟨#[77]⟩:ByteArray)):=(zV bk4 0).trans rfl
   have zgE:wr.cell? ⟨g4,1,none⟩ = some (.bool false):=(zV bk4 1).trans rfl
   have zgF:wr.cell? ⟨g4,2,none⟩ = some (.int .i64 600):=(zV bk4 2).trans rfl
   have zgG:wr.cell? ⟨g4,3,none⟩ = some (.slice Aa4 na4 ca4):=(zV bk4 3).trans rfl
   have zgH:wr.cell? ⟨g4,4,none⟩ = some (.slice Ab4 nb4 cb4):=(zV bk4 4).trans rfl
   have zgI:wr.cell? ⟨g4,5,none⟩ = some (.slice Ac4 nc4 cc4):=(zV bk4 5).trans rfl
   have zgL:wr.cell? ⟨g5,0,none⟩ = some (.string (⟨#[83]⟩:ByteArray)):=(zV bk5 0).trans rfl
   have zgM:wr.cell? ⟨g5,1,none⟩ = some (.bool true):=(zV bk5 1).trans rfl
   have zgN:wr.cell? ⟨g5,2,none⟩ = some (.int .i64 250):=(zV bk5 2).trans rfl
   have zgO:wr.cell? ⟨g5,3,none⟩ = some (.slice Aa5 na5 ca5):=(zV bk5 3).trans rfl
   have zgP:wr.cell? ⟨g5,4,none⟩ = some (.slice Ab5 nb5 cb5):=(zV bk5 4).trans rfl
   have zgR:wr.cell? ⟨g5,5,none⟩ = some (.slice Ac5 nc5 cc5):=(zV bk5 5).trans rfl
   clear hR5 BC0 BC1 BC2 BC3 KM1 KM2 KM3 KM4 KM5 bk1 bk2 bk3 bk4 bk5 wh BX BK pR hkm hmk zcD hm hlt HKK FB1 FB2 FB3 FB4 BW0 BW1 BW2 BW3 GWS HGW LG5
   go_wp2
   clear zgi zgl zgm zgn zgo zgp zgr zgs zgt zgu hx24 hx25 zgA hx31 hx32 zgB hx34 zgC zgD zgE zgF zgG zgH zgI zgL zgM zgN zgO zgP zgR
   have hbn:=zO (Below.refl wr.heap.size wr) (.cells #[.string (⟨#[82]⟩:ByteArray),.bool false,.int .i64 250,.slice Aa1 na1 ca1,.slice Ab1 nb1 cb1,.slice Ac1 nc1 cc1,.string (⟨#[73]⟩:ByteArray),.bool false,.int .i64 250,.slice Aa2 na2 ca2,.slice Ab2 nb2 cb2,.slice Ac2 nc2 cc2,.string (⟨#[66]⟩:ByteArray),.bool false,.int .i64 250,.slice Aa3 na3 ca3,.slice Ab3 nb3 cb3,.slice Ac3 nc3 cc3,.string (⟨#[77]⟩:ByteArray),.bool false,.int .i64 600,.slice Aa4 na4 ca4,.slice Ab4 nb4 cb4,.slice Ac4 nc4 cc4,.string (⟨#[83]⟩:ByteArray),.bool true,.int .i64 250,.slice Aa5 na5 ca5,.slice Ab5 nb5 cb5,.slice Ac5 nc5 cc5] 60)
   have hnew:=uV wr (.cells #[.string (⟨#[82]⟩:ByteArray),.bool false,.int .i64 250,.slice Aa1 na1 ca1,.slice Ab1 nb1 cb1,.slice Ac1 nc1 cc1,.string (⟨#[73]⟩:ByteArray),.bool false,.int .i64 250,.slice Aa2 na2 ca2,.slice Ab2 nb2 cb2,.slice Ac2 nc2 cc2,.string (⟨#[66]⟩:ByteArray),.bool false,.int .i64 250,.slice Aa3 na3 ca3,.slice Ab3 nb3 cb3,.slice Ac3 nc3 cc3,.string (⟨#[77]⟩:ByteArray),.bool false,.int .i64 600,.slice Aa4 na4 ca4,.slice Ab4 nb4 cb4,.slice Ac4 nc4 cc4,.string (⟨#[83]⟩:ByteArray),.bool true,.int .i64 250,.slice Aa5 na5 ca5,.slice Ab5 nb5 cb5,.slice Ac5 nc5 cc5] 60 (0,0))
   have hbw:=BCA.out.alloc BCA.out.size (.cells #[.string (⟨#[82]⟩:ByteArray),.bool false,.int .i64 250,.slice Aa1 na1 ca1,.slice Ab1 nb1 cb1,.slice Ac1 nc1 cc1,.string (⟨#[73]⟩:ByteArray),.bool false,.int .i64 250,.slice Aa2 na2 ca2,.slice Ab2 nb2 cb2,.slice Ac2 nc2 cc2,.string (⟨#[66]⟩:ByteArray),.bool false,.int .i64 250,.slice Aa3 na3 ca3,.slice Ab3 nb3 cb3,.slice Ac3 nc3 cc3,.string (⟨#[77]⟩:ByteArray),.bool false,.int .i64 600,.slice Aa4 na4 ca4,.slice Ab4 nb4 cb4,.slice Ac4 nc4 cc4,.string (⟨#[83]⟩:ByteArray),.bool true,.int .i64 250,.slice Aa5 na5 ca5,.slice Ab5 nb5 cb5,.slice Ac5 nc5 cc5] 60)
   have hS:Kd.S Zw 60 (wr.alloc (.cells #[.string (⟨#[82]⟩:ByteArray),.bool false,.int .i64 250,.slice Aa1 na1 ca1,.slice Ab1 nb1 cb1,.slice Ac1 nc1 cc1,.string (⟨#[73]⟩:ByteArray),.bool false,.int .i64 250,.slice Aa2 na2 ca2,.slice Ab2 nb2 cb2,.slice Ac2 nc2 cc2,.string (⟨#[66]⟩:ByteArray),.bool false,.int .i64 250,.slice Aa3 na3 ca3,.slice Ab3 nb3 cb3,.slice Ac3 nc3 cc3,.string (⟨#[77]⟩:ByteArray),.bool false,.int .i64 600,.slice Aa4 na4 ca4,.slice Ab4 nb4 cb4,.slice Ac4 nc4 cc4,.string (⟨#[83]⟩:ByteArray),.bool true,.int .i64 250,.slice Aa5 na5 ca5,.slice Ab5 nb5 cb5,.slice Ac5 nc5 cc5] 60)) nO.heap.size (fun _=>True) (.slice (some ⟨wr.heap.size,0,none⟩) 5 5) zX9:=by
    generalize wr.alloc (.cells #[.string (⟨#[82]⟩:ByteArray),.bool false,.int .i64 250,.slice Aa1 na1 ca1,.slice Ab1 nb1 cb1,.slice Ac1 nc1 cc1,.string (⟨#[73]⟩:ByteArray),.bool false,.int .i64 250,.slice Aa2 na2 ca2,.slice Ab2 nb2 cb2,.slice Ac2 nc2 cc2,.string (⟨#[66]⟩:ByteArray),.bool false,.int .i64 250,.slice Aa3 na3 ca3,.slice Ab3 nb3 cb3,.slice Ac3 nc3 cc3,.string (⟨#[77]⟩:ByteArray),.bool false,.int .i64 600,.slice Aa4 na4 ca4,.slice Ab4 nb4 cb4,.slice Ac4 nc4 cc4,.string (⟨#[83]⟩:ByteArray),.bool true,.int .i64 250,.slice Aa5 na5 ca5,.slice Ab5 nb5 cb5,.slice Ac5 nc5 cc5] 60) = w' at hbn hnew ⊢
    have s0:=S0.out
    have s1:=S1.out
    have s2:=S2.out
    have s3:=S3.out
    have s4:=S4.out
    refine ⟨fun k=>if k < W1_.heap.size then 0 else if k < W2_.heap.size then 1 else if k < W3_.heap.size then 2 else if k < nP.heap.size then 3 else 4,fun _ _=>trivial,[.string (⟨#[82]⟩:ByteArray),.bool false,.int .i64 250,.slice Aa1 na1 ca1,.slice Ab1 nb1 cb1,.slice Ac1 nc1 cc1,.string (⟨#[73]⟩:ByteArray),.bool false,.int .i64 250,.slice Aa2 na2 ca2,.slice Ab2 nb2 cb2,.slice Ac2 nc2 cc2,.string (⟨#[66]⟩:ByteArray),.bool false,.int .i64 250,.slice Aa3 na3 ca3,.slice Ab3 nb3 cb3,.slice Ac3 nc3 cc3,.string (⟨#[77]⟩:ByteArray),.bool false,.int .i64 600,.slice Aa4 na4 ca4,.slice Ab4 nb4 cb4,.slice Ac4 nc4 cc4,.string (⟨#[83]⟩:ByteArray),.bool true,.int .i64 250,.slice Aa5 na5 ca5,.slice Ab5 nb5 cb5,.slice Ac5 nc5 cc5],⟨rfl,.inr ⟨wr.heap.size,5,_,rfl,BCA.out.size,hnew,by decide,by decide,rfl,rfl⟩⟩,rfl,fun j p hj=>?_⟩
    have hne:∀ q,q < wr.heap.size → some q ≠ (Value.slice (some ⟨wr.heap.size,0,none⟩) 5 5).ownBlock:=by
     intro q hq e
     have:wr.heap.size = q:=by simpa [Value.ownBlock] using e.symm
     omega
    rcases j with _ | _ | _ | _ | _ | j
    ·obtain rfl:=Option.some.inj hj
     refine KA1.out w' nO.heap.size _ hbn (by omega) (fun q h1 h2=>⟨⟨trivial,hne q (by omega)⟩,?_⟩)
     show (if q < W1_.heap.size then 0 else if q < W2_.heap.size then 1 else if q < W3_.heap.size then 2 else if q < nP.heap.size then 3 else 4) = 0
     repeat' split
     all_goals omega
    ·obtain rfl:=Option.some.inj hj
     refine KA2.out w' nO.heap.size _ hbn (by omega) (fun q h1 h2=>⟨⟨trivial,hne q (by omega)⟩,?_⟩)
     show (if q < W1_.heap.size then 0 else if q < W2_.heap.size then 1 else if q < W3_.heap.size then 2 else if q < nP.heap.size then 3 else 4) = 1
     repeat' split
     all_goals omega
    ·obtain rfl:=Option.some.inj hj
     refine KA3.out w' nO.heap.size _ hbn (by omega) (fun q h1 h2=>⟨⟨trivial,hne q (by omega)⟩,?_⟩)
     show (if q < W1_.heap.size then 0 else if q < W2_.heap.size then 1 else if q < W3_.heap.size then 2 else if q < nP.heap.size then 3 else 4) = 2
     repeat' split
     all_goals omega
    ·obtain rfl:=Option.some.inj hj
     refine KA4.out w' nO.heap.size _ hbn (by omega) (fun q h1 h2=>⟨⟨trivial,hne q (by omega)⟩,?_⟩)
     show (if q < W1_.heap.size then 0 else if q < W2_.heap.size then 1 else if q < W3_.heap.size then 2 else if q < nP.heap.size then 3 else 4) = 3
     repeat' split
     all_goals omega
    ·obtain rfl:=Option.some.inj hj
     refine KA5.out w' nO.heap.size _ hbn (by omega) (fun q h1 h2=>⟨⟨trivial,hne q (by omega)⟩,?_⟩)
     show (if q < W1_.heap.size then 0 else if q < W2_.heap.size then 1 else if q < W3_.heap.size then 2 else if q < nP.heap.size then 3 else 4) = 4
     repeat' split
     all_goals omega
    ·simp [zX9] at hj
   clear hbn hnew
   go_ret
   exact ⟨_,rfl,hS,hbw⟩
def kP.f:Option (List pX):=some zX9
theorem kP.calls (r:List pX) (w:World) (hG:GW w) (h:kP.f = some r) :
  Calls Tryz.prog 19 #[] w fun e w'=>∃ U5:Value,e = .returned U5 ∧ Kd.S Zw 60 w' w.heap.size (fun _=>True) U5 r ∧ Below w.heap.size w w':=by
 obtain rfl:=Option.some.inj h
 exact zaF w hG
end Go.Proofs.YtggifbbiiickmaaGreatDoor
namespace Go.Proofs.YtggifbbiiickmaaGreatDoor.PX
open Go.RowKit Go.Proofs.zx.zJ Go.Proofs.zx.zu Go.Proofs.zx.zo
attribute [local go_sem] yU y7 qX qJ yM yN y8 y9   -- for this text's walks alone
set_option linter.unusedVariables false
set_option linter.unusedSimpArgs false
def vV.f  : Option (Bool):=(kP.f).bind fun Yb=>((jM.f Yb 0 10 true false (([(⟨#[102]⟩:ByteArray),(⟨#[105]⟩:ByteArray)]:List ByteArray)) ([]:List (Z6))).bind fun kI=>(if kI.2.2 = 0 then (if (kI.2.1.length:Int) = 0 then (if (kI.1.length:Int) = 1 then (if 0 < (kI.1.length:Int) then (some (((zw kI.1 0).f4).toList == ([102,105]:List UInt8))) else (none)) else (some false)) else (some false)) else (some false)))
set_option maxHeartbeats 8000000 in
set_option maxRecDepth 100000 in
theorem vV.calls  (r:Bool) (w:World) (hG:GW w) (h:vV.f  = some r) :
  Calls Tryz.prog 11 #[] w fun e w'=>e = .returned (.bool r) ∧ Below w.heap.size w w':=by
 have zci:=Tryz.underlying26
 have HG:=zk.mk hG
 clear hG
 have HB:=zk.mk (Below.refl w.heap.size w)
 have H:((kP.f).bind fun Yb=>((jM.f Yb 0 10 true false (([(⟨#[102]⟩:ByteArray),(⟨#[105]⟩:ByteArray)]:List ByteArray)) ([]:List (Z6))).bind fun kI=>(if kI.2.2 = 0 then (if (kI.2.1.length:Int) = 0 then (if (kI.1.length:Int) = 1 then (if 0 < (kI.1.length:Int) then (some (((zw kI.1 0).f4).toList == ([102,105]:List UInt8))) else (none)) else (some false)) else (some false)) else (some false)))) = some r:=h
 clear h
 replace H:=Option.bind_eq_some_iff.mp H
 obtain ⟨Yb,A10,H⟩:=H
 replace H:((jM.f Yb 0 10 true false (([(⟨#[102]⟩:ByteArray),(⟨#[105]⟩:ByteArray)]:List ByteArray)) ([]:List (Z6))).bind fun kI=>(if kI.2.2 = 0 then (if (kI.2.1.length:Int) = 0 then (if (kI.1.length:Int) = 1 then (if 0 < (kI.1.length:Int) then (some (((zw kI.1 0).f4).toList == ([102,105]:List UInt8))) else (none)) else (some false)) else (some false)) else (some false))) = some r:=H
 have A1:=zk.mk A10
 clear A10
 obtain ⟨y114,hy114⟩:∃ y_:List ByteArray,y_ = (([(⟨#[102]⟩:ByteArray),(⟨#[105]⟩:ByteArray)]:List ByteArray)):=⟨_,rfl⟩
 replace H:((jM.f Yb 0 10 true false y114 ([]:List (Z6))).bind fun kI=>(if kI.2.2 = 0 then (if (kI.2.1.length:Int) = 0 then (if (kI.1.length:Int) = 1 then (if 0 < (kI.1.length:Int) then (some (((zw kI.1 0).f4).toList == ([102,105]:List UInt8))) else (none)) else (some false)) else (some false)) else (some false))) = some r:=by first | (rw [hy114];with_reducible exact H) | (have Vd:=(Option.bind_some _ _).symm.trans H;rw [hy114];with_reducible exact Vd) | (have Vd:=(Option.bind_some _ _).symm.trans H;with_reducible exact Vd) | with_reducible exact H | (rw [hy114];exact H) | exact H
 have WH:=zk.mk hy114
 clear hy114
 replace H:=Option.bind_eq_some_iff.mp H
 obtain ⟨⟨t117,KM,WT⟩,A20,H⟩:=H
 replace H:(if WT = 0 then (if (KM.length:Int) = 0 then (if (t117.length:Int) = 1 then (if 0 < (t117.length:Int) then (some (((zw t117 0).f4).toList == ([102,105]:List UInt8))) else (none)) else (some false)) else (some false)) else (some false)) = some r:=H
 have A2:=zk.mk A20
 clear A20
 by_cases c3:WT = 0
 ·rw [if_pos c3] at H
  have wR:(WT == 0) = true:=beq_iff_eq.mpr c3
  have mq:(WT != 0) = false:=bne_eq_false_iff_eq.mpr c3
  clear c3
  by_cases c4:(KM.length:Int) = 0
  ·rw [if_pos c4] at H
   have kD:((KM.length:Int) == 0) = true:=beq_iff_eq.mpr c4
   have zXm:((KM.length:Int) != 0) = false:=bne_eq_false_iff_eq.mpr c4
   clear c4
   by_cases c5:(t117.length:Int) = 1
   ·rw [if_pos c5] at H
    have Z9:((t117.length:Int) == 1) = true:=beq_iff_eq.mpr c5
    have Kl:((t117.length:Int) != 1) = false:=bne_eq_false_iff_eq.mpr c5
    clear c5
    by_cases c6:0 < (t117.length:Int)
    ·rw [if_pos c6] at H
     have Zx:decide (0 < (t117.length:Int)) = true:=decide_eq_true c6
     have zxK:decide (0 < t117.length) = true:=decide_eq_true (by omega)
     clear c6
     obtain rfl:=Option.some.inj H
     go_enter Tryz.func11,Tryz.ntmps11
     go_wp2_with (first | ((with_reducible refine yw (f:=19) rfl ?_);refine vR (some 5) Tryz.func19 #[] ?_;(with_reducible refine (kP.calls  Yb _ ?yX A1.out).mono ?_);(case yX=>exact GW.under HG.out (zM HB.out));rintro e w7 ⟨zYi,rfl,ho0,hb⟩;refine ⟨_,rfl,?_⟩;have zh:=zk.mk (Kd.YM ho0 (zI (zM HB.out)));have zG:=zk.mk (zF (zM HB.out) hb);clear HB;have xI:=zh;have HB:=zG;clear zh zG;(try clear hb);(try clear hk);(try clear ho0)) | ((with_reducible refine qY (N:=7) rfl ?_);(try (refine kG (by rfl) ?_;dsimp only));refine Kd.WQ Kd.string _ 9 ?hg (N:=7) ?hd (xs:=([(⟨#[102]⟩:ByteArray),(⟨#[105]⟩:ByteArray)]:List ByteArray)) (inner:=[.string (⟨#[102]⟩:ByteArray),.string (⟨#[105]⟩:ByteArray)]) (ok:=fun _=>True) (xU:=fun _=>True) ?hr ?hp (fun _ hk=>hk) trivial (Below.refl _ _) (Nat.le_refl _) (by simp) ?_;(case hd=>rfl);(case hg=>rfl);(case hr=>first | (go_simp;done) | (go_simp;rfl));(case hp=>exact (qx.one (show Kd.M Kd.string _ _ _ (⟨#[102]⟩:ByteArray) [.string (⟨#[102]⟩:ByteArray)] from rfl) (qx.one (show Kd.M Kd.string _ _ _ (⟨#[105]⟩:ByteArray) [.string (⟨#[105]⟩:ByteArray)] from rfl) (qx.none _ _))));intro zYl w8 ho9 hb oh Jr;clear oh Jr;(first | rw [← WH.out] at ho9 | (simp only [Int.reduceToNat] at ho9;rw [← WH.out] at ho9));have zh:=zk.mk (Kd.kM (by (with_reducible repeat (first | apply Kd.Qb | apply Kd.Qc | apply Kd.U4));exact xI.out) hb);have zG:=zk.mk (Kd.uH ho9 (zI (zM HB.out)));have zU:=zk.mk (zF (zM HB.out) hb);clear xI;clear HB;have xI:=zh;have uW:=zG;have HB:=zU;clear zh zG zU;clear hb ho9;obtain ⟨zgS,zgT,zgU⟩:=Kd.Qd xI.out;subst zgU;obtain ⟨zg0,zg1,zg2⟩:=Kd.xV uW.out;subst zg2) | ((with_reducible refine yw (f:=13) rfl ?_);refine vR (some 8) Tryz.func13 #[.slice zgS Yb.length zgT,.agg #[.int .i64 0,.int .i64 10,.bool true,.bool false],.slice zg0 y114.length zg1,.slice none 0 0] ?_;(refine (jM.calls _ _ Yb 0 10 true false _ _ y114 _ _ ([]:List (Z6)) t117 KM WT _ ?yX ?yE ?xQ ?vZ ?ji ?jl ?jm A2.out).mono ?_);(case yX=>exact xZ ((Kd.Za xI.out).2.2));(case yE=>exact (Kd.Za xI.out).2.1);(case xQ=>exact xZ ((Kd.uo uW.out).2.2));(case vZ=>exact (Kd.uo uW.out).2.1);(case ji=>exact Kd.lG _ _);(case jl=>exact Nat.le_refl _);(case jm=>exact GW.under HG.out (zM HB.out));rintro e Kn ⟨zYm,zYn,rfl,ho0,ho1,hb⟩;refine ⟨_,rfl,?_⟩;have zh:=zk.mk (Kd.kM (by (with_reducible repeat (first | apply Kd.Qb | apply Kd.Qc | apply Kd.U4));exact xI.out) hb);have zG:=zk.mk (Kd.gJ (rkS uW.out) (Kd.Pv ho1) hb);have zU:=zk.mk (Kd.YM ho0 (zI (zM HB.out)));have yc:=zk.mk (Kd.uH (Kd.lH ho1 (Kd.zvm (rkS uW.out))) (zI (zM HB.out)));have xJ:=zk.mk (zF (zM HB.out) hb);clear xI;clear uW;clear HB;have xI:=zh;have uW:=zG;have WI:=zU;have tJ:=yc;have HB:=xJ;clear zh zG zU yc xJ;(try clear hb);(try clear hk);(try clear ho0);(try clear ho1);obtain ⟨zpA,zpB,zg3⟩:=Kd.xV tJ.out;subst zg3;obtain ⟨zpC,zpD,zg4⟩:=Kd.Qd WI.out;subst zg4;have zJy:0 ≤ (0:Int):=(by omega);have zJw:0 < (t117.length:Int):=of_decide_eq_true yj;obtain ⟨zoC,zn0,zn1,zg5,zxY,zxW,zxa,zxb,zxc,zxd,tV,zwO,zwP⟩:=yR (Kd.Za WI.out).2.2 0 zJy zJw;cases zg5;obtain ⟨zoD,zcE,zcF,zVr⟩:=Kd.zdE WI.out z53 0 zJy (by first | exact zJw | exact of_decide_eq_true yj | (have e_:=(Kd.Za WI.out).1;omega));obtain ⟨zl7,rfl,zxe⟩:=WY zcF;have bU:=zVr 6 _ rfl;rw [xO _ _ 6 (by omega)] at bU;replace bU:=Option.some.inj (bU.symm.trans tV);rw [bU] at zxe;have zl8:=zk.mk (show Kd.R (Kd.int .i64) 3 _ _ _ _ ((zw t117 0).f6) from zxe);clear bU zxe;clear zVr zcE;have zoE:(0 < t117.length) = True:=eq_true (by omega);(try rw [show ((0:Int)).toNat = 0 from rfl] at zxY);(try rw [show 0 * 7 = 0 from rfl] at zxY);(try rw [Addr.add_zero'] at zxY);(try rw [show ((0:Int)).toNat = 0 from rfl] at zxW);(try rw [show 0 * 7 = 0 from rfl] at zxW);(try rw [Addr.add_zero'] at zxW);(try rw [show ((0:Int)).toNat = 0 from rfl] at zxa);(try rw [show 0 * 7 = 0 from rfl] at zxa);(try rw [Addr.add_zero'] at zxa);(try rw [show ((0:Int)).toNat = 0 from rfl] at zxb);(try rw [show 0 * 7 = 0 from rfl] at zxb);(try rw [Addr.add_zero'] at zxb);(try rw [show ((0:Int)).toNat = 0 from rfl] at zxc);(try rw [show 0 * 7 = 0 from rfl] at zxc);(try rw [Addr.add_zero'] at zxc);(try rw [show ((0:Int)).toNat = 0 from rfl] at zxd);(try rw [show 0 * 7 = 0 from rfl] at zxd);(try rw [Addr.add_zero'] at zxd);(try rw [show ((0:Int)).toNat = 0 from rfl] at tV);(try rw [show 0 * 7 = 0 from rfl] at tV);(try rw [Addr.add_zero'] at tV);have zl9:=zk.mk zwP;have zmz:=zk.mk zwO;clear zwP zwO;replace zJy:=eq_true zJy;replace zJw:=eq_true zJw))
     go_ret
     exact ⟨by first | rfl | (simp [zl,zm] <;> rfl) | (simp [*,zl,zm] <;> rfl),by repeat (first | (with_reducible first | exact HB.out | apply zO | apply zC | apply zP) | exact HB.out)⟩
    ·rw [if_neg c6] at H
     exact absurd H (by simp)
   ·rw [if_neg c5] at H
    have Z9:((t117.length:Int) == 1) = false:=beq_eq_false_iff_ne.mpr c5
    have Kl:((t117.length:Int) != 1) = true:=bne_iff_ne.mpr c5
    obtain rfl:=Option.some.inj H
    go_enter Tryz.func11,Tryz.ntmps11
    go_wp2_with (first | ((with_reducible refine yw (f:=19) rfl ?_);refine vR (some 5) Tryz.func19 #[] ?_;(with_reducible refine (kP.calls  Yb _ ?yX A1.out).mono ?_);(case yX=>exact GW.under HG.out (zM HB.out));rintro e Yd ⟨zYi,rfl,ho0,hb⟩;refine ⟨_,rfl,?_⟩;have zh:=zk.mk (Kd.YM ho0 (zI (zM HB.out)));have zG:=zk.mk (zF (zM HB.out) hb);clear HB;have xI:=zh;have HB:=zG;clear zh zG;(try clear hb);(try clear hk);(try clear ho0)) | ((with_reducible refine qY (N:=7) rfl ?_);(try (refine kG (by rfl) ?_;dsimp only));refine Kd.WQ Kd.string _ 9 ?hg (N:=7) ?hd (xs:=([(⟨#[102]⟩:ByteArray),(⟨#[105]⟩:ByteArray)]:List ByteArray)) (inner:=[.string (⟨#[102]⟩:ByteArray),.string (⟨#[105]⟩:ByteArray)]) (ok:=fun _=>True) (xU:=fun _=>True) ?hr ?hp (fun _ hk=>hk) trivial (Below.refl _ _) (Nat.le_refl _) (by simp) ?_;(case hd=>rfl);(case hg=>rfl);(case hr=>first | (go_simp;done) | (go_simp;rfl));(case hp=>exact (qx.one (show Kd.M Kd.string _ _ _ (⟨#[102]⟩:ByteArray) [.string (⟨#[102]⟩:ByteArray)] from rfl) (qx.one (show Kd.M Kd.string _ _ _ (⟨#[105]⟩:ByteArray) [.string (⟨#[105]⟩:ByteArray)] from rfl) (qx.none _ _))));intro zYl w16 zkv hb oh Jr;clear oh Jr;(first | rw [← WH.out] at zkv | (simp only [Int.reduceToNat] at zkv;rw [← WH.out] at zkv));have zh:=zk.mk (Kd.kM (by (with_reducible repeat (first | apply Kd.Qb | apply Kd.Qc | apply Kd.U4));exact xI.out) hb);have zG:=zk.mk (Kd.uH zkv (zI (zM HB.out)));have zU:=zk.mk (zF (zM HB.out) hb);clear xI;clear HB;have xI:=zh;have uW:=zG;have HB:=zU;clear zh zG zU;clear hb zkv;obtain ⟨zg6,zg7,zg8⟩:=Kd.Qd xI.out;subst zg8;obtain ⟨zg9,zhz,zhq⟩:=Kd.xV uW.out;subst zhq) | ((with_reducible refine yw (f:=13) rfl ?_);refine vR (some 8) Tryz.func13 #[.slice zg6 Yb.length zg7,.agg #[.int .i64 0,.int .i64 10,.bool true,.bool false],.slice zg9 y114.length zhz,.slice none 0 0] ?_;(refine (jM.calls _ _ Yb 0 10 true false _ _ y114 _ _ ([]:List (Z6)) t117 KM WT _ ?yX ?yE ?xQ ?vZ ?ji ?jl ?jm A2.out).mono ?_);(case yX=>exact xZ ((Kd.Za xI.out).2.2));(case yE=>exact (Kd.Za xI.out).2.1);(case xQ=>exact xZ ((Kd.uo uW.out).2.2));(case vZ=>exact (Kd.uo uW.out).2.1);(case ji=>exact Kd.lG _ _);(case jl=>exact Nat.le_refl _);(case jm=>exact GW.under HG.out (zM HB.out));rintro e w20 ⟨zYm,zYn,rfl,ho0,ho1,hb⟩;refine ⟨_,rfl,?_⟩;have zh:=zk.mk (Kd.kM (by (with_reducible repeat (first | apply Kd.Qb | apply Kd.Qc | apply Kd.U4));exact xI.out) hb);have zG:=zk.mk (Kd.gJ (rkS uW.out) (Kd.Pv ho1) hb);have zU:=zk.mk (Kd.YM ho0 (zI (zM HB.out)));have yc:=zk.mk (Kd.uH (Kd.lH ho1 (Kd.zvm (rkS uW.out))) (zI (zM HB.out)));have xJ:=zk.mk (zF (zM HB.out) hb);clear xI;clear uW;clear HB;have xI:=zh;have uW:=zG;have WI:=zU;have tJ:=yc;have HB:=xJ;clear zh zG zU yc xJ;(try clear hb);(try clear hk);(try clear ho0);(try clear ho1);obtain ⟨zpE,zpF,zhx⟩:=Kd.xV tJ.out;subst zhx;obtain ⟨zpG,zpH,zhj⟩:=Kd.Qd WI.out;subst zhj))
    go_ret
    exact ⟨by first | rfl | (simp [zl,zm] <;> rfl) | (simp [*,zl,zm] <;> rfl),by repeat (first | (with_reducible first | exact HB.out | apply zO | apply zC | apply zP) | exact HB.out)⟩
  ·rw [if_neg c4] at H
   have kD:((KM.length:Int) == 0) = false:=beq_eq_false_iff_ne.mpr c4
   have zXm:((KM.length:Int) != 0) = true:=bne_iff_ne.mpr c4
   have zpI:¬ (KM = []):=fun h_=>c4 (by rw [h_];rfl)
   obtain rfl:=Option.some.inj H
   go_enter Tryz.func11,Tryz.ntmps11
   go_wp2_with (first | ((with_reducible refine yw (f:=19) rfl ?_);refine vR (some 5) Tryz.func19 #[] ?_;(with_reducible refine (kP.calls  Yb _ ?yX A1.out).mono ?_);(case yX=>exact GW.under HG.out (zM HB.out));rintro e w23 ⟨zYi,rfl,ho0,hb⟩;refine ⟨_,rfl,?_⟩;have zh:=zk.mk (Kd.YM ho0 (zI (zM HB.out)));have zG:=zk.mk (zF (zM HB.out) hb);clear HB;have xI:=zh;have HB:=zG;clear zh zG;(try clear hb);(try clear hk);(try clear ho0)) | ((with_reducible refine qY (N:=7) rfl ?_);(try (refine kG (by rfl) ?_;dsimp only));refine Kd.WQ Kd.string _ 9 ?hg (N:=7) ?hd (xs:=([(⟨#[102]⟩:ByteArray),(⟨#[105]⟩:ByteArray)]:List ByteArray)) (inner:=[.string (⟨#[102]⟩:ByteArray),.string (⟨#[105]⟩:ByteArray)]) (ok:=fun _=>True) (xU:=fun _=>True) ?hr ?hp (fun _ hk=>hk) trivial (Below.refl _ _) (Nat.le_refl _) (by simp) ?_;(case hd=>rfl);(case hg=>rfl);(case hr=>first | (go_simp;done) | (go_simp;rfl));(case hp=>exact (qx.one (show Kd.M Kd.string _ _ _ (⟨#[102]⟩:ByteArray) [.string (⟨#[102]⟩:ByteArray)] from rfl) (qx.one (show Kd.M Kd.string _ _ _ (⟨#[105]⟩:ByteArray) [.string (⟨#[105]⟩:ByteArray)] from rfl) (qx.none _ _))));intro zYl w24 zkk hb oh Jr;clear oh Jr;(first | rw [← WH.out] at zkk | (simp only [Int.reduceToNat] at zkk;rw [← WH.out] at zkk));have zh:=zk.mk (Kd.kM (by (with_reducible repeat (first | apply Kd.Qb | apply Kd.Qc | apply Kd.U4));exact xI.out) hb);have zG:=zk.mk (Kd.uH zkk (zI (zM HB.out)));have zU:=zk.mk (zF (zM HB.out) hb);clear xI;clear HB;have xI:=zh;have uW:=zG;have HB:=zU;clear zh zG zU;clear hb zkk;obtain ⟨zhv,zhk,zhy⟩:=Kd.Qd xI.out;subst zhy;obtain ⟨zhw,zhZ,zhQ⟩:=Kd.xV uW.out;subst zhQ) | ((with_reducible refine yw (f:=13) rfl ?_);refine vR (some 8) Tryz.func13 #[.slice zhv Yb.length zhk,.agg #[.int .i64 0,.int .i64 10,.bool true,.bool false],.slice zhw y114.length zhZ,.slice none 0 0] ?_;(refine (jM.calls _ _ Yb 0 10 true false _ _ y114 _ _ ([]:List (Z6)) t117 KM WT _ ?yX ?yE ?xQ ?vZ ?ji ?jl ?jm A2.out).mono ?_);(case yX=>exact xZ ((Kd.Za xI.out).2.2));(case yE=>exact (Kd.Za xI.out).2.1);(case xQ=>exact xZ ((Kd.uo uW.out).2.2));(case vZ=>exact (Kd.uo uW.out).2.1);(case ji=>exact Kd.lG _ _);(case jl=>exact Nat.le_refl _);(case jm=>exact GW.under HG.out (zM HB.out));rintro e w28 ⟨zYm,zYn,rfl,ho0,ho1,hb⟩;refine ⟨_,rfl,?_⟩;have zh:=zk.mk (Kd.kM (by (with_reducible repeat (first | apply Kd.Qb | apply Kd.Qc | apply Kd.U4));exact xI.out) hb);have zG:=zk.mk (Kd.gJ (rkS uW.out) (Kd.Pv ho1) hb);have zU:=zk.mk (Kd.YM ho0 (zI (zM HB.out)));have yc:=zk.mk (Kd.uH (Kd.lH ho1 (Kd.zvm (rkS uW.out))) (zI (zM HB.out)));have xJ:=zk.mk (zF (zM HB.out) hb);clear xI;clear uW;clear HB;have xI:=zh;have uW:=zG;have WI:=zU;have tJ:=yc;have HB:=xJ;clear zh zG zU yc xJ;(try clear hb);(try clear hk);(try clear ho0);(try clear ho1);obtain ⟨zpL,zpM,zhX⟩:=Kd.xV tJ.out;subst zhX))
   go_ret
   exact ⟨by first | rfl | (simp [zl,zm] <;> rfl) | (simp [*,zl,zm] <;> rfl),by repeat (first | (with_reducible first | exact HB.out | apply zO | apply zC | apply zP) | exact HB.out)⟩
 ·rw [if_neg c3] at H
  have wR:(WT == 0) = false:=beq_eq_false_iff_ne.mpr c3
  have mq:(WT != 0) = true:=bne_iff_ne.mpr c3
  obtain rfl:=Option.some.inj H
  go_enter Tryz.func11,Tryz.ntmps11
  go_wp2_with (first | ((with_reducible refine yw (f:=19) rfl ?_);refine vR (some 5) Tryz.func19 #[] ?_;(with_reducible refine (kP.calls  Yb _ ?yX A1.out).mono ?_);(case yX=>exact GW.under HG.out (zM HB.out));rintro e w30 ⟨zYi,rfl,ho0,hb⟩;refine ⟨_,rfl,?_⟩;have zh:=zk.mk (Kd.YM ho0 (zI (zM HB.out)));have zG:=zk.mk (zF (zM HB.out) hb);clear HB;have xI:=zh;have HB:=zG;clear zh zG;(try clear hb);(try clear hk);(try clear ho0)) | ((with_reducible refine qY (N:=7) rfl ?_);(try (refine kG (by rfl) ?_;dsimp only));refine Kd.WQ Kd.string _ 9 ?hg (N:=7) ?hd (xs:=([(⟨#[102]⟩:ByteArray),(⟨#[105]⟩:ByteArray)]:List ByteArray)) (inner:=[.string (⟨#[102]⟩:ByteArray),.string (⟨#[105]⟩:ByteArray)]) (ok:=fun _=>True) (xU:=fun _=>True) ?hr ?hp (fun _ hk=>hk) trivial (Below.refl _ _) (Nat.le_refl _) (by simp) ?_;(case hd=>rfl);(case hg=>rfl);(case hr=>first | (go_simp;done) | (go_simp;rfl));(case hp=>exact (qx.one (show Kd.M Kd.string _ _ _ (⟨#[102]⟩:ByteArray) [.string (⟨#[102]⟩:ByteArray)] from rfl) (qx.one (show Kd.M Kd.string _ _ _ (⟨#[105]⟩:ByteArray) [.string (⟨#[105]⟩:ByteArray)] from rfl) (qx.none _ _))));intro zYl w31 zky hb oh Jr;clear oh Jr;(first | rw [← WH.out] at zky | (simp only [Int.reduceToNat] at zky;rw [← WH.out] at zky));have zh:=zk.mk (Kd.kM (by (with_reducible repeat (first | apply Kd.Qb | apply Kd.Qc | apply Kd.U4));exact xI.out) hb);have zG:=zk.mk (Kd.uH zky (zI (zM HB.out)));have zU:=zk.mk (zF (zM HB.out) hb);clear xI;clear HB;have xI:=zh;have uW:=zG;have HB:=zU;clear zh zG zU;clear hb zky;obtain ⟨zhJ,zhV,zhK⟩:=Kd.Qd xI.out;subst zhK;obtain ⟨zhY,zhW,zha⟩:=Kd.xV uW.out;subst zha) | ((with_reducible refine yw (f:=13) rfl ?_);refine vR (some 8) Tryz.func13 #[.slice zhJ Yb.length zhV,.agg #[.int .i64 0,.int .i64 10,.bool true,.bool false],.slice zhY y114.length zhW,.slice none 0 0] ?_;(refine (jM.calls _ _ Yb 0 10 true false _ _ y114 _ _ ([]:List (Z6)) t117 KM WT _ ?yX ?yE ?xQ ?vZ ?ji ?jl ?jm A2.out).mono ?_);(case yX=>exact xZ ((Kd.Za xI.out).2.2));(case yE=>exact (Kd.Za xI.out).2.1);(case xQ=>exact xZ ((Kd.uo uW.out).2.2));(case vZ=>exact (Kd.uo uW.out).2.1);(case ji=>exact Kd.lG _ _);(case jl=>exact Nat.le_refl _);(case jm=>exact GW.under HG.out (zM HB.out));rintro e w35 ⟨zYm,zYn,rfl,ho0,ho1,hb⟩;refine ⟨_,rfl,?_⟩;have zh:=zk.mk (Kd.kM (by (with_reducible repeat (first | apply Kd.Qb | apply Kd.Qc | apply Kd.U4));exact xI.out) hb);have zG:=zk.mk (Kd.gJ (rkS uW.out) (Kd.Pv ho1) hb);have zU:=zk.mk (Kd.YM ho0 (zI (zM HB.out)));have yc:=zk.mk (Kd.uH (Kd.lH ho1 (Kd.zvm (rkS uW.out))) (zI (zM HB.out)));have xJ:=zk.mk (zF (zM HB.out) hb);clear xI;clear uW;clear HB;have xI:=zh;have uW:=zG;have WI:=zU;have tJ:=yc;have HB:=xJ;clear zh zG zU yc xJ;(try clear hb);(try clear hk);(try clear ho0);(try clear ho1)))
  go_ret
  exact ⟨by first | rfl | (simp [zl,zm] <;> rfl) | (simp [*,zl,zm] <;> rfl),by repeat (first | (with_reducible first | exact HB.out | apply zO | apply zC | apply zP) | exact HB.out)⟩
end Go.Proofs.YtggifbbiiickmaaGreatDoor.PX
namespace Go.Proofs.YtggifbbiiickmaaGreatDoor.PX
open Go.RowKit Go.Proofs.zx.zJ Go.Proofs.zx.zu Go.Proofs.zx.zo
attribute [local go_sem] yU y7 qX qJ yM yN y8 y9   -- for this text's walks alone
set_option linter.unusedVariables false
set_option linter.unusedSimpArgs false
end Go.Proofs.YtggifbbiiickmaaGreatDoor.PX
namespace Go.Proofs.YtggifbbiiickmaaGreatDoor
open Go.RowKit Go.Proofs.zx.zJ Go.Proofs.zx.zu Go.Proofs.zx.zo Go.Proofs.YtggifbbiiickmaaGreatDoor.PX
set_option linter.unusedSimpArgs false
set_option linter.unusedVariables false
theorem zVs:vV.f = some true:=by decide +kernel
theorem rdB (l:List qZ) (i:Nat) (b:qZ) (h:l[i]? = some b):zw l (i:Int) = b:=by
 simp [zw,List.getD_eq_getElem?_getD,h]
end Go.Proofs.YtggifbbiiickmaaGreatDoor
namespace Go.Proofs.YtggifbbiiickmaaGreatDoor
open Go.RowKit Go.Proofs.zx.zJ Go.Proofs.zx.zu Go.Proofs.zx.zo Go.Proofs.YtggifbbiiickmaaGreatDoor.PX
set_option linter.unusedSimpArgs false
set_option linter.unusedVariables false
def kFl (w0:World):Kd (yD × Bool) where
 sz:=7
 E:=qK.E
 K:=fun w x cs=>(x.2 = true → qK.K w x.1 cs) ∧ (x.2 = false → qK.K w0 x.1 cs)
 M:=fun w base ok x cs=>(x.2 = true → qK.M w base ok x.1 cs) ∧ (x.2 = false → qK.K w0 x.1 cs)
 jV:=fun {w x cs} h=>by
  cases hx:x.2 with
  | true=>exact qK.jV (h.1 hx)
  | false=>exact qK.jV (h.2 hx)
 uD:=fun {w x cs} h=>by
  cases hx:x.2 with
  | true=>exact qK.uD (h.1 hx)
  | false=>exact qK.uD (h.2 hx)
 jd:=fun hb h=>⟨fun hx=>qK.jd hb (h.1 hx),h.2⟩
 xY:=fun h=>⟨fun hx=>qK.xY (h.1 hx),h.2⟩
 qP:=fun hok h=>⟨fun hx=>qK.qP hok (h.1 hx),h.2⟩
 vF:=fun h=>⟨fun hx=>qK.vF (h.1 hx),h.2⟩
 uf:=fun hm h=>⟨fun hx=>qK.uf hm (h.1 hx),h.2⟩
 je:=fun hb h=>⟨fun hx=>qK.je hb (h.1 hx),h.2⟩
def WL (l:List yD) (k:Nat):List (yD × Bool):=(l.take k).map (·,true) ++ (l.drop k).map (·,false)
theorem zxf (l:List yD) (k:Nat):(WL l k).length = l.length:=by
 unfold WL
 simp only [List.length_append,List.length_map,List.length_take,List.length_drop]
 omega
theorem zYo (l:List yD):WL l 0 = l.map (·,false):=by simp [WL]
theorem zaG (l:List yD):WL l l.length = l.map (·,true):=by simp [WL]
theorem zaH (l:List yD) (k:Nat) (h:k < l.length) (z:yD × Bool):(WL l k).getD k z = (l[k],false):=by
 unfold WL
 rw [List.getD_eq_getElem?_getD,List.getElem?_append_right (by simp;omega),List.drop_eq_getElem_cons h]
 have e:k - ((l.take k).map (fun x=>(x,true))).length = 0:=by simp;omega
 rw [e];rfl
theorem zaI (l:List yD) (k:Nat) (h:k < l.length):(WL l k).set k (l[k],true) = WL l (k + 1):=by
 unfold WL
 have e:k - ((l.take k).map (fun x=>(x,true))).length = 0:=by simp;omega
 rw [List.set_append_right _ _ (by simp;omega),e,List.drop_eq_getElem_cons h,List.map_cons,List.set_cons_zero,List.take_succ_eq_append_getElem h,List.map_append,List.append_assoc]
 rfl
theorem zcG {w0 W:World} {base:Nat} {ok:Nat → Prop} {v:Value} {l:List yD} (h:(kFl w0).S 53 W base ok v (l.map (·,true))):qK.S 53 W base ok v l:=by
 obtain ⟨f,h0,inner,ho,hr⟩:=h
 rw [List.length_zipIdx,List.length_map] at ho
 have hl:=hr.1
 rw [List.length_zipIdx,List.length_map] at hl
 refine ⟨f,h0,inner,by rw [List.length_zipIdx];exact ho,by rw [List.length_zipIdx];exact hl,fun j p hj=>?_⟩
 have hj2:((l.map (·,true)).zipIdx)[j]? = some ((p.1,true),p.2):=by
  rw [List.getElem?_zipIdx] at hj ⊢
  rw [List.getElem?_map]
  obtain ⟨q,hq,e⟩:=Option.map_eq_some_iff.1 hj
  rw [hq,← e];rfl
 exact (hr.2 j _ hj2).1 rfl
theorem zcH {w W:World} {A:Option Addr} {n:Nat} {l:List yD} (h:Kd.C qK w A n l) (hb:Below w.heap.size w W):jK (fun (y:yD × Bool) cs=>y.2 = false ∧ qK.K w y.1 cs) 7 W A n (l.map (·,false)):=by
 obtain ⟨h1,h2,h3⟩:=h
 refine ⟨by simpa using h1,h2,fun hp=>?_⟩
 obtain ⟨ad,e,hc⟩:=h3 hp
 refine ⟨ad,e,fun j p hj=>?_⟩
 rw [List.getElem?_map] at hj
 obtain ⟨x,hx,rfl⟩:=Option.map_eq_some_iff.1 hj
 obtain ⟨c,hl,hK,hcc⟩:=hc j x hx
 exact ⟨c,hl,⟨rfl,hK⟩,fun i u hu=>(hb.cell (World.block_lt_of_cell? w _ (hcc i u hu))).trans (hcc i u hu)⟩
theorem zwR {α:Type} (d:Kd α) {e:TypeId} {W:World} {base H:Nat} {ok:Nat → Prop} (hb:base ≤ H) (ho:ok H) (h:W.heap[H]? = some (.cells #[] e (0,0))):d.R e W base ok (.slice (some ⟨H,0,none⟩) 0 0) []:=by
 refine ⟨fun k hk=>?_,[],⟨by simp,.inr ⟨H,0,#[],rfl,hb,h,Nat.le_refl _,Nat.zero_le _,by simp,by simp⟩⟩,qx.none _ _⟩
 have:H = k:=by simpa [Value.ownBlock] using hk
 exact this ▸ ho
theorem zVt {α:Type} {d:Kd α} {w:World} {n:Nat} {l:List α} (h:d.C w none n l):l = []:=by
 obtain ⟨h1,_,h3⟩:=h
 rcases Nat.eq_zero_or_pos n with h0 | h0
 ·exact List.eq_nil_of_length_eq_zero (by omega)
 ·obtain ⟨ad,e,_⟩:=h3 h0;cases e
theorem zj7 (w:World) (o:Obj):(w.alloc o).heap[w.heap.size]? = some o:=uV w o
set_option maxRecDepth 100000 in
set_option maxHeartbeats 4000000 in
theorem zJZ (A:Option Addr) (c:Nat) (l:List Int) (w:World) (hr:Kd.C (Kd.int .i64) w A l.length l) (hl:l.length ≤ 1000000000) :
  Calls Tryz.prog 121 #[.slice A l.length c] w fun e w'=>∃ v,e = .returned v ∧ Kd.R (Kd.int .i64) 3 w' w.heap.size (fun k=>w.heap.size ≤ k) v l ∧ Below w.heap.size w w':=by
 have q2:∀ (w:World) (a:Option Addr) (n c n' c':Nat),(binOp .eql 51 (.slice a n c) (.slice none n' c')).run Tryz.prog w = .ok (.bool a.isNone) w:=fun w a n c n' c'=>Lib.run_eql_slice_nil w _ _ a n c n' c' Tryz.underlying51
 cases A with
 | none =>
  obtain rfl:=zVt hr
  clear hr hl
  go_enter Tryz.func121,Tryz.ntmps121
  go_wp2
  go_ret
  exact ⟨_,rfl,Kd.kC _ _ _ _ _,Below.refl _ _⟩
 | some ad =>
  have HR:=zk.mk hr
  clear hr
  go_enter Tryz.func121,Tryz.ntmps121
  go_wp2_with ((with_reducible refine wJ (b:=.append) (xs:=#[.tmp 5,.tmp 6]) rfl ?_);at_builtin;refine Kd.mE (Kd.int .i64) (w0:=w) (Rr:=(Kd.int .i64).K w) w.heap.size rfl (.tmp 5) (.tmp 6) 51 3 (.int .i64 0) 8 rfl Tryz.underlying51 info3 rfl (by decide) (by decide) (.slice (some ⟨w.heap.size,0,none⟩) 0 0) [] l (some ad) l.length c (fun k=>w.heap.size ≤ k) (fun _=>False) rfl rfl ?aO ?aR ?aK (fun _ hk=>hk.elim) ?aF ?aB ?aS ?aL ?_;(case aO=>exact zwR _ (Nat.le_refl _) (Nat.le_refl _) (zj7 _ _));(case aR=>exact jK.Yp HR.out ((Below.refl _ _).alloc (Nat.le_refl _) _) (fun _ _ h=>h));(case aK=>exact fun _ _ h=>h);(case aF=>intro k hk;simp at hk;omega);(case aB=>exact (Below.refl _ _).alloc (Nat.le_refl _) _);(case aS=>simp);(case aL=>simp;omega);intro v1 w1 ho hbw hg hat;have HO:=zk.mk ho;have HB:=zk.mk hbw;clear ho hbw hg hat)
  go_ret
  exact ⟨_,rfl,HO.out,HB.out⟩
set_option maxRecDepth 100000 in
set_option maxHeartbeats 4000000 in
theorem zJQ (A:Option Addr) (c:Nat) (l:List yD) (w:World) (hr:Kd.C qK w A l.length l) (hl:l.length ≤ 1000000) :
  Calls Tryz.prog 120 #[.slice A l.length c] w fun e w'=>∃ v,e = .returned v ∧ (kFl w).S 53 w' w.heap.size (fun k=>w.heap.size ≤ k) v (WL l 0) ∧ Below w.heap.size w w':=by
 have q2:∀ (w:World) (a:Option Addr) (n c n' c':Nat),(binOp .eql 34 (.slice a n c) (.slice none n' c')).run Tryz.prog w = .ok (.bool a.isNone) w:=fun w a n c n' c'=>Lib.run_eql_slice_nil w _ _ a n c n' c' Tryz.underlying34
 cases A with
 | none =>
  obtain rfl:=zVt hr
  clear hr hl
  go_enter Tryz.func120,Tryz.ntmps120
  go_wp2
  go_ret
  exact ⟨_,rfl,Kd.gK _ _ _ _ _,Below.refl _ _⟩
 | some ad =>
  have HR:=zk.mk hr
  clear hr
  rw [zYo]
  go_enter Tryz.func120,Tryz.ntmps120
  go_wp2_with ((with_reducible refine wJ (b:=.append) (xs:=#[.tmp 5,.tmp 6]) rfl ?_);at_builtin;(refine Kd.mE (Kd.bare (kFl w)) (w0:=w) (Rr:=fun (y:yD × Bool) cs=>y.2 = false ∧ qK.K w y.1 cs) w.heap.size rfl (.tmp 5) (.tmp 6) 34 53 (.agg #[.int .i64 0,.int .i64 0,.int .i64 0,.int .i64 0,.string ⟨#[]⟩,.string ⟨#[]⟩,.slice none 0 0]) 88 rfl Tryz.underlying34 ny rfl (Nat.zero_lt_succ 6) (by decide) (.slice (some ⟨w.heap.size,0,none⟩) 0 0) [] (l.map (·,false)) (some ad) l.length c (fun k=>w.heap.size ≤ k) (fun _=>False) rfl rfl ?aO ?aR ?aK (fun _ hk=>hk.elim) ?aF ?aB ?aS ?aL ?_;(case aO=>exact zwR _ (Nat.le_refl _) (Nat.le_refl _) (zj7 _ _));(case aR=>exact zcH HR.out ((Below.refl _ _).alloc (Nat.le_refl _) _));(case aK=>exact fun x cs h=>⟨(fun e=>by rw [h.1] at e;cases e),fun _=>h.2⟩);(case aF=>intro k hk;simp at hk;omega);(case aB=>exact (Below.refl _ _).alloc (Nat.le_refl _) _);(case aS=>simp);(case aL=>simp;omega);intro v1 w1 ho hbw hg hat;have HO:=zk.mk ho;have HB:=zk.mk hbw;clear ho hbw hg hat))
  go_ret
  exact ⟨_,rfl,Kd.zvu HO.out,HB.out⟩
theorem zfZ:(Tryz.prog.info? 51).map (·.size) = some 1:=by kernel_rfl
set_option maxRecDepth 100000 in
set_option maxHeartbeats 8000000 in
theorem zwS (A:Option Addr) (c:Nat) (l:List yD) (w:World) (hr:Kd.C qK w A l.length l) (hl:l.length ≤ 1000000) (hz:∀ b ∈ l,b.f6.length ≤ 1000000000) :
  Calls Tryz.prog 66 #[.slice A l.length c] w fun e w'=>∃ v,e = .returned v ∧ qK.S 53 w' w.heap.size (fun k=>w.heap.size ≤ k) v l ∧ Below w.heap.size w w':=by
 have zVu:=zJQ A c l w hr hl
 have HZ:=zk.mk hz
 clear hr hz
 go_enter Tryz.func66,Tryz.ntmps66
 go_wp2_with fail
 refine zVu.mono ?_;rintro e w1 ⟨v,rfl,hN,hb⟩
 obtain ⟨Ao,co,rfl⟩:=Kd.Qd hN
 rw [zxf] at hN ⊢
 have HN:=zk.mk hN
 have HB:=zk.mk hb
 clear hN hb zVu
 go_wp2_with fail
 go_loopw [9] (fun i W=>∃ k:Nat,k ≤ l.length ∧ i = .int .i64 (k:Int) ∧ zk ((kFl w).S 53 W w.heap.size (fun k=>w.heap.size ≤ k) (.slice Ao l.length co) (WL l k)) ∧ zk (Below w.heap.size w W)) (fun i _=>l.length - (intOf i).toNat)
 case atStart=>exact ⟨0,Nat.zero_le _,rfl,HN,HB⟩
 case round =>
  obtain ⟨k,hk,rfl,HI,HW⟩:=hrel
  by_cases hlt:k < l.length
  ·have hform:=Kd.zvA HI.out (by rw [zxf];omega)
   rw [zxf] at hform
   obtain ⟨g,cap,e,hg,hgl,_⟩:=hform
   injection e with e1 e3 e2
   subst e1 e2
   obtain ⟨uX,cs,hcl,hK,hcc,nR,hH⟩:=Kd.nk HI.out (z53,false) (k:Int) (by omega) (by omega)
   have hfr:=(Kd.zKV hH (by omega) (by omega)).2
   rw [Int.toNat_natCast,zaH l k hlt] at hK
   obtain ⟨A6,c6,rfl,l6,g6⟩:=gY (hK.2 rfl)
   have hx6:wr.cell? ⟨g,k * 7 + 6,none⟩ = some (.slice A6 l[k].f6.length c6):=by
    have h:=hcc 6 _ rfl
    rw [Int.toNat_natCast] at h
    exact h
   have zcI:=HZ.out _ (List.getElem_mem hlt)
   have hcall:=zJZ A6 c6 l[k].f6 wr (Kd.za g6 HW.out) zcI
   have HCC:=zk.mk hcc
   have HCL:=zk.mk hcl
   have HFR:=zk.mk hfr
   have HH:=zk.mk (Kd.zyz hH)
   generalize hxk:l[k] = x at hx6 hcall HCC HCL HH
   have HX:=Lib.hid hxk
   clear hK g6 hcc hcl hfr l6 zcI hxk hH nR
   try clear e3
   go_wp2_with fail
   refine hcall.mono ?_;rintro e w2 ⟨v6,rfl,hR6,hb2⟩
   have HB2:=zk.mk hb2
   have HR6:=zk.mk hR6
   have hz6:w2.cell? ⟨g,k * 7 + 6,none⟩ = some (.slice A6 x.f6.length c6):=(hb2.cell (p:=⟨g,k * 7 + 6,none⟩) hgl).trans hx6
   have hf6:w2.frozen? ⟨g,k * 7 + 6,none⟩ = false:=(hb2.frozen (p:=⟨g,k * 7 + 6,none⟩) hgl).trans (by have h:=HFR.out 6;rw [Int.toNat_natCast] at h;exact h)
   clear hb2 hR6 hcall hx6
   go_wp2_with ((with_reducible refine zdC (.store 51 (.tmp 21) (.tmp 19)) rfl ?_);(refine Kd.zWU (kFl w) (w0:=w) w.heap.size rfl rfl 51 (.tmp 21) (.tmp 19) rfl 53 (g:=g) (n:=l.length) (cap:=co) (o':=k * 7 + 6) (k:Int) 6 (WL l k) (x,true) v6 [v6] [.int .i64 x.f0,.int .i64 x.f1,.int .i64 x.f2,.int .i64 x.f3,.string x.f4,.string x.f5,.slice A6 x.f6.length c6] (fun k=>w.heap.size ≤ k) (fun k=>uX k ∨ w.heap.size ≤ k ∧ wr.heap.size ≤ k) (fun k=>wr.heap.size ≤ k) rfl ?aO rfl ?aV zfZ ?a1 ?aN (by omega) (by omega) (Nat.le_refl 7) ?aM ?aP ?aB ?_;(case aO=>rw [Int.toNat_natCast];rfl);(case aV=>exact (Kd.zY9 HR6.out).1);(case a1=>intro q hq;rw [List.mem_singleton] at hq;rw [hq];exact (Kd.zY9 HR6.out).2);(case aN=>exact Kd.zyq HH.out HB2.out);(case aM=>exact ⟨fun _=>PY _ _ _ x (Kd.uH HR6.out HW.out.size),fun h=>by cases h⟩);(case aP=>intro b hb;have:=HW.out.size;exact .inr ⟨by omega,hb⟩);(case aB=>exact HW.out.trans (HB2.out.mono HW.out.size));intro w3 ho hbw hg3;rw [Int.toNat_natCast,← HX.out,zaI l k hlt] at ho;have HO:=zk.mk ho;have HB3:=zk.mk hbw;clear ho hbw hg3 hz6 hf6))
   go_roundw
   case rel=>exact ⟨k + 1,by omega,by first | rfl | go_num,HO,HB3⟩
   case measure=>simp [intOf];omega
  ·obtain rfl:k = l.length:=by omega
   go_wp2
   go_ret
   exact ⟨_,rfl,zcG (by rw [← zaG];exact HI.out),HW.out⟩
end Go.Proofs.YtggifbbiiickmaaGreatDoor
namespace Go.Proofs.YtggifbbiiickmaaGreatDoor
open Go.RowKit Go.Proofs.zx.zJ Go.Proofs.zx.zu Go.Proofs.zx.zo Go.Proofs.YtggifbbiiickmaaGreatDoor.PX
set_option linter.unusedSimpArgs false
set_option linter.unusedVariables false
def wN (b:yD):Bool:=decide (b.f0 = 1) && (b.f4.toList != ([126]:List UInt8))
def XG (st:List (List yD) × List yD) (b:yD):List (List yD) × List yD:=if wN b then (st.1 ++ [st.2],[]) else (st.1,st.2 ++ [b])
def kL (l:List yD) (k:Nat):List (List yD) × List yD:=(l.take k).foldl XG ([],[])
def splitV (l:List yD):List (List yD):=(l.foldl XG ([],[])).1 ++ [(l.foldl XG ([],[])).2]
theorem WU (l:List yD) (k:Nat) (h:k < l.length):kL l (k + 1) = XG (kL l k) l[k]:=by
 unfold kL
 rw [List.take_succ_eq_append_getElem h,List.foldl_append];rfl
theorem mZ (l:List yD):∀ k,k ≤ l.length → (kL l k).1.length ≤ k ∧ (kL l k).2.length ≤ k
 | 0,_=>⟨Nat.le_refl _,Nat.le_refl _⟩
 | k + 1,h=>by
  have h1:=mZ l k (by omega)
  rw [WU l k (by omega)]
  unfold XG
  split
  ·simp;omega
  ·simp;omega
theorem VL (l:List yD):(kL l l.length).1 ++ [(kL l l.length).2] = splitV l:=by unfold kL splitV;rw [List.take_length]
def kFt (w1:World) (base:Nat):Kd yD where
 sz:=7
 E:=[]
 K:=fun _ x cs=>Kd.FK qK w1 (fun k=>base ≤ k) x cs
 M:=fun _ _ _ x cs=>Kd.FK qK w1 (fun k=>base ≤ k) x cs
 jV:=fun h=>qK.jV (Kd.Kg h)
 uD:=fun h=>qK.uD (Kd.Kg h)
 jd:=fun _ h=>h
 xY:=fun h=>h
 qP:=fun _ h=>h
 vF:=fun h=>h
 uf:=fun _ h=>h
 je:=fun _ h=>h
set_option maxRecDepth 100000 in
set_option maxHeartbeats 4000000 in
theorem zVA (x:yD) (A6:Option Addr) (c6:Nat) (w:World) :
  Calls Tryz.prog 75 #[.agg #[.int .i64 x.f0,.int .i64 x.f1,.int .i64 x.f2,.int .i64 x.f3,.string x.f4,.string x.f5,.slice A6 x.f6.length c6]] w fun e w'=>e = .returned (.bool (wN x)) ∧ Below w.heap.size w w':=by
 unfold wN
 obtain ⟨f0,f1,f2,f3,f4,f5,f6⟩:=x
 dsimp only
 by_cases h1:f0 = 1
 ·subst h1
  rw [show decide ((1:Int) = 1) = true from rfl,Bool.true_and]
  cases hb:(f4.toList != ([126]:List UInt8)) with
  | true =>
   have h2:(f4.toList == ([126]:List UInt8)) = false:=by
    have h:=hb;unfold bne at h;simpa using h
   go_enter Tryz.func75,Tryz.ntmps75
   go_wp2
   go_ret
   exact ⟨rfl,(Below.refl _ w).alloc (Nat.le_refl _) _⟩
  | false =>
   have h2:(f4.toList == ([126]:List UInt8)) = true:=by
    have h:=hb;unfold bne at h;simpa using h
   go_enter Tryz.func75,Tryz.ntmps75
   go_wp2
   go_ret
   exact ⟨rfl,(Below.refl _ w).alloc (Nat.le_refl _) _⟩
 ·have h2:(f0 == 1) = false:=beq_eq_false_iff_ne.2 h1
  rw [decide_eq_false h1,Bool.false_and]
  clear h1
  go_enter Tryz.func75,Tryz.ntmps75
  go_wp2
  go_ret
  exact ⟨rfl,(Below.refl _ w).alloc (Nat.le_refl _) _⟩
def KN (g0:Nat) (w w1:World) (st:List (List yD) × List yD) (vo:Value) (W:World):Prop :=
 (Kd.slice 53 (kFt w1 (g0 + 1))).S 34 W g0 (fun k=>k = g0 ∨ w1.heap.size ≤ k) vo (st.1 ++ [st.2]) ∧ Below g0 w W ∧ w1.heap.size ≤ W.heap.size ∧ ∀ k,k < w1.heap.size → k ≠ g0 → W.heap[k]? = w1.heap[k]?
theorem KN.below {g0:Nat} {w w1 W W':World} {st:List (List yD) × List yD} {vo:Value} (h:KN g0 w w1 st vo W) (hg:g0 ≤ W.heap.size) (hb:Below W.heap.size W W'):KN g0 w w1 st vo W' :=
 ⟨Kd.kM h.1 hb,h.2.1.trans (hb.mono hg),Nat.le_trans h.2.2.1 hb.size,fun k hk hn=>(hb.block k (Nat.lt_of_lt_of_le hk h.2.2.1)).trans (h.2.2.2 k hk hn)⟩
theorem KN.step {g0:Nat} {w w1 W W':World} {st st':List (List yD) × List yD} {vo vo':Value} (h:KN g0 w w1 st vo W) (hS:(Kd.slice 53 (kFt w1 (g0 + 1))).S 34 W' g0 (fun k=>k = g0 ∨ w1.heap.size ≤ k) vo' (st'.1 ++ [st'.2])) (hb:Below g0 w W') {row:Option Nat} (hg:W.grownBy W' row) (hr:∀ k,row = some k → k = g0 ∨ w1.heap.size ≤ k):KN g0 w w1 st' vo' W' :=
 ⟨hS,hb,Nat.le_trans h.2.2.1 hg.size,fun k hk hn=>(hg.block k (Nat.lt_of_lt_of_le hk h.2.2.1) (fun e=>by have:=hr k e.symm;omega)).trans (h.2.2.2 k hk hn)⟩
theorem KN.first {g0:Nat} {w w1:World} (hg:g0 + 1 ≤ w1.heap.size) (h:w1.heap[g0]? = some (.cells #[.slice none 0 0] 34 (0,0))) (hb:Below g0 w w1):KN g0 w w1 ([],[]) (.slice (some ⟨g0,0,none⟩) 1 1) w1:=by
 refine ⟨Kd.zvu ⟨fun k hk=>?_,[.slice none 0 0],⟨rfl,.inr ⟨g0,1,#[.slice none 0 0],rfl,Nat.le_refl _,h,Nat.le_refl _,by decide,by rfl,by rfl⟩⟩,?_⟩,hb,Nat.le_refl _,fun _ _ _=>rfl⟩
 ·have:g0 = k:=by simpa [Value.ownBlock] using hk
  exact .inl this.symm
 ·exact qx.snoc (qx.none _ _) ⟨_,rfl,Kd.kC _ _ _ _ _⟩ rfl
theorem cellOf {W W':World} {g o:Nat} (h:W'.heap[g]? = W.heap[g]?):W'.cell? ⟨g,o,none⟩ = W.cell? ⟨g,o,none⟩:=by simp [World.cell?,h]
theorem KN.final {g0:Nat} {w w1 W:World} {st:List (List yD) × List yD} {vo:Value} (h:KN g0 w w1 st vo W):(Kd.slice 53 qK).N 34 W g0 (fun k=>g0 ≤ k) vo (st.1 ++ [st.2]):=by
 obtain ⟨hS,hB,hz,hk⟩:=h
 have hN:=Kd.S_N (Kd.sQ hS)
 obtain ⟨h0,rows,hl,hR,hf⟩:=hN
 refine ⟨fun k hk=>(h0 k hk).2.1,rows,hl,hR,fun j x c hx hc=>?_⟩
 have hF:=hf j x c hx hc
 intro W' hW
 obtain ⟨A,n,rfl,hn,hr⟩:=hF W' (fun k hk hlt=>hW k ⟨hk.1.2.1,hk.2⟩ hlt)
 refine ⟨A,n,rfl,hn,jK.Yp hr (Below.refl _ _) (fun y cs hy=>?_)⟩
 refine hy W' (fun k hk2 hlt=>?_)
 have hne:k ≠ g0:=by omega
 refine (hW k ⟨by omega,fun e=>?_⟩ (by omega)).trans (hk k hlt hne)
 have h1:=(h0 k e.symm).1
 omega
def split.T7:Bool × List (List Nat × List Nat):=(true,[([],[]),([],[]),([1],[1]),([2],[2]),([],[]),([],[]),([5],[5]),([6],[6]),([4,7],[4,7]),([8],[8]),([],[]),([10],[10]),([9,11],[9,11]),([0,3,0,1,2,3,4,5,6,7,8,9,10,11,12],[0,3]),([13,12,12,0,1,2,3,4,5,6,7,8,9,10,11,12],[12,13])])
def split.B7:List Nat:=[0,0,2,6,0,0,32,96,240,496,0,1024,4080,8191,16383]
theorem split.zhb:q9 .any (opsOf Tryz.f30 7) = split.T7:=by kernel_rfl
theorem split.zfQ:xC split.T7.2 split.B7 = true:=by kernel_rfl
set_option maxRecDepth 100000 in
set_option maxHeartbeats 16000000 in
theorem zVB (A:Option Addr) (c:Nat) (l:List yD) (w:World) (hr:Kd.C qK w A l.length l) (hl:l.length ≤ 1000000) (hz:∀ b ∈ l,b.f6.length ≤ 1000000000) :
  Calls Tryz.prog 30 #[.slice A l.length c] w fun e w'=>∃ v,e = .returned v ∧ (Kd.slice 53 qK).N 34 w' w.heap.size (fun k=>w.heap.size ≤ k) v (splitV l) ∧ Below w.heap.size w w':=by
 obtain ⟨w0,hw0⟩:∃ w0,w.alloc (.cells #[.slice none 0 0] 34) = w0:=⟨_,rfl⟩
 have hb0:Below w.heap.size w w0:=by rw [← hw0];exact (Below.refl _ w).alloc (Nat.le_refl _) _
 have hz0:w0.heap.size = w.heap.size + 1:=by rw [← hw0];simp
 have hS0:w0.heap[w.heap.size]? = some (.cells #[.slice none 0 0] 34 (0,0)):=by rw [← hw0];exact uV w _
 have hown:=zwS A c l w0 (Kd.za hr hb0) hl hz
 generalize hg:w.heap.size = g0 at hb0 hz0 hS0 ⊢
 rw [hz0] at hown
 have HB0:=zk.mk hb0
 have HS0:=zk.mk hS0
 have HZ0:=Lib.hid hz0
 clear hb0 hS0 hz0 hz hr
 go_enter Tryz.func30,Tryz.ntmps30
 go_wp2_with fail
 try rw [hg]
 try rw [hw0]
 refine hown.mono ?_;rintro e w1 ⟨v,rfl,hNS,hb1⟩
 have hN:=Kd.wI (ok':=fun k=>g0 + 1 ≤ k) (Kd.S_N (Kd.sQ hNS)) (fun k hk=>hk.2.1)
 obtain ⟨Ao,co,rfl⟩:=Kd.V4 hN
 have hz1:g0 + 1 ≤ w1.heap.size:=by have:=hb1.size;rw [HZ0.out] at this;exact this
 have hI:KN g0 w w1 (kL l 0) (.slice (some ⟨g0,0,none⟩) 1 1) w1 :=
  KN.first hz1 ((hb1.block g0 (Nat.lt_succ_self _)).trans HS0.out) (HB0.out.trans (hb1.mono (Nat.le_succ _)))
 have HN:=zk.mk hN
 have HI0:=zk.mk hI
 clear hN hNS hI hb1 hown hw0 hg
 go_wp2_with fail
 go_loopw [10,3] (fun i vo W=>∃ k:Nat,k ≤ l.length ∧ i = .int .i64 (k:Int) ∧ zk (KN g0 w w1 (kL l k) vo W)) (fun i _ _=>l.length - (intOf i).toNat)
 case atStart=>exact ⟨0,Nat.zero_le _,rfl,HI0⟩
 case round =>
  obtain ⟨k,hk,rfl,HI⟩:=hrel
  by_cases hlt:k < l.length
  ·obtain ⟨go,cap,e,hgo,hgl,_⟩:=Kd.zbS HN.out (by omega)
   injection e with e1 e3 e2
   subst e1 e2
   try clear e3
   obtain ⟨cs,hcl,hK,hcc,hfr⟩:=Kd.zJ0 HN.out z53 (k:Int) (by omega) (by omega)
   rw [Int.toNat_natCast,show l.getD k z53 = l[k] by rw [List.getD_eq_getElem?_getD,List.getElem?_eq_getElem hlt];rfl] at hK
   rw [Int.toNat_natCast] at hcc
   obtain ⟨A6,c6,rfl,l6,g6⟩:=WW hK
   have hst:∀ o,wr.cell? ⟨go,o,none⟩ = w1.cell? ⟨go,o,none⟩:=fun o=>cellOf (HI.out.2.2.2 go hgl (by omega))
   have x0:wr.cell? ⟨go,k * 7,none⟩ = some (.int .i64 l[k].f0):=(hst _).trans (hcc 0 _ rfl)
   have x1:wr.cell? ⟨go,k * 7 + 1,none⟩ = some (.int .i64 l[k].f1):=(hst _).trans (hcc 1 _ rfl)
   have x2:wr.cell? ⟨go,k * 7 + 2,none⟩ = some (.int .i64 l[k].f2):=(hst _).trans (hcc 2 _ rfl)
   have x3:wr.cell? ⟨go,k * 7 + 3,none⟩ = some (.int .i64 l[k].f3):=(hst _).trans (hcc 3 _ rfl)
   have x4:wr.cell? ⟨go,k * 7 + 4,none⟩ = some (.string l[k].f4):=(hst _).trans (hcc 4 _ rfl)
   have x5:wr.cell? ⟨go,k * 7 + 5,none⟩ = some (.string l[k].f5):=(hst _).trans (hcc 5 _ rfl)
   have x6:wr.cell? ⟨go,k * 7 + 6,none⟩ = some (.slice A6 l[k].f6.length c6):=(hst _).trans (hcc 6 _ rfl)
   have hsn:=WU l k hlt
   have hsl:=mZ l k hk
   have HK:=zk.mk hK
   generalize l[k] = x at x0 x1 x2 x3 x4 x5 x6 hsn HK
   generalize kL l k = st at hsn hsl HI
   obtain ⟨G,cv,ev,hG1,hG2,_⟩:=Kd.zvA HI.out.1 (by simp)
   rw [List.length_append,List.length_singleton] at ev
   subst ev
   have HS:=Lib.hid hsn
   have hpa:=fun W=>zVA x A6 c6 W
   unfold XG at HS
   generalize wN x = pb at hpa HS
   clear hsn hst hfr hcl hcc hK g6 l6
   have hgw:g0 ≤ wr.heap.size:=by have:=HI.out.2.2.1;omega
   go_wp2_with fail
   refine (hpa _).mono ?_;rintro e w2 ⟨rfl,hb2⟩
   have hb3:Below wr.heap.size wr w2:=((Below.refl _ wr).alloc (Nat.le_refl _) _).trans (hb2.mono (by simp))
   have HI2:=zk.mk (HI.out.below hgw hb3)
   have fF:=zk.mk (Kd.lU (ok':=fun k=>(k = g0 ∨ w1.heap.size ≤ k) ∧ k < wr.heap.size) (Kd.kM (Kd.sQ HI.out.1) hb3) (fun k hk=>⟨hk.1,hk.2.2.1⟩))
   have hbx:=yY (uV wr (.cells #[.int .i64 x.f0,.int .i64 x.f1,.int .i64 x.f2,.int .i64 x.f3,.string x.f4,.string x.f5,.slice A6 x.f6.length c6] 53)) hb2
   have fM:=zk.mk hbx
   generalize hgb:wr.heap.size = gb at hbx fM fF ⊢
   have zhc:G < w2.heap.size:=Nat.lt_of_lt_of_le hG2 hb3.size
   have zpN:w1.heap.size ≤ gb:=by rw [← hgb];exact HI.out.2.2.1
   clear x0 x1 x2 x3 x4 x5 x6 hb2 hb3 hpa hgb hbx
   cases pb with
   | true =>
    go_wp2_with ((with_reducible refine wJ (b:=.append) (xs:=#[.tmp 16,.tmp 17]) rfl ?_);at_builtin;(refine Kd.zKZ (Kd.slice 53 (kFt w1 (g0 + 1))) (w0:=w) g0 rfl (.tmp 16) (.tmp 17) 72 34 (.slice none 0 0) 24 rfl Tryz.underlying72 zvF rfl Nat.zero_lt_one (by decide) (.slice (some ⟨G,0,none⟩) (st.1.length + 1) cv) (st.1 ++ [st.2]) [] [.slice none 0 0] (fun k=>k = g0 ∨ w1.heap.size ≤ k) (fun _=>False) rfl rfl ?aP (fun _ hk=>hk.elim) ?aF ?aO ?aB ?aS ?aL ?_;(case aP=>exact ⟨_,rfl,Kd.kC _ _ _ _ _⟩);(case aF=>intro k hk;have:=HI2.out.2.2.1;exact .inr (by omega));(case aO=>exact Kd.lU HI2.out.1 (fun k hk=>⟨hk,fun h=>h⟩));(case aB=>exact HI2.out.2.1);(case aS=>have:=HI2.out.2.2.1;omega);(case aL=>rw [List.length_append,List.length_singleton];omega);intro v1 w3 ho hbw hg3 _;have HI3:=zk.mk (KN.step (st':=(st.1 ++ [st.2],[])) HI2.out ho hbw hg3 (fun k hk=>(Kd.S_R HI2.out.1).1 k hk));clear ho hbw hg3))
    go_roundw
    case rel=>exact ⟨k + 1,by omega,by first | rfl | go_num,by rw [HS.out];exact HI3⟩
    case measure=>simp [intOf];omega
   | false =>
    obtain ⟨uX,cl,hcl,hM,hcc,nR,hH⟩:=Kd.nk fF.out ([]:List yD) (st.1.length:Int) (by omega) (by omega)
    rw [Int.toNat_natCast,show (st.1 ++ [st.2]).getD st.1.length [] = st.2 by rw [List.getD_eq_getElem?_getD,List.getElem?_append_right (Nat.le_refl _),Nat.sub_self];rfl] at hM
    obtain ⟨vl,rfl,hL⟩:=hM
    obtain ⟨Al,cvl,rfl⟩:=Kd.xV hL
    have y:w2.cell? ⟨G,st.1.length,none⟩ = some (.slice Al st.2.length cvl):=by
     have h:=hcc 0 _ rfl
     rw [Int.toNat_natCast] at h
     rw [show st.1.length = st.1.length * 1 + 0 by omega]
     exact h
    have z0:w2.cell? ⟨gb,0,none⟩ = some (.int .i64 x.f0):=(zV fM.out 0).trans rfl
    have z1:w2.cell? ⟨gb,1,none⟩ = some (.int .i64 x.f1):=(zV fM.out 1).trans rfl
    have z2:w2.cell? ⟨gb,2,none⟩ = some (.int .i64 x.f2):=(zV fM.out 2).trans rfl
    have z3:w2.cell? ⟨gb,3,none⟩ = some (.int .i64 x.f3):=(zV fM.out 3).trans rfl
    have z4:w2.cell? ⟨gb,4,none⟩ = some (.string x.f4):=(zV fM.out 4).trans rfl
    have z5:w2.cell? ⟨gb,5,none⟩ = some (.string x.f5):=(zV fM.out 5).trans rfl
    have z6:w2.cell? ⟨gb,6,none⟩ = some (.slice A6 x.f6.length c6):=(zV fM.out 6).trans rfl
    have hGw:G < w2.heap.size:=zhc
    have iE:gb < w2.heap.size:=Zk fM.out
    have Jo:=zk.mk (fun (W:World) (h:Below w2.heap.size w2 W)=>(show W.cell? ⟨G,st.1.length,none⟩ = some (.slice Al st.2.length cvl) ∧ W.cell? ⟨gb,0,none⟩ = some (.int .i64 x.f0) ∧ W.cell? ⟨gb,1,none⟩ = some (.int .i64 x.f1) ∧ W.cell? ⟨gb,2,none⟩ = some (.int .i64 x.f2) ∧ W.cell? ⟨gb,3,none⟩ = some (.int .i64 x.f3) ∧ W.cell? ⟨gb,4,none⟩ = some (.string x.f4) ∧ W.cell? ⟨gb,5,none⟩ = some (.string x.f5) ∧ W.cell? ⟨gb,6,none⟩ = some (.slice A6 x.f6.length c6) from
     ⟨(h.cell (p:=⟨G,_,none⟩) hGw).trans y,(h.cell (p:=⟨gb,_,none⟩) iE).trans z0,(h.cell (p:=⟨gb,_,none⟩) iE).trans z1,(h.cell (p:=⟨gb,_,none⟩) iE).trans z2,(h.cell (p:=⟨gb,_,none⟩) iE).trans z3,(h.cell (p:=⟨gb,_,none⟩) iE).trans z4,(h.cell (p:=⟨gb,_,none⟩) iE).trans z5,(h.cell (p:=⟨gb,_,none⟩) iE).trans z6⟩))
    have HL:=zk.mk hL
    have HH:=zk.mk (Kd.zJP hH (fun k hk=>hk.1))
    have HOK:=zk.mk nR
    have i4:(st.1.length:Int) < (st.1.length:Int) + 1:=Int.lt_succ _
    have i5:(0:Int) ≤ (st.1.length:Int):=Int.natCast_nonneg _
    have i3:wrap64 (st.1.length:Int) = (st.1.length:Int):=IntWalk.wrap64_in _ ⟨by omega,by omega⟩
    clear y z0 z1 z2 z3 z4 z5 z6 hcc hL hH nR hcl
    go_wp2_with fail
    refine RW.rSD (n:=15) [14] Jo split.zhb split.zfQ (by kernel_rfl) rfl rfl (fun w5 H5 T U h=>?_)
    refine RW.rP 0 (some 19) T ?_
    refine RW.rP 1 (some 20) T ?_
    refine RW.rP 2 (some 21) T ?_
    refine RW.rP 3 (some 22) T ?_
    refine RW.rP 4 (some 23) T ?_
    refine RW.rP 5 (some 24) T ?_
    refine RW.rP 6 (some 25) T ?_
    refine RW.rP 7 (some 26) T ?_
    refine RW.rP 8 (some 27) T ?_
    refine RW.rT 9 (some 28) T U h ?_
    refine RW.rT 10 (some 29) T U h ?_
    have HI3:=Lib.hid i3
    clear i3
    have HI5:=zk.mk (HI2.out.below (by have:=HI2.out.2.2.1;omega) H5.out)
    have zhd:g0 ≤ w5.heap.size:=by have:=HI5.out.2.2.1;omega
    clear h
    refine Yr (i:=11) (N:=some 30) #[true,true,true,true,true,true,true,true,true,true,true,true,false,false,false] rfl rfl (jY T.out (by kernel_rfl)) (by decide) (fun K hK=>?_)
    refine lN (w1:=?_) (v:=?_) (by rfl) rfl ?_ ?_
    rotate_left 2
    ·have h:=Jo.out _ H5.out
     go_simp
     constructor
     ·rfl
     ·rfl
    refine hK.out _ _ (Jo.out _ (H5.out.alloc H5.out.size _)) (fun h=>?_)
    clear hK K h
    refine YI (a':=?_) ?_ ?_
    rotate_left
    ·show Act.put _ (some 30) _ = _
     simp only [Act.put,List.setIfInBounds_toArray,List.set_cons_zero,List.set_cons_succ]
     rfl
    refine Yr (i:=12) (N:=some 31) #[true,true,true,true,true,true,true,true,true,true,true,true,true,false,false] rfl rfl (jY T.out (by kernel_rfl)) (by decide) (fun K hK=>?_)
    refine Kd.XM (kFt w1 (g0 + 1)) (w0:=w) g0 (by rfl) (.tmp 28) (.tmp 30) 34 53 (.agg #[.int .i64 0,.int .i64 0,.int .i64 0,.int .i64 0,.string ⟨#[]⟩,.string ⟨#[]⟩,.slice none 0 0]) 88 rfl Tryz.underlying34 ny rfl (Nat.zero_lt_succ 6) (by decide) (.slice Al st.2.length cvl) st.2 x [.int .i64 x.f0,.int .i64 x.f1,.int .i64 x.f2,.int .i64 x.f3,.string x.f4,.string x.f5,.slice A6 x.f6.length c6] (fun k=>uX k ∨ ((k = g0 ∨ w1.heap.size ≤ k) ∧ w5.heap.size ≤ k)) (fun _=>False) rfl rfl ?aP (fun _ hk=>hk.elim) ?aF ?aO ?aB ?aS ?aL ?_
    (case aP=>exact Kd.JF HK.out (fun k hk=>hk.1))
    (case aF=>intro k hk;have:=HI5.out.2.2.1;exact .inr ⟨.inr (by omega),hk⟩)
    (case aO=>exact Kd.jC (Kd.jf HL.out H5.out) (fun k hk=>.inl hk))
    (case aB=>exact HI5.out.2.1)
    (case aS=>exact zhd)
    (case aL=>omega)
    intro v1 w6 ho hbw hg6 hat
    obtain ⟨Ao2,co2,eo⟩:=Kd.xV ho
    subst eo
    have hrow:∀ k,(Value.slice Al st.2.length cvl).ownBlock = some k → uX k:=fun k hk=>HL.out.1 k hk
    have hH6:=Kd.zWT (Kd.zyz (Kd.zyq HH.out H5.out)) hg6 (fun k hk=>.inl (hrow k hk))
    obtain ⟨hcell,hfro⟩:=Kd.zKV hH6 (by omega) (by omega)
    have q0:w6.cell? ⟨G,st.1.length,none⟩ = some (.slice Al st.2.length cvl):=by
     have h:=hcell 0 _ rfl
     rw [Int.toNat_natCast] at h
     rw [show st.1.length = st.1.length * 1 + 0 by omega]
     exact h
    have qf:w6.frozen? ⟨G,st.1.length,none⟩ = false:=by
     have h:=hfro 0
     rw [Int.toNat_natCast] at h
     rw [show st.1.length = st.1.length * 1 + 0 by omega]
     exact h
    have hseg:=Kd.zvE hH6 (x':=st.2 ++ [x]) (xU:=fun k=>uX k ∨ ((k = g0 ∨ w1.heap.size ≤ k) ∧ w5.heap.size ≤ k)) (j:=0) (seg:=[.slice Ao2 (st.2 ++ [x]).length co2]) (by omega) (by omega) (Nat.le_refl 1) ⟨_,rfl,ho⟩ (fun k hk=>hk)
    have nS:w6.heap[gb]? = some (.cells #[.int .i64 x.f0,.int .i64 x.f1,.int .i64 x.f2,.int .i64 x.f3,.string x.f4,.string x.f5,.slice A6 x.f6.length c6] 53 (0,0)):=by
     have h5:=H5.out.size
     exact (hg6.block gb (by omega) (fun e=>by have:=HOK.out gb (hrow gb e.symm);omega)).trans (yY fM.out H5.out)
    have S6:w6.cell? ⟨G,st.1.length,none⟩ = some (.slice Al st.2.length cvl) ∧ w6.cell? ⟨gb,0,none⟩ = some (.int .i64 x.f0) ∧ w6.cell? ⟨gb,1,none⟩ = some (.int .i64 x.f1) ∧ w6.cell? ⟨gb,2,none⟩ = some (.int .i64 x.f2) ∧ w6.cell? ⟨gb,3,none⟩ = some (.int .i64 x.f3) ∧ w6.cell? ⟨gb,4,none⟩ = some (.string x.f4) ∧ w6.cell? ⟨gb,5,none⟩ = some (.string x.f5) ∧ w6.cell? ⟨gb,6,none⟩ = some (.slice A6 x.f6.length c6) :=
     ⟨q0,(zV nS 0).trans rfl,(zV nS 1).trans rfl,(zV nS 2).trans rfl,(zV nS 3).trans rfl,(zV nS 4).trans rfl,(zV nS 5).trans rfl,(zV nS 6).trans rfl⟩
    have e7:w6.setCells G ((st.1.length:Int).toNat * (Kd.slice 53 (kFt w1 (g0 + 1))).sz + 0) [.slice Ao2 (st.2 ++ [x]).length co2] = w6.setCell ⟨G,st.1.length,none⟩ (.slice Ao2 (st.2 ++ [x]).length co2):=by
     rw [Int.toNat_natCast,show st.1.length * (Kd.slice 53 (kFt w1 (g0 + 1))).sz + 0 = st.1.length from (Nat.add_zero _).trans (Nat.mul_one _)]
     rfl
    rw [e7,Int.toNat_natCast,show (st.1 ++ [st.2]).set st.1.length (st.2 ++ [x]) = st.1 ++ [st.2 ++ [x]] by rw [List.set_append_right _ _ (Nat.le_refl _),Nat.sub_self];rfl] at hseg
    have hI6:KN g0 w w1 (st.1,st.2 ++ [x]) (.slice (some ⟨G,0,none⟩) (st.1.length + 1) cv) (w6.setCell ⟨G,st.1.length,none⟩ (.slice Ao2 (st.2 ++ [x]).length co2)):=by
     obtain ⟨hs,hgr⟩:=hseg
     have hG3:G = g0 ∨ w1.heap.size ≤ G:=by have:=(Kd.S_R HI2.out.1).1 G (by simp [Value.ownBlock]);exact this
     refine ⟨hs,hbw.setCell (p:=⟨G,st.1.length,none⟩) hG1 _,?_,fun k hk hn=>?_⟩
     ·have:=hgr.size;have:=hg6.size;have:=HI5.out.2.2.1;omega
     ·have h1:=hg6.size
      have h2:=HI5.out.2.2.1
      refine (hgr.block k (by omega) (fun e=>by injection e with e;omega)).trans ((hg6.block k (by omega) (fun e=>?_)).trans (HI5.out.2.2.2 k hk hn))
      have:=(HOK.out k (hrow k e.symm)).1.1
      omega
    have HI6:=zk.mk hI6
    refine hK.out _ _ S6 (fun h=>?_)
    clear hK K h ho hbw hg6 hat nS S6 e7 hseg hI6 hH6 hcell hfro hrow
    generalize hnn:(st.2 ++ [x]).length = nn at HI6 ⊢
    refine YI (a':=?_) ?_ ?_
    rotate_left
    ·show Act.put _ (some 31) _ = _
     simp only [Act.put,List.setIfInBounds_toArray,List.set_cons_zero,List.set_cons_succ]
     rfl
    have i3:=HI3.out
    refine RW.rP 13 (some 32) T ?_
    clear i3
    refine sj (i:=14) (N:=none) #[true,true,true,true,true,true,true,true,true,true,true,true,true,true,true] rfl rfl (jY T.out (by kernel_rfl)) (by decide) (fun K hK=>?_)
    refine WJ (w1:=?_) (by rfl) rfl ?_ ?_
    rotate_left
    ·go_simp
     rfl
    refine hK.out _ _ ?_
    clear hK K
    refine um (xK T.out (by kernel_rfl)) ?_
    clear q0 qf
    generalize w6.setCell ⟨G,st.1.length,none⟩ (.slice Ao2 nn co2) = w7 at HI6 ⊢
    go_wp2_with fail
    go_roundw
    case rel=>exact ⟨k + 1,by omega,by first | rfl | go_num,by rw [HS.out];exact HI6⟩
    case measure=>simp [intOf];omega
  ·obtain rfl:k = l.length:=by omega
   go_wp2
   go_ret
   exact ⟨_,rfl,by rw [← VL];exact HI.out.final,HI.out.2.1⟩
def zYp (bs:List yD):Bool:=decide (bs.length ≤ 1000000) && bs.all (fun b=>decide (b.f6.length ≤ 1000000))
def wX.f (bs:List yD):Option (List (List yD)):=if zYp bs = true then some (splitV bs) else none
theorem wX.calls (A0:Option Addr) (c0:Nat) (l0:List yD) (r1:List (List yD)) (w:World) (hr0:Kd.C qK w A0 l0.length l0) (hc0:l0.length ≤ c0) (h:wX.f l0 = some r1) :
  Calls Tryz.prog 30 #[.slice A0 l0.length c0] w fun e w'=>∃ U5,e = .returned U5 ∧ (Kd.slice 53 qK).N 34 w' w.heap.size (fun k=>w.heap.size ≤ k) U5 r1 ∧ Below w.heap.size w w':=by
 unfold wX.f at h
 split at h
 case isFalse=>cases h
 case isTrue hz =>
  unfold zYp at hz
  simp only [Bool.and_eq_true,decide_eq_true_eq,List.all_eq_true] at hz
  injection h with h
  subst h
  exact zVB A0 c0 l0 w hr0 hz.1 (fun b hb=>by have:=hz.2 b hb;omega)
theorem zcL {α:Type} {d:Kd α} {e:TypeId} {W:World} {b:Nat} {v:Value} {xs:List α} (h:d.N e W b (fun k=>b ≤ k) v xs):d.N e W b (fun k=>True ∧ b ≤ k ∧ True) v xs:=Kd.wI h (fun _ hk=>⟨trivial,hk,trivial⟩)
end Go.Proofs.YtggifbbiiickmaaGreatDoor
namespace Go.Proofs.YtggifbbiiickmaaGreatDoor.PX
open Go.RowKit Go.Proofs.zx.zJ Go.Proofs.zx.zu Go.Proofs.zx.zo
attribute [local go_sem] yU y7 qX qJ yM yN y8 y9   -- for this text's walks alone
set_option linter.unusedVariables false
set_option linter.unusedSimpArgs false
def yO.l0:Nat → List (yD) → Int → Int → Option (Int)
 | 0,_,_,_=>none
 | k + 1,x0,x3,x4=>if x4 < (x0.length:Int) then (if 0 ≤ x4 then (if ((zw x0 x4).f0) = 3 then (yO.l0 k x0 x3 (wrap64 (x4 + 1))) else (if ((zw x0 x4).f0) = 5 then (yO.l0 k x0 x3 (wrap64 (x4 + 1))) else (if ((zw x0 x4).f0) ≥ 0 then (if ((zw x0 x4).f0) ≤ 6 then (yO.l0 k x0 (wrap64 (x3 + ((zw x0 x4).f1))) (wrap64 (x4 + 1))) else (yO.l0 k x0 x3 (wrap64 (x4 + 1)))) else (yO.l0 k x0 x3 (wrap64 (x4 + 1)))))) else (none)) else (some x3)
def yO.f (k:Nat) (l0:List (yD)):Option (Int):=yO.l0 k l0 0 0
set_option maxHeartbeats 8000000 in
set_option maxRecDepth 100000 in
theorem yO.calls (k:Nat) (A0:Option Addr) (c0:Nat) (l0:List (yD)) (r:Int) (w:World) (hr0:Kd.C qK w A0 l0.length l0) (hc0:l0.length ≤ c0) (h:yO.f k l0 = some r) :
  Calls Tryz.prog 27 #[.slice A0 l0.length c0] w fun e w'=>e = .returned (.int .i64 r) ∧ zL w w':=by
 have qA:=zk.mk hr0
 have YJ:=zk.mk hc0
 clear hr0 hc0
 have H:(yO.l0 k l0 0 0) = some r:=h
 clear h
 have H':=zk.mk H
 clear H
 go_enter Tryz.func27,Tryz.ntmps27
 go_wp2
 go_loopg [3,4] k (fun kq v3 v4 w'=>∃ (zD:Int) (zA:Int),v3 = .int .i64 zD ∧ v4 = .int .i64 zA ∧ zk (yO.l0 kq l0 zD zA = some r) ∧ zk (kq ≤ k) ∧ zL w w')
 case atStart=>exact ⟨(0),(0),(by first | rfl | (simp;done) | (simp [*];done)),(by first | rfl | (simp;done) | (simp [*];done)),H',⟨Nat.le_refl _⟩,by repeat (first | exact zL.refl _ | apply zL.step)⟩
 case round =>
  clear H'
  obtain ⟨zD,zA,rfl,rfl,HA,vQ,⟨m1,rfl⟩⟩:=hrel
  cases gk with
  | zero=>exact absurd HA.out (by simp [yO.l0])
  | succ k1 =>
   have H:=HA.out
   clear HA
   simp only [yO.l0] at H
   by_cases c2:zA < (l0.length:Int)
   ·rw [if_pos c2] at H
    have Ya:decide (zA < (l0.length:Int)) = true:=decide_eq_true c2
    clear c2
    by_cases c3:0 ≤ zA
    ·rw [if_pos c3] at H
     have wR:decide (0 ≤ zA) = true:=decide_eq_true c3
     clear c3
     by_cases c4:((zw l0 zA).f0) = 3
     ·rw [if_pos c4] at H
      have kD:(((zw l0 zA).f0) == 3) = true:=beq_iff_eq.mpr c4
      have zXm:(((zw l0 zA).f0) != 3) = false:=bne_eq_false_iff_eq.mpr c4
      clear c4
      have H':=zk.mk H
      clear H
      have Yx:0 ≤ (zA:Int):=of_decide_eq_true yj
      have Yj:zA < (l0.length:Int):=of_decide_eq_true yj
      obtain ⟨Ym,zzv,zzk,mQ,tK,tY,tu,tC,tF,tH,wm,wo,wu⟩:=yR qA.out zA Yx Yj
      cases mQ
      have tL:=zk.mk wu
      have tN:=zk.mk wo
      clear wu wo
      replace Yx:=eq_true Yx
      replace Yj:=eq_true Yj
      go_wp2
      go_roundg k1
      case measure=>have:=vQ.out;omega
      case rel=>exact ⟨(zD),(wrap64 (zA + 1)),(by first | rfl | (simp;done) | (simp [*];done)),(by first | rfl | (simp;done) | (simp [*];done)),H',⟨by have:=vQ.out;omega⟩,by repeat (first | exact zL.refl _ | apply zL.step)⟩
     ·rw [if_neg c4] at H
      have kD:(((zw l0 zA).f0) == 3) = false:=beq_eq_false_iff_ne.mpr c4
      have zXm:(((zw l0 zA).f0) != 3) = true:=bne_iff_ne.mpr c4
      by_cases c5:((zw l0 zA).f0) = 5
      ·rw [if_pos c5] at H
       have Z9:(((zw l0 zA).f0) == 5) = true:=beq_iff_eq.mpr c5
       have Kl:(((zw l0 zA).f0) != 5) = false:=bne_eq_false_iff_eq.mpr c5
       clear c5
       have H':=zk.mk H
       clear H
       have Yx:0 ≤ (zA:Int):=of_decide_eq_true yj
       have Yj:zA < (l0.length:Int):=of_decide_eq_true yj
       obtain ⟨Ym,zzv,zzk,mQ,tK,tY,tu,tC,tF,tH,wm,wo,wu⟩:=yR qA.out zA Yx Yj
       cases mQ
       have tL:=zk.mk wu
       have tN:=zk.mk wo
       clear wu wo
       replace Yx:=eq_true Yx
       replace Yj:=eq_true Yj
       have Qq:0 ≤ (zA:Int):=of_decide_eq_true yj
       have Qx:zA < (l0.length:Int):=of_decide_eq_true yj
       obtain ⟨mX,zkw,zkZ,iF,zxg,zxh,zxi,zxl,zxm,zxn,Ue,Zl,Zm⟩:=yR qA.out zA Qq Qx
       obtain rfl:Ym = mX:=(by injection iF)
       have zxo:=zk.mk Zm
       have zxp:=zk.mk Zl
       clear Zm Zl
       replace Qq:=eq_true Qq
       replace Qx:=eq_true Qx
       have qQ:=Option.some.inj (wm.symm.trans Ue)
       injection qQ with qQ vM vN
       subst qQ
       subst vN
       clear vM
       go_wp2
       go_roundg k1
       case measure=>have:=vQ.out;omega
       case rel=>exact ⟨(zD),(wrap64 (zA + 1)),(by first | rfl | (simp;done) | (simp [*];done)),(by first | rfl | (simp;done) | (simp [*];done)),H',⟨by have:=vQ.out;omega⟩,by repeat (first | exact zL.refl _ | apply zL.step)⟩
      ·rw [if_neg c5] at H
       have Z9:(((zw l0 zA).f0) == 5) = false:=beq_eq_false_iff_ne.mpr c5
       have Kl:(((zw l0 zA).f0) != 5) = true:=bne_iff_ne.mpr c5
       by_cases c6:((zw l0 zA).f0) ≥ 0
       ·rw [if_pos c6] at H
        have Zx:decide (0 ≤ ((zw l0 zA).f0)) = true:=decide_eq_true c6
        clear c6
        by_cases c7:((zw l0 zA).f0) ≤ 6
        ·rw [if_pos c7] at H
         have Jf:decide (((zw l0 zA).f0) ≤ 6) = true:=decide_eq_true c7
         clear c7
         have H':=zk.mk H
         clear H
         have Yx:0 ≤ (zA:Int):=of_decide_eq_true yj
         have Yj:zA < (l0.length:Int):=of_decide_eq_true yj
         obtain ⟨Ym,zzv,zzk,mQ,tK,tY,tu,tC,tF,tH,wm,wo,wu⟩:=yR qA.out zA Yx Yj
         cases mQ
         have tL:=zk.mk wu
         have tN:=zk.mk wo
         clear wu wo
         replace Yx:=eq_true Yx
         replace Yj:=eq_true Yj
         have Qq:0 ≤ (zA:Int):=of_decide_eq_true yj
         have Qx:zA < (l0.length:Int):=of_decide_eq_true yj
         obtain ⟨mX,zkw,zkZ,iF,zxg,zxh,zxi,zxl,zxm,zxn,Ue,Zl,Zm⟩:=yR qA.out zA Qq Qx
         obtain rfl:Ym = mX:=(by injection iF)
         have zxo:=zk.mk Zm
         have zxp:=zk.mk Zl
         clear Zm Zl
         replace Qq:=eq_true Qq
         replace Qx:=eq_true Qx
         have qQ:=Option.some.inj (wm.symm.trans Ue)
         injection qQ with qQ vM vN
         subst qQ
         subst vN
         clear vM
         have KO:0 ≤ (zA:Int):=of_decide_eq_true yj
         have KP:zA < (l0.length:Int):=of_decide_eq_true yj
         obtain ⟨zzy,zVC,zVD,zkQ,zwT,zwU,zw0,zw1,zw2,zw3,cZ,Q8,Q9⟩:=yR qA.out zA KO KP
         obtain rfl:Ym = zzy:=(by injection zkQ)
         have zw4:=zk.mk Q9
         have zw5:=zk.mk Q8
         clear Q9 Q8
         replace KO:=eq_true KO
         replace KP:=eq_true KP
         have qQ:=Option.some.inj (wm.symm.trans cZ)
         injection qQ with qQ vM vN
         subst qQ
         subst vN
         clear vM
         have iG:0 ≤ (zA:Int):=of_decide_eq_true yj
         have iH:zA < (l0.length:Int):=of_decide_eq_true yj
         obtain ⟨zJX,zcM,zcN,zYr,zaL,zaM,zaN,zaO,zaP,zaR,zxr,cK,cB⟩:=yR qA.out zA iG iH
         obtain rfl:Ym = zJX:=(by injection zYr)
         have zaS:=zk.mk cB
         have zaT:=zk.mk cK
         clear cB cK
         replace iG:=eq_true iG
         replace iH:=eq_true iH
         have qQ:=Option.some.inj (wm.symm.trans zxr)
         injection qQ with qQ vM vN
         subst qQ
         subst vN
         clear vM
         have zYs:0 ≤ (zA:Int):=of_decide_eq_true yj
         have zYt:zA < (l0.length:Int):=of_decide_eq_true yj
         obtain ⟨zfX,zn2,zn3,zhe,zmq,zmx,zmj,zmv,zmk,zmy,zaU,zw6,zw7⟩:=yR qA.out zA zYs zYt
         obtain rfl:Ym = zfX:=(by injection zhe)
         have zmw:=zk.mk zw7
         have zmZ:=zk.mk zw6
         clear zw7 zw6
         replace zYs:=eq_true zYs
         replace zYt:=eq_true zYt
         have qQ:=Option.some.inj (wm.symm.trans zaU)
         injection qQ with qQ vM vN
         subst qQ
         subst vN
         clear vM
         go_wp2
         go_roundg k1
         case measure=>have:=vQ.out;omega
         case rel=>exact ⟨(wrap64 (zD + ((zw l0 zA).f1))),(wrap64 (zA + 1)),(by first | rfl | (simp;done) | (simp [*];done)),(by first | rfl | (simp;done) | (simp [*];done)),H',⟨by have:=vQ.out;omega⟩,by repeat (first | exact zL.refl _ | apply zL.step)⟩
        ·rw [if_neg c7] at H
         have Jf:decide (((zw l0 zA).f0) ≤ 6) = false:=decide_eq_false c7
         clear c7
         have H':=zk.mk H
         clear H
         have Yx:0 ≤ (zA:Int):=of_decide_eq_true yj
         have Yj:zA < (l0.length:Int):=of_decide_eq_true yj
         obtain ⟨Ym,zzv,zzk,mQ,tK,tY,tu,tC,tF,tH,wm,wo,wu⟩:=yR qA.out zA Yx Yj
         cases mQ
         have tL:=zk.mk wu
         have tN:=zk.mk wo
         clear wu wo
         replace Yx:=eq_true Yx
         replace Yj:=eq_true Yj
         have Qq:0 ≤ (zA:Int):=of_decide_eq_true yj
         have Qx:zA < (l0.length:Int):=of_decide_eq_true yj
         obtain ⟨mX,zkw,zkZ,iF,zxg,zxh,zxi,zxl,zxm,zxn,Ue,Zl,Zm⟩:=yR qA.out zA Qq Qx
         obtain rfl:Ym = mX:=(by injection iF)
         have zxo:=zk.mk Zm
         have zxp:=zk.mk Zl
         clear Zm Zl
         replace Qq:=eq_true Qq
         replace Qx:=eq_true Qx
         have qQ:=Option.some.inj (wm.symm.trans Ue)
         injection qQ with qQ vM vN
         subst qQ
         subst vN
         clear vM
         have KO:0 ≤ (zA:Int):=of_decide_eq_true yj
         have KP:zA < (l0.length:Int):=of_decide_eq_true yj
         obtain ⟨zzy,zVC,zVD,zkQ,zwT,zwU,zw0,zw1,zw2,zw3,cZ,Q8,Q9⟩:=yR qA.out zA KO KP
         obtain rfl:Ym = zzy:=(by injection zkQ)
         have zw4:=zk.mk Q9
         have zw5:=zk.mk Q8
         clear Q9 Q8
         replace KO:=eq_true KO
         replace KP:=eq_true KP
         have qQ:=Option.some.inj (wm.symm.trans cZ)
         injection qQ with qQ vM vN
         subst qQ
         subst vN
         clear vM
         have iG:0 ≤ (zA:Int):=of_decide_eq_true yj
         have iH:zA < (l0.length:Int):=of_decide_eq_true yj
         obtain ⟨zJX,zcM,zcN,zYr,zaL,zaM,zaN,zaO,zaP,zaR,zxr,cK,cB⟩:=yR qA.out zA iG iH
         obtain rfl:Ym = zJX:=(by injection zYr)
         have zaS:=zk.mk cB
         have zaT:=zk.mk cK
         clear cB cK
         replace iG:=eq_true iG
         replace iH:=eq_true iH
         have qQ:=Option.some.inj (wm.symm.trans zxr)
         injection qQ with qQ vM vN
         subst qQ
         subst vN
         clear vM
         go_wp2
         go_roundg k1
         case measure=>have:=vQ.out;omega
         case rel=>exact ⟨(zD),(wrap64 (zA + 1)),(by first | rfl | (simp;done) | (simp [*];done)),(by first | rfl | (simp;done) | (simp [*];done)),H',⟨by have:=vQ.out;omega⟩,by repeat (first | exact zL.refl _ | apply zL.step)⟩
       ·rw [if_neg c6] at H
        have Zx:decide (0 ≤ ((zw l0 zA).f0)) = false:=decide_eq_false c6
        clear c6
        have H':=zk.mk H
        clear H
        have Yx:0 ≤ (zA:Int):=of_decide_eq_true yj
        have Yj:zA < (l0.length:Int):=of_decide_eq_true yj
        obtain ⟨Ym,zzv,zzk,mQ,tK,tY,tu,tC,tF,tH,wm,wo,wu⟩:=yR qA.out zA Yx Yj
        cases mQ
        have tL:=zk.mk wu
        have tN:=zk.mk wo
        clear wu wo
        replace Yx:=eq_true Yx
        replace Yj:=eq_true Yj
        have Qq:0 ≤ (zA:Int):=of_decide_eq_true yj
        have Qx:zA < (l0.length:Int):=of_decide_eq_true yj
        obtain ⟨mX,zkw,zkZ,iF,zxg,zxh,zxi,zxl,zxm,zxn,Ue,Zl,Zm⟩:=yR qA.out zA Qq Qx
        obtain rfl:Ym = mX:=(by injection iF)
        have zxo:=zk.mk Zm
        have zxp:=zk.mk Zl
        clear Zm Zl
        replace Qq:=eq_true Qq
        replace Qx:=eq_true Qx
        have qQ:=Option.some.inj (wm.symm.trans Ue)
        injection qQ with qQ vM vN
        subst qQ
        subst vN
        clear vM
        have KO:0 ≤ (zA:Int):=of_decide_eq_true yj
        have KP:zA < (l0.length:Int):=of_decide_eq_true yj
        obtain ⟨zzy,zVC,zVD,zkQ,zwT,zwU,zw0,zw1,zw2,zw3,cZ,Q8,Q9⟩:=yR qA.out zA KO KP
        obtain rfl:Ym = zzy:=(by injection zkQ)
        have zw4:=zk.mk Q9
        have zw5:=zk.mk Q8
        clear Q9 Q8
        replace KO:=eq_true KO
        replace KP:=eq_true KP
        have qQ:=Option.some.inj (wm.symm.trans cZ)
        injection qQ with qQ vM vN
        subst qQ
        subst vN
        clear vM
        go_wp2
        go_roundg k1
        case measure=>have:=vQ.out;omega
        case rel=>exact ⟨(zD),(wrap64 (zA + 1)),(by first | rfl | (simp;done) | (simp [*];done)),(by first | rfl | (simp;done) | (simp [*];done)),H',⟨by have:=vQ.out;omega⟩,by repeat (first | exact zL.refl _ | apply zL.step)⟩
    ·rw [if_neg c3] at H
     exact absurd H (by simp)
   ·rw [if_neg c2] at H
    have Ya:decide (zA < (l0.length:Int)) = false:=decide_eq_false c2
    clear c2
    obtain rfl:=Option.some.inj H
    go_wp2
    go_ret
    exact ⟨by first | rfl | (simp;done) | (simp [*];done),by repeat (first | exact zL.refl _ | apply zL.step)⟩
end Go.Proofs.YtggifbbiiickmaaGreatDoor.PX
namespace Go.Proofs.YtggifbbiiickmaaGreatDoor.PX
open Go.RowKit Go.Proofs.zx.zJ Go.Proofs.zx.zu Go.Proofs.zx.zo
attribute [local go_sem] yU y7 qX qJ yM yN y8 y9   -- for this text's walks alone
set_option linter.unusedVariables false
set_option linter.unusedSimpArgs false
def qE.f (ze:Int) (zn:Int) (zi:Int) (yJ:Int) (zS:ByteArray) (yQ:ByteArray) (yx:List Int):Option (Bool):=if ze = 1 then (some (zS.toList != ([126]:List UInt8))) else (some false)
set_option maxHeartbeats 8000000 in
set_option maxRecDepth 100000 in
theorem qE.calls (ze:Int) (zn:Int) (zi:Int) (yJ:Int) (zS:ByteArray) (yQ:ByteArray) (qd:Option Addr) (qg:Nat) (yx:List Int) (r:Bool) (w:World) (Wp:Kd.C (Kd.int .i64) w qd yx.length yx) (Ws:yx.length ≤ qg) (h:qE.f ze zn zi yJ zS yQ yx = some r) :
  Calls Tryz.prog 34 #[.agg #[.int .i64 ze,.int .i64 zn,.int .i64 zi,.int .i64 yJ,.string zS,.string yQ,.slice qd yx.length qg]] w fun e w'=>e = .returned (.bool r) ∧ Below w.heap.size w w':=by
 have zz5:=Tryz.underlying53
 have gG:=zk.mk Wp
 have zWQ:=zk.mk Ws
 clear Wp Ws
 have HB:=zk.mk (Below.refl w.heap.size w)
 have H:(if ze = 1 then (some (zS.toList != ([126]:List UInt8))) else (some false)) = some r:=h
 clear h
 by_cases c2:ze = 1
 ·rw [if_pos c2] at H
  have Ya:(ze == 1) = true:=beq_iff_eq.mpr c2
  have zhf:(ze != 1) = false:=bne_eq_false_iff_eq.mpr c2
  clear c2
  obtain rfl:=Option.some.inj H
  go_enter Tryz.func34,Tryz.ntmps34
  go_wp2_with (first | ((with_reducible refine qY (N:=1) rfl ?_);refine qm ?hg (N:=1) ?hd (cs:=#[.int .i64 ze,.int .i64 zn,.int .i64 zi,.int .i64 yJ,.string zS,.string yQ,.slice qd yx.length qg]) (t:=53) ?hr ?_;(case hd=>rfl);(case hg=>rfl);(case hr=>first | (go_simp;done) | (go_simp;rfl));intro pz hg w3 qo hb;have zh:=zk.mk (zF (zM HB.out) hb);have zG:=zk.mk (qo);have zU:=zk.mk ((by rw [hg];exact (zI (zM HB.out)):w.heap.size ≤ pz));have yc:=zk.mk ((by rw [hg];exact (zI (zM HB.out)):w.heap.size ≤ pz));clear HB;have HB:=zh;have uF:=zG;have zfJ:=zU;have zJJ:=yc;clear zh zG zU yc;clear hb qo hg;have zn4:w3.cell? ⟨pz,0,none⟩ = some (.int .i64 ze):=zK uF 0;have zn5:w3.cell? ⟨pz,1,none⟩ = some (.int .i64 zn):=zK uF 1;have zn6:w3.cell? ⟨pz,2,none⟩ = some (.int .i64 zi):=zK uF 2;have zn7:w3.cell? ⟨pz,3,none⟩ = some (.int .i64 yJ):=zK uF 3;have zn8:w3.cell? ⟨pz,4,none⟩ = some (.string zS):=zK uF 4;have zn9:w3.cell? ⟨pz,5,none⟩ = some (.string yQ):=zK uF 5;have zoz:w3.cell? ⟨pz,6,none⟩ = some (.slice qd yx.length qg):=zK uF 6;have zoq:=zy uF.out 0;have zox:=zy uF.out 1;have zoj:=zy uF.out 2;have zov:=zy uF.out 3;have zok:=zy uF.out 4;have zoy:=zy uF.out 5;have zow:=zy uF.out 6))
  go_ret
  exact ⟨by first | rfl | (simp [zl,zm] <;> rfl) | (simp [*,zl,zm] <;> rfl),by repeat (first | (with_reducible first | exact HB.out | apply zO | apply zC | apply zP | refine qw ?_ zJJ.out) | exact HB.out)⟩
 ·rw [if_neg c2] at H
  have Ya:(ze == 1) = false:=beq_eq_false_iff_ne.mpr c2
  have zhf:(ze != 1) = true:=bne_iff_ne.mpr c2
  obtain rfl:=Option.some.inj H
  go_enter Tryz.func34,Tryz.ntmps34
  go_wp2_with (first | ((with_reducible refine qY (N:=1) rfl ?_);refine qm ?hg (N:=1) ?hd (cs:=#[.int .i64 ze,.int .i64 zn,.int .i64 zi,.int .i64 yJ,.string zS,.string yQ,.slice qd yx.length qg]) (t:=53) ?hr ?_;(case hd=>rfl);(case hg=>rfl);(case hr=>first | (go_simp;done) | (go_simp;rfl));intro pz hg w5 qo hb;have zh:=zk.mk (zF (zM HB.out) hb);have zG:=zk.mk (qo);have zU:=zk.mk ((by rw [hg];exact (zI (zM HB.out)):w.heap.size ≤ pz));have yc:=zk.mk ((by rw [hg];exact (zI (zM HB.out)):w.heap.size ≤ pz));clear HB;have HB:=zh;have uF:=zG;have zfJ:=zU;have zJJ:=yc;clear zh zG zU yc;clear hb qo hg;have zoZ:w5.cell? ⟨pz,0,none⟩ = some (.int .i64 ze):=zK uF 0;have zoQ:w5.cell? ⟨pz,1,none⟩ = some (.int .i64 zn):=zK uF 1;have zoX:w5.cell? ⟨pz,2,none⟩ = some (.int .i64 zi):=zK uF 2;have zoJ:w5.cell? ⟨pz,3,none⟩ = some (.int .i64 yJ):=zK uF 3;have zoV:w5.cell? ⟨pz,4,none⟩ = some (.string zS):=zK uF 4;have zoK:w5.cell? ⟨pz,5,none⟩ = some (.string yQ):=zK uF 5;have zoY:w5.cell? ⟨pz,6,none⟩ = some (.slice qd yx.length qg):=zK uF 6;have zoW:=zy uF.out 0;have zoa:=zy uF.out 1;have zob:=zy uF.out 2;have zoc:=zy uF.out 3;have zod:=zy uF.out 4;have zoe:=zy uF.out 5;have zof:=zy uF.out 6))
  go_ret
  exact ⟨by first | rfl | (simp [zl,zm] <;> rfl) | (simp [*,zl,zm] <;> rfl),by repeat (first | (with_reducible first | exact HB.out | apply zO | apply zC | apply zP | refine qw ?_ zJJ.out) | exact HB.out)⟩
end Go.Proofs.YtggifbbiiickmaaGreatDoor.PX
namespace Go.Proofs.YtggifbbiiickmaaGreatDoor.PX
open Go.RowKit Go.Proofs.zx.zJ Go.Proofs.zx.zu Go.Proofs.zx.zo
attribute [local go_sem] yU y7 qX qJ yM yN y8 y9   -- for this text's walks alone
set_option linter.unusedVariables false
set_option linter.unusedSimpArgs false
def yt.l0:Nat → List (yD) → List (List (yD)) → List (yD) → Int → Option ((List (List (yD))))
 | 0,_,_,_,_=>none
 | k + 1,x0,x3,x4,x5=>if x5 < (x0.length:Int) then (if 0 ≤ x5 then ((qE.f ((zw x0 x5).f0) ((zw x0 x5).f1) ((zw x0 x5).f2) ((zw x0 x5).f3) ((zw x0 x5).f4) ((zw x0 x5).f5) ((zw x0 x5).f6)).bind fun zJV=>(if zJV = true then (if x3.length < 5864062014805 then (yt.l0 k x0 (x3 ++ [x4]) ([]:List (yD)) (wrap64 (x5 + 1))) else (none)) else (if x4.length < 1599289640401 then (yt.l0 k x0 x3 (x4 ++ [(⟨(zw x0 x5).f0,(zw x0 x5).f1,(zw x0 x5).f2,(zw x0 x5).f3,(zw x0 x5).f4,(zw x0 x5).f5,(zw x0 x5).f6⟩:yD)]) (wrap64 (x5 + 1))) else (none)))) else (none)) else (if x3.length < 5864062014805 then (some (x3 ++ [x4])) else (none))
def yt.f (k:Nat) (l0:List (yD)):Option ((List (List (yD)))):=yt.l0 k l0 ([]:List (List (yD))) ([]:List (yD)) 0
set_option maxHeartbeats 8000000 in
set_option maxRecDepth 100000 in
theorem yt.calls (k:Nat) (YW:Nat → Prop) (A0:Option Addr) (c0:Nat) (l0:List (yD)) (r:List (List (yD))) (w:World) (hs0:Kd.V qK 53 w w.heap.size (fun k_=>YW k_) (.slice A0 l0.length c0) l0) (h:yt.f k l0 = some r) :
  Calls Tryz.prog 31 #[.slice A0 l0.length c0] w fun e w'=>∃ U5:Value,e = .returned (U5) ∧ Kd.N (Kd.slice 53 qK) 34 w' w.heap.size (fun k_=>(YW k_ ∨ w.heap.size ≤ k_)) U5 r ∧ Below w.heap.size w w':=by
 have zz5:=Tryz.underlying53
 have HO0:=zk.mk (show Kd.V qK 53 w w.heap.size (fun k_=>(YW k_ ∨ w.heap.size ≤ k_)) (.slice A0 l0.length c0) l0 from Kd.YX hs0 (fun k_ hk=>.inl hk))
 have HB:=zk.mk (Below.refl w.heap.size w)
 have H:(yt.l0 k l0 ([]:List (List (yD))) ([]:List (yD)) 0) = some r:=h
 clear h
 have H':=zk.mk H
 clear H
 go_enter Tryz.func31,Tryz.ntmps31
 go_wp2
 go_loopg [3,4,5] k (fun kq v3 v4 v5 w'=>∃ (zD:List (List (yD))) (zA:List (yD)) (zf:Int),v5 = .int .i64 zf ∧ zk (yt.l0 kq l0 zD zA zf = some r) ∧ zk (kq ≤ k) ∧ zk (Kd.V qK 53 w' w.heap.size (fun k_=>(YW k_ ∨ w.heap.size ≤ k_) ∧ some k_ ≠ (v3:Value).ownBlock ∧ some k_ ≠ (v4:Value).ownBlock) (.slice A0 l0.length c0) l0) ∧ zk (Kd.N (Kd.slice 53 qK) 34 w' w.heap.size (fun k_=>(YW k_ ∨ w.heap.size ≤ k_) ∧ some k_ ≠ (v4:Value).ownBlock) v3 zD) ∧ zk (Kd.N qK 53 w' w.heap.size (fun k_=>(YW k_ ∨ w.heap.size ≤ k_) ∧ some k_ ≠ (v3:Value).ownBlock) v4 zA) ∧ zk (Below w.heap.size w w'))
 case atStart=>exact ⟨(([]:List (List (yD)))),(([]:List (yD))),(0),(by first | rfl | (simp;done) | (simp [*];done)),H',⟨Nat.le_refl _⟩,⟨by (with_reducible repeat (first | apply Kd.wY | apply Kd.wW | apply Kd.Zy));exact Kd.YX HO0.out (fun _ hk=>⟨hk,⟨(by simp [Value.ownBlock]),(by simp [Value.ownBlock])⟩⟩)⟩,⟨by first | exact Kd.kC _ _ _ _ _ | exact Kd.zXY _ _ _ _ _ | exact Kd.zXc _ _ _ _ _ | exact Kd.zXw _ _ _ _ _ | exact Kd.gK _ _ _ _ _⟩,⟨by first | exact Kd.gK _ _ _ _ _ | exact Kd.zXY _ _ _ _ _ | exact Kd.zXc _ _ _ _ _ | exact Kd.zXw _ _ _ _ _ | exact Kd.kC _ _ _ _ _⟩,⟨zM HB.out⟩⟩
 case round =>
  clear H'
  obtain ⟨zD,zA,zf,rfl,HA,vQ,wV,Qj,Xr,HB⟩:=hrel
  cases gk with
  | zero=>exact absurd HA.out (by simp [yt.l0])
  | succ k1 =>
   have H:=HA.out
   clear HA
   simp only [yt.l0] at H
   by_cases c2:zf < (l0.length:Int)
   ·rw [if_pos c2] at H
    have Ya:decide (zf < (l0.length:Int)) = true:=decide_eq_true c2
    clear c2
    by_cases c3:0 ≤ zf
    ·rw [if_pos c3] at H
     have wR:decide (0 ≤ zf) = true:=decide_eq_true c3
     clear c3
     replace H:=Option.bind_eq_some_iff.mp H
     obtain ⟨zJV,nQ,H⟩:=H
     replace H:(if zJV = true then (if zD.length < 5864062014805 then (yt.l0 k1 l0 (zD ++ [zA]) ([]:List (yD)) (wrap64 (zf + 1))) else (none)) else (if zA.length < 1599289640401 then (yt.l0 k1 l0 zD (zA ++ [(⟨(zw l0 zf).f0,(zw l0 zf).f1,(zw l0 zf).f2,(zw l0 zf).f3,(zw l0 zf).f4,(zw l0 zf).f5,(zw l0 zf).f6⟩:yD)]) (wrap64 (zf + 1))) else (none))) = some r:=H
     have A4:=zk.mk nQ
     clear nQ
     by_cases c5:zJV = true
     ·subst c5
      have H1:(if zD.length < 5864062014805 then (yt.l0 k1 l0 (zD ++ [zA]) ([]:List (yD)) (wrap64 (zf + 1))) else (none)) = some r:=by rw [if_pos rfl] at H;exact H
      clear H
      have H:=H1
      clear H1
      by_cases c6:zD.length < 5864062014805
      ·rw [if_pos c6] at H
       have zhg:=zk.mk c6
       clear c6
       obtain ⟨zcO,zzw⟩:∃ y_:List (List (yD)),y_ = (zD ++ [zA]):=⟨_,rfl⟩
       replace H:(yt.l0 k1 l0 zcO ([]:List (yD)) (wrap64 (zf + 1))) = some r:=by first | (rw [zzw];with_reducible exact H) | (have Vd:=(Option.bind_some _ _).symm.trans H;rw [zzw];with_reducible exact Vd) | (have Vd:=(Option.bind_some _ _).symm.trans H;with_reducible exact Vd) | with_reducible exact H | (rw [zzw];exact H) | exact H
       have zfV:=zk.mk zzw
       clear zzw
       have H':=zk.mk H
       clear H
       have mJ:0 ≤ (zf:Int):=of_decide_eq_true yj
       have mV:zf < (l0.length:Int):=of_decide_eq_true yj
       obtain ⟨zWi,zkX,zkJ,zYu,za0,za1,za2,za3,za4,za5,zxs,cO,dz⟩:=yR (Kd.X6 wV.out).2.2 zf mJ mV
       cases zYu
       obtain ⟨zfK,zkV,zkK,nT⟩:=Kd.zXd wV.out z53 zf mJ (by first | exact mV | exact of_decide_eq_true yj | (have e_:=(Kd.X6 wV.out).1;omega))
       obtain ⟨za6,za7,rfl,Uf,Ug⟩:=WW zkK
       have XV:=nT 6 _ rfl
       rw [xO _ _ 6 (by omega)] at XV
       replace XV:=Option.some.inj (XV.symm.trans zxs)
       injection XV with ug wH uh
       rw [ug] at Ug
       rw [uh] at Uf
       have pK:=zk.mk (show Kd.V (Kd.int .i64) 3 _ w.heap.size _ _ ((zw l0 zf).f6) from Kd.X5 Uf Ug)
       clear ug wH uh Ug Uf
       clear nT zkV
       have pY:=zk.mk dz
       have zxt:=zk.mk cO
       clear dz cO
       replace mJ:=eq_true mJ
       replace mV:=eq_true mV
       go_wp2_with (first | ((with_reducible refine yw (f:=34) rfl ?_);refine vR (some 16) Tryz.func34 #[.agg #[.int .i64 ((zw l0 zf).f0),.int .i64 ((zw l0 zf).f1),.int .i64 ((zw l0 zf).f2),.int .i64 ((zw l0 zf).f3),.string ((zw l0 zf).f4),.string ((zw l0 zf).f5),.slice zkX ((zw l0 zf).f6).length zkJ]] ?_;(with_reducible refine (qE.calls ((zw l0 zf).f0) ((zw l0 zf).f1) ((zw l0 zf).f2) ((zw l0 zf).f3) ((zw l0 zf).f4) ((zw l0 zf).f5) _ _ ((zw l0 zf).f6) true _ ?yX ?yE A4.out).mono ?_);(case yX=>repeat (first | exact (by repeat (first | (with_reducible exact pY.out) | (with_reducible refine Kd.YG ?_ _) | (with_reducible refine Kd.YH ?_ _) | (with_reducible refine Kd.Va ?_) | exact pY.out)) | (with_reducible refine Kd.YG ?_ _) | (with_reducible refine Kd.YH ?_ _) | (with_reducible refine Kd.Va ?_)));(case yE=>exact zxt.out);rintro e w7 ⟨rfl,hb⟩;refine ⟨_,rfl,?_⟩;have zh:=zk.mk (Kd.vG (by (with_reducible repeat (first | apply Kd.wY | apply Kd.wW | apply Kd.Zy));exact wV.out) hb);have zG:=zk.mk (Kd.uK (by (with_reducible repeat (first | apply Kd.uI | apply Kd.uL | apply Kd.uJ));exact Qj.out) hb);have zU:=zk.mk (Kd.uK (by (with_reducible repeat (first | apply Kd.uI | apply Kd.uL | apply Kd.uJ));exact Xr.out) hb);have yc:=zk.mk (Kd.vG (by (with_reducible repeat (first | apply Kd.wY | apply Kd.wW | apply Kd.Zy));exact pK.out) hb);have xJ:=zk.mk (Kd.za (by repeat (first | (with_reducible exact pY.out) | (with_reducible refine Kd.YG ?_ _) | (with_reducible refine Kd.YH ?_ _) | (with_reducible refine Kd.Va ?_) | exact pY.out)) hb);have jI:=zk.mk (zF (zM HB.out) hb);clear wV;clear Qj;clear Xr;clear pK;clear pY;clear HB;have wV:=zh;have Qj:=zG;have Xr:=zU;have pK:=yc;have pY:=xJ;have HB:=jI;clear zh zG zU yc xJ jI;(try clear hb);(try clear hk);obtain ⟨Ao9,co9,eo9⟩:=Kd.V4 Xr.out;subst eo9) | ((with_reducible refine wJ (b:=.append) (xs:=#[.tmp 17,.tmp 19]) rfl ?_);at_builtin;refine Kd.eZ (Kd.slice 53 qK) (w0:=w) w.heap.size rfl (.tmp 17) (.tmp 19) 72 34 (.slice none 0 0) 24 rfl Tryz.underlying72 zvF rfl (by decide) (by omega) u3 zD zA [.slice Ao9 zA.length co9] (fun k_=>(YW k_ ∨ w.heap.size ≤ k_)) (fun k_=>((fun k_=>(YW k_ ∨ w.heap.size ≤ k_))) k_ ∧ some k_ ≠ (u3:Value).ownBlock) rfl rfl ?aP (fun _ hk=>hk) ?aF ?aO ?aB ?aS ?aL ?_;(case aP=>exact (Kd.fZ (Kd.vv (Kd.wI (ok':=(fun k_=>((fun k_=>(YW k_ ∨ w.heap.size ≤ k_))) k_ ∧ some k_ ≠ (u3:Value).ownBlock)) (Xr.out) (fun k_ hk=>⟨hk.1,hk.2⟩))).2.1 (Kd.N_F (Kd.wI (ok':=(fun k_=>((fun k_=>(YW k_ ∨ w.heap.size ≤ k_))) k_ ∧ some k_ ≠ (u3:Value).ownBlock)) (Xr.out) (fun k_ hk=>⟨hk.1,hk.2⟩)))));(case aB=>exact (zM HB.out));(case aF=>exact (fun k_ hk=>(.inr (Nat.le_trans (zI (zM HB.out)) hk))));(case aO=>exact (by (with_reducible repeat (first | apply Kd.uI | apply Kd.uL | apply Kd.uJ));exact Kd.wI Qj.out (fun _ hk=>hk.1)));(case aS=>exact (zI (zM HB.out)));(case aL=>have:=zhg.out;omega);intro zpO w8 ho hb hg hat;rw [← zfV.out] at ho;have zh:=zk.mk (Kd.V5 (ok:=(fun k_=>(YW k_ ∨ w.heap.size ≤ k_) ∧ some k_ ≠ (.slice Ao9 zA.length co9:Value).ownBlock)) (by (with_reducible repeat (first | apply Kd.wY | apply Kd.wW | apply Kd.Zy));exact Kd.YX wV.out (fun _ hk=>⟨⟨hk.1,hk.2.2⟩,hk.2.1⟩)) hg hat);have zG:=zk.mk (Kd.V5 (ok:=(fun k_=>(YW k_ ∨ w.heap.size ≤ k_) ∧ some k_ ≠ (.slice Ao9 zA.length co9:Value).ownBlock)) (by (with_reducible repeat (first | apply Kd.wY | apply Kd.wW | apply Kd.Zy));exact Kd.YX pK.out (fun _ hk=>⟨⟨hk.1,hk.2.2⟩,hk.2.1⟩)) hg hat);have zU:=zk.mk (hb);have yc:=zk.mk (ho);clear wV;clear pK;clear HB;clear Qj;clear Xr;have wV:=zh;have pK:=zG;have HB:=zU;have zfY:=yc;clear zh zG zU yc;clear ho hb hg hat))
       go_roundg k1
       case measure=>have:=vQ.out;omega
       case rel=>exact ⟨(zcO),(([]:List (yD))),(wrap64 (zf + 1)),(by first | rfl | (simp;done) | (simp [*];done)),H',⟨by have:=vQ.out;omega⟩,⟨by (with_reducible repeat (first | apply Kd.wY | apply Kd.wW | apply Kd.Zy));exact Kd.YX wV.out (fun _ hk=>⟨hk.1.1,⟨hk.2,(by simp [Value.ownBlock])⟩⟩)⟩,⟨by (with_reducible repeat (first | apply Kd.uI | apply Kd.uL | apply Kd.uJ));exact Kd.wI zfY.out (fun _ hk=>⟨hk,(by simp [Value.ownBlock])⟩)⟩,⟨by first | exact Kd.gK _ _ _ _ _ | exact Kd.zXY _ _ _ _ _ | exact Kd.zXc _ _ _ _ _ | exact Kd.zXw _ _ _ _ _ | exact Kd.kC _ _ _ _ _⟩,⟨zM HB.out⟩⟩
      ·rw [if_neg c6] at H
       exact absurd H (by simp)
     ·replace c5:=Bool.eq_false_iff.mpr c5
      subst c5
      have H1:(if zA.length < 1599289640401 then (yt.l0 k1 l0 zD (zA ++ [(⟨(zw l0 zf).f0,(zw l0 zf).f1,(zw l0 zf).f2,(zw l0 zf).f3,(zw l0 zf).f4,(zw l0 zf).f5,(zw l0 zf).f6⟩:yD)]) (wrap64 (zf + 1))) else (none)) = some r:=by rw [if_neg (show ¬ (false = true) by decide)] at H;exact H
      clear H
      have H:=H1
      clear H1
      by_cases c10:zA.length < 1599289640401
      ·rw [if_pos c10] at H
       have zfW:=zk.mk c10
       clear c10
       obtain ⟨zcP,zzZ⟩:∃ y_:List (yD),y_ = (zA ++ [(⟨(zw l0 zf).f0,(zw l0 zf).f1,(zw l0 zf).f2,(zw l0 zf).f3,(zw l0 zf).f4,(zw l0 zf).f5,(zw l0 zf).f6⟩:yD)]):=⟨_,rfl⟩
       replace H:(yt.l0 k1 l0 zD zcP (wrap64 (zf + 1))) = some r:=by first | (rw [zzZ];with_reducible exact H) | (have Vd:=(Option.bind_some _ _).symm.trans H;rw [zzZ];with_reducible exact Vd) | (have Vd:=(Option.bind_some _ _).symm.trans H;with_reducible exact Vd) | with_reducible exact H | (rw [zzZ];exact H) | exact H
       have zfa:=zk.mk zzZ
       clear zzZ
       have H':=zk.mk H
       clear H
       have mJ:0 ≤ (zf:Int):=of_decide_eq_true yj
       have mV:zf < (l0.length:Int):=of_decide_eq_true yj
       obtain ⟨zWi,zkX,zkJ,zYu,za0,za1,za2,za3,za4,za5,zxs,cO,dz⟩:=yR (Kd.X6 wV.out).2.2 zf mJ mV
       cases zYu
       obtain ⟨zfK,zkV,zkK,nT⟩:=Kd.zXd wV.out z53 zf mJ (by first | exact mV | exact of_decide_eq_true yj | (have e_:=(Kd.X6 wV.out).1;omega))
       obtain ⟨za6,za7,rfl,Uf,Ug⟩:=WW zkK
       have XV:=nT 6 _ rfl
       rw [xO _ _ 6 (by omega)] at XV
       replace XV:=Option.some.inj (XV.symm.trans zxs)
       injection XV with ug wH uh
       rw [ug] at Ug
       rw [uh] at Uf
       have pK:=zk.mk (show Kd.V (Kd.int .i64) 3 _ w.heap.size _ _ ((zw l0 zf).f6) from Kd.X5 Uf Ug)
       clear ug wH uh Ug Uf
       clear nT zkV
       have pY:=zk.mk dz
       have zxt:=zk.mk cO
       clear dz cO
       replace mJ:=eq_true mJ
       replace mV:=eq_true mV
       go_wp2_with (first | ((with_reducible refine yw (f:=34) rfl ?_);refine vR (some 16) Tryz.func34 #[.agg #[.int .i64 ((zw l0 zf).f0),.int .i64 ((zw l0 zf).f1),.int .i64 ((zw l0 zf).f2),.int .i64 ((zw l0 zf).f3),.string ((zw l0 zf).f4),.string ((zw l0 zf).f5),.slice zkX ((zw l0 zf).f6).length zkJ]] ?_;(with_reducible refine (qE.calls ((zw l0 zf).f0) ((zw l0 zf).f1) ((zw l0 zf).f2) ((zw l0 zf).f3) ((zw l0 zf).f4) ((zw l0 zf).f5) _ _ ((zw l0 zf).f6) false _ ?yX ?yE A4.out).mono ?_);(case yX=>repeat (first | exact (by repeat (first | (with_reducible exact pY.out) | (with_reducible refine Kd.YG ?_ _) | (with_reducible refine Kd.YH ?_ _) | (with_reducible refine Kd.Va ?_) | exact pY.out)) | (with_reducible refine Kd.YG ?_ _) | (with_reducible refine Kd.YH ?_ _) | (with_reducible refine Kd.Va ?_)));(case yE=>exact zxt.out);rintro e fK ⟨rfl,hb⟩;refine ⟨_,rfl,?_⟩;have zh:=zk.mk (Kd.vG (by (with_reducible repeat (first | apply Kd.wY | apply Kd.wW | apply Kd.Zy));exact wV.out) hb);have zG:=zk.mk (Kd.uK (by (with_reducible repeat (first | apply Kd.uI | apply Kd.uL | apply Kd.uJ));exact Qj.out) hb);have zU:=zk.mk (Kd.uK (by (with_reducible repeat (first | apply Kd.uI | apply Kd.uL | apply Kd.uJ));exact Xr.out) hb);have yc:=zk.mk (Kd.vG (by (with_reducible repeat (first | apply Kd.wY | apply Kd.wW | apply Kd.Zy));exact pK.out) hb);have xJ:=zk.mk (Kd.za (by repeat (first | (with_reducible exact pY.out) | (with_reducible refine Kd.YG ?_ _) | (with_reducible refine Kd.YH ?_ _) | (with_reducible refine Kd.Va ?_) | exact pY.out)) hb);have jI:=zk.mk (zF (zM HB.out) hb);clear wV;clear Qj;clear Xr;clear pK;clear pY;clear HB;have wV:=zh;have Qj:=zG;have Xr:=zU;have pK:=yc;have pY:=xJ;have HB:=jI;clear zh zG zU yc xJ jI;(try clear hb);(try clear hk);have zJK:0 ≤ (zf:Int):=of_decide_eq_true yj;have zJY:zf < (l0.length:Int):=of_decide_eq_true yj;obtain ⟨zfb,zcR,zcS,zhh,zmQ,zmX,zmJ,zmV,zmK,zmY,za8,zw8,zw9⟩:=yR (Kd.X6 wV.out).2.2 zf zJK zJY;obtain rfl:zWi = zfb:=(by injection zhh);obtain ⟨zoF,zcT,zcU,zVE⟩:=Kd.zXd wV.out z53 zf zJK (by first | exact zJY | exact of_decide_eq_true yj | (have e_:=(Kd.X6 wV.out).1;omega));obtain ⟨zmW,zma,rfl,zxu,zxA⟩:=WW zcU;have tO:=zVE 6 _ rfl;rw [xO _ _ 6 (by omega)] at tO;replace tO:=Option.some.inj (tO.symm.trans za8);injection tO with ug wH uh;rw [ug] at zxA;rw [uh] at zxu;have dw:=zk.mk (show Kd.V (Kd.int .i64) 3 _ w.heap.size _ _ ((zw l0 zf).f6) from Kd.X5 zxu zxA);clear ug wH uh zxA zxu;clear zVE zcT;have zmb:=zk.mk zw9;have zmc:=zk.mk zw8;clear zw9 zw8;replace zJK:=eq_true zJK;replace zJY:=eq_true zJY) | ((with_reducible refine wJ (b:=.append) (xs:=#[.tmp 21,.tmp 26]) rfl ?_);at_builtin;refine Kd.eZ qK (w0:=w) w.heap.size rfl (.tmp 21) (.tmp 26) 34 53 (.agg #[(.int .i64 0),(.int .i64 0),(.int .i64 0),(.int .i64 0),(.string ⟨#[]⟩),(.string ⟨#[]⟩),(.slice none 0 0)]) 88 rfl Tryz.underlying34 ny rfl (by decide) (by omega) u4 zA (⟨(zw l0 zf).f0,(zw l0 zf).f1,(zw l0 zf).f2,(zw l0 zf).f3,(zw l0 zf).f4,(zw l0 zf).f5,(zw l0 zf).f6⟩:yD) [.int .i64 ((zw l0 zf).f0),.int .i64 ((zw l0 zf).f1),.int .i64 ((zw l0 zf).f2),.int .i64 ((zw l0 zf).f3),.string ((zw l0 zf).f4),.string ((zw l0 zf).f5),.slice zcR ((zw l0 zf).f6).length zcS] (fun k_=>(YW k_ ∨ w.heap.size ≤ k_) ∧ some k_ ≠ (u3:Value).ownBlock) (fun k_=>((fun k_=>(YW k_ ∨ w.heap.size ≤ k_) ∧ some k_ ≠ (u3:Value).ownBlock)) k_ ∧ some k_ ≠ (u4:Value).ownBlock) rfl rfl ?aP (fun _ hk=>hk) ?aF ?aO ?aB ?aS ?aL ?_;(case aP=>exact (zaz _ _ (⟨(zw l0 zf).f0,(zw l0 zf).f1,(zw l0 zf).f2,(zw l0 zf).f3,(zw l0 zf).f4,(zw l0 zf).f5,(zw l0 zf).f6⟩:yD) (Kd.X6 (Kd.YX (ok':=(fun k_=>((fun k_=>(YW k_ ∨ w.heap.size ≤ k_) ∧ some k_ ≠ (u3:Value).ownBlock)) k_ ∧ some k_ ≠ (u4:Value).ownBlock)) (dw.out) (fun k_ hk=>⟨⟨hk.1,hk.2.1⟩,hk.2.2⟩))).2.1 (Kd.V_F (Kd.YX (ok':=(fun k_=>((fun k_=>(YW k_ ∨ w.heap.size ≤ k_) ∧ some k_ ≠ (u3:Value).ownBlock)) k_ ∧ some k_ ≠ (u4:Value).ownBlock)) (dw.out) (fun k_ hk=>⟨⟨hk.1,hk.2.1⟩,hk.2.2⟩)))));(case aB=>exact (zM HB.out));(case aF=>exact (fun k_ hk=>⟨(.inr (Nat.le_trans (zI (zM HB.out)) hk)),Kd.fresh' (Kd.zXW (by (with_reducible repeat (first | apply Kd.uI | apply Kd.uL | apply Kd.uJ));exact Qj.out)) k_ hk⟩));(case aO=>exact (by (with_reducible repeat (first | apply Kd.uI | apply Kd.uL | apply Kd.uJ));exact Xr.out));(case aS=>exact (zI (zM HB.out)));(case aL=>have:=zfW.out;omega);intro zpP Kn ho hb hg hat;rw [← zfa.out] at ho;have zh:=zk.mk (Kd.V5 (ok:=(fun k_=>(YW k_ ∨ w.heap.size ≤ k_) ∧ some k_ ≠ (u3:Value).ownBlock)) (by (with_reducible repeat (first | apply Kd.wY | apply Kd.wW | apply Kd.Zy));exact Kd.YX wV.out (fun _ hk=>⟨⟨hk.1,hk.2.1⟩,hk.2.2⟩)) hg hat);have zG:=zk.mk (Kd.zKK (ok:=(fun k_=>(YW k_ ∨ w.heap.size ≤ k_))) (by (with_reducible repeat (first | apply Kd.uI | apply Kd.uL | apply Kd.uJ));exact Qj.out) hg hat);have zU:=zk.mk (Kd.V5 (ok:=(fun k_=>(YW k_ ∨ w.heap.size ≤ k_) ∧ some k_ ≠ (u3:Value).ownBlock)) (by (with_reducible repeat (first | apply Kd.wY | apply Kd.wW | apply Kd.Zy));exact Kd.YX pK.out (fun _ hk=>⟨⟨hk.1,hk.2.1⟩,hk.2.2⟩)) hg hat);have yc:=zk.mk (Kd.V5 (ok:=(fun k_=>(YW k_ ∨ w.heap.size ≤ k_) ∧ some k_ ≠ (u3:Value).ownBlock)) (by (with_reducible repeat (first | apply Kd.wY | apply Kd.wW | apply Kd.Zy));exact Kd.YX dw.out (fun _ hk=>⟨⟨hk.1,hk.2.1⟩,hk.2.2⟩)) hg hat);have xJ:=zk.mk (hb);have jI:=zk.mk (ho);clear wV;clear Qj;clear pK;clear dw;clear HB;clear Xr;have wV:=zh;have Qj:=zG;have pK:=zU;have dw:=yc;have HB:=xJ;have zfc:=jI;clear zh zG zU yc xJ jI;clear ho hb hg hat))
       go_roundg k1
       case measure=>have:=vQ.out;omega
       case rel=>exact ⟨(zD),(zcP),(wrap64 (zf + 1)),(by first | rfl | (simp;done) | (simp [*];done)),H',⟨by have:=vQ.out;omega⟩,⟨by (with_reducible repeat (first | apply Kd.wY | apply Kd.wW | apply Kd.Zy));exact Kd.YX wV.out (fun _ hk=>⟨hk.1.1,⟨hk.1.2,hk.2⟩⟩)⟩,⟨by (with_reducible repeat (first | apply Kd.uI | apply Kd.uL | apply Kd.uJ));exact Qj.out⟩,⟨by (with_reducible repeat (first | apply Kd.uI | apply Kd.uL | apply Kd.uJ));exact zfc.out⟩,⟨zM HB.out⟩⟩
      ·rw [if_neg c10] at H
       exact absurd H (by simp)
    ·rw [if_neg c3] at H
     exact absurd H (by simp)
   ·rw [if_neg c2] at H
    have Ya:decide (zf < (l0.length:Int)) = false:=decide_eq_false c2
    clear c2
    by_cases c13:zD.length < 5864062014805
    ·rw [if_pos c13] at H
     have zfd:=zk.mk c13
     clear c13
     obtain ⟨zhi,zzQ⟩:∃ y_:List (List (yD)),y_ = (zD ++ [zA]):=⟨_,rfl⟩
     replace H:(some zhi) = some r:=by first | (rw [zzQ];with_reducible exact H) | (have Vd:=(Option.bind_some _ _).symm.trans H;rw [zzQ];with_reducible exact Vd) | (have Vd:=(Option.bind_some _ _).symm.trans H;with_reducible exact Vd) | with_reducible exact H | (rw [zzQ];exact H) | exact H
     have zfe:=zk.mk zzQ
     clear zzQ
     obtain rfl:=Option.some.inj H
     obtain ⟨zc0,zc1,zhl⟩:=Kd.V4 Xr.out
     subst zhl
     go_wp2_with (first | ((with_reducible refine wJ (b:=.append) (xs:=#[.tmp 28,.tmp 30]) rfl ?_);at_builtin;refine Kd.eZ (Kd.slice 53 qK) (w0:=w) w.heap.size rfl (.tmp 28) (.tmp 30) 72 34 (.slice none 0 0) 24 rfl Tryz.underlying72 zvF rfl (by decide) (by omega) u3 zD zA [.slice zc0 zA.length zc1] (fun k_=>(YW k_ ∨ w.heap.size ≤ k_)) (fun k_=>((fun k_=>(YW k_ ∨ w.heap.size ≤ k_))) k_ ∧ some k_ ≠ (u3:Value).ownBlock) rfl rfl ?aP (fun _ hk=>hk) ?aF ?aO ?aB ?aS ?aL ?_;(case aP=>exact (Kd.fZ (Kd.vv (Kd.wI (ok':=(fun k_=>((fun k_=>(YW k_ ∨ w.heap.size ≤ k_))) k_ ∧ some k_ ≠ (u3:Value).ownBlock)) (Xr.out) (fun k_ hk=>⟨hk.1,hk.2⟩))).2.1 (Kd.N_F (Kd.wI (ok':=(fun k_=>((fun k_=>(YW k_ ∨ w.heap.size ≤ k_))) k_ ∧ some k_ ≠ (u3:Value).ownBlock)) (Xr.out) (fun k_ hk=>⟨hk.1,hk.2⟩)))));(case aB=>exact (zM HB.out));(case aF=>exact (fun k_ hk=>(.inr (Nat.le_trans (zI (zM HB.out)) hk))));(case aO=>exact (by (with_reducible repeat (first | apply Kd.uI | apply Kd.uL | apply Kd.uJ));exact Kd.wI Qj.out (fun _ hk=>hk.1)));(case aS=>exact (zI (zM HB.out)));(case aL=>have:=zfd.out;omega);intro zpR w14 ho hb hg hat;rw [← zfe.out] at ho;have zh:=zk.mk (Kd.V5 (ok:=(fun k_=>(YW k_ ∨ w.heap.size ≤ k_) ∧ some k_ ≠ (.slice zc0 zA.length zc1:Value).ownBlock)) (by (with_reducible repeat (first | apply Kd.wY | apply Kd.wW | apply Kd.Zy));exact Kd.YX wV.out (fun _ hk=>⟨⟨hk.1,hk.2.2⟩,hk.2.1⟩)) hg hat);have zG:=zk.mk (hb);have zU:=zk.mk (ho);clear wV;clear HB;clear Qj;clear Xr;have wV:=zh;have HB:=zG;have zff:=zU;clear zh zG zU;clear ho hb hg hat))
     go_ret
     exact ⟨_,by first | rfl | (simp [zl,zm] <;> rfl) | (simp [*,zl,zm] <;> rfl),by (with_reducible repeat (first | apply Kd.uI | apply Kd.uL | apply Kd.uJ));exact zff.out,by repeat (first | (with_reducible first | exact HB.out | apply zO | apply zC | apply zP) | exact HB.out)⟩
    ·rw [if_neg c13] at H
     exact absurd H (by simp)
end Go.Proofs.YtggifbbiiickmaaGreatDoor.PX
namespace Go.Proofs.YtggifbbiiickmaaGreatDoor
open Go.RowKit Go.Proofs.zx.zJ Go.Proofs.zx.zu Go.Proofs.zx.zo Go.Proofs.YtggifbbiiickmaaGreatDoor.PX
set_option linter.unusedSimpArgs false
set_option linter.unusedVariables false
def mK (b:qZ):Bool:=!decide (b.f0 = 3) && !decide (b.f0 = 5) && decide (0 ≤ b.f0) && decide (b.f0 ≤ 6)
def Pz (n:Int) (b:qZ):Int:=if mK b then wrap64 (n + b.f1) else n
def tT (l:List qZ):Int:=l.foldl Pz 0
theorem zc2 (l:List qZ) (hl:l.length ≤ 1000000000):∀ d i n,i + d = l.length → Ev (fun k=>yO.l0 k l n (i:Int)) ((l.drop i).foldl Pz n):=by
 intro d
 induction d with
 | zero =>
  intro i n h
  refine Ev.step (fun k=>by rw [yO.l0]) (yG (by omega) (jR ?_ (Ev.now _)))
  rw [List.drop_eq_nil_of_le (by omega)];rfl
 | succ d ih =>
  intro i n h
  have hi:i < l.length:=by omega
  have hw:wrap64 ((i:Int) + 1) = ((i + 1:Nat):Int):=(pI (by omega) (by omega)).trans (by omega)
  have q1:(i:Int) < (l.length:Int):=by omega
  have q2:(0:Int) ≤ (i:Int):=by omega
  have hd:zw l (i:Int) = l[i]:=rdB l i _ (List.getElem?_eq_getElem hi)
  have hr:=fun m=>ih (i + 1) m (by omega)
  rw [List.drop_eq_getElem_cons hi,List.foldl_cons]
  generalize l[i] = b at hd ⊢
  refine Ev.step (fun k=>by rw [yO.l0,hw,hd]) (zR q1 (zR q2 ?_))
  unfold Pz mK
  by_cases h3:b.f0 = 3
  ·rw [decide_eq_true h3];exact zR h3 (hr _)
  ·refine yG h3 ?_
   rw [decide_eq_false h3]
   by_cases h5:b.f0 = 5
   ·rw [decide_eq_true h5];exact zR h5 (hr _)
   ·refine yG h5 ?_
    rw [decide_eq_false h5]
    by_cases h0:b.f0 ≥ 0
    ·refine zR h0 ?_
     rw [decide_eq_true h0]
     by_cases h6:b.f0 ≤ 6
     ·rw [decide_eq_true h6];exact zR h6 (hr _)
     ·rw [decide_eq_false h6];exact yG h6 (hr _)
    ·rw [decide_eq_false (by omega:¬ 0 ≤ b.f0)];exact yG h0 (hr _)
theorem za9 (l:List qZ) (hl:l.length ≤ 1000000000):Ev (fun k=>yO.f k l) (tT l):=by
 have h:=zc2 l hl l.length 0 0 (by omega)
 rw [List.drop_zero] at h
 exact Ev.congr (fun k=>by rw [yO.f];rfl) h
theorem zYA (l:List qZ) (hl:l.length ≤ 1000000000):∀ d i (st:List (List qZ) × List qZ),i + d = l.length → st.1.length ≤ i → st.2.length ≤ i → Ev (fun k=>yt.l0 k l st.1 st.2 (i:Int)) (((l.drop i).foldl XG st).1 ++ [((l.drop i).foldl XG st).2]):=by
 intro d
 induction d with
 | zero =>
  intro i st h h1 h2
  have q3:st.1.length < 5864062014805:=by omega
  refine Ev.step (fun k=>by rw [yt.l0]) (yG (by omega) (zR q3 (jR ?_ (Ev.now _))))
  rw [List.drop_eq_nil_of_le (by omega)];rfl
 | succ d ih =>
  intro i st h h1 h2
  have hi:i < l.length:=by omega
  have hw:wrap64 ((i:Int) + 1) = ((i + 1:Nat):Int):=(pI (by omega) (by omega)).trans (by omega)
  have q1:(i:Int) < (l.length:Int):=by omega
  have q2:(0:Int) ≤ (i:Int):=by omega
  have q3:st.1.length < 5864062014805:=by omega
  have q4:st.2.length < 1599289640401:=by omega
  have hd:zw l (i:Int) = l[i]:=rdB l i _ (List.getElem?_eq_getElem hi)
  rw [List.drop_eq_getElem_cons hi,List.foldl_cons]
  generalize l[i] = b at hd ⊢
  have hp:qE.f b.f0 b.f1 b.f2 b.f3 b.f4 b.f5 b.f6 = some (wN b):=by
   unfold qE.f wN
   by_cases h1:b.f0 = 1
   ·rw [if_pos h1,decide_eq_true h1];rfl
   ·rw [if_neg h1,decide_eq_false h1];rfl
  refine Ev.step (fun k=>by rw [yt.l0,hw,hd]) (zR q1 (zR q2 (Vb hp ?_)))
  unfold XG
  by_cases hb:wN b = true
  ·rw [if_pos hb]
   exact zR hb (zR q3 (ih (i + 1) (st.1 ++ [st.2],[]) (by omega) (by simp;omega) (Nat.zero_le _)))
  ·rw [if_neg hb]
   exact yG hb (zR q4 (ih (i + 1) (st.1,st.2 ++ [b]) (by omega) (by show st.1.length ≤ i + 1;omega) (by simp;omega)))
theorem zVF (l:List qZ) (hl:l.length ≤ 1000000000):Ev (fun k=>yt.f k l) (splitV l):=by
 have h:=zYA l hl l.length 0 ([],[]) (by omega) (Nat.zero_le _) (Nat.zero_le _)
 rw [List.drop_zero] at h
 exact Ev.congr (fun k=>by rw [yt.f];rfl) h
end Go.Proofs.YtggifbbiiickmaaGreatDoor
namespace Go.Proofs.YtggifbbiiickmaaGreatDoor
open Go.RowKit Go.Proofs.zx.zJ Go.Proofs.zx.zu Go.Proofs.zx.zo Go.Proofs.YtggifbbiiickmaaGreatDoor.PX
set_option linter.unusedSimpArgs false
set_option linter.unusedVariables false
def pq (s:ByteArray) (b:yD):ByteArray :=
 if b.f0 = 0 then (if b.f4.size = 1 then s ++ b.f4 else s ++ (⟨#[92,91]⟩:ByteArray) ++ b.f4 ++ (⟨#[93]⟩:ByteArray))
 else if b.f0 = 1 ∨ b.f0 = 6 then s ++ (⟨#[32]⟩:ByteArray) else s
def jr (l:List yD):ByteArray:=l.foldl pq ⟨#[]⟩
theorem zJW (s:ByteArray) (b:yD):s.size ≤ (pq s b).size ∧ (pq s b).size ≤ s.size + b.f4.size + 3:=by
 have e2:(⟨#[92,91]⟩:ByteArray).size = 2:=rfl
 have e1:(⟨#[93]⟩:ByteArray).size = 1:=rfl
 have e3:(⟨#[32]⟩:ByteArray).size = 1:=rfl
 unfold pq
 repeat' split
 all_goals (try simp only [ByteArray.size_append,e1,e2,e3])
 all_goals omega
theorem zj8 (l:List yD) (k:Nat) (h:k < l.length):jr (l.take (k + 1)) = pq (jr (l.take k)) l[k]:=by
 unfold jr
 rw [List.take_succ_eq_append_getElem h,List.foldl_append];rfl
theorem nU (l:List yD) (M:Nat) (hz:∀ b ∈ l,b.f4.size ≤ M):∀ k,k ≤ l.length → (jr (l.take k)).size ≤ k * (M + 3)
 | 0,_=>Nat.zero_le _
 | k + 1,h=>by
  have h1:=nU l M hz k (by omega)
  have h2:=(zJW (jr (l.take k)) l[k]).2
  have h3:=hz l[k] (List.getElem_mem (by omega))
  rw [zj8 l k (by omega),Nat.succ_mul]
  omega
theorem VN (a b:ByteArray):Lib.strCells (a ++ b) = Lib.strCells a ++ Lib.strCells b:=by simp [Lib.strCells]
theorem VO (a:ByteArray):(Lib.strCells a).length = a.size:=by simp [Lib.strCells]
theorem Zn {T e:TypeId} {B b:Nat} {bs:List Value} {w w':World} (h:Lib.IsBuilder T e B b bs w) (hb:Below w.heap.size w w'):Lib.IsBuilder T e B b bs w':=by
 have key:∀ p,Lib.BuilderAt T e B b p bs w → Lib.BuilderAt T e B b p bs w':=fun p ⟨h1,v,h2,h3,h4⟩=>⟨h1,v,(hb.block b (Array.getElem?_eq_some_iff.1 h2).1).trans h2,mO h3 hb,h4⟩
 exact h.imp (key _) (key _)
set_option maxRecDepth 100000 in
set_option maxHeartbeats 8000000 in
theorem zYB (A:Option Addr) (c:Nat) (l:List yD) (w:World) (hr:Kd.C qK w A l.length l) (hl:l.length ≤ 1000000) (hz:∀ b ∈ l,b.f4.size ≤ 1000000) :
  Calls Tryz.prog 28 #[.slice A l.length c] w fun e w'=>e = .returned (.string (jr l)) ∧ Below w.heap.size w w':=by
 have HR:=zk.mk hr
 have HZ:=zk.mk hz
 clear hr hz
 go_enter Tryz.func28,Tryz.ntmps28
 go_wp2_with fail
 go_loopw [8] (fun i wr=>∃ k:Nat,k ≤ l.length ∧ i = .int .i64 k ∧ zk (Lib.IsBuilder 131 5 w.heap.size w.heap.size (Lib.strCells (jr (l.take k))) wr) ∧ zk (Below w.heap.size w wr)) (fun i _=>l.length - (intOf i).toNat)
 case atStart =>
  refine ⟨0,Nat.zero_le _,rfl,⟨.inl ?_⟩,⟨(Below.refl _ _).alloc (Nat.le_refl _) _⟩⟩
  exact ⟨Nat.le_refl _,.slice none 0 0,uV w _,World.ownsRow_nil _ _ _ _,by simp [Value.ownBlock]⟩
 case round =>
  obtain ⟨k,hk,rfl,HB,HW⟩:=hrel
  by_cases hlt:k < l.length
  ·obtain ⟨ad,A6,c6,e,x0,x1,x2,x3,x4,x5,x6,_,_⟩:=yR (Kd.za HR.out HW.out) (k:Int) (by omega) (by omega)
   cases e
   rw [Int.toNat_natCast] at x0 x1 x2 x3 x4 x5 x6
   have hd:zw l (k:Int) = l[k]:=by unfold zw;rw [Int.toNat_natCast,List.getD_eq_getElem?_getD,List.getElem?_eq_getElem hlt];rfl
   rw [hd] at x0 x1 x2 x3 x4 x5 x6
   clear hd
   have hsn:=zj8 l k hlt
   have hts:=nU l 1000000 HZ.out k hk
   have hxz:=HZ.out _ (List.getElem_mem hlt)
   generalize l[k] = x at x0 x1 x2 x3 x4 x5 x6 hsn hxz
   obtain ⟨y0,y1,y2,y3,y4,y5,y6⟩:=x
   dsimp only at x0 x1 x2 x3 x4 x5 x6 hxz
   have HS:=Lib.hid hsn
   have HTS:=Lib.hid hts
   have hz0:=HW.out.size
   clear hsn hts
   by_cases h1:y0 = 1
   ·subst h1
    go_wp2_with fail
    refine (Tryz.Builder_WriteByte w.heap.size w.heap.size _ 32 _ (Zn HB.out ((Below.refl _ _).alloc (Nat.le_refl _) _)) (by rw [VO];have:=HTS.out;omega) (by simp;omega)).mono ?_;rintro e w2 ⟨rfl,hB2,hb2⟩
    go_wp2_with fail
    go_roundw
    case rel =>
     refine ⟨k + 1,by omega,by go_num,⟨.inr ?_⟩,⟨(HW.out.trans ((Below.refl _ wr).alloc hz0 _)).trans hb2⟩⟩
     rw [HS.out]
     unfold pq
     rw [if_neg (show ¬ (1:Int) = 0 by decide),if_pos (Or.inl rfl),VN]
     exact hB2
    case measure=>simp [intOf];omega
   ·have d1:(y0 == 1) = false:=beq_eq_false_iff_ne.2 h1
    by_cases h6:y0 = 6
    ·subst h6
     go_wp2_with fail
     refine (Tryz.Builder_WriteByte w.heap.size w.heap.size _ 32 _ (Zn HB.out ((Below.refl _ _).alloc (Nat.le_refl _) _)) (by rw [VO];have:=HTS.out;omega) (by simp;omega)).mono ?_;rintro e w2 ⟨rfl,hB2,hb2⟩
     go_wp2_with fail
     go_roundw
     case rel =>
      refine ⟨k + 1,by omega,by go_num,⟨.inr ?_⟩,⟨(HW.out.trans ((Below.refl _ wr).alloc hz0 _)).trans hb2⟩⟩
      rw [HS.out]
      unfold pq
      rw [if_neg (show ¬ (6:Int) = 0 by decide),if_pos (Or.inr rfl),VN]
      exact hB2
     case measure=>simp [intOf];omega
    ·have d6:(y0 == 6) = false:=beq_eq_false_iff_ne.2 h6
     by_cases h0:y0 = 0
     ·subst h0
      by_cases hs:y4.size = 1
      ·have ds:((y4.size:Int) == 1) = true:=by rw [hs];rfl
       have HSZ:=Lib.hid hs
       clear hs
       go_wp2_with fail
       refine (Tryz.Builder_WriteString w.heap.size w.heap.size _ y4 _ (Zn HB.out ((Below.refl _ _).alloc (Nat.le_refl _) _)) (by rw [VO];have:=HTS.out;omega) (by simp;omega)).mono ?_;rintro e w2 ⟨rfl,hB2,hb2⟩
       go_wp2_with fail
       go_roundw
       case rel =>
        refine ⟨k + 1,by omega,by go_num,⟨.inr ?_⟩,⟨(HW.out.trans ((Below.refl _ wr).alloc hz0 _)).trans hb2⟩⟩
        rw [HS.out]
        unfold pq
        rw [if_pos rfl,if_pos HSZ.out,VN]
        exact hB2
       case measure=>simp [intOf];omega
      ·have ds:((y4.size:Int) == 1) = false:=beq_eq_false_iff_ne.2 (by omega)
       have dn:(y4.size == 1) = false:=beq_eq_false_iff_ne.2 hs
       have HSZ:=Lib.hid hs
       clear hs
       go_wp2_with fail
       refine (Tryz.Builder_WriteString w.heap.size w.heap.size _ ((⟨#[92,91]⟩:ByteArray) ++ y4 ++ (⟨#[93]⟩:ByteArray)) _ (Zn HB.out ((Below.refl _ _).alloc (Nat.le_refl _) _)) (by rw [VO];have:=HTS.out;simp only [ByteArray.size_append];have e2:(⟨#[92,91]⟩:ByteArray).size = 2:=rfl;have e1:(⟨#[93]⟩:ByteArray).size = 1:=rfl;omega) (by simp;omega)).mono ?_;rintro e w2 ⟨rfl,hB2,hb2⟩
       go_wp2_with fail
       go_roundw
       case rel =>
        refine ⟨k + 1,by omega,by go_num,⟨.inr ?_⟩,⟨(HW.out.trans ((Below.refl _ wr).alloc hz0 _)).trans hb2⟩⟩
        rw [HS.out]
        unfold pq
        rw [if_pos rfl,if_neg HSZ.out,ByteArray.append_assoc,ByteArray.append_assoc,VN,← ByteArray.append_assoc]
        exact hB2
       case measure=>simp [intOf];omega
     ·have d0:(y0 == 0) = false:=beq_eq_false_iff_ne.2 h0
      have HN:=Lib.hid (And.intro h0 (And.intro h1 h6))
      clear h0 h1 h6
      go_wp2_with fail
      go_roundw
      case rel =>
       refine ⟨k + 1,by omega,by go_num,⟨Zn (w:=wr) ?_ ((Below.refl _ wr).alloc (Nat.le_refl _) _)⟩,⟨HW.out.trans ((Below.refl _ wr).alloc hz0 _)⟩⟩
       rw [HS.out]
       unfold pq
       rw [if_neg HN.out.1,if_neg (fun h=>h.elim HN.out.2.1 HN.out.2.2)]
       exact HB.out
      case measure=>simp [intOf];omega
  ·obtain rfl:k = l.length:=by omega
   have hs:=Tryz.Builder_String_any w.heap.size w.heap.size _ wr (by have h:=HB.out;rw [List.take_length] at h;exact h) HW.out.size
   go_wp2_with fail
   refine hs.mono ?_;rintro e w2 ⟨rfl,hb2⟩
   go_wp2_with fail
   go_ret
   exact ⟨rfl,HW.out.trans hb2⟩
def zYC (bs:List yD):Bool:=decide (bs.length ≤ 1000000) && bs.all (fun b=>decide (b.f4.size ≤ 1000000))
def qO.f (bs:List yD):Option ByteArray:=if zYC bs = true then some (jr bs) else none
theorem qO.calls (A0:Option Addr) (c0:Nat) (l0:List yD) (r1:ByteArray) (w:World) (hr0:Kd.C qK w A0 l0.length l0) (hc0:l0.length ≤ c0) (h:qO.f l0 = some r1) :
  Calls Tryz.prog 28 #[.slice A0 l0.length c0] w fun e w'=>e = .returned (.string r1) ∧ Below w.heap.size w w':=by
 unfold qO.f at h
 split at h
 case isFalse=>cases h
 case isTrue hz =>
  unfold zYC at hz
  simp only [Bool.and_eq_true,decide_eq_true_eq,List.all_eq_true] at hz
  injection h with h
  subst h
  exact zYB A0 c0 l0 w hr0 hz.1 (fun b hb=>hz.2 b hb)
end Go.Proofs.YtggifbbiiickmaaGreatDoor
