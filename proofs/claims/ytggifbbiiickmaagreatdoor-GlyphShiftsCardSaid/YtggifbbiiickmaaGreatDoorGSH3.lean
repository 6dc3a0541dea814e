/-
  Texts that lean on one another, laid in one file. No condition.
-/
import Derived.Test.YtggifbbiiickmaaGreatDoorGSH1
import Derived.Test.YtggifbbiiickmaaGreatDoorGSH2
import Derived.WalkKit
import Derived.WalkSpells
import Derived.WalkLawsBesides
import Derived.RangeFuncRecord
import Derived.Deep.QuietTactic
import Derived.BigQuiet
import Derived.RangeFuncBox
namespace Go.Proofs.YtggifbbiiickmaaGreatDoor.PX
open Go.RowKit Go.Proofs.zk.za Go.Proofs.zk.zS Go.Proofs.zk.zR
attribute [local go_sem] qD qE xJ xV qc qd qF qG   -- for this text's walks alone
set_option linter.unusedVariables false
set_option linter.unusedSimpArgs false
def Jq.f (zF:ByteArray) (zG:Bool) (zB:Int) (zn:List (yG)) (zN:List (qb)) (zO:List (qP)) (a1:Int):Option (Int × Int):=(kW.f zF zG zB zn zN zO a1).bind fun t105=>(if t105 = true then ((uH.f zB a1).bind fun gQ=>(some (gQ,0))) else (some (0,1)))
set_option maxHeartbeats 8000000 in
set_option maxRecDepth 100000 in
theorem Jq.calls (zF:ByteArray) (zG:Bool) (zB:Int) (yM:Option Addr) (yN:Nat) (zn:List (yG)) (yP:Option Addr) (yR:Nat) (zN:List (qb)) (yS:Option Addr) (yT:Nat) (zO:List (qP)) (a1:Int) (r1:Int) (r2:Int) (w:World) (jV:Kd.C vO w yM zn.length zn) (kG:zn.length ≤ yN) (kH:Kd.C jX w yP zN.length zN) (kI:zN.length ≤ yR) (kL:Kd.C jg w yS zO.length zO) (kM:zO.length ≤ yT) (hG:GW w) (h:Jq.f zF zG zB zn zN zO a1 = some (r1,r2)) :
  Calls Tryz.prog 68 #[.agg #[.string zF,.bool zG,.int .i64 zB,.slice yM zn.length yN,.slice yP zN.length yR,.slice yS zO.length yT],.int .i64 a1] w fun e w'=>e = .returned (.tuple #[.int .i64 r1,.int .i64 r2]) ∧ Below w.heap.size w w':=by
 have zYj:=Tryz.underlying60
 have HG:=zx.mk hG
 clear hG
 have jD:=zx.mk jV
 have wD:=zx.mk kG
 clear jV kG
 have wE:=zx.mk kH
 have wF:=zx.mk kI
 clear kH kI
 have wG:=zx.mk kL
 have wH:=zx.mk kM
 clear kL kM
 have HB:=zx.mk (Below.refl w.heap.size w)
 have H:((kW.f zF zG zB zn zN zO a1).bind fun t105=>(if t105 = true then ((uH.f zB a1).bind fun gQ=>(some (gQ,0))) else (some (0,1)))) = some (r1,r2):=h
 clear h
 replace H:=Option.bind_eq_some_iff.mp H
 obtain ⟨t105,eO,H⟩:=H
 replace H:(if t105 = true then ((uH.f zB a1).bind fun gQ=>(some (gQ,0))) else (some (0,1))) = some (r1,r2):=H
 have A3:=zx.mk eO
 clear eO
 by_cases c4:t105 = true
 ·subst c4
  have H1:((uH.f zB a1).bind fun gQ=>(some (gQ,0))) = some (r1,r2):=by rw [if_pos rfl] at H;exact H
  clear H
  have H:=H1
  clear H1
  replace H:=Option.bind_eq_some_iff.mp H
  obtain ⟨gQ,A50,H⟩:=H
  replace H:(some (gQ,0)) = some (r1,r2):=H
  have A5:=zx.mk A50
  clear A50
  simp only [Option.some.injEq,Prod.mk.injEq] at H
  obtain ⟨rfl,rfl⟩:=H
  go_enter Tryz.func68,Tryz.ntmps68
  go_wp2_with (first | ((with_reducible refine qQ (N:=2) rfl ?_);refine qC ?hg (N:=2) ?hd (cs:=#[.string zF,.bool zG,.int .i64 zB,.slice yM zn.length yN,.slice yP zN.length yR,.slice yS zO.length yT]) (t:=60) ?hr ?_;(case hd=>rfl);(case hg=>rfl);(case hr=>first | (go_simp;done) | (go_simp;rfl));intro kN hg w6 qo hb;have ze:=zx.mk (zu (zD HB.out) hb);have zi:=zx.mk (qo);have zo:=zx.mk ((by rw [hg];exact (zm (zD HB.out)):w.heap.size ≤ kN));have zT:=zx.mk ((by rw [hg];exact (zm (zD HB.out)):w.heap.size ≤ kN));clear HB;have HB:=ze;have vE:=zi;have zfC:=zo;have zJz:=zT;clear ze zi zo zT;clear hb qo hg;have zkm:w6.cell? ⟨kN,0,none⟩ = some (.string zF):=zK vE 0;have zVG:w6.cell? ⟨kN,1,none⟩ = some (.bool zG):=zK vE 1;have zVH:w6.cell? ⟨kN,2,none⟩ = some (.int .i64 zB):=zK vE 2;have zVI:w6.cell? ⟨kN,3,none⟩ = some (.slice yM zn.length yN):=zK vE 3;have zVL:w6.cell? ⟨kN,4,none⟩ = some (.slice yP zN.length yR):=zK vE 4;have zVM:w6.cell? ⟨kN,5,none⟩ = some (.slice yS zO.length yT):=zK vE 5;have zkn:=zw vE.out 0;have zVN:=zw vE.out 1;have zVO:=zw vE.out 2;have zVP:=zw vE.out 3;have zVR:=zw vE.out 4;have zVS:=zw vE.out 5) | ((with_reducible refine yx (f:=62) rfl ?_);refine uD (some 8) Tryz.func62 #[.agg #[.string zF,.bool zG,.int .i64 zB,.slice yM zn.length yN,.slice yP zN.length yR,.slice yS zO.length yT],.int .i64 a1] ?_;(with_reducible refine (kW.calls zF zG zB _ _ zn _ _ zN _ _ zO a1 true _ ?yh ?yD ?qX ?qJ ?qR ?xg ?jO A3.out).mono ?_);(case yh=>exact qM (Kd.zh jD.out HB.out));(case yD=>exact wD.out);(case qX=>exact qM (Kd.zh wE.out HB.out));(case qJ=>exact wF.out);(case qR=>exact qM (Kd.zh wG.out HB.out));(case xg=>exact wH.out);(case jO=>exact GW.under HG.out (zD HB.out));rintro e w8 ⟨rfl,hb⟩;refine ⟨_,rfl,?_⟩;have ze:=zx.mk (zM (g:=kN) (o:=.cells #[.string zF,.bool zG,.int .i64 zB,.slice yM zn.length yN,.slice yP zN.length yR,.slice yS zO.length yT] 60 (0,0)) (qK vE.out) hb);have zi:=zx.mk (zu (zD HB.out) hb);clear vE;clear HB;have vE:=ze;have HB:=zi;clear ze zi;(try clear hb);have fO:w8.cell? ⟨kN,0,none⟩ = some (.string zF):=zK vE 0;have fP:w8.cell? ⟨kN,1,none⟩ = some (.bool zG):=zK vE 1;have fT:w8.cell? ⟨kN,2,none⟩ = some (.int .i64 zB):=zK vE 2;have fU:w8.cell? ⟨kN,3,none⟩ = some (.slice yM zn.length yN):=zK vE 3;have eZ:w8.cell? ⟨kN,4,none⟩ = some (.slice yP zN.length yR):=zK vE 4;have eX:w8.cell? ⟨kN,5,none⟩ = some (.slice yS zO.length yT):=zK vE 5;have eY:=zw vE.out 0;have eB:=zw vE.out 1;have eD:=zw vE.out 2;have eF:=zw vE.out 3;have eG:=zw vE.out 4;have eH:=zw vE.out 5) | ((with_reducible refine yx (f:=63) rfl ?_);refine uD (some 13) Tryz.func63 #[.int .i64 zB,.int .i64 a1] ?_;(with_reducible refine (uH.calls zB a1 gQ _ A5.out).mono ?_);rintro e w' ⟨rfl,⟨nd,rfl⟩⟩;refine ⟨_,rfl,?_⟩))
  go_ret2
  exact ⟨by first | rfl | (simp [zH,zI] <;> rfl) | (simp [*,zH,zI] <;> rfl),by repeat (first | (with_reducible first | exact HB.out | apply yJ | apply zC | apply yY | refine qm ?_ zJz.out) | exact HB.out)⟩
 ·replace c4:=Bool.eq_false_iff.mpr c4
  subst c4
  have H1:(some (0,1)) = some (r1,r2):=by rw [if_neg (show ¬ (false = true) by decide)] at H;exact H
  clear H
  have H:=H1
  clear H1
  simp only [Option.some.injEq,Prod.mk.injEq] at H
  obtain ⟨rfl,rfl⟩:=H
  go_enter Tryz.func68,Tryz.ntmps68
  go_wp2_with (first | ((with_reducible refine qQ (N:=2) rfl ?_);refine qC ?hg (N:=2) ?hd (cs:=#[.string zF,.bool zG,.int .i64 zB,.slice yM zn.length yN,.slice yP zN.length yR,.slice yS zO.length yT]) (t:=60) ?hr ?_;(case hd=>rfl);(case hg=>rfl);(case hr=>first | (go_simp;done) | (go_simp;rfl));intro kN hg YI qo hb;have ze:=zx.mk (zu (zD HB.out) hb);have zi:=zx.mk (qo);have zo:=zx.mk ((by rw [hg];exact (zm (zD HB.out)):w.heap.size ≤ kN));have zT:=zx.mk ((by rw [hg];exact (zm (zD HB.out)):w.heap.size ≤ kN));clear HB;have HB:=ze;have vE:=zi;have zfC:=zo;have zJz:=zT;clear ze zi zo zT;clear hb qo hg;have gN:YI.cell? ⟨kN,0,none⟩ = some (.string zF):=zK vE 0;have zxb:YI.cell? ⟨kN,1,none⟩ = some (.bool zG):=zK vE 1;have zxc:YI.cell? ⟨kN,2,none⟩ = some (.int .i64 zB):=zK vE 2;have zxd:YI.cell? ⟨kN,3,none⟩ = some (.slice yM zn.length yN):=zK vE 3;have zxe:YI.cell? ⟨kN,4,none⟩ = some (.slice yP zN.length yR):=zK vE 4;have zxf:YI.cell? ⟨kN,5,none⟩ = some (.slice yS zO.length yT):=zK vE 5;have gP:=zw vE.out 0;have zxg:=zw vE.out 1;have zxh:=zw vE.out 2;have zxi:=zw vE.out 3;have zxl:=zw vE.out 4;have zxm:=zw vE.out 5) | ((with_reducible refine yx (f:=62) rfl ?_);refine uD (some 8) Tryz.func62 #[.agg #[.string zF,.bool zG,.int .i64 zB,.slice yM zn.length yN,.slice yP zN.length yR,.slice yS zO.length yT],.int .i64 a1] ?_;(with_reducible refine (kW.calls zF zG zB _ _ zn _ _ zN _ _ zO a1 false _ ?yh ?yD ?qX ?qJ ?qR ?xg ?jO A3.out).mono ?_);(case yh=>exact qM (Kd.zh jD.out HB.out));(case yD=>exact wD.out);(case qX=>exact qM (Kd.zh wE.out HB.out));(case qJ=>exact wF.out);(case qR=>exact qM (Kd.zh wG.out HB.out));(case xg=>exact wH.out);(case jO=>exact GW.under HG.out (zD HB.out));rintro e dK ⟨rfl,hb⟩;refine ⟨_,rfl,?_⟩;have ze:=zx.mk (zM (g:=kN) (o:=.cells #[.string zF,.bool zG,.int .i64 zB,.slice yM zn.length yN,.slice yP zN.length yR,.slice yS zO.length yT] 60 (0,0)) (qK vE.out) hb);have zi:=zx.mk (zu (zD HB.out) hb);clear vE;clear HB;have vE:=ze;have HB:=zi;clear ze zi;(try clear hb);(try clear hi)))
  go_ret2
  exact ⟨by first | rfl | (simp [zH,zI] <;> rfl) | (simp [*,zH,zI] <;> rfl),by repeat (first | (with_reducible first | exact HB.out | apply yJ | apply zC | apply yY | refine qm ?_ zJz.out) | exact HB.out)⟩
end Go.Proofs.YtggifbbiiickmaaGreatDoor.PX
namespace Go.Proofs.YtggifbbiiickmaaGreatDoor
open Go.RowKit Go.Shelf Go.Proofs.zk.za Go.Proofs.zk.zS Go.Proofs.zk.zR Go.Proofs.YtggifbbiiickmaaGreatDoor.PX
set_option linter.unusedSimpArgs false
set_option linter.unusedVariables false
theorem zV5 {a:ByteArray} {c:Int} {l3:List yG} {l4:List qb} {l5:List qP} (h:xH a c l3 l4 l5 = true):l3.length ≤ 400 ∧ l4.length ≤ 50 ∧ l5.length ≤ 500:=by
 unfold xH at h
 split at h
 ·cases h
 ·rename_i q1
  simp only [Bool.or_eq_true,not_or,decide_eq_true_eq] at q1
  omega
theorem zV6 {a:ByteArray} {c:Int} {l3:List yG} {l4:List qb} {l5:List qP} (h:xH a c l3 l4 l5 = true):Asc l3:=by
 unfold xH at h
 split at h
 ·cases h
 ·split at h
  ·cases h
  ·rename_i q2
   simp only [Bool.or_eq_true,not_or,Bool.not_eq_true,Bool.not_eq_false'] at q2
   exact zV3 q2.2
theorem zqo {a:ByteArray} {c:Int} {l3:List yG} {l4:List qb} {l5:List qP} (h:xH a c l3 l4 l5 = true):∀ x ∈ l3,0 ≤ x.f1 ∧ x.f1 ≤ 3000:=by
 unfold xH at h
 split at h
 ·cases h
 ·split at h
  ·cases h
  ·rename_i q2
   intro x hx
   simp only [Bool.or_eq_true,not_or,Bool.not_eq_true,Bool.not_eq_false'] at q2
   have h1:=List.any_eq_false.1 q2.1 x hx
   unfold gy Qo at h1
   simp only [Bool.or_eq_true,not_or,decide_eq_true_eq] at h1
   omega
def flr (s n:Int):Int:=10 * (s * n) / 1000
theorem zvP (s n:Int) (hs:1 ≤ s) (hs1:s ≤ 1000) (h0:-3000 ≤ n) (h1:n ≤ 3000):-3000000 ≤ s * n ∧ s * n ≤ 3000000:=by
 have a1:=Int.mul_le_mul_of_nonneg_left h1 (by omega:(0:Int) ≤ s)
 have a2:=Int.mul_le_mul_of_nonneg_left h0 (by omega:(0:Int) ≤ s)
 omega
theorem zkA (n s:Int) (hs:1 ≤ s) (hs1:s ≤ 1000) (h0:-3000 ≤ n) (h1:n ≤ 3000):uH.f n s = some (flr s n):=by
 have hr:=zvP s n hs hs1 h0 h1
 have e:10 * s * n = 10 * (s * n):=Int.mul_assoc _ _ _
 unfold uH.f flr
 rw [jA (x:=10 * s) (by omega) (by omega),e]
 generalize s * n = p at hr
 rw [jA (x:=10 * p) (by omega) (by omega)]
 unfold Xt.f
 by_cases hp:10 * p < 0
 ·rw [if_pos hp,if_neg (by omega),jA (x:=-(10 * p)) (by omega) (by omega),jA (x:=-(10 * p) + 1000) (by omega) (by omega),jA (x:=-(10 * p) + 1000 - 1) (by omega) (by omega),Int.tdiv_eq_ediv_of_nonneg (by omega),jA (x:=(-(10 * p) + 1000 - 1) / 1000) (by omega) (by omega),jA (by omega) (by omega)]
  simp only [Option.bind_some]
  congr 1
  omega
 ·rw [if_neg hp,if_neg (by omega),Int.tdiv_eq_ediv_of_nonneg (by omega),jA (by omega) (by omega)]
  rfl
def YA (s:Int) (V:Bool):Bool:=decide (1 ≤ s) && (decide (s ≤ 1000) && V)
def iy (V:Bool) (c s:Int):Int × Int:=if YA s V = true then (flr s c,0) else (0,1)
def iw (V:Bool) (l:List yG) (n:ByteArray) (s:Int):Int × Int:=if YA s V = true then (match l.find? (fun x=>decide (x.f0 = n)) with | some x=>(flr s x.f1,0) | none=>(0,3)) else (0,1)
def zqp (V:Bool) (l:List qP) (n m:ByteArray) (s:Int):Int × Int:=if YA s V = true then ((match l.find? (fun x=>decide (x.f0 = n) && decide (x.f1 = m)) with | some x=>flr s x.f2 | none=>0),0) else (0,1)
def lM (V:Bool) (l:List qb) (n m:ByteArray):ByteArray × Bool:=if V = true then (match l.find? (fun x=>decide (x.f0 = n) && decide (x.f1 = m)) with | some x=>(x.f2,true) | none=>((⟨#[]⟩:ByteArray),false)) else ((⟨#[]⟩:ByteArray),false)
theorem zkB (a:ByteArray) (b:Bool) (c:Int) (l3:List yG) (l4:List qb) (l5:List qP) (s:Int) (h3:l3.length ≤ 1000000000) (h4:l4.length ≤ 1000000000) (h5:l5.length ≤ 1000000000):kW.f a b c l3 l4 l5 s = some (YA s (xH a c l3 l4 l5)):=by
 unfold kW.f YA jP.f
 by_cases h1:s ≥ 1
 ·rw [if_pos h1,decide_eq_true h1]
  by_cases h2:s ≤ 1000
  ·rw [if_pos h2,decide_eq_true h2,if_pos ⟨h3,h4,h5⟩];rfl
  ·rw [if_neg h2,decide_eq_false h2];rfl
 ·rw [if_neg h1,decide_eq_false h1];rfl
theorem zzA {s:Int} {V:Bool} (h:YA s V = true):1 ≤ s ∧ s ≤ 1000 ∧ V = true:=by
 unfold YA at h
 simp only [Bool.and_eq_true,decide_eq_true_eq] at h
 exact h
theorem tO {a:ByteArray} {c:Int} {l3:List yG} {l4:List qb} {l5:List qP} (h:xH a c l3 l4 l5 = true):(0 ≤ c ∧ c ≤ 3000) ∧ ∀ x ∈ l5,-500 ≤ x.f2 ∧ x.f2 ≤ 500:=by
 unfold xH at h
 split at h
 ·cases h
 ·rename_i q1
  split at h
  ·cases h
  ·split at h
   ·cases h
   ·simp only [Bool.or_eq_true,not_or,decide_eq_true_eq,Qo] at q1
    rw [Bool.and_eq_true] at h
    refine ⟨by omega,fun x hx=>?_⟩
    have h2:l5.any (gZ l3) = false:=by simpa using h.1
    have h1:=List.any_eq_false.1 h2 x hx
    unfold gZ at h1
    simp only [Bool.or_eq_true,not_or,decide_eq_true_eq] at h1
    omega
theorem zdO (a:ByteArray) (b:Bool) (c:Int) (l3:List yG) (l4:List qb) (l5:List qP) (s:Int) (h3:l3.length ≤ 1000000000) (h4:l4.length ≤ 1000000000) (h5:l5.length ≤ 1000000000):Jq.f a b c l3 l4 l5 s = some (iy (xH a c l3 l4 l5) c s):=by
 unfold Jq.f iy
 rw [zkB a b c l3 l4 l5 s h3 h4 h5]
 simp only [Option.bind_some]
 by_cases h:YA s (xH a c l3 l4 l5) = true
 ·obtain ⟨p,q,hv⟩:=zzA h
  have hc:=(tO hv).1
  rw [if_pos h,if_pos h,zkA c s p q (by omega) (by omega)];rfl
 ·rw [if_neg h,if_neg h]
theorem zV7 (a:ByteArray) (b:Bool) (c:Int) (l3:List yG) (l4:List qb) (l5:List qP) (n:ByteArray) (s:Int) (h3:l3.length ≤ 1000000000) (h4:l4.length ≤ 1000000000) (h5:l5.length ≤ 1000000000):Xu.f a b c l3 l4 l5 n s = some (iw (xH a c l3 l4 l5) l3 n s):=by
 unfold Xu.f iw
 rw [zkB a b c l3 l4 l5 s h3 h4 h5]
 simp only [Option.bind_some]
 by_cases h:YA s (xH a c l3 l4 l5) = true
 ·obtain ⟨p,q,hv⟩:=zzA h
  rw [if_pos h,if_pos h]
  unfold kY.f
  rw [if_pos h3]
  simp only [Option.bind_some]
  cases hf:l3.find? (fun x=>decide (x.f0 = n)) with
  | none =>
   rw [List.find?_eq_none] at hf
   rw [zwZ l3 n (fun x hx e=>hf x hx (decide_eq_true e)),if_neg (by simp)]
  | some x =>
   have hx:=List.mem_of_find?_eq_some hf
   have he:x.f0 = n:=by have:=List.find?_some hf;simpa using this
   obtain ⟨m,hm,rfl⟩:=List.getElem_of_mem hx
   subst he
   have hw:=zqo hv _ hx
   rw [zww l3 (zV6 hv) m hm]
   simp only [if_true]
   rw [if_pos (by omega),if_pos (by omega),Wp l3 m hm,zkA _ s p q (by omega) (by omega)];rfl
 ·rw [if_neg h,if_neg h]
theorem gX {x y:ByteArray}:x.toList = y.toList ↔ x = y:=Wq
end Go.Proofs.YtggifbbiiickmaaGreatDoor
namespace Go.Proofs.YtggifbbiiickmaaGreatDoor
open Go.RowKit Go.Shelf Go.Proofs.zk.za Go.Proofs.zk.zS Go.Proofs.zk.zR Go.Proofs.YtggifbbiiickmaaGreatDoor.PX
set_option linter.unusedSimpArgs false
set_option linter.unusedVariables false
def p8 (x:yG):uF:=⟨x.f0,x.f1⟩
def ZO (x:qb):uU:=⟨x.f0,x.f1,x.f2⟩
def ZP (x:qP):jJ:=⟨x.f0,x.f1,x.f2⟩
end Go.Proofs.YtggifbbiiickmaaGreatDoor
namespace Go.Proofs.YtggifbbiiickmaaGreatDoor
open Go.RowKit Go.Proofs.zk.za Go.Proofs.zk.zS Go.Proofs.zk.zR Go.Proofs.YtggifbbiiickmaaGreatDoor.PX
set_option linter.unusedSimpArgs false
set_option linter.unusedVariables false
theorem zx4 (l:List yG) (i:Nat) (h:i < l.length):xQ (l.map p8) (i:Int) = p8 l[i]:=by simp [xQ,List.getD_eq_getElem?_getD,h]
theorem zkC (l:List qb) (i:Nat) (h:i < l.length):vB (l.map ZO) (i:Int) = ZO l[i]:=by simp [vB,List.getD_eq_getElem?_getD,h]
theorem zkD (l:List qP) (i:Nat) (h:i < l.length):xD (l.map ZP) (i:Int) = ZP l[i]:=by simp [xD,List.getD_eq_getElem?_getD,h]
theorem zkE (l:List qb) (i:Nat) (h:i < l.length):qx l (i:Int) = l[i]:=by simp [qx,List.getD_eq_getElem?_getD,h]
theorem zkF (l:List qP) (i:Nat) (h:i < l.length):qw l (i:Int) = l[i]:=by simp [qw,List.getD_eq_getElem?_getD,h]
theorem JM (l:List yG) (n:ByteArray):jY (l.map p8) n = ZK l n:=by
 unfold jY ZK
 rw [List.any_map];rfl
theorem bY (l:List yG) (ha:Asc l) (n:ByteArray):ZK l n = (Yr l n).2:=by
 rw [zYJ l ha n]
 unfold ZK
 refine List.any_congr rfl (fun x=>?_)
 by_cases h:x.f0 = n
 ·rw [h];simp
 ·rw [decide_eq_false h]
  exact beq_eq_false_iff_ne.2 (fun e=>h (Wq.1 e))
theorem dA (a b c d:ByteArray):Qh a b c d = true ↔ orV (vG a c) (vG b d) < 0:=by
 unfold Qh orV
 by_cases h0:a = c
 ·subst h0
  have h1:¬ Op.bytesLess a.toList a.toList = true:=by rw [WY];exact List.lt_irrefl _
  have h2:Op.bytesLess a.toList a.toList = false:=by simpa using h1
  rw [iq,if_pos rfl,h2,Bool.false_or,beq_self_eq_true,Bool.true_and,QE,WY]
 ·rw [if_neg (fun e=>h0 (zvO.1 e)),QE,← WY]
  have h1:(a.toList == c.toList) = false:=beq_eq_false_iff_ne.2 (fun e=>h0 (Wq.1 e))
  rw [h1,Bool.false_and,Bool.or_false]
theorem iZ {α:Type} (l:List α) (P:α → Prop):(∀ x ∈ l,P x) ↔ ∀ (i:Nat) (h:i < l.length),P l[i]:=by
 constructor
 ·intro h i hi;exact h _ (List.getElem_mem hi)
 ·intro h x hx
  obtain ⟨i,hi,rfl⟩:=List.getElem_of_mem hx
  exact h i hi
theorem Jj {f:Nat → Bool} {n:Nat}:(List.range n).all f = true ↔ ∀ i,i < n → f i = true:=by
 rw [List.all_eq_true]
 exact ⟨fun h i hi=>h i (List.mem_range.2 hi),fun h i hi=>h i (List.mem_range.1 hi)⟩
theorem zx5 {c:Nat → Nat → Int} {n:Nat}:Zj c n = true ↔ ∀ i,i + 1 < n → c i (i + 1) < 0:=by
 unfold Zj
 rw [Jj]
 exact ⟨fun h i hi=>of_decide_eq_true (h i (by omega)),fun h i hi=>decide_eq_true (h i (by omega))⟩
theorem zwQ (l:List yG):(List.range l.length).all (QD (l.map p8)) = true ↔ l.any gy = false ∧ Zj (fun i j=>QC (yU l (i:Int)) (yU l (j:Int))) l.length = true:=by
 rw [Jj,zx5,List.any_eq_false,iZ]
 constructor
 ·intro h
  refine ⟨fun i hi=>?_,fun i hi=>?_⟩
  ·have h1:=h i hi
   unfold QD at h1
   rw [zx4 l i hi] at h1
   simp only [Bool.and_eq_true,Bool.not_eq_true'] at h1
   unfold gy
   have e:Qo l[i].f1 = wI (p8 l[i]).f1:=rfl
   rw [e,h1.2.1,Bool.or_false]
   have e2:pW l[i].f0.data.toList = true:=h1.1
   rw [e2];simp
  ·have h1:=h (i + 1) hi
   unfold QD at h1
   rw [zx4 l (i + 1) hi,show (((i + 1:Nat):Int) - 1) = (i:Int) by omega,zx4 l i (by omega),decide_eq_false (by omega:¬ i + 1 = 0),Bool.false_or] at h1
   simp only [Bool.and_eq_true] at h1
   show vG _ _ < 0
   rw [Wp l i (by omega),Wp l (i + 1) hi,QE,← WY]
   exact h1.2.2
 ·rintro ⟨h1,h2⟩ i hi
  unfold QD
  have h3:=h1 i hi
  unfold gy at h3
  simp only [Bool.or_eq_true,not_or,Bool.not_eq_true,Bool.not_eq_false'] at h3
  rw [zx4 l i hi]
  have e2:pW (p8 l[i]).f0.data.toList = true:=h3.1
  have e3:wI (p8 l[i]).f1 = false:=h3.2
  rw [e2,e3,Bool.true_and,Bool.not_false,Bool.true_and]
  cases i with
  | zero=>rfl
  | succ m =>
   have h4:vG _ _ < 0:=h2 m hi
   rw [Wp l m (by omega),Wp l (m + 1) hi,QE,← WY] at h4
   rw [decide_eq_false (by omega:¬ m + 1 = 0),Bool.false_or,show (((m + 1:Nat):Int) - 1) = (m:Int) by omega,zx4 l m (by omega)]
   exact h4
theorem zwX (l3:List yG) (ha:Asc l3) (l:List qb):(List.range l.length).all (QJ (l3.map p8) (l.map ZO)) = true ↔ l.any (tN l3) = false ∧ Zj (fun i j=>cmpL (qx l (i:Int)) (qx l (j:Int))) l.length = true:=by
 have hb:∀ x:qb,tN l3 x = false ↔ ZK l3 x.f0 = true ∧ ZK l3 x.f1 = true ∧ ZK l3 x.f2 = true:=by
  intro x
  unfold tN tL
  rw [bY l3 ha,bY l3 ha,bY l3 ha]
  simp
 rw [Jj,zx5,List.any_eq_false,iZ]
 constructor
 ·intro h
  refine ⟨fun i hi=>?_,fun i hi=>?_⟩
  ·have h1:=h i hi
   unfold QJ at h1
   rw [zkC l i hi] at h1
   simp only [Bool.and_eq_true,JM] at h1
   rw [Bool.not_eq_true]
   exact (hb l[i]).2 ⟨h1.1,h1.2.1,h1.2.2.1⟩
  ·have h1:=h (i + 1) hi
   unfold QJ at h1
   rw [zkC l (i + 1) hi,show (((i + 1:Nat):Int) - 1) = (i:Int) by omega,zkC l i (by omega),decide_eq_false (by omega:¬ i + 1 = 0),Bool.false_or] at h1
   simp only [Bool.and_eq_true] at h1
   have h2:=(dA _ _ _ _).1 h1.2.2.2
   rw [zkE l i (by omega),zkE l (i + 1) hi]
   exact h2
 ·rintro ⟨h1,h2⟩ i hi
  unfold QJ
  have h3:=(hb l[i]).1 (by simpa using h1 i hi)
  rw [zkC l i hi,JM,JM,JM]
  have e0:ZK l3 (ZO l[i]).f0 = true:=h3.1
  have e1:ZK l3 (ZO l[i]).f1 = true:=h3.2.1
  have e2:ZK l3 (ZO l[i]).f2 = true:=h3.2.2
  rw [e0,e1,e2,Bool.true_and,Bool.true_and,Bool.true_and]
  cases i with
  | zero=>rfl
  | succ m =>
   have h4:=h2 m hi
   rw [zkE l m (by omega),zkE l (m + 1) hi] at h4
   rw [decide_eq_false (by omega:¬ m + 1 = 0),Bool.false_or,show (((m + 1:Nat):Int) - 1) = (m:Int) by omega,zkC l m (by omega)]
   exact (dA _ _ _ _).2 h4
theorem za5 (l3:List yG) (ha:Asc l3) (l:List qP):(List.range l.length).all (QV (l3.map p8) (l.map ZP)) = true ↔ l.any (gZ l3) = false ∧ Zj (fun i j=>Wo (qw l (i:Int)) (qw l (j:Int))) l.length = true:=by
 have hb:∀ x:qP,gZ l3 x = false ↔ ZK l3 x.f0 = true ∧ ZK l3 x.f1 = true ∧ ¬ x.f2 = 0 ∧ ¬ x.f2 < -500 ∧ ¬ 500 < x.f2:=by
  intro x
  unfold gZ tL
  rw [bY l3 ha,bY l3 ha]
  simp only [Bool.or_eq_false_iff,decide_eq_false_iff_not,Bool.not_eq_false',List.all_cons,List.all_nil,Bool.and_true,Bool.and_eq_true]
  constructor
  ·rintro ⟨p1,p2,p3,p4,p5⟩;exact ⟨p4,p5,p1,p2,p3⟩
  ·rintro ⟨p4,p5,p1,p2,p3⟩;exact ⟨p1,p2,p3,p4,p5⟩
 rw [Jj,zx5,List.any_eq_false,iZ]
 constructor
 ·intro h
  refine ⟨fun i hi=>?_,fun i hi=>?_⟩
  ·have h1:=h i hi
   unfold QV at h1
   rw [zkD l i hi] at h1
   simp only [Bool.and_eq_true,JM,Bool.not_eq_true',decide_eq_false_iff_not] at h1
   rw [Bool.not_eq_true]
   exact (hb l[i]).2 ⟨h1.1,h1.2.1,h1.2.2.1,h1.2.2.2.1,h1.2.2.2.2.1⟩
  ·have h1:=h (i + 1) hi
   unfold QV at h1
   rw [zkD l (i + 1) hi,show (((i + 1:Nat):Int) - 1) = (i:Int) by omega,zkD l i (by omega),decide_eq_false (by omega:¬ i + 1 = 0),Bool.false_or] at h1
   simp only [Bool.and_eq_true] at h1
   have h2:=(dA _ _ _ _).1 h1.2.2.2.2.2
   rw [zkF l i (by omega),zkF l (i + 1) hi]
   exact h2
 ·rintro ⟨h1,h2⟩ i hi
  unfold QV
  have h3:=(hb l[i]).1 (by simpa using h1 i hi)
  rw [zkD l i hi,JM,JM]
  have e0:ZK l3 (ZP l[i]).f0 = true:=h3.1
  have e1:ZK l3 (ZP l[i]).f1 = true:=h3.2.1
  have e2:decide ((ZP l[i]).f2 = 0) = false:=decide_eq_false h3.2.2.1
  have e3:decide ((ZP l[i]).f2 < -500) = false:=decide_eq_false h3.2.2.2.1
  have e4:decide (500 < (ZP l[i]).f2) = false:=decide_eq_false h3.2.2.2.2
  rw [e0,e1,e2,e3,e4,Bool.true_and,Bool.true_and,Bool.not_false,Bool.true_and,Bool.true_and,Bool.true_and]
  cases i with
  | zero=>rfl
  | succ m =>
   have h4:=h2 m hi
   rw [zkF l m (by omega),zkF l (m + 1) hi] at h4
   rw [decide_eq_false (by omega:¬ m + 1 = 0),Bool.false_or,show (((m + 1:Nat):Int) - 1) = (m:Int) by omega,zkD l m (by omega)]
   exact (dA _ _ _ _).2 h4
theorem zJq (a:ByteArray) (c:Int) (l3:List yG) (l4:List qb) (l5:List qP):Px a c (l3.map p8) (l4.map ZO) (l5.map ZP) = xH a c l3 l4 l5:=by
 unfold Px xH
 rw [List.length_map,List.length_map,List.length_map]
 have e0:wI c = Qo c:=rfl
 by_cases h0:(!YH a.data.toList || (Qo c || (decide (400 < l3.length) || (decide (50 < l4.length) || decide (500 < l5.length))))) = true
 ·rw [if_pos h0,e0]
  simp only [Bool.or_eq_true,Bool.not_eq_true',decide_eq_true_eq] at h0
  rcases h0 with h | h | h | h | h
  ·rw [h];rfl
  ·rw [h];simp
  ·simp [show ¬ l3.length ≤ 400 by omega]
  ·simp [show ¬ l4.length ≤ 50 by omega]
  ·simp [show ¬ l5.length ≤ 500 by omega]
 ·rw [if_neg h0,e0]
  simp only [Bool.or_eq_true,Bool.not_eq_true',decide_eq_true_eq,not_or,Bool.not_eq_false,Bool.not_eq_true] at h0
  rw [h0.1,h0.2.1,decide_eq_true (by omega:l3.length ≤ 400),decide_eq_true (by omega:l4.length ≤ 50),decide_eq_true (by omega:l5.length ≤ 500),Bool.not_false,Bool.true_and,Bool.true_and,Bool.true_and,Bool.true_and,Bool.true_and]
  by_cases h1:(l3.any gy || !Zj (fun i j=>QC (yU l3 (i:Int)) (yU l3 (j:Int))) l3.length) = true
  ·rw [if_pos h1]
   have:¬ (List.range l3.length).all (QD (l3.map p8)) = true:=by
    rw [zwQ]
    rintro ⟨p,q⟩
    rw [p,q] at h1;cases h1
   rw [Bool.not_eq_true] at this
   rw [this,Bool.false_and]
  ·rw [if_neg h1]
   simp only [Bool.or_eq_true,Bool.not_eq_true',not_or,Bool.not_eq_true,Bool.not_eq_false] at h1
   rw [(zwQ l3).2 h1,Bool.true_and]
   have ha:=zV3 h1.2
   by_cases h2:(l4.any (tN l3) || !Zj (fun i j=>cmpL (qx l4 (i:Int)) (qx l4 (j:Int))) l4.length) = true
   ·rw [if_pos h2]
    have:¬ (List.range l4.length).all (QJ (l3.map p8) (l4.map ZO)) = true:=by
     rw [zwX l3 ha]
     rintro ⟨p,q⟩
     rw [p,q] at h2;cases h2
    rw [Bool.not_eq_true] at this
    rw [this,Bool.false_and]
   ·rw [if_neg h2]
    simp only [Bool.or_eq_true,Bool.not_eq_true',not_or,Bool.not_eq_true,Bool.not_eq_false] at h2
    rw [(zwX l3 ha l4).2 h2,Bool.true_and,Bool.eq_iff_iff,za5 l3 ha l5,Bool.and_eq_true,Bool.not_eq_true']
end Go.Proofs.YtggifbbiiickmaaGreatDoor
namespace Go.Proofs.YtggifbbiiickmaaGreatDoor.PX
open Go.RowKit Go.Proofs.zk.za Go.Proofs.zk.zS Go.Proofs.zk.zR
attribute [local go_sem] qD qE xJ xV qc qd qF qG   -- for this text's walks alone
set_option linter.unusedVariables false
set_option linter.unusedSimpArgs false
def kU.f (a0:Int) (a1:Int):Option (Int):=if a1 = 0 then (none) else (if (Int.tmod a0 a1) < 0 then (some (wrap64 ((wrap64 (Int.tdiv a0 a1)) - 1))) else (some (wrap64 (Int.tdiv a0 a1))))
set_option maxHeartbeats 8000000 in
set_option maxRecDepth 100000 in
theorem kU.calls (a0:Int) (a1:Int) (r:Int) (w:World) (h:kU.f a0 a1 = some r) :
  Calls Tryz.prog 149 #[.int .i64 a0,.int .i64 a1] w fun e w'=>e = .returned (.int .i64 r) ∧ yc w w':=by
 have H:(if a1 = 0 then (none) else (if (Int.tmod a0 a1) < 0 then (some (wrap64 ((wrap64 (Int.tdiv a0 a1)) - 1))) else (some (wrap64 (Int.tdiv a0 a1))))) = some r:=h
 clear h
 by_cases c3:a1 = 0
 ·rw [if_pos c3] at H
  exact absurd H (by simp)
 ·rw [if_neg c3] at H
  have ZN:(a1 == 0) = false:=beq_eq_false_iff_ne.mpr c3
  have zkG:(a1 != 0) = true:=bne_iff_ne.mpr c3
  by_cases c4:(Int.tmod a0 a1) < 0
  ·rw [if_pos c4] at H
   have QX:decide ((Int.tmod a0 a1) < 0) = true:=decide_eq_true c4
   clear c4
   obtain rfl:=Option.some.inj H
   go_enter Tryz.func149,Tryz.ntmps149
   go_wp2
   go_ret
   exact ⟨by first | rfl | (simp;done) | (simp [*];done),by repeat (first | exact yc.refl _ | apply yc.step)⟩
  ·rw [if_neg c4] at H
   have QX:decide ((Int.tmod a0 a1) < 0) = false:=decide_eq_false c4
   clear c4
   obtain rfl:=Option.some.inj H
   go_enter Tryz.func149,Tryz.ntmps149
   go_wp2
   go_ret
   exact ⟨by first | rfl | (simp;done) | (simp [*];done),by repeat (first | exact yc.refl _ | apply yc.step)⟩
def vH.f (a0:Int) (a1:Int):Option (Int):=(kU.f (wrap64 ((wrap64 (10 * a1)) * a0)) 1000).bind fun t156=>(some t156)
set_option maxHeartbeats 8000000 in
set_option maxRecDepth 100000 in
theorem vH.calls (a0:Int) (a1:Int) (r:Int) (w:World) (h:vH.f a0 a1 = some r) :
  Calls Tryz.prog 122 #[.int .i64 a0,.int .i64 a1] w fun e w'=>e = .returned (.int .i64 r) ∧ yc w w':=by
 have H:((kU.f (wrap64 ((wrap64 (10 * a1)) * a0)) 1000).bind fun t156=>(some t156)) = some r:=h
 clear h
 replace H:=Option.bind_eq_some_iff.mp H
 obtain ⟨t156,eO,H⟩:=H
 replace H:(some t156) = some r:=H
 have A3:=zx.mk eO
 clear eO
 obtain rfl:=Option.some.inj H
 go_enter Tryz.func122,Tryz.ntmps122
 go_wp2_with (first | ((with_reducible refine yx (f:=149) rfl ?_);refine uD (some 9) Tryz.func149 #[.int .i64 (wrap64 ((wrap64 (10 * a1)) * a0)),.int .i64 1000] ?_;(with_reducible refine (kU.calls (wrap64 ((wrap64 (10 * a1)) * a0)) 1000 t156 _ A3.out).mono ?_);rintro e w' ⟨rfl,⟨nd,rfl⟩⟩;refine ⟨_,rfl,?_⟩))
 go_ret
 exact ⟨by first | rfl | (simp;done) | (simp [*];done),by repeat (first | exact yc.refl _ | apply yc.step)⟩
end Go.Proofs.YtggifbbiiickmaaGreatDoor.PX
namespace Go.Proofs.YtggifbbiiickmaaGreatDoor.PX
open Go.RowKit Go.Proofs.zk.za Go.Proofs.zk.zS Go.Proofs.zk.zR
attribute [local go_sem] qD qE xJ xV qc qd qF qG   -- for this text's walks alone
set_option linter.unusedVariables false
set_option linter.unusedSimpArgs false
def qy.l0:Nat → ByteArray → Int → Int → ByteArray → Bool → Int → List (uF) → List (uU) → List (jJ) → Option (Int × Bool)
 | 0,_,_,_,_,_,_,_,_,_=>none
 | k + 1,x1,x2,x8,za6,za7,za8,lN,za9,zbz=>if x8 < (lN.length:Int) then (if 0 ≤ x8 then (if ((xQ lN x8).f0).toList = x1.toList then ((vH.f ((xQ lN x8).f1) x2).bind fun t160=>(some (t160,true))) else (qy.l0 k x1 x2 (wrap64 (x8 + 1)) za6 za7 za8 lN za9 zbz)) else (none)) else (some (0,false))
def qy.f (k:Nat) (zF:ByteArray) (zG:Bool) (zB:Int) (zn:List (uF)) (zN:List (uU)) (zO:List (jJ)) (a1:ByteArray) (a2:Int):Option (Int × Bool):=qy.l0 k a1 a2 0 zF zG zB zn zN zO
set_option maxHeartbeats 8000000 in
set_option maxRecDepth 100000 in
theorem qy.calls (k:Nat) (zF:ByteArray) (zG:Bool) (zB:Int) (yM:Option Addr) (yN:Nat) (zn:List (uF)) (yP:Option Addr) (yR:Nat) (zN:List (uU)) (yS:Option Addr) (yT:Nat) (zO:List (jJ)) (a1:ByteArray) (a2:Int) (r1:Int) (r2:Bool) (w:World) (jV:Kd.C Xj w yM zn.length zn) (kG:zn.length ≤ yN) (kH:Kd.C Xc w yP zN.length zN) (kI:zN.length ≤ yR) (kL:Kd.C QZ w yS zO.length zO) (kM:zO.length ≤ yT) (h:qy.f k zF zG zB zn zN zO a1 a2 = some (r1,r2)) :
  Calls Tryz.prog 123 #[.agg #[.string zF,.bool zG,.int .i64 zB,.slice yM zn.length yN,.slice yP zN.length yR,.slice yS zO.length yT],.string a1,.int .i64 a2] w fun e w'=>e = .returned (.tuple #[.int .i64 r1,.bool r2]) ∧ Below w.heap.size w w':=by
 have lI:=Tryz.underlying101
 have jD:=zx.mk jV
 have wD:=zx.mk kG
 clear jV kG
 have wE:=zx.mk kH
 have wF:=zx.mk kI
 clear kH kI
 have wG:=zx.mk kL
 have wH:=zx.mk kM
 clear kL kM
 have HB:=zx.mk (Below.refl w.heap.size w)
 have H:(qy.l0 k a1 a2 0 zF zG zB zn zN zO) = some (r1,r2):=h
 clear h
 have H':=zx.mk H
 clear H
 go_enter Tryz.func123,Tryz.ntmps123
 go_wp2_with (first | ((with_reducible refine qQ (N:=3) rfl ?_);refine qC ?hg (N:=3) ?hd (cs:=#[.string zF,.bool zG,.int .i64 zB,.slice yM zn.length yN,.slice yP zN.length yR,.slice yS zO.length yT]) (t:=101) ?hr ?_;(case hd=>rfl);(case hg=>rfl);(case hr=>first | (go_simp;done) | (go_simp;rfl));intro pz hg w4 qo hb;have ze:=zx.mk (zu (zD HB.out) hb);have zi:=zx.mk (qo);have zo:=zx.mk ((by rw [hg];exact (zm (zD HB.out)):w.heap.size ≤ pz));have zT:=zx.mk ((by rw [hg];exact (zm (zD HB.out)):w.heap.size ≤ pz));clear HB;have HB:=ze;have uZ:=zi;have ztH:=zo;have zWR:=zT;clear ze zi zo zT;clear hb qo hg))
 go_loopg [8] k (fun kq v8 w'=>∃ (uW:Int),v8 = .int .i64 uW ∧ zx (qy.l0 kq a1 a2 uW zF zG zB zn zN zO = some (r1,r2)) ∧ zx (kq ≤ k) ∧ zx (w'.heap[pz]? = some (.cells #[.string zF,.bool zG,.int .i64 zB,(.slice yM zn.length yN),(.slice yP zN.length yR),(.slice yS zO.length yT)] 101 (0,0))) ∧ zx (Below w.heap.size w w'))
 case atStart=>exact ⟨(0),(by first | rfl | (simp;done) | (simp [*];done)),H',⟨Nat.le_refl _⟩,⟨qK uZ.out⟩,⟨zD HB.out⟩⟩
 case round =>
  clear H'
  obtain ⟨uW,rfl,HA,wo,uZ,HB⟩:=hrel
  cases gk with
  | zero=>exact absurd HA.out (by simp [qy.l0])
  | succ k1 =>
   have H:=HA.out
   clear HA
   simp only [qy.l0] at H
   by_cases c5:uW < (zn.length:Int)
   ·rw [if_pos c5] at H
    have wM:decide (uW < (zn.length:Int)) = true:=decide_eq_true c5
    clear c5
    by_cases c6:0 ≤ uW
    ·rw [if_pos c6] at H
     have kD:decide (0 ≤ uW) = true:=decide_eq_true c6
     clear c6
     by_cases c7:((xQ zn uW).f0).toList = a1.toList
     ·rw [if_pos c7] at H
      have Wn:(((xQ zn uW).f0).toList == a1.toList) = true:=beq_iff_eq.mpr c7
      have zzB:(((xQ zn uW).f0).toList != a1.toList) = false:=bne_eq_false_iff_eq.mpr c7
      clear c7
      replace H:=Option.bind_eq_some_iff.mp H
      obtain ⟨t160,A80,H⟩:=H
      replace H:(some (t160,true)) = some (r1,r2):=H
      have A8:=zx.mk A80
      clear A80
      simp only [Option.some.injEq,Prod.mk.injEq] at H
      obtain ⟨rfl,rfl⟩:=H
      have fO:wr.cell? ⟨pz,0,none⟩ = some (.string zF):=zK uZ 0
      have fP:wr.cell? ⟨pz,1,none⟩ = some (.bool zG):=zK uZ 1
      have fT:wr.cell? ⟨pz,2,none⟩ = some (.int .i64 zB):=zK uZ 2
      have fU:wr.cell? ⟨pz,3,none⟩ = some (.slice yM zn.length yN):=zK uZ 3
      have eZ:wr.cell? ⟨pz,4,none⟩ = some (.slice yP zN.length yR):=zK uZ 4
      have eX:wr.cell? ⟨pz,5,none⟩ = some (.slice yS zO.length yT):=zK uZ 5
      have eY:=zw uZ.out 0
      have eB:=zw uZ.out 1
      have eD:=zw uZ.out 2
      have eF:=zw uZ.out 3
      have eG:=zw uZ.out 4
      have eH:=zw uZ.out 5
      have zzC:0 ≤ (uW:Int):=of_decide_eq_true yH
      have zzD:uW < (zn.length:Int):=of_decide_eq_true yH
      obtain ⟨zWS,zYY,JN,JO⟩:=Jb jD.out uW zzC zzD
      cases zYY
      replace JN:=(HB.out.cell (World.block_lt_of_cell? w _ JN)).trans JN
      replace JO:=(HB.out.cell (World.block_lt_of_cell? w _ JO)).trans JO
      replace zzC:=eq_true zzC
      replace zzD:=eq_true zzD
      have zYW:0 ≤ (uW:Int):=of_decide_eq_true yH
      have zYa:uW < (zn.length:Int):=of_decide_eq_true yH
      obtain ⟨zfD,ziy,zx6,zx7⟩:=Jb jD.out uW zYW zYa
      obtain rfl:zWS = zfD:=(by injection ziy)
      replace zx6:=(HB.out.cell (World.block_lt_of_cell? w _ zx6)).trans zx6
      replace zx7:=(HB.out.cell (World.block_lt_of_cell? w _ zx7)).trans zx7
      replace zYW:=eq_true zYW
      replace zYa:=eq_true zYa
      go_wp2_with (first | ((with_reducible refine yx (f:=122) rfl ?_);refine uD (some 31) Tryz.func122 #[.int .i64 ((xQ zn uW).f1),.int .i64 a2] ?_;(with_reducible refine (vH.calls ((xQ zn uW).f1) a2 t160 _ A8.out).mono ?_);rintro e w' ⟨rfl,⟨nd,rfl⟩⟩;refine ⟨_,rfl,?_⟩))
      go_ret2
      exact ⟨by first | rfl | (simp [zH,zI] <;> rfl) | (simp [*,zH,zI] <;> rfl),by repeat (first | (with_reducible first | exact HB.out | apply yJ | apply zC | apply yY | refine qm ?_ zWR.out) | exact HB.out)⟩
     ·rw [if_neg c7] at H
      have Wn:(((xQ zn uW).f0).toList == a1.toList) = false:=beq_eq_false_iff_ne.mpr c7
      have zzB:(((xQ zn uW).f0).toList != a1.toList) = true:=bne_iff_ne.mpr c7
      have H':=zx.mk H
      clear H
      have zme:wr.cell? ⟨pz,0,none⟩ = some (.string zF):=zK uZ 0
      have zmf:wr.cell? ⟨pz,1,none⟩ = some (.bool zG):=zK uZ 1
      have zmg:wr.cell? ⟨pz,2,none⟩ = some (.int .i64 zB):=zK uZ 2
      have zmh:wr.cell? ⟨pz,3,none⟩ = some (.slice yM zn.length yN):=zK uZ 3
      have zmi:wr.cell? ⟨pz,4,none⟩ = some (.slice yP zN.length yR):=zK uZ 4
      have zml:wr.cell? ⟨pz,5,none⟩ = some (.slice yS zO.length yT):=zK uZ 5
      have zmm:=zw uZ.out 0
      have zmn:=zw uZ.out 1
      have zmo:=zw uZ.out 2
      have zmp:=zw uZ.out 3
      have zmr:=zw uZ.out 4
      have zms:=zw uZ.out 5
      have zzC:0 ≤ (uW:Int):=of_decide_eq_true yH
      have zzD:uW < (zn.length:Int):=of_decide_eq_true yH
      obtain ⟨zWS,zYY,JN,JO⟩:=Jb jD.out uW zzC zzD
      cases zYY
      replace JN:=(HB.out.cell (World.block_lt_of_cell? w _ JN)).trans JN
      replace JO:=(HB.out.cell (World.block_lt_of_cell? w _ JO)).trans JO
      replace zzC:=eq_true zzC
      replace zzD:=eq_true zzD
      go_wp2
      go_roundg k1
      case measure=>have:=wo.out;omega
      case rel=>exact ⟨(wrap64 (uW + 1)),(by first | rfl | (simp;done) | (simp [*];done)),H',⟨by have:=wo.out;omega⟩,⟨qK uZ.out⟩,⟨zD HB.out⟩⟩
    ·rw [if_neg c6] at H
     exact absurd H (by simp)
   ·rw [if_neg c5] at H
    have wM:decide (uW < (zn.length:Int)) = false:=decide_eq_false c5
    clear c5
    simp only [Option.some.injEq,Prod.mk.injEq] at H
    obtain ⟨rfl,rfl⟩:=H
    have gN:wr.cell? ⟨pz,0,none⟩ = some (.string zF):=zK uZ 0
    have zxb:wr.cell? ⟨pz,1,none⟩ = some (.bool zG):=zK uZ 1
    have zxc:wr.cell? ⟨pz,2,none⟩ = some (.int .i64 zB):=zK uZ 2
    have zxd:wr.cell? ⟨pz,3,none⟩ = some (.slice yM zn.length yN):=zK uZ 3
    have zxe:wr.cell? ⟨pz,4,none⟩ = some (.slice yP zN.length yR):=zK uZ 4
    have zxf:wr.cell? ⟨pz,5,none⟩ = some (.slice yS zO.length yT):=zK uZ 5
    have gP:=zw uZ.out 0
    have zxg:=zw uZ.out 1
    have zxh:=zw uZ.out 2
    have zxi:=zw uZ.out 3
    have zxl:=zw uZ.out 4
    have zxm:=zw uZ.out 5
    go_wp2
    go_ret2
    exact ⟨by first | rfl | (simp [zH,zI] <;> rfl) | (simp [*,zH,zI] <;> rfl),by repeat (first | (with_reducible first | exact HB.out | apply yJ | apply zC | apply yY | refine qm ?_ zWR.out) | exact HB.out)⟩
end Go.Proofs.YtggifbbiiickmaaGreatDoor.PX
namespace Go.Proofs.YtggifbbiiickmaaGreatDoor.PX
open Go.RowKit Go.Proofs.zk.za Go.Proofs.zk.zS Go.Proofs.zk.zR
attribute [local go_sem] qD qE xJ xV qc qd qF qG   -- for this text's walks alone
set_option linter.unusedVariables false
set_option linter.unusedSimpArgs false
def yL.j0:Nat → ByteArray → Int → Bool → ByteArray → Bool → Int → List (uF) → List (uU) → List (jJ) → Option (Int × Int)
 | 0,_,_,_,_,_,_,_,_,_=>none
 | k + 1,x1,x2,x20,zbq,zbx,zbj,zbv,zbk,zby=>if x20 = true then (some (0,1)) else ((qy.f k zbq zbx zbj zbv zbk zby x1 x2).bind fun zqr=>(if zqr.2 = true then (some (zqr.1,0)) else (some (0,3))))
def yL.f (k:Nat) (zF:ByteArray) (zG:Bool) (zB:Int) (zn:List (uF)) (zN:List (uU)) (zO:List (jJ)) (a1:ByteArray) (a2:Int):Option (Int × Int):=if a2 < 1 then (yL.j0 k a1 a2 true zF zG zB zn zN zO) else (if a2 > 1000 then (yL.j0 k a1 a2 true zF zG zB zn zN zO) else ((xw.f zF zG zB zn zN zO).bind fun t162=>(yL.j0 k a1 a2 (!t162) zF zG zB zn zN zO)))
set_option maxHeartbeats 8000000 in
set_option maxRecDepth 100000 in
theorem yL.calls (k:Nat) (zF:ByteArray) (zG:Bool) (zB:Int) (yM:Option Addr) (yN:Nat) (zn:List (uF)) (yP:Option Addr) (yR:Nat) (zN:List (uU)) (yS:Option Addr) (yT:Nat) (zO:List (jJ)) (a1:ByteArray) (a2:Int) (r1:Int) (r2:Int) (w:World) (jV:Kd.C Xj w yM zn.length zn) (kG:zn.length ≤ yN) (kH:Kd.C Xc w yP zN.length zN) (kI:zN.length ≤ yR) (kL:Kd.C QZ w yS zO.length zO) (kM:zO.length ≤ yT) (h:yL.f k zF zG zB zn zN zO a1 a2 = some (r1,r2)) :
  Calls Tryz.prog 71 #[.agg #[.string zF,.bool zG,.int .i64 zB,.slice yM zn.length yN,.slice yP zN.length yR,.slice yS zO.length yT],.string a1,.int .i64 a2] w fun e w'=>e = .returned (.tuple #[.int .i64 r1,.int .i64 r2]) ∧ Below w.heap.size w w':=by
 have lI:=Tryz.underlying101
 have jD:=zx.mk jV
 have wD:=zx.mk kG
 clear jV kG
 have wE:=zx.mk kH
 have wF:=zx.mk kI
 clear kH kI
 have wG:=zx.mk kL
 have wH:=zx.mk kM
 clear kL kM
 have HB:=zx.mk (Below.refl w.heap.size w)
 have H:(if a2 < 1 then (yL.j0 k a1 a2 true zF zG zB zn zN zO) else (if a2 > 1000 then (yL.j0 k a1 a2 true zF zG zB zn zN zO) else ((xw.f zF zG zB zn zN zO).bind fun t162=>(yL.j0 k a1 a2 (!t162) zF zG zB zn zN zO)))) = some (r1,r2):=h
 clear h
 have iQ:=zx.mk H
 clear H
 go_enter Tryz.func71,Tryz.ntmps71
 go_upto_region 1 with (first | ((with_reducible refine qQ (N:=3) rfl ?_);refine qC ?hg (N:=3) ?hd (cs:=#[.string zF,.bool zG,.int .i64 zB,.slice yM zn.length yN,.slice yP zN.length yR,.slice yS zO.length yT]) (t:=101) ?hr ?_;(case hd=>rfl);(case hg=>rfl);(case hr=>first | (go_simp;done) | (go_simp;rfl));intro wX hg w5 qo hb;have ze:=zx.mk (zu (zD HB.out) hb);have zi:=zx.mk (qo);have zo:=zx.mk ((by rw [hg];exact (zm (zD HB.out)):w.heap.size ≤ wX));have zT:=zx.mk ((by rw [hg];exact (zm (zD HB.out)):w.heap.size ≤ wX));clear HB;have HB:=ze;have xR:=zi;have ztI:=zo;have zJx:=zT;clear ze zi zo zT;clear hb qo hg))
 (try simp only [Act.put,List.setIfInBounds_toArray,List.set_cons_zero,List.set_cons_succ])
 go_cut [20] (fun v20 wc=>∃ (kq:Nat) (zkz:Bool),v20 = .bool zkz ∧ zx (yL.j0 kq a1 a2 zkz zF zG zB zn zN zO = some (r1,r2)) ∧ zx (kq ≤ k) ∧ zx (wc.heap[wX]? = some (.cells #[.string zF,.bool zG,.int .i64 zB,(.slice yM zn.length yN),(.slice yP zN.length yR),(.slice yS zO.length yT)] 101 (0,0))) ∧ zx (Below w.heap.size w wc))
 case first =>
  have H:=iQ.out
  clear iQ
  by_cases c6:a2 < 1
  ·rw [if_pos c6] at H
   have kD:decide (a2 < 1) = true:=decide_eq_true c6
   clear c6
   (first | rw [kD] | (simp only [vv,vk];rw [kD]) | skip)
   have H':=zx.mk H
   clear H
   go_wp2
   go_meet
   case rel=>exact ⟨_,(true),(by first | rfl | (simp;done) | (simp [*];done)),H',⟨by first | omega | exact Nat.le_refl _⟩,⟨qK xR.out⟩,⟨zD HB.out⟩⟩
  ·rw [if_neg c6] at H
   have kD:decide (a2 < 1) = false:=decide_eq_false c6
   clear c6
   (first | rw [kD] | (simp only [vv,vk];rw [kD]) | skip)
   by_cases c7:a2 > 1000
   ·rw [if_pos c7] at H
    have Wn:decide (1000 < a2) = true:=decide_eq_true c7
    clear c7
    have H':=zx.mk H
    clear H
    go_wp2
    go_meet
    case rel=>exact ⟨_,(true),(by first | rfl | (simp;done) | (simp [*];done)),H',⟨by first | omega | exact Nat.le_refl _⟩,⟨qK xR.out⟩,⟨zD HB.out⟩⟩
   ·rw [if_neg c7] at H
    have Wn:decide (1000 < a2) = false:=decide_eq_false c7
    clear c7
    replace H:=Option.bind_eq_some_iff.mp H
    obtain ⟨t162,A80,H⟩:=H
    replace H:(yL.j0 k a1 a2 (!t162) zF zG zB zn zN zO) = some (r1,r2):=H
    have A8:=zx.mk A80
    clear A80
    have H':=zx.mk H
    clear H
    have fO:w5.cell? ⟨wX,0,none⟩ = some (.string zF):=zK xR 0
    have fP:w5.cell? ⟨wX,1,none⟩ = some (.bool zG):=zK xR 1
    have fT:w5.cell? ⟨wX,2,none⟩ = some (.int .i64 zB):=zK xR 2
    have fU:w5.cell? ⟨wX,3,none⟩ = some (.slice yM zn.length yN):=zK xR 3
    have eZ:w5.cell? ⟨wX,4,none⟩ = some (.slice yP zN.length yR):=zK xR 4
    have eX:w5.cell? ⟨wX,5,none⟩ = some (.slice yS zO.length yT):=zK xR 5
    have eY:=zw xR.out 0
    have eB:=zw xR.out 1
    have eD:=zw xR.out 2
    have eF:=zw xR.out 3
    have eG:=zw xR.out 4
    have eH:=zw xR.out 5
    go_wp2_with (first | (go_at_call 106;(with_reducible refine (xw.calls zF zG zB _ _ zn _ _ zN _ _ zO t162 _ ?yh ?yD ?qX ?qJ ?qR ?xg A8.out).mono ?_);(case yh=>exact qM (Kd.zh jD.out HB.out));(case yD=>exact wD.out);(case qX=>exact qM (Kd.zh wE.out HB.out));(case qJ=>exact wF.out);(case qR=>exact qM (Kd.zh wG.out HB.out));(case xg=>exact wH.out);rintro e YI ⟨rfl,hb⟩;have ze:=zx.mk (zM (g:=wX) (o:=.cells #[.string zF,.bool zG,.int .i64 zB,.slice yM zn.length yN,.slice yP zN.length yR,.slice yS zO.length yT] 101 (0,0)) (qK xR.out) hb);have zi:=zx.mk (zu (zD HB.out) hb);clear xR;clear HB;have xR:=ze;have HB:=zi;clear ze zi;(try clear hb);(try clear hi)))
    go_meet
    case rel=>exact ⟨_,(!t162),(by first | rfl | (simp;done) | (simp [*];done)),H',⟨by first | omega | exact Nat.le_refl _⟩,⟨qK xR.out⟩,⟨zD HB.out⟩⟩
 case rest =>
  clear iQ
  try clear c6
  try clear kD
  try clear c7
  try clear Wn
  try clear fO
  try clear fP
  try clear fT
  try clear fU
  try clear eZ
  try clear eX
  try clear eY
  try clear eB
  try clear eD
  try clear eF
  try clear eG
  try clear eH
  obtain ⟨kq,zkz,rfl,HA,WA,xR,HB⟩:=hcut
  cases kq with
  | zero=>exact absurd HA.out (by simp [yL.j0])
  | succ ZY =>
   have H:=HA.out
   clear HA
   simp only [yL.j0] at H
   by_cases c11:zkz = true
   ·subst c11
    have H1:(some (0,1)) = some (r1,r2):=by rw [if_pos rfl] at H;exact H
    clear H
    have H:=H1
    clear H1
    simp only [Option.some.injEq,Prod.mk.injEq] at H
    obtain ⟨rfl,rfl⟩:=H
    go_wp2
    go_ret2
    exact ⟨by first | rfl | (simp [zH,zI] <;> rfl) | (simp [*,zH,zI] <;> rfl),by repeat (first | (with_reducible first | exact HB.out | apply yJ | apply zC | apply yY | refine qm ?_ zJx.out) | exact HB.out)⟩
   ·replace c11:=Bool.eq_false_iff.mpr c11
    subst c11
    have H1:((qy.f ZY zF zG zB zn zN zO a1 a2).bind fun zqr=>(if zqr.2 = true then (some (zqr.1,0)) else (some (0,3)))) = some (r1,r2):=by rw [if_neg (show ¬ (false = true) by decide)] at H;exact H
    clear H
    have H:=H1
    clear H1
    replace H:=Option.bind_eq_some_iff.mp H
    obtain ⟨⟨zJj,t164⟩,zdP,H⟩:=H
    replace H:(if t164 = true then (some (zJj,0)) else (some (0,3))) = some (r1,r2):=H
    have A12:=zx.mk zdP
    clear zdP
    by_cases c13:t164 = true
    ·subst c13
     have H1:(some (zJj,0)) = some (r1,r2):=by rw [if_pos rfl] at H;exact H
     clear H
     have H:=H1
     clear H1
     simp only [Option.some.injEq,Prod.mk.injEq] at H
     obtain ⟨rfl,rfl⟩:=H
     have XA:wc.cell? ⟨wX,0,none⟩ = some (.string zF):=zK xR 0
     have Jf:wc.cell? ⟨wX,1,none⟩ = some (.bool zG):=zK xR 1
     have Jg:wc.cell? ⟨wX,2,none⟩ = some (.int .i64 zB):=zK xR 2
     have Jh:wc.cell? ⟨wX,3,none⟩ = some (.slice yM zn.length yN):=zK xR 3
     have Ji:wc.cell? ⟨wX,4,none⟩ = some (.slice yP zN.length yR):=zK xR 4
     have Jl:wc.cell? ⟨wX,5,none⟩ = some (.slice yS zO.length yT):=zK xR 5
     have XB:=zw xR.out 0
     have Jm:=zw xR.out 1
     have Jo:=zw xR.out 2
     have Jp:=zw xR.out 3
     have Jr:=zw xR.out 4
     have Js:=zw xR.out 5
     go_wp2_with (first | ((with_reducible refine yx (f:=123) rfl ?_);refine uD (some 25) Tryz.func123 #[.agg #[.string zF,.bool zG,.int .i64 zB,.slice yM zn.length yN,.slice yP zN.length yR,.slice yS zO.length yT],.string a1,.int .i64 a2] ?_;(with_reducible refine (qy.calls ZY zF zG zB _ _ zn _ _ zN _ _ zO a1 a2 zJj true _ ?yh ?yD ?qX ?qJ ?qR ?xg A12.out).mono ?_);(case yh=>exact qM (Kd.zh jD.out HB.out));(case yD=>exact wD.out);(case qX=>exact qM (Kd.zh wE.out HB.out));(case qJ=>exact wF.out);(case qR=>exact qM (Kd.zh wG.out HB.out));(case xg=>exact wH.out);rintro e WW ⟨rfl,hb⟩;refine ⟨_,rfl,?_⟩;have ze:=zx.mk (zM (g:=wX) (o:=.cells #[.string zF,.bool zG,.int .i64 zB,.slice yM zn.length yN,.slice yP zN.length yR,.slice yS zO.length yT] 101 (0,0)) (qK xR.out) hb);have zi:=zx.mk (zu (zD HB.out) hb);clear xR;clear HB;have xR:=ze;have HB:=zi;clear ze zi;(try clear hb);(try clear hi)))
     go_ret2
     exact ⟨by first | rfl | (simp [zH,zI] <;> rfl) | (simp [*,zH,zI] <;> rfl),by repeat (first | (with_reducible first | exact HB.out | apply yJ | apply zC | apply yY | refine qm ?_ zJx.out) | exact HB.out)⟩
    ·replace c13:=Bool.eq_false_iff.mpr c13
     subst c13
     have H1:(some (0,3)) = some (r1,r2):=by rw [if_neg (show ¬ (false = true) by decide)] at H;exact H
     clear H
     have H:=H1
     clear H1
     simp only [Option.some.injEq,Prod.mk.injEq] at H
     obtain ⟨rfl,rfl⟩:=H
     have Jt:wc.cell? ⟨wX,0,none⟩ = some (.string zF):=zK xR 0
     have Ju:wc.cell? ⟨wX,1,none⟩ = some (.bool zG):=zK xR 1
     have JA:wc.cell? ⟨wX,2,none⟩ = some (.int .i64 zB):=zK xR 2
     have JB:wc.cell? ⟨wX,3,none⟩ = some (.slice yM zn.length yN):=zK xR 3
     have JC:wc.cell? ⟨wX,4,none⟩ = some (.slice yP zN.length yR):=zK xR 4
     have JD:wc.cell? ⟨wX,5,none⟩ = some (.slice yS zO.length yT):=zK xR 5
     have JE:=zw xR.out 0
     have JF:=zw xR.out 1
     have JG:=zw xR.out 2
     have JH:=zw xR.out 3
     have JI:=zw xR.out 4
     have JL:=zw xR.out 5
     go_wp2_with (first | ((with_reducible refine yx (f:=123) rfl ?_);refine uD (some 25) Tryz.func123 #[.agg #[.string zF,.bool zG,.int .i64 zB,.slice yM zn.length yN,.slice yP zN.length yR,.slice yS zO.length yT],.string a1,.int .i64 a2] ?_;(with_reducible refine (qy.calls ZY zF zG zB _ _ zn _ _ zN _ _ zO a1 a2 zJj false _ ?yh ?yD ?qX ?qJ ?qR ?xg A12.out).mono ?_);(case yh=>exact qM (Kd.zh jD.out HB.out));(case yD=>exact wD.out);(case qX=>exact qM (Kd.zh wE.out HB.out));(case qJ=>exact wF.out);(case qR=>exact qM (Kd.zh wG.out HB.out));(case xg=>exact wH.out);rintro e fu ⟨rfl,hb⟩;refine ⟨_,rfl,?_⟩;have ze:=zx.mk (zM (g:=wX) (o:=.cells #[.string zF,.bool zG,.int .i64 zB,.slice yM zn.length yN,.slice yP zN.length yR,.slice yS zO.length yT] 101 (0,0)) (qK xR.out) hb);have zi:=zx.mk (zu (zD HB.out) hb);clear xR;clear HB;have xR:=ze;have HB:=zi;clear ze zi;(try clear hb);(try clear hi)))
     go_ret2
     exact ⟨by first | rfl | (simp [zH,zI] <;> rfl) | (simp [*,zH,zI] <;> rfl),by repeat (first | (with_reducible first | exact HB.out | apply yJ | apply zC | apply yY | refine qm ?_ zJx.out) | exact HB.out)⟩
end Go.Proofs.YtggifbbiiickmaaGreatDoor.PX
namespace Go.Proofs.YtggifbbiiickmaaGreatDoor.PX
open Go.RowKit Go.Proofs.zk.za Go.Proofs.zk.zS Go.Proofs.zk.zR
attribute [local go_sem] qD qE xJ xV qc qd qF qG   -- for this text's walks alone
set_option linter.unusedVariables false
set_option linter.unusedSimpArgs false
def vI.f (zF:ByteArray) (zG:Bool) (zB:Int) (zn:List (uF)) (zN:List (uU)) (zO:List (jJ)) (a1:Int):Option (Int × Int):=if a1 < 1 then (some (0,1)) else (if a1 > 1000 then (some (0,1)) else ((xw.f zF zG zB zn zN zO).bind fun zx8=>(if zx8 = true then ((vH.f zB a1).bind fun gJ=>(some (gJ,0))) else (some (0,1)))))
set_option maxHeartbeats 8000000 in
set_option maxRecDepth 100000 in
theorem vI.calls (zF:ByteArray) (zG:Bool) (zB:Int) (yM:Option Addr) (yN:Nat) (zn:List (uF)) (yP:Option Addr) (yR:Nat) (zN:List (uU)) (yS:Option Addr) (yT:Nat) (zO:List (jJ)) (a1:Int) (r1:Int) (r2:Int) (w:World) (jV:Kd.C Xj w yM zn.length zn) (kG:zn.length ≤ yN) (kH:Kd.C Xc w yP zN.length zN) (kI:zN.length ≤ yR) (kL:Kd.C QZ w yS zO.length zO) (kM:zO.length ≤ yT) (h:vI.f zF zG zB zn zN zO a1 = some (r1,r2)) :
  Calls Tryz.prog 70 #[.agg #[.string zF,.bool zG,.int .i64 zB,.slice yM zn.length yN,.slice yP zN.length yR,.slice yS zO.length yT],.int .i64 a1] w fun e w'=>e = .returned (.tuple #[.int .i64 r1,.int .i64 r2]) ∧ Below w.heap.size w w':=by
 have lI:=Tryz.underlying101
 have jD:=zx.mk jV
 have wD:=zx.mk kG
 clear jV kG
 have wE:=zx.mk kH
 have wF:=zx.mk kI
 clear kH kI
 have wG:=zx.mk kL
 have wH:=zx.mk kM
 clear kL kM
 have HB:=zx.mk (Below.refl w.heap.size w)
 have H:(if a1 < 1 then (some (0,1)) else (if a1 > 1000 then (some (0,1)) else ((xw.f zF zG zB zn zN zO).bind fun zx8=>(if zx8 = true then ((vH.f zB a1).bind fun gJ=>(some (gJ,0))) else (some (0,1)))))) = some (r1,r2):=h
 clear h
 by_cases c3:a1 < 1
 ·rw [if_pos c3] at H
  have ZN:decide (a1 < 1) = true:=decide_eq_true c3
  clear c3
  simp only [Option.some.injEq,Prod.mk.injEq] at H
  obtain ⟨rfl,rfl⟩:=H
  go_enter Tryz.func70,Tryz.ntmps70
  go_wp2_with (first | ((with_reducible refine qQ (N:=2) rfl ?_);refine qC ?hg (N:=2) ?hd (cs:=#[.string zF,.bool zG,.int .i64 zB,.slice yM zn.length yN,.slice yP zN.length yR,.slice yS zO.length yT]) (t:=101) ?hr ?_;(case hd=>rfl);(case hg=>rfl);(case hr=>first | (go_simp;done) | (go_simp;rfl));intro jW hg w4 qo hb;have ze:=zx.mk (zu (zD HB.out) hb);have zi:=zx.mk (qo);have zo:=zx.mk ((by rw [hg];exact (zm (zD HB.out)):w.heap.size ≤ jW));have zT:=zx.mk ((by rw [hg];exact (zm (zD HB.out)):w.heap.size ≤ jW));clear HB;have HB:=ze;have vV:=zi;have zJv:=zo;have tT:=zT;clear ze zi zo zT;clear hb qo hg))
  go_ret2
  exact ⟨by first | rfl | (simp [zH,zI] <;> rfl) | (simp [*,zH,zI] <;> rfl),by repeat (first | (with_reducible first | exact HB.out | apply yJ | apply zC | apply yY | refine qm ?_ tT.out) | exact HB.out)⟩
 ·rw [if_neg c3] at H
  have ZN:decide (a1 < 1) = false:=decide_eq_false c3
  clear c3
  by_cases c5:a1 > 1000
  ·rw [if_pos c5] at H
   have wM:decide (1000 < a1) = true:=decide_eq_true c5
   clear c5
   simp only [Option.some.injEq,Prod.mk.injEq] at H
   obtain ⟨rfl,rfl⟩:=H
   go_enter Tryz.func70,Tryz.ntmps70
   go_wp2_with (first | ((with_reducible refine qQ (N:=2) rfl ?_);refine qC ?hg (N:=2) ?hd (cs:=#[.string zF,.bool zG,.int .i64 zB,.slice yM zn.length yN,.slice yP zN.length yR,.slice yS zO.length yT]) (t:=101) ?hr ?_;(case hd=>rfl);(case hg=>rfl);(case hr=>first | (go_simp;done) | (go_simp;rfl));intro jW hg w6 qo hb;have ze:=zx.mk (zu (zD HB.out) hb);have zi:=zx.mk (qo);have zo:=zx.mk ((by rw [hg];exact (zm (zD HB.out)):w.heap.size ≤ jW));have zT:=zx.mk ((by rw [hg];exact (zm (zD HB.out)):w.heap.size ≤ jW));clear HB;have HB:=ze;have vV:=zi;have zJv:=zo;have tT:=zT;clear ze zi zo zT;clear hb qo hg))
   go_ret2
   exact ⟨by first | rfl | (simp [zH,zI] <;> rfl) | (simp [*,zH,zI] <;> rfl),by repeat (first | (with_reducible first | exact HB.out | apply yJ | apply zC | apply yY | refine qm ?_ tT.out) | exact HB.out)⟩
  ·rw [if_neg c5] at H
   have wM:decide (1000 < a1) = false:=decide_eq_false c5
   clear c5
   replace H:=Option.bind_eq_some_iff.mp H
   obtain ⟨zx8,eT,H⟩:=H
   replace H:(if zx8 = true then ((vH.f zB a1).bind fun gJ=>(some (gJ,0))) else (some (0,1))) = some (r1,r2):=H
   have A7:=zx.mk eT
   clear eT
   by_cases c8:zx8 = true
   ·subst c8
    have H1:((vH.f zB a1).bind fun gJ=>(some (gJ,0))) = some (r1,r2):=by rw [if_pos rfl] at H;exact H
    clear H
    have H:=H1
    clear H1
    replace H:=Option.bind_eq_some_iff.mp H
    obtain ⟨gJ,A90,H⟩:=H
    replace H:(some (gJ,0)) = some (r1,r2):=H
    have A9:=zx.mk A90
    clear A90
    simp only [Option.some.injEq,Prod.mk.injEq] at H
    obtain ⟨rfl,rfl⟩:=H
    go_enter Tryz.func70,Tryz.ntmps70
    go_wp2_with (first | ((with_reducible refine qQ (N:=2) rfl ?_);refine qC ?hg (N:=2) ?hd (cs:=#[.string zF,.bool zG,.int .i64 zB,.slice yM zn.length yN,.slice yP zN.length yR,.slice yS zO.length yT]) (t:=101) ?hr ?_;(case hd=>rfl);(case hg=>rfl);(case hr=>first | (go_simp;done) | (go_simp;rfl));intro jW hg YI qo hb;have ze:=zx.mk (zu (zD HB.out) hb);have zi:=zx.mk (qo);have zo:=zx.mk ((by rw [hg];exact (zm (zD HB.out)):w.heap.size ≤ jW));have zT:=zx.mk ((by rw [hg];exact (zm (zD HB.out)):w.heap.size ≤ jW));clear HB;have HB:=ze;have vV:=zi;have zJv:=zo;have tT:=zT;clear ze zi zo zT;clear hb qo hg;have gN:YI.cell? ⟨jW,0,none⟩ = some (.string zF):=zK vV 0;have zxb:YI.cell? ⟨jW,1,none⟩ = some (.bool zG):=zK vV 1;have zxc:YI.cell? ⟨jW,2,none⟩ = some (.int .i64 zB):=zK vV 2;have zxd:YI.cell? ⟨jW,3,none⟩ = some (.slice yM zn.length yN):=zK vV 3;have zxe:YI.cell? ⟨jW,4,none⟩ = some (.slice yP zN.length yR):=zK vV 4;have zxf:YI.cell? ⟨jW,5,none⟩ = some (.slice yS zO.length yT):=zK vV 5;have gP:=zw vV.out 0;have zxg:=zw vV.out 1;have zxh:=zw vV.out 2;have zxi:=zw vV.out 3;have zxl:=zw vV.out 4;have zxm:=zw vV.out 5) | (go_at_call 106;(with_reducible refine (xw.calls zF zG zB _ _ zn _ _ zN _ _ zO true _ ?yh ?yD ?qX ?qJ ?qR ?xg A7.out).mono ?_);(case yh=>exact qM (Kd.zh jD.out HB.out));(case yD=>exact wD.out);(case qX=>exact qM (Kd.zh wE.out HB.out));(case qJ=>exact wF.out);(case qR=>exact qM (Kd.zh wG.out HB.out));(case xg=>exact wH.out);rintro e dK ⟨rfl,hb⟩;have ze:=zx.mk (zM (g:=jW) (o:=.cells #[.string zF,.bool zG,.int .i64 zB,.slice yM zn.length yN,.slice yP zN.length yR,.slice yS zO.length yT] 101 (0,0)) (qK vV.out) hb);have zi:=zx.mk (zu (zD HB.out) hb);clear vV;clear HB;have vV:=ze;have HB:=zi;clear ze zi;(try clear hb);have zx9:dK.cell? ⟨jW,0,none⟩ = some (.string zF):=zK vV 0;have zjz:dK.cell? ⟨jW,1,none⟩ = some (.bool zG):=zK vV 1;have zjq:dK.cell? ⟨jW,2,none⟩ = some (.int .i64 zB):=zK vV 2;have zjx:dK.cell? ⟨jW,3,none⟩ = some (.slice yM zn.length yN):=zK vV 3;have zjj:dK.cell? ⟨jW,4,none⟩ = some (.slice yP zN.length yR):=zK vV 4;have zjv:dK.cell? ⟨jW,5,none⟩ = some (.slice yS zO.length yT):=zK vV 5;have zjk:=zw vV.out 0;have zjy:=zw vV.out 1;have zjw:=zw vV.out 2;have zjZ:=zw vV.out 3;have zjQ:=zw vV.out 4;have zjX:=zw vV.out 5) | ((with_reducible refine yx (f:=122) rfl ?_);refine uD (some 20) Tryz.func122 #[.int .i64 zB,.int .i64 a1] ?_;(with_reducible refine (vH.calls zB a1 gJ _ A9.out).mono ?_);rintro e w' ⟨rfl,⟨nd,rfl⟩⟩;refine ⟨_,rfl,?_⟩))
    go_ret2
    exact ⟨by first | rfl | (simp [zH,zI] <;> rfl) | (simp [*,zH,zI] <;> rfl),by repeat (first | (with_reducible first | exact HB.out | apply yJ | apply zC | apply yY | refine qm ?_ tT.out) | exact HB.out)⟩
   ·replace c8:=Bool.eq_false_iff.mpr c8
    subst c8
    have H1:(some (0,1)) = some (r1,r2):=by rw [if_neg (show ¬ (false = true) by decide)] at H;exact H
    clear H
    have H:=H1
    clear H1
    simp only [Option.some.injEq,Prod.mk.injEq] at H
    obtain ⟨rfl,rfl⟩:=H
    go_enter Tryz.func70,Tryz.ntmps70
    go_wp2_with (first | ((with_reducible refine qQ (N:=2) rfl ?_);refine qC ?hg (N:=2) ?hd (cs:=#[.string zF,.bool zG,.int .i64 zB,.slice yM zn.length yN,.slice yP zN.length yR,.slice yS zO.length yT]) (t:=101) ?hr ?_;(case hd=>rfl);(case hg=>rfl);(case hr=>first | (go_simp;done) | (go_simp;rfl));intro jW hg dB qo hb;have ze:=zx.mk (zu (zD HB.out) hb);have zi:=zx.mk (qo);have zo:=zx.mk ((by rw [hg];exact (zm (zD HB.out)):w.heap.size ≤ jW));have zT:=zx.mk ((by rw [hg];exact (zm (zD HB.out)):w.heap.size ≤ jW));clear HB;have HB:=ze;have vV:=zi;have zJv:=zo;have tT:=zT;clear ze zi zo zT;clear hb qo hg;have zmt:dB.cell? ⟨jW,0,none⟩ = some (.string zF):=zK vV 0;have zmu:dB.cell? ⟨jW,1,none⟩ = some (.bool zG):=zK vV 1;have zmA:dB.cell? ⟨jW,2,none⟩ = some (.int .i64 zB):=zK vV 2;have zmB:dB.cell? ⟨jW,3,none⟩ = some (.slice yM zn.length yN):=zK vV 3;have zmC:dB.cell? ⟨jW,4,none⟩ = some (.slice yP zN.length yR):=zK vV 4;have zmD:dB.cell? ⟨jW,5,none⟩ = some (.slice yS zO.length yT):=zK vV 5;have zmE:=zw vV.out 0;have zmF:=zw vV.out 1;have zmG:=zw vV.out 2;have zmH:=zw vV.out 3;have zmI:=zw vV.out 4;have zmL:=zw vV.out 5) | (go_at_call 106;(with_reducible refine (xw.calls zF zG zB _ _ zn _ _ zN _ _ zO false _ ?yh ?yD ?qX ?qJ ?qR ?xg A7.out).mono ?_);(case yh=>exact qM (Kd.zh jD.out HB.out));(case yD=>exact wD.out);(case qX=>exact qM (Kd.zh wE.out HB.out));(case qJ=>exact wF.out);(case qR=>exact qM (Kd.zh wG.out HB.out));(case xg=>exact wH.out);rintro e w16 ⟨rfl,hb⟩;have ze:=zx.mk (zM (g:=jW) (o:=.cells #[.string zF,.bool zG,.int .i64 zB,.slice yM zn.length yN,.slice yP zN.length yR,.slice yS zO.length yT] 101 (0,0)) (qK vV.out) hb);have zi:=zx.mk (zu (zD HB.out) hb);clear vV;clear HB;have vV:=ze;have HB:=zi;clear ze zi;(try clear hb);(try clear hi)))
    go_ret2
    exact ⟨by first | rfl | (simp [zH,zI] <;> rfl) | (simp [*,zH,zI] <;> rfl),by repeat (first | (with_reducible first | exact HB.out | apply yJ | apply zC | apply yY | refine qm ?_ tT.out) | exact HB.out)⟩
end Go.Proofs.YtggifbbiiickmaaGreatDoor.PX
namespace Go.Proofs.YtggifbbiiickmaaGreatDoor.PX
open Go.RowKit Go.Proofs.zk.za Go.Proofs.zk.zS Go.Proofs.zk.zR
attribute [local go_sem] qD qE xJ xV qc qd qF qG   -- for this text's walks alone
set_option linter.unusedVariables false
set_option linter.unusedSimpArgs false
end Go.Proofs.YtggifbbiiickmaaGreatDoor.PX
namespace Go.Proofs.YtggifbbiiickmaaGreatDoor.PX
open Go.RowKit Go.Proofs.zk.za Go.Proofs.zk.zS Go.Proofs.zk.zR
attribute [local go_sem] qD qE xJ xV qc qd qF qG   -- for this text's walks alone
set_option linter.unusedVariables false
set_option linter.unusedSimpArgs false
end Go.Proofs.YtggifbbiiickmaaGreatDoor.PX
namespace Go.Proofs.YtggifbbiiickmaaGreatDoor.PX
open Go.RowKit Go.Proofs.zk.za Go.Proofs.zk.zS Go.Proofs.zk.zR
attribute [local go_sem] qD qE xJ xV qc qd qF qG   -- for this text's walks alone
set_option linter.unusedVariables false
set_option linter.unusedSimpArgs false
end Go.Proofs.YtggifbbiiickmaaGreatDoor.PX
namespace Go.Proofs.YtggifbbiiickmaaGreatDoor.PX
open Go.RowKit Go.Proofs.zk.za Go.Proofs.zk.zS Go.Proofs.zk.zR
attribute [local go_sem] qD qE xJ xV qc qd qF qG   -- for this text's walks alone
set_option linter.unusedVariables false
set_option linter.unusedSimpArgs false
end Go.Proofs.YtggifbbiiickmaaGreatDoor.PX
namespace Go.Proofs.YtggifbbiiickmaaGreatDoor
open Go.RowKit Go.Proofs.zk.za Go.Proofs.zk.zS Go.Proofs.zk.zR Go.Proofs.YtggifbbiiickmaaGreatDoor.PX
set_option linter.unusedSimpArgs false
set_option linter.unusedVariables false
theorem zV8 (n s:Int) (hs:1 ≤ s) (hs1:s ≤ 1000) (h0:-3000 ≤ n) (h1:n ≤ 3000):vH.f n s = some (flr s n):=by
 have hr:=zvP s n hs hs1 h0 h1
 have e:10 * s * n = 10 * (s * n):=Int.mul_assoc _ _ _
 unfold vH.f flr
 rw [jA (x:=10 * s) (by omega) (by omega),e]
 generalize s * n = p at hr
 rw [jA (x:=10 * p) (by omega) (by omega)]
 unfold kU.f
 rw [if_neg (by omega)]
 by_cases hp:10 * p < 0
 ·obtain ⟨q,hq⟩:∃ q:Int,10 * p = -q:=⟨-(10 * p),by omega⟩
  rw [hq,Int.neg_tmod,Int.neg_tdiv,Int.tmod_eq_emod_of_nonneg (by omega),Int.tdiv_eq_ediv_of_nonneg (by omega)]
  by_cases hm:-(q % 1000) < 0
  ·rw [if_pos hm,jA (x:=-(q / 1000)) (by omega) (by omega),jA (by omega) (by omega)]
   simp only [Option.bind_some]
   congr 1
   omega
  ·rw [if_neg hm,jA (by omega) (by omega)]
   simp only [Option.bind_some]
   congr 1
   omega
 ·rw [Int.tmod_eq_emod_of_nonneg (by omega),if_neg (by omega),Int.tdiv_eq_ediv_of_nonneg (by omega),jA (by omega) (by omega)]
  rfl
theorem zzE (a:ByteArray) (b:Bool) (c:Int) (l3:List yG) (l4:List qb) (l5:List qP) (h3:l3.length ≤ 1000000000) (h4:l4.length ≤ 1000000000) (h5:l5.length ≤ 1000000000) (ha:a.size ≤ 140737488355328) (hz:∀ x ∈ l3,x.f0.size ≤ 140737488355328) :
  xw.f a b c (l3.map p8) (l4.map ZO) (l5.map ZP) = some (xH a c l3 l4 l5):=by
 unfold xw.f
 rw [if_pos ⟨by rw [List.length_map];exact h3,by rw [List.length_map];exact h4,by rw [List.length_map];exact h5,ha,List.all_eq_true.2 (fun x hx=>by
  obtain ⟨y,hy,rfl⟩:=List.mem_map.1 hx
  exact decide_eq_true (hz y hy))⟩,zJq]
theorem zdR (a:ByteArray) (b:Bool) (c:Int) (l3:List yG) (l4:List qb) (l5:List qP) (s:Int) (h3:l3.length ≤ 1000000000) (h4:l4.length ≤ 1000000000) (h5:l5.length ≤ 1000000000) (ha:a.size ≤ 140737488355328) (hz:∀ x ∈ l3,x.f0.size ≤ 140737488355328):vI.f a b c (l3.map p8) (l4.map ZO) (l5.map ZP) s = some (iy (xH a c l3 l4 l5) c s):=by
 unfold vI.f iy YA
 by_cases h1:s < 1
 ·rw [if_pos h1,decide_eq_false (by omega:¬ 1 ≤ s)];rfl
 ·rw [if_neg h1,decide_eq_true (by omega:1 ≤ s)]
  by_cases h2:s > 1000
  ·rw [if_pos h2,decide_eq_false (by omega:¬ s ≤ 1000)];rfl
  ·rw [if_neg h2,decide_eq_true (by omega:s ≤ 1000),zzE a b c l3 l4 l5 h3 h4 h5 ha hz]
   simp only [Option.bind_some,Bool.true_and]
   cases hv:xH a c l3 l4 l5 with
   | false=>rfl
   | true =>
    have hc:=(tO hv).1
    rw [if_pos rfl,if_pos rfl,zV8 c s (by omega) (by omega) (by omega) (by omega)];rfl
theorem zV9 (a:ByteArray) (b:Bool) (c:Int) (l:List yG) (l4:List uU) (l5:List jJ) (n:ByteArray) (s:Int) (hs:1 ≤ s) (hs1:s ≤ 1000) (hl:l.length ≤ 1000000000) (hw:∀ x ∈ l,0 ≤ x.f1 ∧ x.f1 ≤ 3000):∀ d i,l.length - i = d → i ≤ l.length → Ev (fun k=>qy.l0 k n s (i:Int) a b c (l.map p8) l4 l5) (match (l.drop i).find? (fun x=>decide (x.f0 = n)) with | some x=>(flr s x.f1,true) | none=>(0,false)):=by
 intro d
 induction d with
 | zero =>
  intro i hd hi
  rw [List.drop_eq_nil_of_le (by omega)]
  refine Xv (r:=(0,false)) rfl (Ev.step (fun k=>by rw [qy.l0,List.length_map]) (vw (by omega) (Ev.now _)))
 | succ d ih =>
  intro i hd hi
  have h1:i < l.length:=by omega
  have q0:(0:Int) ≤ (i:Int):=by omega
  have q1:(i:Int) < (l.length:Int):=by omega
  have hw2:wrap64 ((i:Int) + 1) = ((i + 1:Nat):Int):=(jA (by omega) (by omega)).trans (by omega)
  have hr:=ih (i + 1) (by omega) (by omega)
  have hx:=hw _ (List.getElem_mem h1)
  rw [List.drop_eq_getElem_cons h1,List.find?_cons]
  refine Ev.step (fun k=>by rw [qy.l0,List.length_map,hw2,zx4 l i h1]) (yB q1 (yB q0 ?_))
  by_cases he:l[i].f0 = n
  ·refine yB (gX.2 he) (WI (zV8 _ s hs hs1 (by show -3000 ≤ l[i].f1;omega) (by show l[i].f1 ≤ 3000;omega)) (Xv ?_ (Ev.now _)))
   rw [decide_eq_true he];rfl
  ·refine vw (fun e=>he (gX.1 e)) (Xv ?_ hr)
   rw [decide_eq_false he]
theorem zdS (a:ByteArray) (b:Bool) (c:Int) (l3:List yG) (l4:List qb) (l5:List qP) (n:ByteArray) (s:Int) (h3:l3.length ≤ 1000000000) (h4:l4.length ≤ 1000000000) (h5:l5.length ≤ 1000000000) (ha:a.size ≤ 140737488355328) (hz:∀ x ∈ l3,x.f0.size ≤ 140737488355328):Ev (fun k=>yL.f k a b c (l3.map p8) (l4.map ZO) (l5.map ZP) n s) (iw (xH a c l3 l4 l5) l3 n s):=by
 unfold iw YA
 refine Ev.congr (fun k=>by rw [yL.f,zzE a b c l3 l4 l5 h3 h4 h5 ha hz]) ?_
 have bad:∀ x:Bool,x = true → Ev (fun k=>yL.j0 k n s x a b c (l3.map p8) (l4.map ZO) (l5.map ZP)) (0,1):=fun x hx=>Ev.step (fun k=>by rw [yL.j0]) (yB hx (Ev.now _))
 by_cases h1:s < 1
 ·refine yB h1 (Xv ?_ (bad true rfl))
  rw [decide_eq_false (by omega:¬ 1 ≤ s)];rfl
 ·refine vw h1 ?_
  rw [decide_eq_true (by omega:1 ≤ s)]
  by_cases h2:s > 1000
  ·refine yB h2 (Xv ?_ (bad true rfl))
   rw [decide_eq_false (by omega:¬ s ≤ 1000)];rfl
  ·refine vw h2 (zv7 ?_)
   rw [decide_eq_true (by omega:s ≤ 1000)]
   cases hv:xH a c l3 l4 l5 with
   | false=>exact bad _ rfl
   | true =>
    have hq:Ev (fun k=>qy.l0 k n s 0 a b c (l3.map p8) (l4.map ZO) (l5.map ZP)) _:=zV9 a b c l3 (l4.map ZO) (l5.map ZP) n s (by omega) (by omega) h3 (zqo hv) _ 0 rfl (Nat.zero_le _)
    rw [List.drop_zero] at hq
    refine Ev.step (fun k=>by rw [yL.j0,qy.f]) (vw (by simp) (Ev.bind hq ?_))
    cases l3.find? (fun x=>decide (x.f0 = n)) with
    | none=>exact vw (by simp) (Ev.now _)
    | some x=>exact yB rfl (Ev.now _)
end Go.Proofs.YtggifbbiiickmaaGreatDoor
namespace Go.Proofs.YtggifbbiiickmaaGreatDoor
open Go.RowKit Go.Proofs.zk.za Go.Proofs.zk.zR Go.Proofs.YtggifbbiiickmaaGreatDoor.PX
set_option linter.unusedSimpArgs false
set_option linter.unusedVariables false
abbrev y8:=jd
abbrev jR:=qV
abbrev ZA:=Yi
def xu (x:y8):Bool:=xH x.f0 x.f2 x.f3 x.f4 x.f5
def aj (x:y8) (n:ByteArray):Bool:=ZK x.f3 n
def fjoin (x:y8) (n m:ByteArray):ByteArray × Bool:=lM (xu x) x.f4 n m
def WL (x:y8) (n m:ByteArray) (s:Int):Int × Int:=zqp (xu x) x.f5 n m s
def YB (x:y8) (n:ByteArray) (s:Int):Int × Int:=iw (xu x) x.f3 n s
def YN (x:y8) (s:Int):Int × Int:=iy (xu x) x.f2 s
def vS (l:List y8) (i:Int):y8:=zV l i
def dD (n:ByteArray):List y8 → Nat → Int
 | [],_=>-1
 | x :: r,i=>if x.f1 && aj x n then (i:Int) else dD n r (i + 1)
def pq (l:List y8) (f:Int) (n:ByteArray):Int:=if aj (vS l f) n then f else dD n l 0
def iX (by_:Int):jR:=⟨2,by_,0,0,⟨#[]⟩,⟨#[]⟩,[]⟩
def zjJ (w f s:Int) (n:ByteArray):jR:=⟨0,w,f,s,n,⟨#[]⟩,[]⟩
def WM (l:List y8) (s:Int) (yw:Bool) (out:List jR) (a:Int) (n:ByteArray):List jR :=
 match out.getLast? with
 | none=>[]
 | some b=>if yw && decide (b.f2 = a) then (if (WL (vS l a) b.f4 n s).1 = 0 then [] else [iX (WL (vS l a) b.f4 n s).1]) else []
def ak (l:List y8) (f s:Int) (yw:Bool) (st:List jR × List ByteArray) (n:ByteArray):List jR × List ByteArray :=
 if pq l f n < 0 then (st.1,st.2 ++ [n])
 else (st.1 ++ WM l s yw st.1 (pq l f n) n ++ [zjJ (YB (vS l (pq l f n)) n s).1 (pq l f n) s n],st.2)
def Jv (J:ByteArray → ByteArray → ByteArray × Bool) (c:ByteArray):List ByteArray → ByteArray × List ByteArray
 | []=>(c,[])
 | d :: r=>if (J c d).2 then Jv J (J c d).1 r else (c,d :: r)
theorem zwJ (J:ByteArray → ByteArray → ByteArray × Bool):∀ (r:List ByteArray) (c:ByteArray),(Jv J c r).2.length ≤ r.length
 | [],_=>Nat.le_refl _
 | d :: r,c=>by
  unfold Jv
  split
  ·exact Nat.le_succ_of_le (zwJ J r _)
  ·exact Nat.le_refl _
def gU (J:ByteArray → ByteArray → ByteArray × Bool):List ByteArray → List ByteArray
 | []=>[]
 | c :: r=>(Jv J c r).1 :: gU J (Jv J c r).2
termination_by l=>l.length
decreasing_by have:=zwJ J r c;simp;omega
def trV (pairs:List ZA) (c:ByteArray):ByteArray:=match pairs.find? (fun p=>decide (p.f0 = c)) with | some p=>p.f1 | none=>c
def zzF (l:List y8) (f s:Int) (yw:Bool) (ns:List ByteArray):List jR × List ByteArray:=ns.foldl (ak l f s yw) ([],[])
def bW (l:List y8) (f:Int) (yE:Bool) (chars:List ByteArray) (pairs:List ZA):List ByteArray :=
 if yE then gU (fjoin (vS l f)) (chars.map (trV pairs)) else chars.map (trV pairs)
def QK (s:ByteArray):Bool:=!pW s.data.toList
def ay (p:ZA):Bool:=QK p.f0 || QK p.f1
def bf (l:List y8) (f s:Int) (chars:List ByteArray) (pairs:List ZA):Bool :=
 l.any (fun x=>!xu x) || (decide (f < 0) || decide ((l.length:Int) ≤ f) || decide (s < 1) || decide (1000 < s)) || (decide (2000 < chars.length) || decide (100 < pairs.length)) || chars.any QK || pairs.any ay
def zKz (l:List y8) (f s:Int) (yE yw:Bool) (chars:List ByteArray) (pairs:List ZA):List jR × List ByteArray × Int :=
 if bf l f s chars pairs then ([],[],1)
 else ((zzF l f s yw (bW l f yE chars pairs)).1,(zzF l f s yw (bW l f yE chars pairs)).2,0)
end Go.Proofs.YtggifbbiiickmaaGreatDoor
namespace Go.Proofs.YtggifbbiiickmaaGreatDoor.PX
open Go.RowKit Go.Proofs.zk.za Go.Proofs.zk.zS Go.Proofs.zk.zR
attribute [local go_sem] qD qE xJ xV qc qd qF qG   -- for this text's walks alone
set_option linter.unusedVariables false
set_option linter.unusedSimpArgs false
namespace zdT
theorem wb (w:World) (a:Addr) {u:Value} (h:w.cell? a = some u):a.block < w.heap.size:=World.block_lt_of_cell? w a h
end zdT
open zdT
mutual
def zW.l0:Nat → List (jd) → List (jr) → Int → Option ((List (jr)))
 | 0,_,_,_=>none
 | k + 1,x0,x3,x4=>if x4 < (x0.length:Int) then (if 0 ≤ x4 then (zW.l1 k x0 x3 x4 0 ((zV x0 x4).f0) ((zV x0 x4).f1) ((zV x0 x4).f2) ([]:List (uF))) else (none)) else (some x3)
def zW.l1:Nat → List (jd) → List (jr) → Int → Int → ByteArray → Bool → Int → List (uF) → Option ((List (jr)))
 | 0,_,_,_,_,_,_,_,_=>none
 | k + 1,x0,x3,x4,x6,Vx,Vj,Vv,XC=>if 0 ≤ x4 then (if x4 < (x0.length:Int) then (if x6 < (((zV x0 x4).f3).length:Int) then (if 0 ≤ x6 then (if XC.length < 5864062014805 then (zW.l1 k x0 x3 x4 (wrap64 (x6 + 1)) Vx Vj Vv (XC ++ [(⟨(yU ((zV x0 x4).f3) x6).f0,(yU ((zV x0 x4).f3) x6).f1⟩:uF)])) else (none)) else (none)) else (zW.l2 k x0 x3 x4 0 Vx Vj Vv XC ([]:List (uU)))) else (none)) else (none)
def zW.l2:Nat → List (jd) → List (jr) → Int → Int → ByteArray → Bool → Int → List (uF) → List (uU) → Option ((List (jr)))
 | 0,_,_,_,_,_,_,_,_,_=>none
 | k + 1,x0,x3,x4,x7,Vx,Vj,Vv,XC,Pj=>if 0 ≤ x4 then (if x4 < (x0.length:Int) then (if x7 < (((zV x0 x4).f4).length:Int) then (if 0 ≤ x7 then (if Pj.length < 2932031007402 then (zW.l2 k x0 x3 x4 (wrap64 (x7 + 1)) Vx Vj Vv XC (Pj ++ [(⟨(qx ((zV x0 x4).f4) x7).f0,(qx ((zV x0 x4).f4) x7).f1,(qx ((zV x0 x4).f4) x7).f2⟩:uU)])) else (none)) else (none)) else (zW.l3 k x0 x3 x4 0 Vx Vj Vv XC Pj ([]:List (jJ)))) else (none)) else (none)
def zW.l3:Nat → List (jd) → List (jr) → Int → Int → ByteArray → Bool → Int → List (uF) → List (uU) → List (jJ) → Option ((List (jr)))
 | 0,_,_,_,_,_,_,_,_,_,_=>none
 | k + 1,x0,x3,x4,x8,Vx,Vj,Vv,XC,Pj,zjV=>if 0 ≤ x4 then (if x4 < (x0.length:Int) then (if x8 < (((zV x0 x4).f5).length:Int) then (if 0 ≤ x8 then (if zjV.length < 3518437208883 then (zW.l3 k x0 x3 x4 (wrap64 (x8 + 1)) Vx Vj Vv XC Pj (zjV ++ [(⟨(qw ((zV x0 x4).f5) x8).f0,(qw ((zV x0 x4).f5) x8).f1,(qw ((zV x0 x4).f5) x8).f2⟩:jJ)])) else (none)) else (none)) else (if x3.length < 1353245080339 then (zW.l0 k x0 (x3 ++ [(⟨Vx,Vj,Vv,XC,Pj,zjV⟩:jr)]) (wrap64 (x4 + 1))) else (none))) else (none)) else (none)
end
def zW.f (k:Nat) (l0:List (jd)):Option ((List (jr))):=zW.l0 k l0 ([]:List (jr)) 0
def zW.T5:Bool × List (List Nat × List Nat):=(true,[([],[]),([],[]),([0,1],[0,1]),([2],[2]),([3],[3]),([],[]),([],[]),([5,6],[5,6]),([7],[7]),([8],[8]),([],[]),([],[]),([10,11],[10,11]),([12],[12]),([13],[13]),([4,9,14],[4,9,14]),([],[]),([16,15,0,1,2,3,4,5,6,7,8,9,10,11,12,13,14,15,16],[15,16])])
def zW.B5:List Nat:=[0,0,3,7,15,0,0,96,224,480,0,0,3072,7168,15360,32767,0,131071]
theorem zW.zkH:vZ .any (opsOf Tryz.f15 5) = zW.T5:=by kernel_rfl
theorem zW.zJk:vW zW.T5.2 zW.B5 = true:=by kernel_rfl
def zW.T9:Bool × List (List Nat × List Nat):=(true,[([],[]),([0],[0]),([],[]),([],[]),([2,3],[2,3]),([4],[4]),([5],[5]),([],[]),([6,7],[6,7]),([8],[8]),([9],[9]),([],[]),([],[]),([11,12],[11,12]),([13],[13]),([14],[14]),([],[]),([15,16],[15,16]),([17],[17]),([18],[18]),([10,19],[10,19]),([20],[20]),([1,21],[1,21]),([0,1,2,3,4,5,6,7,8,9,10,11,12,13,14,15,16,17,18,19,20,21,22],[]),([23,22,22,0,1,2,3,4,5,6,7,8,9,10,11,12,13,14,15,16,17,18,19,20,21,22],[22,23])])
def zW.B9:List Nat:=[0,1,0,0,12,28,60,0,252,508,1020,0,0,6144,14336,30720,0,129024,260096,522240,1048572,2097148,4194303,8388607,16777215]
theorem zW.gV:vZ .any (opsOf Tryz.f15 9) = zW.T9:=by kernel_rfl
theorem zW.Wx:vW zW.T9.2 zW.B9 = true:=by kernel_rfl
def zW.T13:Bool × List (List Nat × List Nat):=(true,[([],[]),([0],[0]),([],[]),([],[]),([2,3],[2,3]),([4],[4]),([5],[5]),([],[]),([6,7],[6,7]),([8],[8]),([9],[9]),([],[]),([],[]),([11,12],[11,12]),([13],[13]),([14],[14]),([],[]),([15,16],[15,16]),([17],[17]),([18],[18]),([],[]),([],[]),([20,21],[20,21]),([22],[22]),([23],[23]),([],[]),([24,25],[24,25]),([26],[26]),([27],[27]),([10,19,28],[10,19,28]),([29],[29]),([1,30],[1,30]),([0,1,2,3,4,5,6,7,8,9,10,11,12,13,14,15,16,17,18,19,20,21,22,23,24,25,26,27,28,29,30,31],[]),([32,31,31,0,1,2,3,4,5,6,7,8,9,10,11,12,13,14,15,16,17,18,19,20,21,22,23,24,25,26,27,28,29,30,31],[31,32])])
def zW.B13:List Nat:=[0,1,0,0,12,28,60,0,252,508,1020,0,0,6144,14336,30720,0,129024,260096,522240,0,0,3145728,7340032,15728640,0,66060288,133169152,267386880,536870908,1073741820,2147483647,4294967295,8589934591]
theorem zW.Xy:vZ .any (opsOf Tryz.f15 13) = zW.T13:=by kernel_rfl
theorem zW.Zr:vW zW.T13.2 zW.B13 = true:=by kernel_rfl
def zW.T17:Bool × List (List Nat × List Nat):=(true,[([],[]),([0],[0]),([],[]),([],[]),([2,3],[2,3]),([4],[4]),([5],[5]),([],[]),([6,7],[6,7]),([8],[8]),([9],[9]),([],[]),([],[]),([11,12],[11,12]),([13],[13]),([14],[14]),([],[]),([15,16],[15,16]),([17],[17]),([18],[18]),([],[]),([],[]),([20,21],[20,21]),([22],[22]),([23],[23]),([],[]),([24,25],[24,25]),([26],[26]),([27],[27]),([10,19,28],[10,19,28]),([29],[29]),([1,30],[1,30]),([0,1,2,3,4,5,6,7,8,9,10,11,12,13,14,15,16,17,18,19,20,21,22,23,24,25,26,27,28,29,30,31],[]),([32,31,31,0,1,2,3,4,5,6,7,8,9,10,11,12,13,14,15,16,17,18,19,20,21,22,23,24,25,26,27,28,29,30,31],[31,32])])
def zW.B17:List Nat:=[0,1,0,0,12,28,60,0,252,508,1020,0,0,6144,14336,30720,0,129024,260096,522240,0,0,3145728,7340032,15728640,0,66060288,133169152,267386880,536870908,1073741820,2147483647,4294967295,8589934591]
theorem zW.zkq:vZ .any (opsOf Tryz.f15 17) = zW.T17:=by kernel_rfl
theorem zW.zqs:vW zW.T17.2 zW.B17 = true:=by kernel_rfl
set_option maxHeartbeats 8000000 in
set_option maxRecDepth 100000 in
theorem zW.calls (k:Nat) (A0:Option Addr) (c0:Nat) (l0:List (jd)) (r:List (jr)) (w:World) (hr0:Kd.C kP w A0 l0.length l0) (hc0:l0.length ≤ c0) (h:zW.f k l0 = some r) :
  Calls Tryz.prog 15 #[.slice A0 l0.length c0] w fun e w'=>∃ Q8:Value,e = .returned (Q8) ∧ Kd.S bZ 101 w' w.heap.size (fun _=>True) Q8 r ∧ Below w.heap.size w w':=by
 have lI:=Tryz.underlying101
 have ztL:=Tryz.underlying106
 have ztM:=Tryz.underlying109
 have ztN:=Tryz.underlying112
 have jm:=zx.mk hr0
 have HC0:=zx.mk hc0
 clear hr0 hc0
 have HB:=zx.mk (Below.refl w.heap.size w)
 have H:(zW.l0 k l0 ([]:List (jr)) 0) = some r:=h
 clear h
 have H':=zx.mk H
 clear H
 go_enter Tryz.func15,Tryz.ntmps15
 go_wp2
 go_loopg [3,4] k (fun kq v3 v4 w'=>∃ (yQ:List (jr)) (zJ:Int),v4 = .int .i64 zJ ∧ zx (zW.l0 kq l0 yQ zJ = some r) ∧ zx (kq ≤ k) ∧ zx (Kd.S bZ 101 w' w.heap.size (fun _=>True) v3 yQ) ∧ zx (Below w.heap.size w w'))
 case atStart=>exact ⟨(([]:List (jr))),(0),(by first | rfl | (simp;done) | (simp [*];done)),H',⟨Nat.le_refl _⟩,⟨by first | exact Kd.Xo _ _ _ _ _ | exact Kd.WG _ _ _ _ _ | exact Kd.WH _ _ _ _ _ | exact Kd.WC _ _ _ _ _ | exact Kd.jC _ _ _ _ _⟩,⟨zD HB.out⟩⟩
 case round =>
  clear H'
  obtain ⟨yQ,zJ,rfl,HA,wo,um,HB⟩:=hrel
  cases gk with
  | zero=>exact absurd HA.out (by simp [zW.l0])
  | succ k1 =>
   have H:=HA.out
   clear HA
   simp only [zW.l0] at H
   by_cases c2:zJ < (l0.length:Int)
   ·rw [if_pos c2] at H
    have bQ:decide (zJ < (l0.length:Int)) = true:=decide_eq_true c2
    clear c2
    by_cases c3:0 ≤ zJ
    ·rw [if_pos c3] at H
     have ZN:decide (0 ≤ zJ) = true:=decide_eq_true c3
     clear c3
     have H':=zx.mk H
     clear H
     try go_wp2
     have ze:=zx.mk (Kd.xG um.out)
     have zi:=zx.mk (yY HB.out)
     clear um HB
     have um:=ze
     have HB:=zi
     clear ze zi
     have zjK:0 ≤ (zJ:Int):=of_decide_eq_true yH
     have zjY:zJ < (l0.length:Int):=of_decide_eq_true yH
     obtain ⟨yj,zkI,zkL,zkM,zkN,zkO,zkP,e250,JR,JU,J2,XD,XE,XF,zwV,zwK,zwY,zwW,zwa,zwb⟩:=jw jm.out zJ zjK zjY
     have YO:=XF
     have YP:=XE
     have YR:=XD
     have YS:=J2
     have YT:=JU
     have YU:=JR
     cases e250
     replace JR:=(HB.out.cell (wb w _ JR)).trans JR
     replace JU:=(HB.out.cell (wb w _ JU)).trans JU
     replace J2:=(HB.out.cell (wb w _ J2)).trans J2
     replace XD:=(HB.out.cell (wb w _ XD)).trans XD
     replace XE:=(HB.out.cell (wb w _ XE)).trans XE
     replace XF:=(HB.out.cell (wb w _ XF)).trans XF
     have zbw:=zx.mk zwK
     have zmM:=zx.mk zwV
     clear zwK zwV
     have zbZ:=zx.mk zwW
     have zmN:=zx.mk zwY
     clear zwW zwY
     have zbQ:=zx.mk zwb
     have zmO:=zx.mk zwa
     clear zwb zwa
     replace zjK:=eq_true zjK
     replace zjY:=eq_true zjY
     have zjW:0 ≤ (zJ:Int):=of_decide_eq_true yH
     have zja:zJ < (l0.length:Int):=of_decide_eq_true yH
     obtain ⟨zfE,zsi,zsl,zsm,zsn,zso,zsp,e251,J3,J4,J5,Vk,Vy,Vw,zwc,zwd,zwe,zwf,zwg,zwh⟩:=jw jm.out zJ zjW zja
     have Y0:=Vw
     have Y1:=Vy
     have Y2:=Vk
     have Y3:=J5
     have Y4:=J4
     have Y5:=J3
     obtain rfl:yj = zfE:=(by injection e251)
     replace J3:=(HB.out.cell (wb w _ J3)).trans J3
     replace J4:=(HB.out.cell (wb w _ J4)).trans J4
     replace J5:=(HB.out.cell (wb w _ J5)).trans J5
     replace Vk:=(HB.out.cell (wb w _ Vk)).trans Vk
     replace Vy:=(HB.out.cell (wb w _ Vy)).trans Vy
     replace Vw:=(HB.out.cell (wb w _ Vw)).trans Vw
     have zbX:=zx.mk zwd
     have zmP:=zx.mk zwc
     clear zwd zwc
     have zbJ:=zx.mk zwf
     have zmR:=zx.mk zwe
     clear zwf zwe
     have zbV:=zx.mk zwh
     have zmS:=zx.mk zwg
     clear zwh zwg
     replace zjW:=eq_true zjW
     replace zja:=eq_true zja
     have yO:=Option.some.inj (XD.symm.trans Vk)
     injection yO with yO vL vM
     subst yO
     subst vM
     clear vL
     have yO:=Option.some.inj (XE.symm.trans Vy)
     injection yO with yO vL vM
     subst yO
     subst vM
     clear vL
     have yO:=Option.some.inj (XF.symm.trans Vw)
     injection yO with yO vL vM
     subst yO
     subst vM
     clear vL
     have zjb:0 ≤ (zJ:Int):=of_decide_eq_true yH
     have zjc:zJ < (l0.length:Int):=of_decide_eq_true yH
     obtain ⟨zfF,zsr,zss,zst,zsu,zsA,zsB,e252,J6,J7,J8,VZ,VQ,VX,zwi,zwl,zwm,zwn,zwo,zwp⟩:=jw jm.out zJ zjb zjc
     have Y6:=VX
     have Y7:=VQ
     have Y8:=VZ
     have Y9:=J8
     have Xz:=J7
     have Xq:=J6
     obtain rfl:yj = zfF:=(by injection e252)
     replace J6:=(HB.out.cell (wb w _ J6)).trans J6
     replace J7:=(HB.out.cell (wb w _ J7)).trans J7
     replace J8:=(HB.out.cell (wb w _ J8)).trans J8
     replace VZ:=(HB.out.cell (wb w _ VZ)).trans VZ
     replace VQ:=(HB.out.cell (wb w _ VQ)).trans VQ
     replace VX:=(HB.out.cell (wb w _ VX)).trans VX
     have zbK:=zx.mk zwl
     have zmT:=zx.mk zwi
     clear zwl zwi
     have zbY:=zx.mk zwn
     have zmU:=zx.mk zwm
     clear zwn zwm
     have zbW:=zx.mk zwp
     have zm0:=zx.mk zwo
     clear zwp zwo
     replace zjb:=eq_true zjb
     replace zjc:=eq_true zjc
     have yO:=Option.some.inj (XD.symm.trans VZ)
     injection yO with yO vL vM
     subst yO
     subst vM
     clear vL
     have yO:=Option.some.inj (XE.symm.trans VQ)
     injection yO with yO vL vM
     subst yO
     subst vM
     clear vL
     have yO:=Option.some.inj (XF.symm.trans VX)
     injection yO with yO vL vM
     subst yO
     subst vM
     clear vL
     refine Zq (n:=18) (S:=fun w'=>w'.cell? (yj.add ((zJ).toNat * 6)) = some (.string ((zV l0 zJ).f0)) ∧ w'.cell? ⟨(yj.add ((zJ).toNat * 6)).block,(yj.add ((zJ).toNat * 6)).off + 1,none⟩ = some (.bool ((zV l0 zJ).f1)) ∧ w'.cell? ⟨(yj.add ((zJ).toNat * 6)).block,(yj.add ((zJ).toNat * 6)).off + 2,none⟩ = some (.int .i64 ((zV l0 zJ).f2)) ∧ w'.cell? ⟨(yj.add ((zJ).toNat * 6)).block,(yj.add ((zJ).toNat * 6)).off + 3,none⟩ = some (.slice zkI ((zV l0 zJ).f3).length zkL) ∧ w'.cell? ⟨(yj.add ((zJ).toNat * 6)).block,(yj.add ((zJ).toNat * 6)).off + 4,none⟩ = some (.slice zkM ((zV l0 zJ).f4).length zkN) ∧ w'.cell? ⟨(yj.add ((zJ).toNat * 6)).block,(yj.add ((zJ).toNat * 6)).off + 5,none⟩ = some (.slice zkO ((zV l0 zJ).f5).length zkP) ∧ w'.cell? (yj.add ((zJ).toNat * 6)) = some (.string ((zV l0 zJ).f0)) ∧ w'.cell? ⟨(yj.add ((zJ).toNat * 6)).block,(yj.add ((zJ).toNat * 6)).off + 1,none⟩ = some (.bool ((zV l0 zJ).f1)) ∧ w'.cell? ⟨(yj.add ((zJ).toNat * 6)).block,(yj.add ((zJ).toNat * 6)).off + 2,none⟩ = some (.int .i64 ((zV l0 zJ).f2)) ∧ w'.cell? ⟨(yj.add ((zJ).toNat * 6)).block,(yj.add ((zJ).toNat * 6)).off + 3,none⟩ = some (.slice zkI ((zV l0 zJ).f3).length zkL) ∧ w'.cell? ⟨(yj.add ((zJ).toNat * 6)).block,(yj.add ((zJ).toNat * 6)).off + 4,none⟩ = some (.slice zkM ((zV l0 zJ).f4).length zkN) ∧ w'.cell? ⟨(yj.add ((zJ).toNat * 6)).block,(yj.add ((zJ).toNat * 6)).off + 5,none⟩ = some (.slice zkO ((zV l0 zJ).f5).length zkP) ∧ w'.cell? (yj.add ((zJ).toNat * 6)) = some (.string ((zV l0 zJ).f0)) ∧ w'.cell? ⟨(yj.add ((zJ).toNat * 6)).block,(yj.add ((zJ).toNat * 6)).off + 1,none⟩ = some (.bool ((zV l0 zJ).f1)) ∧ w'.cell? ⟨(yj.add ((zJ).toNat * 6)).block,(yj.add ((zJ).toNat * 6)).off + 2,none⟩ = some (.int .i64 ((zV l0 zJ).f2)) ∧ w'.cell? ⟨(yj.add ((zJ).toNat * 6)).block,(yj.add ((zJ).toNat * 6)).off + 3,none⟩ = some (.slice zkI ((zV l0 zJ).f3).length zkL) ∧ w'.cell? ⟨(yj.add ((zJ).toNat * 6)).block,(yj.add ((zJ).toNat * 6)).off + 4,none⟩ = some (.slice zkM ((zV l0 zJ).f4).length zkN) ∧ w'.cell? ⟨(yj.add ((zJ).toNat * 6)).block,(yj.add ((zJ).toNat * 6)).off + 5,none⟩ = some (.slice zkO ((zV l0 zJ).f5).length zkP)) (ds:=[]) #[false,false,false,false,false,false,false,false,false,false,false,false,false,false,false,false,false,false] (by kernel_rfl) rfl rfl ⟨((HB.out.cell (wb w _ YU)).trans YU),((HB.out.cell (wb w _ YT)).trans YT),((HB.out.cell (wb w _ YS)).trans YS),((HB.out.cell (wb w _ YR)).trans YR),((HB.out.cell (wb w _ YP)).trans YP),((HB.out.cell (wb w _ YO)).trans YO),((HB.out.cell (wb w _ Y5)).trans Y5),((HB.out.cell (wb w _ Y4)).trans Y4),((HB.out.cell (wb w _ Y3)).trans Y3),((HB.out.cell (wb w _ Y2)).trans Y2),((HB.out.cell (wb w _ Y1)).trans Y1),((HB.out.cell (wb w _ Y0)).trans Y0),((HB.out.cell (wb w _ Xq)).trans Xq),((HB.out.cell (wb w _ Xz)).trans Xz),((HB.out.cell (wb w _ Y9)).trans Y9),((HB.out.cell (wb w _ Y8)).trans Y8),((HB.out.cell (wb w _ Y7)).trans Y7),((HB.out.cell (wb w _ Y6)).trans Y6)⟩ (fun hHeld=>?_);refine Yh zW.zkH zW.zJk (fun yX wY=>?_)
     generalize wr.drew = w4 at um HB zbw zbZ zbQ zbX zbJ zbV zbK zbY zbW JR JU J2 XD XE XF J3 J4 J5 Vk Vy Vw J6 J7 J8 VZ VQ VX hHeld ⊢
     refine q9 0 (some 15) yX ?_
     refine q9 1 (some 16) yX ?_
     refine q9 2 (some 17) yX ?_
     refine q9 3 (some 18) yX ?_
     refine q9 5 (some 20) yX ?_
     refine q9 6 (some 21) yX ?_
     refine q9 7 (some 22) yX ?_
     refine q9 8 (some 23) yX ?_
     refine q9 10 (some 25) yX ?_
     refine q9 11 (some 26) yX ?_
     refine q9 12 (some 27) yX ?_
     refine q9 13 (some 28) yX ?_
     refine ZI 4 (some 19) yX wY hHeld ?_
     refine ZI 9 (some 24) yX wY hHeld ?_
     refine ZI 14 (some 29) yX wY hHeld ?_
     refine q9 15 (some 30) yX ?_
     refine onS 16 (some 5) yX (fun K hK=>?_)
     refine zKD ?hg (N:=5) ?hd (cs:=#[.string (⟨#[]⟩:ByteArray),.bool false,.int .i64 0,.slice none 0 0,.slice none 0 0,.slice none 0 0]) (t:=101) ?hr ?_;(case hd=>rfl);(case hg=>rfl);(case hr=>first | (go_simp;done) | (go_simp;rfl))
     intro zA hg w5 qo hb
     have ze:=zx.mk (Kd.jZ (Kd.zkb (fJ um.out) zA (Nat.le_of_eq hg.symm)) hb)
     have zi:=zx.mk (zu (zD HB.out) hb)
     have zo:=zx.mk (qo)
     have zT:=zx.mk ((by rw [hg];exact (zm (zD HB.out)):w.heap.size ≤ zA))
     have qU:=zx.mk ((by rw [hg];exact (zm (zD HB.out)):w.heap.size ≤ zA))
     clear um HB
     have um:=ze
     have HB:=zi
     have yZ:=zo
     have yu:=zT
     have ztO:=qU
     clear ze zi zo zT qU hb qo hg
     refine hK.out _ _ ⟨((HB.out.cell (wb w _ YU)).trans YU),((HB.out.cell (wb w _ YT)).trans YT),((HB.out.cell (wb w _ YS)).trans YS),((HB.out.cell (wb w _ YR)).trans YR),((HB.out.cell (wb w _ YP)).trans YP),((HB.out.cell (wb w _ YO)).trans YO),((HB.out.cell (wb w _ Y5)).trans Y5),((HB.out.cell (wb w _ Y4)).trans Y4),((HB.out.cell (wb w _ Y3)).trans Y3),((HB.out.cell (wb w _ Y2)).trans Y2),((HB.out.cell (wb w _ Y1)).trans Y1),((HB.out.cell (wb w _ Y0)).trans Y0),((HB.out.cell (wb w _ Xq)).trans Xq),((HB.out.cell (wb w _ Xz)).trans Xz),((HB.out.cell (wb w _ Y9)).trans Y9),((HB.out.cell (wb w _ Y8)).trans Y8),((HB.out.cell (wb w _ Y7)).trans Y7),((HB.out.cell (wb w _ Y6)).trans Y6)⟩ (fun hHeld=>?_)
     clear hK K
     refine noS (some 5) ?_
     refine onS 17 (none) yX (fun K hK=>?_)
     have hs6:w5.cell? ⟨zA,0,none⟩ = some (.string (⟨#[]⟩:ByteArray)):=zK yZ 0
     have zuC:=zw yZ.out 0
     have hs7:w5.cell? ⟨zA,1,none⟩ = some (.bool false):=zK yZ 1
     have zuD:=zw yZ.out 1
     have hs8:w5.cell? ⟨zA,2,none⟩ = some (.int .i64 0):=zK yZ 2
     have zuE:=zw yZ.out 2
     have hs9:w5.cell? ⟨zA,3,none⟩ = some (.slice none 0 0):=zK yZ 3
     have zuF:=zw yZ.out 3
     have zuG:w5.cell? ⟨zA,4,none⟩ = some (.slice none 0 0):=zK yZ 4
     have ztP:=zw yZ.out 4
     have zuH:w5.cell? ⟨zA,5,none⟩ = some (.slice none 0 0):=zK yZ 5
     have ztR:=zw yZ.out 5
     refine U9 (w1:=?_) (by rfl) rfl ?_ ?_
     rotate_left
     ·go_simp
      rfl
     refine hK.out _ _ ⟨((qA zA YU yu.out _).trans (((qA zA YU yu.out _).trans (((qA zA YU yu.out _).trans (((qA zA YU yu.out _).trans (((qA zA YU yu.out _).trans (((qA zA YU yu.out _).trans (hHeld.1)))))))))))),((qA zA YT yu.out _).trans (((qA zA YT yu.out _).trans (((qA zA YT yu.out _).trans (((qA zA YT yu.out _).trans (((qA zA YT yu.out _).trans (((qA zA YT yu.out _).trans (hHeld.2.1)))))))))))),((qA zA YS yu.out _).trans (((qA zA YS yu.out _).trans (((qA zA YS yu.out _).trans (((qA zA YS yu.out _).trans (((qA zA YS yu.out _).trans (((qA zA YS yu.out _).trans (hHeld.2.2.1)))))))))))),((qA zA YR yu.out _).trans (((qA zA YR yu.out _).trans (((qA zA YR yu.out _).trans (((qA zA YR yu.out _).trans (((qA zA YR yu.out _).trans (((qA zA YR yu.out _).trans (hHeld.2.2.2.1)))))))))))),((qA zA YP yu.out _).trans (((qA zA YP yu.out _).trans (((qA zA YP yu.out _).trans (((qA zA YP yu.out _).trans (((qA zA YP yu.out _).trans (((qA zA YP yu.out _).trans (hHeld.2.2.2.2.1)))))))))))),((qA zA YO yu.out _).trans (((qA zA YO yu.out _).trans (((qA zA YO yu.out _).trans (((qA zA YO yu.out _).trans (((qA zA YO yu.out _).trans (((qA zA YO yu.out _).trans (hHeld.2.2.2.2.2.1)))))))))))),((qA zA Y5 yu.out _).trans (((qA zA Y5 yu.out _).trans (((qA zA Y5 yu.out _).trans (((qA zA Y5 yu.out _).trans (((qA zA Y5 yu.out _).trans (((qA zA Y5 yu.out _).trans (hHeld.2.2.2.2.2.2.1)))))))))))),((qA zA Y4 yu.out _).trans (((qA zA Y4 yu.out _).trans (((qA zA Y4 yu.out _).trans (((qA zA Y4 yu.out _).trans (((qA zA Y4 yu.out _).trans (((qA zA Y4 yu.out _).trans (hHeld.2.2.2.2.2.2.2.1)))))))))))),((qA zA Y3 yu.out _).trans (((qA zA Y3 yu.out _).trans (((qA zA Y3 yu.out _).trans (((qA zA Y3 yu.out _).trans (((qA zA Y3 yu.out _).trans (((qA zA Y3 yu.out _).trans (hHeld.2.2.2.2.2.2.2.2.1)))))))))))),((qA zA Y2 yu.out _).trans (((qA zA Y2 yu.out _).trans (((qA zA Y2 yu.out _).trans (((qA zA Y2 yu.out _).trans (((qA zA Y2 yu.out _).trans (((qA zA Y2 yu.out _).trans (hHeld.2.2.2.2.2.2.2.2.2.1)))))))))))),((qA zA Y1 yu.out _).trans (((qA zA Y1 yu.out _).trans (((qA zA Y1 yu.out _).trans (((qA zA Y1 yu.out _).trans (((qA zA Y1 yu.out _).trans (((qA zA Y1 yu.out _).trans (hHeld.2.2.2.2.2.2.2.2.2.2.1)))))))))))),((qA zA Y0 yu.out _).trans (((qA zA Y0 yu.out _).trans (((qA zA Y0 yu.out _).trans (((qA zA Y0 yu.out _).trans (((qA zA Y0 yu.out _).trans (((qA zA Y0 yu.out _).trans (hHeld.2.2.2.2.2.2.2.2.2.2.2.1)))))))))))),((qA zA Xq yu.out _).trans (((qA zA Xq yu.out _).trans (((qA zA Xq yu.out _).trans (((qA zA Xq yu.out _).trans (((qA zA Xq yu.out _).trans (((qA zA Xq yu.out _).trans (hHeld.2.2.2.2.2.2.2.2.2.2.2.2.1)))))))))))),((qA zA Xz yu.out _).trans (((qA zA Xz yu.out _).trans (((qA zA Xz yu.out _).trans (((qA zA Xz yu.out _).trans (((qA zA Xz yu.out _).trans (((qA zA Xz yu.out _).trans (hHeld.2.2.2.2.2.2.2.2.2.2.2.2.2.1)))))))))))),((qA zA Y9 yu.out _).trans (((qA zA Y9 yu.out _).trans (((qA zA Y9 yu.out _).trans (((qA zA Y9 yu.out _).trans (((qA zA Y9 yu.out _).trans (((qA zA Y9 yu.out _).trans (hHeld.2.2.2.2.2.2.2.2.2.2.2.2.2.2.1)))))))))))),((qA zA Y8 yu.out _).trans (((qA zA Y8 yu.out _).trans (((qA zA Y8 yu.out _).trans (((qA zA Y8 yu.out _).trans (((qA zA Y8 yu.out _).trans (((qA zA Y8 yu.out _).trans (hHeld.2.2.2.2.2.2.2.2.2.2.2.2.2.2.2.1)))))))))))),((qA zA Y7 yu.out _).trans (((qA zA Y7 yu.out _).trans (((qA zA Y7 yu.out _).trans (((qA zA Y7 yu.out _).trans (((qA zA Y7 yu.out _).trans (((qA zA Y7 yu.out _).trans (hHeld.2.2.2.2.2.2.2.2.2.2.2.2.2.2.2.2.1)))))))))))),((qA zA Y6 yu.out _).trans (((qA zA Y6 yu.out _).trans (((qA zA Y6 yu.out _).trans (((qA zA Y6 yu.out _).trans (((qA zA Y6 yu.out _).trans (((qA zA Y6 yu.out _).trans (hHeld.2.2.2.2.2.2.2.2.2.2.2.2.2.2.2.2.2))))))))))))⟩ (fun hHeld=>?_)
     clear hK K
     refine xE (qW yX.out (by kernel_rfl)) ?_
     try go_wp2
     go_loopg [6] k1 (fun kq v6 w'=>∃ (jS:Int) (uI:List (uF)) (uN:Value),v6 = .int .i64 jS ∧ zx (zW.l1 kq l0 yQ zJ jS ((zV l0 zJ).f0) ((zV l0 zJ).f1) ((zV l0 zJ).f2) uI = some r) ∧ zx (kq ≤ k1) ∧ zx (Kd.S bZ 101 w' w.heap.size (fun k_=>some k_ ≠ (uN:Value).ownBlock ∧ k_ ≠ zA) u3 yQ) ∧ zx (Kd.R Xj 106 w' w.heap.size (fun _=>True) uN uI) ∧ zx (w'.heap[zA]? = some (.cells #[.string ((zV l0 zJ).f0),.bool ((zV l0 zJ).f1),.int .i64 ((zV l0 zJ).f2),uN,(.slice none 0 0),(.slice none 0 0)] 101 (0,0))) ∧ zx (Below w.heap.size w w'))
     case atStart=>exact ⟨(0),(([]:List (uF))),(.slice none 0 0),(by first | rfl | (simp;done) | (simp [*];done)),H',⟨Nat.le_refl _⟩,⟨by (with_reducible repeat (first | apply Kd.xB | apply Kd.xC | apply Kd.xG));exact Kd.vJ (Kd.ji (p:=⟨zA,5,none⟩) (Kd.ji (p:=⟨zA,4,none⟩) (Kd.ji (p:=⟨zA,3,none⟩) (Kd.ji (p:=⟨zA,2,none⟩) (Kd.ji (p:=⟨zA,1,none⟩) (Kd.ji (p:=⟨zA,0,none⟩) (Kd.vJ um.out (fun k_ hk=>(⟨hk,hk.2⟩:_ ∧ k_ ≠ zA))) (fun _ hk=>hk.2) (.string ((zV l0 zJ).f0))) (fun _ hk=>hk.2) (.bool ((zV l0 zJ).f1))) (fun _ hk=>hk.2) (.int .i64 ((zV l0 zJ).f2))) (fun _ hk=>hk.2) (.slice none 0 0)) (fun _ hk=>hk.2) (.slice none 0 0)) (fun _ hk=>hk.2) (.slice none 0 0)) (fun _ hk=>⟨(by simp [Value.ownBlock]),hk.1.2⟩)⟩,⟨by first | exact Kd.jC _ _ _ _ _ | exact Kd.WG _ _ _ _ _ | exact Kd.WH _ _ _ _ _ | exact Kd.WC _ _ _ _ _ | exact Kd.Xo _ _ _ _ _⟩,⟨by (with_reducible repeat (first | refine qj ?_ _ | refine y7 ?_ | refine yV ?_ _));refine qz (cs:=#[.string ((zV l0 zJ).f0),.bool ((zV l0 zJ).f1),.int .i64 ((zV l0 zJ).f2),.slice none 0 0,.slice none 0 0,.slice none 0 0]) ?_ 5 _ rfl;(with_reducible repeat (first | refine qj ?_ _ | refine y7 ?_ | refine yV ?_ _));refine qz (cs:=#[.string ((zV l0 zJ).f0),.bool ((zV l0 zJ).f1),.int .i64 ((zV l0 zJ).f2),.slice none 0 0,.slice none 0 0,.slice none 0 0]) ?_ 4 _ rfl;(with_reducible repeat (first | refine qj ?_ _ | refine y7 ?_ | refine yV ?_ _));refine qz (cs:=#[.string ((zV l0 zJ).f0),.bool ((zV l0 zJ).f1),.int .i64 ((zV l0 zJ).f2),.slice none 0 0,.slice none 0 0,.slice none 0 0]) ?_ 3 _ rfl;(with_reducible repeat (first | refine qj ?_ _ | refine y7 ?_ | refine yV ?_ _));refine qz (cs:=#[.string ((zV l0 zJ).f0),.bool ((zV l0 zJ).f1),.int .i64 0,.slice none 0 0,.slice none 0 0,.slice none 0 0]) ?_ 2 _ rfl;(with_reducible repeat (first | refine qj ?_ _ | refine y7 ?_ | refine yV ?_ _));refine qz (cs:=#[.string ((zV l0 zJ).f0),.bool false,.int .i64 0,.slice none 0 0,.slice none 0 0,.slice none 0 0]) ?_ 1 _ rfl;(with_reducible repeat (first | refine qj ?_ _ | refine y7 ?_ | refine yV ?_ _));refine qz (cs:=#[.string (⟨#[]⟩:ByteArray),.bool false,.int .i64 0,.slice none 0 0,.slice none 0 0,.slice none 0 0]) ?_ 0 _ rfl;(with_reducible repeat (first | refine qj ?_ _ | refine y7 ?_ | refine yV ?_ _));exact yZ.out⟩,⟨zD HB.out⟩⟩
     case round =>
      clear H'
      try clear c2
      try clear bQ
      try clear c3
      try clear ZN
      try clear JR
      try clear JU
      try clear J2
      try clear XD
      try clear XE
      try clear XF
      try clear J3
      try clear J4
      try clear J5
      try clear Vk
      try clear Vy
      try clear Vw
      try clear J6
      try clear J7
      try clear J8
      try clear VZ
      try clear VQ
      try clear VX
      try clear zjK
      try clear zjW
      try clear zjb
      try clear zjY
      try clear zja
      try clear zjc
      obtain ⟨jS,uI,uN,rfl,HA,Qw,um,xZ,yZ,HB⟩:=hrel
      cases gk with
      | zero=>exact absurd HA.out (by simp [zW.l1])
      | succ k2 =>
       have H:=HA.out
       clear HA
       simp only [zW.l1] at H
       by_cases c12:0 ≤ zJ
       ·rw [if_pos c12] at H
        have zfG:decide (0 ≤ zJ) = true:=decide_eq_true c12
        clear c12
        by_cases c13:zJ < (l0.length:Int)
        ·rw [if_pos c13] at H
         have zfH:decide (zJ < (l0.length:Int)) = true:=decide_eq_true c13
         clear c13
         by_cases c14:jS < (((zV l0 zJ).f3).length:Int)
         ·rw [if_pos c14] at H
          have zWT:decide (jS < (((zV l0 zJ).f3).length:Int)) = true:=decide_eq_true c14
          clear c14
          by_cases c15:0 ≤ jS
          ·rw [if_pos c15] at H
           have WO:decide (0 ≤ jS) = true:=decide_eq_true c15
           clear c15
           by_cases c16:uI.length < 5864062014805
           ·rw [if_pos c16] at H
            have zfI:=zx.mk c16
            clear c16
            obtain ⟨zkR,zqt⟩:∃ y_:List (uF),y_ = (uI ++ [(⟨(yU ((zV l0 zJ).f3) jS).f0,(yU ((zV l0 zJ).f3) jS).f1⟩:uF)]):=⟨_,rfl⟩
            replace H:(zW.l1 k2 l0 yQ zJ (wrap64 (jS + 1)) ((zV l0 zJ).f0) ((zV l0 zJ).f1) ((zV l0 zJ).f2) zkR) = some r:=by first | (rw [zqt];with_reducible exact H) | (have uh:=(Option.bind_some _ _).symm.trans H;rw [zqt];with_reducible exact uh) | (have uh:=(Option.bind_some _ _).symm.trans H;with_reducible exact uh) | with_reducible exact H | (rw [zqt];exact H) | exact H
            have zfL:=zx.mk zqt
            clear zqt
            have H':=zx.mk H
            clear H
            have aZ:0 ≤ (zJ:Int):=of_decide_eq_true yH
            have aQ:zJ < (l0.length:Int):=of_decide_eq_true yH
            obtain ⟨zJy,zdU,zd0,zd1,zd2,zd3,zd4,e254,VJ,VK,VY,VW,Va,Vb,mq,mZ,mQ,mX,mJ,mV⟩:=jw jm.out zJ aZ aQ
            obtain rfl:yj = zJy:=(by injection e254)
            replace VJ:=(HB.out.cell (wb w _ VJ)).trans VJ
            replace VK:=(HB.out.cell (wb w _ VK)).trans VK
            replace VY:=(HB.out.cell (wb w _ VY)).trans VY
            replace VW:=(HB.out.cell (wb w _ VW)).trans VW
            replace Va:=(HB.out.cell (wb w _ Va)).trans Va
            replace Vb:=(HB.out.cell (wb w _ Vb)).trans Vb
            have zba:=zx.mk mZ
            have zbb:=zx.mk mq
            clear mZ mq
            have zbc:=zx.mk mX
            have zbd:=zx.mk mQ
            clear mX mQ
            have zbe:=zx.mk mV
            have zbf:=zx.mk mJ
            clear mV mJ
            replace aZ:=eq_true aZ
            replace aQ:=eq_true aQ
            try go_wp2
            have ze:=zx.mk (Kd.xG um.out)
            have zi:=zx.mk (Kd.Zz xZ.out)
            have zo:=zx.mk (y7 yZ.out)
            have zT:=zx.mk (yY HB.out)
            clear um xZ yZ HB
            have um:=ze
            have xZ:=zi
            have yZ:=zo
            have HB:=zT
            clear ze zi zo zT
            have zkS:0 ≤ (zJ:Int):=of_decide_eq_true yH
            have zkT:zJ < (l0.length:Int):=of_decide_eq_true yH
            obtain ⟨zfM,zsC,zKq,zKx,zKj,zKv,zKk,ziw,Pv,J9,Kz,Vd,Ve,Vf,zwr,zws,zwt,zwu,zwA,zwB⟩:=jw jm.out zJ zkS zkT
            have Vg:=Vf
            have Vh:=Ve
            have Vi:=Vd
            have Vl:=Kz
            have Vm:=J9
            have Vn:=Pv
            obtain rfl:yj = zfM:=(by injection ziw)
            replace Pv:=(HB.out.cell (wb w _ Pv)).trans Pv
            replace J9:=(HB.out.cell (wb w _ J9)).trans J9
            replace Kz:=(HB.out.cell (wb w _ Kz)).trans Kz
            replace Vd:=(HB.out.cell (wb w _ Vd)).trans Vd
            replace Ve:=(HB.out.cell (wb w _ Ve)).trans Ve
            replace Vf:=(HB.out.cell (wb w _ Vf)).trans Vf
            have zwC:=zx.mk zws
            have zm1:=zx.mk zwr
            clear zws zwr
            have zbg:=zx.mk zwu
            have zm2:=zx.mk zwt
            clear zwu zwt
            have zbh:=zx.mk zwB
            have zm3:=zx.mk zwA
            clear zwB zwA
            replace zkS:=eq_true zkS
            replace zkT:=eq_true zkT
            have zkU:0 ≤ (jS:Int):=of_decide_eq_true yH
            have zk0:jS < (((zV l0 zJ).f3).length:Int):=of_decide_eq_true yH
            obtain ⟨dF,ziZ,Kq,Kj⟩:=JW zwC.out jS zkU zk0
            have Vo:=Kj
            have Vp:=Kq
            cases ziZ
            replace Kq:=(HB.out.cell (wb w _ Kq)).trans Kq
            replace Kj:=(HB.out.cell (wb w _ Kj)).trans Kj
            replace zkU:=eq_true zkU
            replace zk0:=eq_true zk0
            have zk1:0 ≤ (zJ:Int):=of_decide_eq_true yH
            have zk2:zJ < (l0.length:Int):=of_decide_eq_true yH
            obtain ⟨zfN,zsD,zsE,zsF,zsG,zsH,zsI,e257,Kv,Kk,Ky,Vr,Vs,Vt,zwD,zwE,zwF,zwG,zwH,zwI⟩:=jw jm.out zJ zk1 zk2
            have Vu:=Vt
            have VA:=Vs
            have VB:=Vr
            have VD:=Ky
            have VE:=Kk
            have VF:=Kv
            obtain rfl:yj = zfN:=(by injection e257)
            replace Kv:=(HB.out.cell (wb w _ Kv)).trans Kv
            replace Kk:=(HB.out.cell (wb w _ Kk)).trans Kk
            replace Ky:=(HB.out.cell (wb w _ Ky)).trans Ky
            replace Vr:=(HB.out.cell (wb w _ Vr)).trans Vr
            replace Vs:=(HB.out.cell (wb w _ Vs)).trans Vs
            replace Vt:=(HB.out.cell (wb w _ Vt)).trans Vt
            have zwL:=zx.mk zwE
            have zm4:=zx.mk zwD
            clear zwE zwD
            have zbi:=zx.mk zwG
            have zm5:=zx.mk zwF
            clear zwG zwF
            have zbl:=zx.mk zwI
            have zm6:=zx.mk zwH
            clear zwI zwH
            replace zk1:=eq_true zk1
            replace zk2:=eq_true zk2
            have yO:=Option.some.inj (Vd.symm.trans Vr)
            injection yO with yO vL vM
            subst yO
            subst vM
            clear vL
            have yO:=Option.some.inj (Ve.symm.trans Vs)
            injection yO with yO vL vM
            subst yO
            subst vM
            clear vL
            have yO:=Option.some.inj (Vf.symm.trans Vt)
            injection yO with yO vL vM
            subst yO
            subst vM
            clear vL
            have zk3:0 ≤ (jS:Int):=of_decide_eq_true yH
            have zk4:jS < (((zV l0 zJ).f3).length:Int):=of_decide_eq_true yH
            obtain ⟨ztS,e258,Kw,KZ⟩:=JW zwL.out jS zk3 zk4
            have VG:=KZ
            have VH:=Kw
            cases e258
            replace Kw:=(HB.out.cell (wb w _ Kw)).trans Kw
            replace KZ:=(HB.out.cell (wb w _ KZ)).trans KZ
            replace zk3:=eq_true zk3
            replace zk4:=eq_true zk4
            refine Zq (n:=25) (S:=fun w'=>w'.cell? ⟨zA,0,none⟩ = some (.string ((zV l0 zJ).f0)) ∧ w'.cell? ⟨zA,1,none⟩ = some (.bool ((zV l0 zJ).f1)) ∧ w'.cell? ⟨zA,2,none⟩ = some (.int .i64 ((zV l0 zJ).f2)) ∧ w'.cell? ⟨zA,3,none⟩ = some (uN) ∧ w'.cell? ⟨zA,4,none⟩ = some (.slice none 0 0) ∧ w'.cell? ⟨zA,5,none⟩ = some (.slice none 0 0) ∧ w'.cell? (yj.add ((zJ).toNat * 6)) = some (.string ((zV l0 zJ).f0)) ∧ w'.cell? ⟨(yj.add ((zJ).toNat * 6)).block,(yj.add ((zJ).toNat * 6)).off + 1,none⟩ = some (.bool ((zV l0 zJ).f1)) ∧ w'.cell? ⟨(yj.add ((zJ).toNat * 6)).block,(yj.add ((zJ).toNat * 6)).off + 2,none⟩ = some (.int .i64 ((zV l0 zJ).f2)) ∧ w'.cell? ⟨(yj.add ((zJ).toNat * 6)).block,(yj.add ((zJ).toNat * 6)).off + 3,none⟩ = some (.slice (some dF) ((zV l0 zJ).f3).length zKq) ∧ w'.cell? ⟨(yj.add ((zJ).toNat * 6)).block,(yj.add ((zJ).toNat * 6)).off + 4,none⟩ = some (.slice zKx ((zV l0 zJ).f4).length zKj) ∧ w'.cell? ⟨(yj.add ((zJ).toNat * 6)).block,(yj.add ((zJ).toNat * 6)).off + 5,none⟩ = some (.slice zKv ((zV l0 zJ).f5).length zKk) ∧ w'.cell? (dF.add ((jS).toNat * 2)) = some (.string ((yU ((zV l0 zJ).f3) jS).f0)) ∧ w'.cell? ⟨(dF.add ((jS).toNat * 2)).block,(dF.add ((jS).toNat * 2)).off + 1,none⟩ = some (.int .i64 ((yU ((zV l0 zJ).f3) jS).f1)) ∧ w'.cell? (yj.add ((zJ).toNat * 6)) = some (.string ((zV l0 zJ).f0)) ∧ w'.cell? ⟨(yj.add ((zJ).toNat * 6)).block,(yj.add ((zJ).toNat * 6)).off + 1,none⟩ = some (.bool ((zV l0 zJ).f1)) ∧ w'.cell? ⟨(yj.add ((zJ).toNat * 6)).block,(yj.add ((zJ).toNat * 6)).off + 2,none⟩ = some (.int .i64 ((zV l0 zJ).f2)) ∧ w'.cell? ⟨(yj.add ((zJ).toNat * 6)).block,(yj.add ((zJ).toNat * 6)).off + 3,none⟩ = some (.slice (some dF) ((zV l0 zJ).f3).length zKq) ∧ w'.cell? ⟨(yj.add ((zJ).toNat * 6)).block,(yj.add ((zJ).toNat * 6)).off + 4,none⟩ = some (.slice zKx ((zV l0 zJ).f4).length zKj) ∧ w'.cell? ⟨(yj.add ((zJ).toNat * 6)).block,(yj.add ((zJ).toNat * 6)).off + 5,none⟩ = some (.slice zKv ((zV l0 zJ).f5).length zKk) ∧ w'.cell? (dF.add ((jS).toNat * 2)) = some (.string ((yU ((zV l0 zJ).f3) jS).f0)) ∧ w'.cell? ⟨(dF.add ((jS).toNat * 2)).block,(dF.add ((jS).toNat * 2)).off + 1,none⟩ = some (.int .i64 ((yU ((zV l0 zJ).f3) jS).f1))) (ds:=[24]) #[false,false,false,false,false,false,false,false,false,false,false,false,false,false,false,false,false,false,false,false,false,false,false,false,false] (by kernel_rfl) rfl rfl ⟨zK yZ 0,zK yZ 1,zK yZ 2,zK yZ 3,zK yZ 4,zK yZ 5,((HB.out.cell (wb w _ Vn)).trans Vn),((HB.out.cell (wb w _ Vm)).trans Vm),((HB.out.cell (wb w _ Vl)).trans Vl),((HB.out.cell (wb w _ Vi)).trans Vi),((HB.out.cell (wb w _ Vh)).trans Vh),((HB.out.cell (wb w _ Vg)).trans Vg),((HB.out.cell (wb w _ Vp)).trans Vp),((HB.out.cell (wb w _ Vo)).trans Vo),((HB.out.cell (wb w _ VF)).trans VF),((HB.out.cell (wb w _ VE)).trans VE),((HB.out.cell (wb w _ VD)).trans VD),((HB.out.cell (wb w _ VB)).trans VB),((HB.out.cell (wb w _ VA)).trans VA),((HB.out.cell (wb w _ Vu)).trans Vu),((HB.out.cell (wb w _ VH)).trans VH),((HB.out.cell (wb w _ VG)).trans VG)⟩ (fun hHeld=>?_);refine Yh zW.gV zW.Wx (fun yX wY=>?_)
            generalize wr.drew = fu at um xZ yZ HB zwC zbg zbh zwL zbi zbl Pv J9 Kz Vd Ve Vf Kq Kj Kv Kk Ky Vr Vs Vt Kw KZ hHeld ⊢
            refine q9 0 (some 41) yX ?_
            refine q9 2 (some 43) yX ?_
            refine q9 3 (some 44) yX ?_
            refine q9 4 (some 45) yX ?_
            refine q9 5 (some 46) yX ?_
            refine q9 7 (some 48) yX ?_
            refine q9 11 (some 52) yX ?_
            refine q9 12 (some 53) yX ?_
            refine q9 13 (some 54) yX ?_
            refine q9 14 (some 55) yX ?_
            refine q9 16 (some 57) yX ?_
            refine ZI 1 (some 42) yX wY hHeld ?_
            refine ZI 6 (some 47) yX wY hHeld ?_
            refine q9 8 (some 49) yX ?_
            refine q9 9 (some 50) yX ?_
            refine ZI 10 (some 51) yX wY hHeld ?_
            refine ZI 15 (some 56) yX wY hHeld ?_
            refine q9 17 (some 58) yX ?_
            refine q9 18 (some 59) yX ?_
            refine ZI 19 (some 60) yX wY hHeld ?_
            refine q9 20 (some 61) yX ?_
            refine onS 21 (some 62) yX (fun K hK=>?_)
            refine vaS ?_
            refine hK.out _ _ ⟨(zX (yV yZ.out _) 0).trans rfl,(zX (yV yZ.out _) 1).trans rfl,(zX (yV yZ.out _) 2).trans rfl,(zX (yV yZ.out _) 3).trans rfl,(zX (yV yZ.out _) 4).trans rfl,(zX (yV yZ.out _) 5).trans rfl,(World.cell?_alloc_lt _ _ _ (wb _ _ (((HB.out.cell (wb w _ Vn)).trans Vn)))).trans (((HB.out.cell (wb w _ Vn)).trans Vn)),(World.cell?_alloc_lt _ _ _ (wb _ _ (((HB.out.cell (wb w _ Vm)).trans Vm)))).trans (((HB.out.cell (wb w _ Vm)).trans Vm)),(World.cell?_alloc_lt _ _ _ (wb _ _ (((HB.out.cell (wb w _ Vl)).trans Vl)))).trans (((HB.out.cell (wb w _ Vl)).trans Vl)),(World.cell?_alloc_lt _ _ _ (wb _ _ (((HB.out.cell (wb w _ Vi)).trans Vi)))).trans (((HB.out.cell (wb w _ Vi)).trans Vi)),(World.cell?_alloc_lt _ _ _ (wb _ _ (((HB.out.cell (wb w _ Vh)).trans Vh)))).trans (((HB.out.cell (wb w _ Vh)).trans Vh)),(World.cell?_alloc_lt _ _ _ (wb _ _ (((HB.out.cell (wb w _ Vg)).trans Vg)))).trans (((HB.out.cell (wb w _ Vg)).trans Vg)),(World.cell?_alloc_lt _ _ _ (wb _ _ (((HB.out.cell (wb w _ Vp)).trans Vp)))).trans (((HB.out.cell (wb w _ Vp)).trans Vp)),(World.cell?_alloc_lt _ _ _ (wb _ _ (((HB.out.cell (wb w _ Vo)).trans Vo)))).trans (((HB.out.cell (wb w _ Vo)).trans Vo)),(World.cell?_alloc_lt _ _ _ (wb _ _ (((HB.out.cell (wb w _ VF)).trans VF)))).trans (((HB.out.cell (wb w _ VF)).trans VF)),(World.cell?_alloc_lt _ _ _ (wb _ _ (((HB.out.cell (wb w _ VE)).trans VE)))).trans (((HB.out.cell (wb w _ VE)).trans VE)),(World.cell?_alloc_lt _ _ _ (wb _ _ (((HB.out.cell (wb w _ VD)).trans VD)))).trans (((HB.out.cell (wb w _ VD)).trans VD)),(World.cell?_alloc_lt _ _ _ (wb _ _ (((HB.out.cell (wb w _ VB)).trans VB)))).trans (((HB.out.cell (wb w _ VB)).trans VB)),(World.cell?_alloc_lt _ _ _ (wb _ _ (((HB.out.cell (wb w _ VA)).trans VA)))).trans (((HB.out.cell (wb w _ VA)).trans VA)),(World.cell?_alloc_lt _ _ _ (wb _ _ (((HB.out.cell (wb w _ Vu)).trans Vu)))).trans (((HB.out.cell (wb w _ Vu)).trans Vu)),(World.cell?_alloc_lt _ _ _ (wb _ _ (((HB.out.cell (wb w _ VH)).trans VH)))).trans (((HB.out.cell (wb w _ VH)).trans VH)),(World.cell?_alloc_lt _ _ _ (wb _ _ (((HB.out.cell (wb w _ VG)).trans VG)))).trans (((HB.out.cell (wb w _ VG)).trans VG))⟩ (fun hHeld=>?_)
            clear hK K
            refine noS (some 62) ?_
            refine onS 22 (some 63) yX (fun K hK=>?_)
            refine Kd.Zi Xj (w0:=w) w.heap.size (by rfl) (.tmp 42) (.tmp 62) 97 106 (.agg #[(.string ⟨#[]⟩),(.int .i64 0)]) 24 rfl Tryz.underlying97 zaI rfl (by decide) (by omega) uN uI (⟨(yU ((zV l0 zJ).f3) jS).f0,(yU ((zV l0 zJ).f3) jS).f1⟩:uF) [.string ((yU ((zV l0 zJ).f3) jS).f0),.int .i64 ((yU ((zV l0 zJ).f3) jS).f1)] (fun _=>True) (fun _=>False) rfl rfl ?aP (fun _ hk=>hk.elim) ?aF ?aO ?aB ?aS ?aL ?_
            (case aP=>exact zKS _ _ _ (⟨(yU ((zV l0 zJ).f3) jS).f0,(yU ((zV l0 zJ).f3) jS).f1⟩:uF))
            (case aB=>exact (zD HB.out))
            (case aF=>exact (fun _ _=>trivial))
            (case aO=>exact (Yl xZ.out))
            (case aS=>exact (zm (zD HB.out)))
            (case aL=>have:=zfI.out;omega)
            intro zuI w18 ho hb hg hat
            rw [← zfL.out] at ho
            have ze:=zx.mk (Kd.WT (ok:=(fun k_=>k_ ≠ zA)) (by (with_reducible repeat (first | apply Kd.xB | apply Kd.xC | apply Kd.xG));exact Kd.vJ um.out (fun _ hk=>⟨hk.2,hk.1⟩)) hg hat)
            have zi:=zx.mk (uK (g:=zA) (o:=.cells #[.string ((zV l0 zJ).f0),.bool ((zV l0 zJ).f1),.int .i64 ((zV l0 zJ).f2),uN,.slice none 0 0,.slice none 0 0] 101 (0,0)) (qK yZ.out) hg (Kd.Qu xZ.out yZ.out (by decide)))
            have zo:=zx.mk (hb)
            have zT:=zx.mk (ho)
            clear um yZ HB xZ
            have um:=ze
            have yZ:=zi
            have HB:=zo
            have zWU:=zT
            clear ze zi zo zT ho hb hg hat
            obtain ⟨zk5,zk6,zJw⟩:=Kd.xA zWU.out
            (first | subst zJw | (injection zJw with f1_ f2_ f3_;have f4_:=f1_.symm;have f5_:=f3_.symm;clear f1_ f2_ f3_;subst f4_;subst f5_))
            refine hK.out _ _ ⟨zK yZ 0,zK yZ 1,zK yZ 2,zK yZ 3,zK yZ 4,zK yZ 5,((HB.out.cell (wb w _ Vn)).trans Vn),((HB.out.cell (wb w _ Vm)).trans Vm),((HB.out.cell (wb w _ Vl)).trans Vl),((HB.out.cell (wb w _ Vi)).trans Vi),((HB.out.cell (wb w _ Vh)).trans Vh),((HB.out.cell (wb w _ Vg)).trans Vg),((HB.out.cell (wb w _ Vp)).trans Vp),((HB.out.cell (wb w _ Vo)).trans Vo),((HB.out.cell (wb w _ VF)).trans VF),((HB.out.cell (wb w _ VE)).trans VE),((HB.out.cell (wb w _ VD)).trans VD),((HB.out.cell (wb w _ VB)).trans VB),((HB.out.cell (wb w _ VA)).trans VA),((HB.out.cell (wb w _ Vu)).trans Vu),((HB.out.cell (wb w _ VH)).trans VH),((HB.out.cell (wb w _ VG)).trans VG)⟩ (fun hHeld=>?_)
            clear hK K
            refine noS (some 63) ?_
            refine q9 23 (some 64) yX ?_
            refine dZ (i:=24) (N:=none) #[true,true,true,true,true,true,true,true,true,true,true,true,true,true,true,true,true,true,true,true,true,true,true,true,true] rfl rfl (jF yX.out (by kernel_rfl)) (by decide) (fun K hK=>?_)
            have zuL:w18.cell? ⟨zA,3,none⟩ = some (uN):=zK yZ 3
            have ztT:=zw yZ.out 3
            refine U9 (w1:=?_) (by rfl) rfl ?_ ?_
            rotate_left
            ·go_simp
             rfl
            refine hK.out _ _ ?_
            clear hK K
            refine xE (qW yX.out (by kernel_rfl)) ?_
            try go_wp2
            go_roundg k2
            case measure=>have:=wo.out;have:=Qw.out;omega
            case rel=>exact ⟨(wrap64 (jS + 1)),(zkR),(.slice zk5 zkR.length zk6),(by first | rfl | (simp;done) | (simp [*];done)),H',⟨by have:=wo.out;have:=Qw.out;omega⟩,⟨by (with_reducible repeat (first | apply Kd.xB | apply Kd.xC | apply Kd.xG));exact Kd.vJ (Kd.ji (p:=⟨zA,3,none⟩) (Kd.vJ um.out (fun k_ hk=>(⟨hk,hk.1⟩:_ ∧ k_ ≠ zA))) (fun _ hk=>hk.2) (.slice zk5 zkR.length zk6)) (fun _ hk=>⟨hk.1.2,hk.1.1⟩)⟩,⟨by (with_reducible repeat (first | apply Kd.QT | apply Kd.QU | apply Kd.Zz));exact Kd.qO (Kd.wC (p:=⟨zA,3,none⟩) (Kd.uM zWU.out yZ.out (by decide)) (fun _ hk=>hk.2) (.slice zk5 zkR.length zk6)) (fun _ hk=>trivial)⟩,⟨by (with_reducible repeat (first | refine qj ?_ _ | refine y7 ?_ | refine yV ?_ _));refine qz (cs:=#[.string ((zV l0 zJ).f0),.bool ((zV l0 zJ).f1),.int .i64 ((zV l0 zJ).f2),uN,.slice none 0 0,.slice none 0 0]) ?_ 3 _ rfl;(with_reducible repeat (first | refine qj ?_ _ | refine y7 ?_ | refine yV ?_ _));exact yZ.out⟩,⟨zD HB.out⟩⟩
           ·rw [if_neg c16] at H
            exact absurd H (by simp)
          ·rw [if_neg c15] at H
           exact absurd H (by simp)
         ·rw [if_neg c14] at H
          have zWT:decide (jS < (((zV l0 zJ).f3).length:Int)) = false:=decide_eq_false c14
          clear c14
          have H':=zx.mk H
          clear H
          have aZ:0 ≤ (zJ:Int):=of_decide_eq_true yH
          have aQ:zJ < (l0.length:Int):=of_decide_eq_true yH
          obtain ⟨zJy,zdU,zd0,zd1,zd2,zd3,zd4,e254,VJ,VK,VY,VW,Va,Vb,mq,mZ,mQ,mX,mJ,mV⟩:=jw jm.out zJ aZ aQ
          obtain rfl:yj = zJy:=(by injection e254)
          replace VJ:=(HB.out.cell (wb w _ VJ)).trans VJ
          replace VK:=(HB.out.cell (wb w _ VK)).trans VK
          replace VY:=(HB.out.cell (wb w _ VY)).trans VY
          replace VW:=(HB.out.cell (wb w _ VW)).trans VW
          replace Va:=(HB.out.cell (wb w _ Va)).trans Va
          replace Vb:=(HB.out.cell (wb w _ Vb)).trans Vb
          have zba:=zx.mk mZ
          have zbb:=zx.mk mq
          clear mZ mq
          have zbc:=zx.mk mX
          have zbd:=zx.mk mQ
          clear mX mQ
          have zbe:=zx.mk mV
          have zbf:=zx.mk mJ
          clear mV mJ
          replace aZ:=eq_true aZ
          replace aQ:=eq_true aQ
          go_wp2
          go_loopg [7] k2 (fun kq v7 w'=>∃ (vC:Int) (jo:List (uU)) (wz:Value),v7 = .int .i64 vC ∧ zx (zW.l2 kq l0 yQ zJ vC ((zV l0 zJ).f0) ((zV l0 zJ).f1) ((zV l0 zJ).f2) uI jo = some r) ∧ zx (kq ≤ k2) ∧ zx (Kd.S bZ 101 w' w.heap.size (fun k_=>some k_ ≠ (uN:Value).ownBlock ∧ some k_ ≠ (wz:Value).ownBlock ∧ k_ ≠ zA) u3 yQ) ∧ zx (Kd.R Xj 106 w' w.heap.size (fun _=>True) uN uI) ∧ zx (Kd.R Xc 109 w' w.heap.size (fun _=>True) wz jo) ∧ zx (w'.heap[zA]? = some (.cells #[.string ((zV l0 zJ).f0),.bool ((zV l0 zJ).f1),.int .i64 ((zV l0 zJ).f2),uN,wz,(.slice none 0 0)] 101 (0,0))) ∧ zx (Below w.heap.size w w'))
          case atStart=>exact ⟨(0),(([]:List (uU))),(.slice none 0 0),(by first | rfl | (simp;done) | (simp [*];done)),H',⟨Nat.le_refl _⟩,⟨by (with_reducible repeat (first | apply Kd.xB | apply Kd.xC | apply Kd.xG));exact Kd.vJ um.out (fun _ hk=>⟨hk.1,⟨(by simp [Value.ownBlock]),hk.2⟩⟩)⟩,⟨Yl xZ.out⟩,⟨by first | exact Kd.jC _ _ _ _ _ | exact Kd.WG _ _ _ _ _ | exact Kd.WH _ _ _ _ _ | exact Kd.WC _ _ _ _ _ | exact Kd.Xo _ _ _ _ _⟩,⟨qK yZ.out⟩,⟨zD HB.out⟩⟩
          case round =>
           clear H'
           try clear c2
           try clear bQ
           try clear c3
           try clear ZN
           try clear c12
           try clear zfG
           try clear c13
           try clear zfH
           try clear c14
           try clear zWT
           try clear c15
           try clear WO
           try clear c16
           try clear JR
           try clear JU
           try clear J2
           try clear XD
           try clear XE
           try clear XF
           try clear J3
           try clear J4
           try clear J5
           try clear Vk
           try clear Vy
           try clear Vw
           try clear J6
           try clear J7
           try clear J8
           try clear VZ
           try clear VQ
           try clear VX
           try clear VJ
           try clear VK
           try clear VY
           try clear VW
           try clear Va
           try clear Vb
           try clear Pv
           try clear J9
           try clear Kz
           try clear Vd
           try clear Ve
           try clear Vf
           try clear Kq
           try clear Kj
           try clear Kv
           try clear Kk
           try clear Ky
           try clear Vr
           try clear Vs
           try clear Vt
           try clear Kw
           try clear KZ
           try clear zjK
           try clear zjW
           try clear zjb
           try clear aZ
           try clear zkS
           try clear zkU
           try clear zk1
           try clear zk3
           try clear zjY
           try clear zja
           try clear zjc
           try clear aQ
           try clear zkT
           try clear zk0
           try clear zk2
           try clear zk4
           obtain ⟨vC,jo,wz,rfl,HA,fK,um,xZ,uy,yZ,HB⟩:=hrel
           cases gk with
           | zero=>exact absurd HA.out (by simp [zW.l2])
           | succ k3 =>
            have H:=HA.out
            clear HA
            simp only [zW.l2] at H
            by_cases c21:0 ≤ zJ
            ·rw [if_pos c21] at H
             have zfO:decide (0 ≤ zJ) = true:=decide_eq_true c21
             clear c21
             by_cases c22:zJ < (l0.length:Int)
             ·rw [if_pos c22] at H
              have zfP:decide (zJ < (l0.length:Int)) = true:=decide_eq_true c22
              clear c22
              by_cases c23:vC < (((zV l0 zJ).f4).length:Int)
              ·rw [if_pos c23] at H
               have zW0:decide (vC < (((zV l0 zJ).f4).length:Int)) = true:=decide_eq_true c23
               clear c23
               by_cases c24:0 ≤ vC
               ·rw [if_pos c24] at H
                have zkx:decide (0 ≤ vC) = true:=decide_eq_true c24
                clear c24
                by_cases c25:jo.length < 2932031007402
                ·rw [if_pos c25] at H
                 have zfR:=zx.mk c25
                 clear c25
                 obtain ⟨zjd,zqu⟩:∃ y_:List (uU),y_ = (jo ++ [(⟨(qx ((zV l0 zJ).f4) vC).f0,(qx ((zV l0 zJ).f4) vC).f1,(qx ((zV l0 zJ).f4) vC).f2⟩:uU)]):=⟨_,rfl⟩
                 replace H:(zW.l2 k3 l0 yQ zJ (wrap64 (vC + 1)) ((zV l0 zJ).f0) ((zV l0 zJ).f1) ((zV l0 zJ).f2) uI zjd) = some r:=by first | (rw [zqu];with_reducible exact H) | (have uh:=(Option.bind_some _ _).symm.trans H;rw [zqu];with_reducible exact uh) | (have uh:=(Option.bind_some _ _).symm.trans H;with_reducible exact uh) | with_reducible exact H | (rw [zqu];exact H) | exact H
                 have zfS:=zx.mk zqu
                 clear zqu
                 have H':=zx.mk H
                 clear H
                 have iJ:0 ≤ (zJ:Int):=of_decide_eq_true yH
                 have iV:zJ < (l0.length:Int):=of_decide_eq_true yH
                 obtain ⟨zJZ,zd5,zd6,zd7,zd8,zd9,zez,e262,VI,VL,VN,VO,VP,VR,mK,mY,mW,mg,mh,mo⟩:=jw jm.out zJ iJ iV
                 obtain rfl:yj = zJZ:=(by injection e262)
                 replace VI:=(HB.out.cell (wb w _ VI)).trans VI
                 replace VL:=(HB.out.cell (wb w _ VL)).trans VL
                 replace VN:=(HB.out.cell (wb w _ VN)).trans VN
                 replace VO:=(HB.out.cell (wb w _ VO)).trans VO
                 replace VP:=(HB.out.cell (wb w _ VP)).trans VP
                 replace VR:=(HB.out.cell (wb w _ VR)).trans VR
                 have zbm:=zx.mk mY
                 have zbn:=zx.mk mK
                 clear mY mK
                 have zbo:=zx.mk mg
                 have zbp:=zx.mk mW
                 clear mg mW
                 have zbr:=zx.mk mo
                 have zbs:=zx.mk mh
                 clear mo mh
                 replace iJ:=eq_true iJ
                 replace iV:=eq_true iV
                 try go_wp2
                 have ze:=zx.mk (Kd.xG um.out)
                 have zi:=zx.mk (Kd.Zz xZ.out)
                 have zo:=zx.mk (Kd.Zz uy.out)
                 have zT:=zx.mk (y7 yZ.out)
                 have qU:=zx.mk (yY HB.out)
                 clear um xZ uy yZ HB
                 have um:=ze
                 have xZ:=zi
                 have uy:=zo
                 have yZ:=zT
                 have HB:=qU
                 clear ze zi zo zT qU
                 have zJQ:0 ≤ (zJ:Int):=of_decide_eq_true yH
                 have zJX:zJ < (l0.length:Int):=of_decide_eq_true yH
                 obtain ⟨zfT,zk7,zk8,zsL,zk9,zyz,zyq,ziQ,Pk,Py,Pw,VT,VU,V3,zwM,zwN,zwO,zwP,zwR,zwS⟩:=jw jm.out zJ zJQ zJX
                 have V4:=V3
                 have V5:=VU
                 have V6:=VT
                 have V7:=Pw
                 have V8:=Py
                 have V9:=Pk
                 obtain rfl:yj = zfT:=(by injection ziQ)
                 replace Pk:=(HB.out.cell (wb w _ Pk)).trans Pk
                 replace Py:=(HB.out.cell (wb w _ Py)).trans Py
                 replace Pw:=(HB.out.cell (wb w _ Pw)).trans Pw
                 replace VT:=(HB.out.cell (wb w _ VT)).trans VT
                 replace VU:=(HB.out.cell (wb w _ VU)).trans VU
                 replace V3:=(HB.out.cell (wb w _ V3)).trans V3
                 have zbt:=zx.mk zwN
                 have zm7:=zx.mk zwM
                 clear zwN zwM
                 have zwT:=zx.mk zwP
                 have zm8:=zx.mk zwO
                 clear zwP zwO
                 have zbu:=zx.mk zwS
                 have zm9:=zx.mk zwR
                 clear zwS zwR
                 replace zJQ:=eq_true zJQ
                 replace zJX:=eq_true zJX
                 have zJJ:0 ≤ (vC:Int):=of_decide_eq_true yH
                 have zJV:vC < (((zV l0 zJ).f4).length:Int):=of_decide_eq_true yH
                 obtain ⟨Ze,e264,PZ,PV,PK⟩:=WU zwT.out vC zJJ zJV
                 have Uz:=PK
                 have Uq:=PV
                 have Ux:=PZ
                 cases e264
                 replace PZ:=(HB.out.cell (wb w _ PZ)).trans PZ
                 replace PV:=(HB.out.cell (wb w _ PV)).trans PV
                 replace PK:=(HB.out.cell (wb w _ PK)).trans PK
                 replace zJJ:=eq_true zJJ
                 replace zJV:=eq_true zJV
                 have zJK:0 ≤ (zJ:Int):=of_decide_eq_true yH
                 have zJY:zJ < (l0.length:Int):=of_decide_eq_true yH
                 obtain ⟨zfU,zsM,zsN,zsO,zsP,zsR,zsS,ziX,PY,PW,Pb,KQ,KX,KJ,zwU,zw0,zw1,zw2,zw3,zw4⟩:=jw jm.out zJ zJK zJY
                 have Uj:=KJ
                 have Uv:=KX
                 have Uk:=KQ
                 have Uy:=Pb
                 have Uw:=PW
                 have UZ:=PY
                 obtain rfl:yj = zfU:=(by injection ziX)
                 replace PY:=(HB.out.cell (wb w _ PY)).trans PY
                 replace PW:=(HB.out.cell (wb w _ PW)).trans PW
                 replace Pb:=(HB.out.cell (wb w _ Pb)).trans Pb
                 replace KQ:=(HB.out.cell (wb w _ KQ)).trans KQ
                 replace KX:=(HB.out.cell (wb w _ KX)).trans KX
                 replace KJ:=(HB.out.cell (wb w _ KJ)).trans KJ
                 have zbA:=zx.mk zw0
                 have znz:=zx.mk zwU
                 clear zw0 zwU
                 have zw5:=zx.mk zw2
                 have znq:=zx.mk zw1
                 clear zw2 zw1
                 have zbB:=zx.mk zw4
                 have znx:=zx.mk zw3
                 clear zw4 zw3
                 replace zJK:=eq_true zJK
                 replace zJY:=eq_true zJY
                 have yO:=Option.some.inj (VT.symm.trans KQ)
                 injection yO with yO vL vM
                 subst yO
                 subst vM
                 clear vL
                 have yO:=Option.some.inj (VU.symm.trans KX)
                 injection yO with yO vL vM
                 subst yO
                 subst vM
                 clear vL
                 have yO:=Option.some.inj (V3.symm.trans KJ)
                 injection yO with yO vL vM
                 subst yO
                 subst vM
                 clear vL
                 have zJW:0 ≤ (vC:Int):=of_decide_eq_true yH
                 have zJa:vC < (((zV l0 zJ).f4).length:Int):=of_decide_eq_true yH
                 obtain ⟨ztU,ziJ,Pf,Pg,Ph⟩:=WU zw5.out vC zJW zJa
                 have UQ:=Ph
                 have UJ:=Pg
                 have UK:=Pf
                 cases ziJ
                 replace Pf:=(HB.out.cell (wb w _ Pf)).trans Pf
                 replace Pg:=(HB.out.cell (wb w _ Pg)).trans Pg
                 replace Ph:=(HB.out.cell (wb w _ Ph)).trans Ph
                 replace zJW:=eq_true zJW
                 replace zJa:=eq_true zJa
                 have zJb:0 ≤ (zJ:Int):=of_decide_eq_true yH
                 have zJc:zJ < (l0.length:Int):=of_decide_eq_true yH
                 obtain ⟨zf0,zsU,zs3,zs4,zs5,zs6,zs7,e267,Pm,Pn,Po,KV,KY,KW,zw6,zw7,zw8,zw9,zZz,zZq⟩:=jw jm.out zJ zJb zJc
                 have UY:=KW
                 have UW:=KY
                 have Ua:=KV
                 have Ub:=Po
                 have Uc:=Pn
                 have Ud:=Pm
                 obtain rfl:yj = zf0:=(by injection e267)
                 replace Pm:=(HB.out.cell (wb w _ Pm)).trans Pm
                 replace Pn:=(HB.out.cell (wb w _ Pn)).trans Pn
                 replace Po:=(HB.out.cell (wb w _ Po)).trans Po
                 replace KV:=(HB.out.cell (wb w _ KV)).trans KV
                 replace KY:=(HB.out.cell (wb w _ KY)).trans KY
                 replace KW:=(HB.out.cell (wb w _ KW)).trans KW
                 have zbC:=zx.mk zw7
                 have znj:=zx.mk zw6
                 clear zw7 zw6
                 have zZx:=zx.mk zw9
                 have znv:=zx.mk zw8
                 clear zw9 zw8
                 have zbD:=zx.mk zZq
                 have znk:=zx.mk zZz
                 clear zZq zZz
                 replace zJb:=eq_true zJb
                 replace zJc:=eq_true zJc
                 have yO:=Option.some.inj (VT.symm.trans KV)
                 injection yO with yO vL vM
                 subst yO
                 subst vM
                 clear vL
                 have yO:=Option.some.inj (VU.symm.trans KY)
                 injection yO with yO vL vM
                 subst yO
                 subst vM
                 clear vL
                 have yO:=Option.some.inj (V3.symm.trans KW)
                 injection yO with yO vL vM
                 subst yO
                 subst vM
                 clear vL
                 have zJd:0 ≤ (vC:Int):=of_decide_eq_true yH
                 have zJe:vC < (((zV l0 zJ).f4).length:Int):=of_decide_eq_true yH
                 obtain ⟨zt0,e268,Pp,Pt,PD⟩:=WU zZx.out vC zJd zJe
                 have Ue:=PD
                 have Uf:=Pt
                 have Ug:=Pp
                 cases e268
                 replace Pp:=(HB.out.cell (wb w _ Pp)).trans Pp
                 replace Pt:=(HB.out.cell (wb w _ Pt)).trans Pt
                 replace PD:=(HB.out.cell (wb w _ PD)).trans PD
                 replace zJd:=eq_true zJd
                 replace zJe:=eq_true zJe
                 refine Zq (n:=34) (S:=fun w'=>w'.cell? ⟨zA,0,none⟩ = some (.string ((zV l0 zJ).f0)) ∧ w'.cell? ⟨zA,1,none⟩ = some (.bool ((zV l0 zJ).f1)) ∧ w'.cell? ⟨zA,2,none⟩ = some (.int .i64 ((zV l0 zJ).f2)) ∧ w'.cell? ⟨zA,3,none⟩ = some (uN) ∧ w'.cell? ⟨zA,4,none⟩ = some (wz) ∧ w'.cell? ⟨zA,5,none⟩ = some (.slice none 0 0) ∧ w'.cell? (yj.add ((zJ).toNat * 6)) = some (.string ((zV l0 zJ).f0)) ∧ w'.cell? ⟨(yj.add ((zJ).toNat * 6)).block,(yj.add ((zJ).toNat * 6)).off + 1,none⟩ = some (.bool ((zV l0 zJ).f1)) ∧ w'.cell? ⟨(yj.add ((zJ).toNat * 6)).block,(yj.add ((zJ).toNat * 6)).off + 2,none⟩ = some (.int .i64 ((zV l0 zJ).f2)) ∧ w'.cell? ⟨(yj.add ((zJ).toNat * 6)).block,(yj.add ((zJ).toNat * 6)).off + 3,none⟩ = some (.slice zk7 ((zV l0 zJ).f3).length zk8) ∧ w'.cell? ⟨(yj.add ((zJ).toNat * 6)).block,(yj.add ((zJ).toNat * 6)).off + 4,none⟩ = some (.slice (some Ze) ((zV l0 zJ).f4).length zk9) ∧ w'.cell? ⟨(yj.add ((zJ).toNat * 6)).block,(yj.add ((zJ).toNat * 6)).off + 5,none⟩ = some (.slice zyz ((zV l0 zJ).f5).length zyq) ∧ w'.cell? (Ze.add ((vC).toNat * 3)) = some (.string ((qx ((zV l0 zJ).f4) vC).f0)) ∧ w'.cell? ⟨(Ze.add ((vC).toNat * 3)).block,(Ze.add ((vC).toNat * 3)).off + 1,none⟩ = some (.string ((qx ((zV l0 zJ).f4) vC).f1)) ∧ w'.cell? ⟨(Ze.add ((vC).toNat * 3)).block,(Ze.add ((vC).toNat * 3)).off + 2,none⟩ = some (.string ((qx ((zV l0 zJ).f4) vC).f2)) ∧ w'.cell? (yj.add ((zJ).toNat * 6)) = some (.string ((zV l0 zJ).f0)) ∧ w'.cell? ⟨(yj.add ((zJ).toNat * 6)).block,(yj.add ((zJ).toNat * 6)).off + 1,none⟩ = some (.bool ((zV l0 zJ).f1)) ∧ w'.cell? ⟨(yj.add ((zJ).toNat * 6)).block,(yj.add ((zJ).toNat * 6)).off + 2,none⟩ = some (.int .i64 ((zV l0 zJ).f2)) ∧ w'.cell? ⟨(yj.add ((zJ).toNat * 6)).block,(yj.add ((zJ).toNat * 6)).off + 3,none⟩ = some (.slice zk7 ((zV l0 zJ).f3).length zk8) ∧ w'.cell? ⟨(yj.add ((zJ).toNat * 6)).block,(yj.add ((zJ).toNat * 6)).off + 4,none⟩ = some (.slice (some Ze) ((zV l0 zJ).f4).length zk9) ∧ w'.cell? ⟨(yj.add ((zJ).toNat * 6)).block,(yj.add ((zJ).toNat * 6)).off + 5,none⟩ = some (.slice zyz ((zV l0 zJ).f5).length zyq) ∧ w'.cell? (Ze.add ((vC).toNat * 3)) = some (.string ((qx ((zV l0 zJ).f4) vC).f0)) ∧ w'.cell? ⟨(Ze.add ((vC).toNat * 3)).block,(Ze.add ((vC).toNat * 3)).off + 1,none⟩ = some (.string ((qx ((zV l0 zJ).f4) vC).f1)) ∧ w'.cell? ⟨(Ze.add ((vC).toNat * 3)).block,(Ze.add ((vC).toNat * 3)).off + 2,none⟩ = some (.string ((qx ((zV l0 zJ).f4) vC).f2)) ∧ w'.cell? (yj.add ((zJ).toNat * 6)) = some (.string ((zV l0 zJ).f0)) ∧ w'.cell? ⟨(yj.add ((zJ).toNat * 6)).block,(yj.add ((zJ).toNat * 6)).off + 1,none⟩ = some (.bool ((zV l0 zJ).f1)) ∧ w'.cell? ⟨(yj.add ((zJ).toNat * 6)).block,(yj.add ((zJ).toNat * 6)).off + 2,none⟩ = some (.int .i64 ((zV l0 zJ).f2)) ∧ w'.cell? ⟨(yj.add ((zJ).toNat * 6)).block,(yj.add ((zJ).toNat * 6)).off + 3,none⟩ = some (.slice zk7 ((zV l0 zJ).f3).length zk8) ∧ w'.cell? ⟨(yj.add ((zJ).toNat * 6)).block,(yj.add ((zJ).toNat * 6)).off + 4,none⟩ = some (.slice (some Ze) ((zV l0 zJ).f4).length zk9) ∧ w'.cell? ⟨(yj.add ((zJ).toNat * 6)).block,(yj.add ((zJ).toNat * 6)).off + 5,none⟩ = some (.slice zyz ((zV l0 zJ).f5).length zyq) ∧ w'.cell? (Ze.add ((vC).toNat * 3)) = some (.string ((qx ((zV l0 zJ).f4) vC).f0)) ∧ w'.cell? ⟨(Ze.add ((vC).toNat * 3)).block,(Ze.add ((vC).toNat * 3)).off + 1,none⟩ = some (.string ((qx ((zV l0 zJ).f4) vC).f1)) ∧ w'.cell? ⟨(Ze.add ((vC).toNat * 3)).block,(Ze.add ((vC).toNat * 3)).off + 2,none⟩ = some (.string ((qx ((zV l0 zJ).f4) vC).f2))) (ds:=[33]) #[false,false,false,false,false,false,false,false,false,false,false,false,false,false,false,false,false,false,false,false,false,false,false,false,false,false,false,false,false,false,false,false,false,false] (by kernel_rfl) rfl rfl ⟨zK yZ 0,zK yZ 1,zK yZ 2,zK yZ 3,zK yZ 4,zK yZ 5,((HB.out.cell (wb w _ V9)).trans V9),((HB.out.cell (wb w _ V8)).trans V8),((HB.out.cell (wb w _ V7)).trans V7),((HB.out.cell (wb w _ V6)).trans V6),((HB.out.cell (wb w _ V5)).trans V5),((HB.out.cell (wb w _ V4)).trans V4),((HB.out.cell (wb w _ Ux)).trans Ux),((HB.out.cell (wb w _ Uq)).trans Uq),((HB.out.cell (wb w _ Uz)).trans Uz),((HB.out.cell (wb w _ UZ)).trans UZ),((HB.out.cell (wb w _ Uw)).trans Uw),((HB.out.cell (wb w _ Uy)).trans Uy),((HB.out.cell (wb w _ Uk)).trans Uk),((HB.out.cell (wb w _ Uv)).trans Uv),((HB.out.cell (wb w _ Uj)).trans Uj),((HB.out.cell (wb w _ UK)).trans UK),((HB.out.cell (wb w _ UJ)).trans UJ),((HB.out.cell (wb w _ UQ)).trans UQ),((HB.out.cell (wb w _ Ud)).trans Ud),((HB.out.cell (wb w _ Uc)).trans Uc),((HB.out.cell (wb w _ Ub)).trans Ub),((HB.out.cell (wb w _ Ua)).trans Ua),((HB.out.cell (wb w _ UW)).trans UW),((HB.out.cell (wb w _ UY)).trans UY),((HB.out.cell (wb w _ Ug)).trans Ug),((HB.out.cell (wb w _ Uf)).trans Uf),((HB.out.cell (wb w _ Ue)).trans Ue)⟩ (fun hHeld=>?_);refine Yh zW.Xy zW.Zr (fun yX wY=>?_)
                 generalize wr.drew = w26 at um xZ uy yZ HB zbt zwT zbu zbA zw5 zbB zbC zZx zbD Pk Py Pw VT VU V3 PZ PV PK PY PW Pb KQ KX KJ Pf Pg Ph Pm Pn Po KV KY KW Pp Pt PD hHeld ⊢
                 refine q9 0 (some 75) yX ?_
                 refine q9 2 (some 77) yX ?_
                 refine q9 3 (some 78) yX ?_
                 refine q9 4 (some 79) yX ?_
                 refine q9 5 (some 80) yX ?_
                 refine q9 7 (some 82) yX ?_
                 refine q9 11 (some 86) yX ?_
                 refine q9 12 (some 87) yX ?_
                 refine q9 13 (some 88) yX ?_
                 refine q9 14 (some 89) yX ?_
                 refine q9 16 (some 91) yX ?_
                 refine q9 20 (some 95) yX ?_
                 refine q9 21 (some 96) yX ?_
                 refine q9 22 (some 97) yX ?_
                 refine q9 23 (some 98) yX ?_
                 refine q9 25 (some 100) yX ?_
                 refine ZI 1 (some 76) yX wY hHeld ?_
                 refine ZI 6 (some 81) yX wY hHeld ?_
                 refine q9 8 (some 83) yX ?_
                 refine q9 9 (some 84) yX ?_
                 refine ZI 10 (some 85) yX wY hHeld ?_
                 refine ZI 15 (some 90) yX wY hHeld ?_
                 refine q9 17 (some 92) yX ?_
                 refine q9 18 (some 93) yX ?_
                 refine ZI 19 (some 94) yX wY hHeld ?_
                 refine ZI 24 (some 99) yX wY hHeld ?_
                 refine q9 26 (some 101) yX ?_
                 refine q9 27 (some 102) yX ?_
                 refine ZI 28 (some 103) yX wY hHeld ?_
                 refine q9 29 (some 104) yX ?_
                 refine onS 30 (some 105) yX (fun K hK=>?_)
                 refine vaS ?_
                 refine hK.out _ _ ⟨(zX (yV yZ.out _) 0).trans rfl,(zX (yV yZ.out _) 1).trans rfl,(zX (yV yZ.out _) 2).trans rfl,(zX (yV yZ.out _) 3).trans rfl,(zX (yV yZ.out _) 4).trans rfl,(zX (yV yZ.out _) 5).trans rfl,(World.cell?_alloc_lt _ _ _ (wb _ _ (((HB.out.cell (wb w _ V9)).trans V9)))).trans (((HB.out.cell (wb w _ V9)).trans V9)),(World.cell?_alloc_lt _ _ _ (wb _ _ (((HB.out.cell (wb w _ V8)).trans V8)))).trans (((HB.out.cell (wb w _ V8)).trans V8)),(World.cell?_alloc_lt _ _ _ (wb _ _ (((HB.out.cell (wb w _ V7)).trans V7)))).trans (((HB.out.cell (wb w _ V7)).trans V7)),(World.cell?_alloc_lt _ _ _ (wb _ _ (((HB.out.cell (wb w _ V6)).trans V6)))).trans (((HB.out.cell (wb w _ V6)).trans V6)),(World.cell?_alloc_lt _ _ _ (wb _ _ (((HB.out.cell (wb w _ V5)).trans V5)))).trans (((HB.out.cell (wb w _ V5)).trans V5)),(World.cell?_alloc_lt _ _ _ (wb _ _ (((HB.out.cell (wb w _ V4)).trans V4)))).trans (((HB.out.cell (wb w _ V4)).trans V4)),(World.cell?_alloc_lt _ _ _ (wb _ _ (((HB.out.cell (wb w _ Ux)).trans Ux)))).trans (((HB.out.cell (wb w _ Ux)).trans Ux)),(World.cell?_alloc_lt _ _ _ (wb _ _ (((HB.out.cell (wb w _ Uq)).trans Uq)))).trans (((HB.out.cell (wb w _ Uq)).trans Uq)),(World.cell?_alloc_lt _ _ _ (wb _ _ (((HB.out.cell (wb w _ Uz)).trans Uz)))).trans (((HB.out.cell (wb w _ Uz)).trans Uz)),(World.cell?_alloc_lt _ _ _ (wb _ _ (((HB.out.cell (wb w _ UZ)).trans UZ)))).trans (((HB.out.cell (wb w _ UZ)).trans UZ)),(World.cell?_alloc_lt _ _ _ (wb _ _ (((HB.out.cell (wb w _ Uw)).trans Uw)))).trans (((HB.out.cell (wb w _ Uw)).trans Uw)),(World.cell?_alloc_lt _ _ _ (wb _ _ (((HB.out.cell (wb w _ Uy)).trans Uy)))).trans (((HB.out.cell (wb w _ Uy)).trans Uy)),(World.cell?_alloc_lt _ _ _ (wb _ _ (((HB.out.cell (wb w _ Uk)).trans Uk)))).trans (((HB.out.cell (wb w _ Uk)).trans Uk)),(World.cell?_alloc_lt _ _ _ (wb _ _ (((HB.out.cell (wb w _ Uv)).trans Uv)))).trans (((HB.out.cell (wb w _ Uv)).trans Uv)),(World.cell?_alloc_lt _ _ _ (wb _ _ (((HB.out.cell (wb w _ Uj)).trans Uj)))).trans (((HB.out.cell (wb w _ Uj)).trans Uj)),(World.cell?_alloc_lt _ _ _ (wb _ _ (((HB.out.cell (wb w _ UK)).trans UK)))).trans (((HB.out.cell (wb w _ UK)).trans UK)),(World.cell?_alloc_lt _ _ _ (wb _ _ (((HB.out.cell (wb w _ UJ)).trans UJ)))).trans (((HB.out.cell (wb w _ UJ)).trans UJ)),(World.cell?_alloc_lt _ _ _ (wb _ _ (((HB.out.cell (wb w _ UQ)).trans UQ)))).trans (((HB.out.cell (wb w _ UQ)).trans UQ)),(World.cell?_alloc_lt _ _ _ (wb _ _ (((HB.out.cell (wb w _ Ud)).trans Ud)))).trans (((HB.out.cell (wb w _ Ud)).trans Ud)),(World.cell?_alloc_lt _ _ _ (wb _ _ (((HB.out.cell (wb w _ Uc)).trans Uc)))).trans (((HB.out.cell (wb w _ Uc)).trans Uc)),(World.cell?_alloc_lt _ _ _ (wb _ _ (((HB.out.cell (wb w _ Ub)).trans Ub)))).trans (((HB.out.cell (wb w _ Ub)).trans Ub)),(World.cell?_alloc_lt _ _ _ (wb _ _ (((HB.out.cell (wb w _ Ua)).trans Ua)))).trans (((HB.out.cell (wb w _ Ua)).trans Ua)),(World.cell?_alloc_lt _ _ _ (wb _ _ (((HB.out.cell (wb w _ UW)).trans UW)))).trans (((HB.out.cell (wb w _ UW)).trans UW)),(World.cell?_alloc_lt _ _ _ (wb _ _ (((HB.out.cell (wb w _ UY)).trans UY)))).trans (((HB.out.cell (wb w _ UY)).trans UY)),(World.cell?_alloc_lt _ _ _ (wb _ _ (((HB.out.cell (wb w _ Ug)).trans Ug)))).trans (((HB.out.cell (wb w _ Ug)).trans Ug)),(World.cell?_alloc_lt _ _ _ (wb _ _ (((HB.out.cell (wb w _ Uf)).trans Uf)))).trans (((HB.out.cell (wb w _ Uf)).trans Uf)),(World.cell?_alloc_lt _ _ _ (wb _ _ (((HB.out.cell (wb w _ Ue)).trans Ue)))).trans (((HB.out.cell (wb w _ Ue)).trans Ue))⟩ (fun hHeld=>?_)
                 clear hK K
                 refine noS (some 105) ?_
                 refine onS 31 (some 106) yX (fun K hK=>?_)
                 refine Kd.Zi Xc (w0:=w) w.heap.size (by rfl) (.tmp 76) (.tmp 105) 98 109 (.agg #[(.string ⟨#[]⟩),(.string ⟨#[]⟩),(.string ⟨#[]⟩)]) 48 rfl Tryz.underlying98 zaL rfl (by decide) (by omega) wz jo (⟨(qx ((zV l0 zJ).f4) vC).f0,(qx ((zV l0 zJ).f4) vC).f1,(qx ((zV l0 zJ).f4) vC).f2⟩:uU) [.string ((qx ((zV l0 zJ).f4) vC).f0),.string ((qx ((zV l0 zJ).f4) vC).f1),.string ((qx ((zV l0 zJ).f4) vC).f2)] (fun _=>True) (fun _=>False) rfl rfl ?aP (fun _ hk=>hk.elim) ?aF ?aO ?aB ?aS ?aL ?_
                 (case aP=>exact zKT _ _ _ (⟨(qx ((zV l0 zJ).f4) vC).f0,(qx ((zV l0 zJ).f4) vC).f1,(qx ((zV l0 zJ).f4) vC).f2⟩:uU))
                 (case aB=>exact (zD HB.out))
                 (case aF=>exact (fun _ _=>trivial))
                 (case aO=>exact (Yl uy.out))
                 (case aS=>exact (zm (zD HB.out)))
                 (case aL=>have:=zfR.out;omega)
                 intro zuM w27 ho hb hg hat
                 rw [← zfS.out] at ho
                 have ze:=zx.mk (Kd.WT (ok:=(fun k_=>some k_ ≠ (uN:Value).ownBlock ∧ k_ ≠ zA)) (by (with_reducible repeat (first | apply Kd.xB | apply Kd.xC | apply Kd.xG));exact Kd.vJ um.out (fun _ hk=>⟨⟨hk.1,hk.2.2⟩,hk.2.1⟩)) hg hat)
                 have zi:=zx.mk (Kd.zxx (Yl xZ.out) (Kd.lD (Yl uy.out)) (by decide) hg)
                 have zo:=zx.mk (uK (g:=zA) (o:=.cells #[.string ((zV l0 zJ).f0),.bool ((zV l0 zJ).f1),.int .i64 ((zV l0 zJ).f2),uN,wz,.slice none 0 0] 101 (0,0)) (qK yZ.out) hg (Kd.Qu uy.out yZ.out (by decide)))
                 have zT:=zx.mk (hb)
                 have qU:=zx.mk (ho)
                 clear um xZ yZ HB uy
                 have um:=ze
                 have xZ:=zi
                 have yZ:=zo
                 have HB:=zT
                 have zW1:=qU
                 clear ze zi zo zT qU ho hb hg hat
                 obtain ⟨zJf,zJg,zeq⟩:=Kd.xA zW1.out
                 (first | subst zeq | (injection zeq with f1_ f2_ f3_;have f4_:=f1_.symm;have f5_:=f3_.symm;clear f1_ f2_ f3_;subst f4_;subst f5_))
                 refine hK.out _ _ ⟨zK yZ 0,zK yZ 1,zK yZ 2,zK yZ 3,zK yZ 4,zK yZ 5,((HB.out.cell (wb w _ V9)).trans V9),((HB.out.cell (wb w _ V8)).trans V8),((HB.out.cell (wb w _ V7)).trans V7),((HB.out.cell (wb w _ V6)).trans V6),((HB.out.cell (wb w _ V5)).trans V5),((HB.out.cell (wb w _ V4)).trans V4),((HB.out.cell (wb w _ Ux)).trans Ux),((HB.out.cell (wb w _ Uq)).trans Uq),((HB.out.cell (wb w _ Uz)).trans Uz),((HB.out.cell (wb w _ UZ)).trans UZ),((HB.out.cell (wb w _ Uw)).trans Uw),((HB.out.cell (wb w _ Uy)).trans Uy),((HB.out.cell (wb w _ Uk)).trans Uk),((HB.out.cell (wb w _ Uv)).trans Uv),((HB.out.cell (wb w _ Uj)).trans Uj),((HB.out.cell (wb w _ UK)).trans UK),((HB.out.cell (wb w _ UJ)).trans UJ),((HB.out.cell (wb w _ UQ)).trans UQ),((HB.out.cell (wb w _ Ud)).trans Ud),((HB.out.cell (wb w _ Uc)).trans Uc),((HB.out.cell (wb w _ Ub)).trans Ub),((HB.out.cell (wb w _ Ua)).trans Ua),((HB.out.cell (wb w _ UW)).trans UW),((HB.out.cell (wb w _ UY)).trans UY),((HB.out.cell (wb w _ Ug)).trans Ug),((HB.out.cell (wb w _ Uf)).trans Uf),((HB.out.cell (wb w _ Ue)).trans Ue)⟩ (fun hHeld=>?_)
                 clear hK K
                 refine noS (some 106) ?_
                 refine q9 32 (some 107) yX ?_
                 refine dZ (i:=33) (N:=none) #[true,true,true,true,true,true,true,true,true,true,true,true,true,true,true,true,true,true,true,true,true,true,true,true,true,true,true,true,true,true,true,true,true,true] rfl rfl (jF yX.out (by kernel_rfl)) (by decide) (fun K hK=>?_)
                 have zuN:w27.cell? ⟨zA,4,none⟩ = some (wz):=zK yZ 4
                 have zt1:=zw yZ.out 4
                 refine U9 (w1:=?_) (by rfl) rfl ?_ ?_
                 rotate_left
                 ·go_simp
                  rfl
                 refine hK.out _ _ ?_
                 clear hK K
                 refine xE (qW yX.out (by kernel_rfl)) ?_
                 try go_wp2
                 go_roundg k3
                 case measure=>have:=wo.out;have:=Qw.out;have:=fK.out;omega
                 case rel=>exact ⟨(wrap64 (vC + 1)),(zjd),(.slice zJf zjd.length zJg),(by first | rfl | (simp;done) | (simp [*];done)),H',⟨by have:=wo.out;have:=Qw.out;have:=fK.out;omega⟩,⟨by (with_reducible repeat (first | apply Kd.xB | apply Kd.xC | apply Kd.xG));exact Kd.vJ (Kd.ji (p:=⟨zA,4,none⟩) (Kd.vJ um.out (fun k_ hk=>(⟨hk,hk.1.2⟩:_ ∧ k_ ≠ zA))) (fun _ hk=>hk.2) (.slice zJf zjd.length zJg)) (fun _ hk=>⟨hk.1.1.1,⟨hk.1.2,hk.1.1.2⟩⟩)⟩,⟨by (with_reducible repeat (first | apply Kd.QT | apply Kd.QU | apply Kd.Zz));exact Kd.qO (Kd.wC (p:=⟨zA,4,none⟩) (Kd.uM xZ.out yZ.out (by decide)) (fun _ hk=>hk.2) (.slice zJf zjd.length zJg)) (fun _ hk=>trivial)⟩,⟨by (with_reducible repeat (first | apply Kd.QT | apply Kd.QU | apply Kd.Zz));exact Kd.qO (Kd.wC (p:=⟨zA,4,none⟩) (Kd.uM zW1.out yZ.out (by decide)) (fun _ hk=>hk.2) (.slice zJf zjd.length zJg)) (fun _ hk=>trivial)⟩,⟨by (with_reducible repeat (first | refine qj ?_ _ | refine y7 ?_ | refine yV ?_ _));refine qz (cs:=#[.string ((zV l0 zJ).f0),.bool ((zV l0 zJ).f1),.int .i64 ((zV l0 zJ).f2),uN,wz,.slice none 0 0]) ?_ 4 _ rfl;(with_reducible repeat (first | refine qj ?_ _ | refine y7 ?_ | refine yV ?_ _));exact yZ.out⟩,⟨zD HB.out⟩⟩
                ·rw [if_neg c25] at H
                 exact absurd H (by simp)
               ·rw [if_neg c24] at H
                exact absurd H (by simp)
              ·rw [if_neg c23] at H
               have zW0:decide (vC < (((zV l0 zJ).f4).length:Int)) = false:=decide_eq_false c23
               clear c23
               have H':=zx.mk H
               clear H
               have iJ:0 ≤ (zJ:Int):=of_decide_eq_true yH
               have iV:zJ < (l0.length:Int):=of_decide_eq_true yH
               obtain ⟨zJZ,zd5,zd6,zd7,zd8,zd9,zez,e262,VI,VL,VN,VO,VP,VR,mK,mY,mW,mg,mh,mo⟩:=jw jm.out zJ iJ iV
               obtain rfl:yj = zJZ:=(by injection e262)
               replace VI:=(HB.out.cell (wb w _ VI)).trans VI
               replace VL:=(HB.out.cell (wb w _ VL)).trans VL
               replace VN:=(HB.out.cell (wb w _ VN)).trans VN
               replace VO:=(HB.out.cell (wb w _ VO)).trans VO
               replace VP:=(HB.out.cell (wb w _ VP)).trans VP
               replace VR:=(HB.out.cell (wb w _ VR)).trans VR
               have zbm:=zx.mk mY
               have zbn:=zx.mk mK
               clear mY mK
               have zbo:=zx.mk mg
               have zbp:=zx.mk mW
               clear mg mW
               have zbr:=zx.mk mo
               have zbs:=zx.mk mh
               clear mo mh
               replace iJ:=eq_true iJ
               replace iV:=eq_true iV
               go_wp2
               go_loopg [8] k3 (fun kq v8 w'=>∃ (vD:Int) (wZ:List (jJ)) (Xx:Value),v8 = .int .i64 vD ∧ zx (zW.l3 kq l0 yQ zJ vD ((zV l0 zJ).f0) ((zV l0 zJ).f1) ((zV l0 zJ).f2) uI jo wZ = some r) ∧ zx (kq ≤ k3) ∧ zx (Kd.S bZ 101 w' w.heap.size (fun k_=>some k_ ≠ (uN:Value).ownBlock ∧ some k_ ≠ (wz:Value).ownBlock ∧ some k_ ≠ (Xx:Value).ownBlock ∧ k_ ≠ zA) u3 yQ) ∧ zx (Kd.R Xj 106 w' w.heap.size (fun _=>True) uN uI) ∧ zx (Kd.R Xc 109 w' w.heap.size (fun _=>True) wz jo) ∧ zx (Kd.R QZ 112 w' w.heap.size (fun _=>True) Xx wZ) ∧ zx (w'.heap[zA]? = some (.cells #[.string ((zV l0 zJ).f0),.bool ((zV l0 zJ).f1),.int .i64 ((zV l0 zJ).f2),uN,wz,Xx] 101 (0,0))) ∧ zx (Below w.heap.size w w'))
               case atStart=>exact ⟨(0),(([]:List (jJ))),(.slice none 0 0),(by first | rfl | (simp;done) | (simp [*];done)),H',⟨Nat.le_refl _⟩,⟨by (with_reducible repeat (first | apply Kd.xB | apply Kd.xC | apply Kd.xG));exact Kd.vJ um.out (fun _ hk=>⟨hk.1,⟨hk.2.1,⟨(by simp [Value.ownBlock]),hk.2.2⟩⟩⟩)⟩,⟨Yl xZ.out⟩,⟨Yl uy.out⟩,⟨by first | exact Kd.jC _ _ _ _ _ | exact Kd.WG _ _ _ _ _ | exact Kd.WH _ _ _ _ _ | exact Kd.WC _ _ _ _ _ | exact Kd.Xo _ _ _ _ _⟩,⟨qK yZ.out⟩,⟨zD HB.out⟩⟩
               case round =>
                clear H'
                try clear c2
                try clear c21
                try clear zfO
                try clear c22
                try clear zfP
                try clear c23
                try clear zW0
                try clear c24
                try clear zkx
                try clear c25
                try clear J9
                try clear Kz
                try clear Vd
                try clear Ve
                try clear Vf
                try clear Kq
                try clear Kj
                try clear Kv
                try clear Kk
                try clear Ky
                try clear Vr
                try clear Vs
                try clear Vt
                try clear Kw
                try clear KZ
                try clear VI
                try clear VL
                try clear VN
                try clear VO
                try clear VP
                try clear VR
                try clear Pk
                try clear Py
                try clear Pw
                try clear VT
                try clear VU
                try clear V3
                try clear PZ
                try clear PV
                try clear PK
                try clear PY
                try clear PW
                try clear Pb
                try clear KQ
                try clear KX
                try clear KJ
                try clear Pf
                try clear Pg
                try clear Ph
                try clear Pm
                try clear Pn
                try clear Po
                try clear KV
                try clear KY
                try clear KW
                try clear Pp
                try clear Pt
                try clear PD
                try clear zjK
                try clear zjW
                try clear zjb
                try clear aZ
                try clear zkS
                try clear zkU
                try clear zk1
                try clear zk3
                try clear iJ
                try clear zJQ
                try clear zJJ
                try clear zJK
                try clear zJW
                try clear zJb
                try clear zJd
                try clear zjY
                try clear zja
                try clear zjc
                try clear aQ
                try clear zkT
                try clear zk0
                try clear zk2
                try clear zk4
                try clear iV
                try clear zJX
                try clear zJV
                try clear zJY
                try clear zJa
                try clear zJc
                try clear zJe
                obtain ⟨vD,wZ,Xx,rfl,HA,HK4,um,xZ,uy,wQ,yZ,HB⟩:=hrel
                cases gk with
                | zero=>exact absurd HA.out (by simp [zW.l3])
                | succ k4 =>
                 have H:=HA.out
                 clear HA
                 simp only [zW.l3] at H
                 by_cases c30:0 ≤ zJ
                 ·rw [if_pos c30] at H
                  have zt2:decide (0 ≤ zJ) = true:=decide_eq_true c30
                  clear c30
                  by_cases c31:zJ < (l0.length:Int)
                  ·rw [if_pos c31] at H
                   have zt3:decide (zJ < (l0.length:Int)) = true:=decide_eq_true c31
                   clear c31
                   by_cases c32:vD < (((zV l0 zJ).f5).length:Int)
                   ·rw [if_pos c32] at H
                    have zf1:decide (vD < (((zV l0 zJ).f5).length:Int)) = true:=decide_eq_true c32
                    clear c32
                    by_cases c33:0 ≤ vD
                    ·rw [if_pos c33] at H
                     have zt4:decide (0 ≤ vD) = true:=decide_eq_true c33
                     clear c33
                     by_cases c34:wZ.length < 3518437208883
                     ·rw [if_pos c34] at H
                      have zf2:=zx.mk c34
                      clear c34
                      obtain ⟨zzG,zqA⟩:∃ y_:List (jJ),y_ = (wZ ++ [(⟨(qw ((zV l0 zJ).f5) vD).f0,(qw ((zV l0 zJ).f5) vD).f1,(qw ((zV l0 zJ).f5) vD).f2⟩:jJ)]):=⟨_,rfl⟩
                      replace H:(zW.l3 k4 l0 yQ zJ (wrap64 (vD + 1)) ((zV l0 zJ).f0) ((zV l0 zJ).f1) ((zV l0 zJ).f2) uI jo zzG) = some r:=by first | (rw [zqA];with_reducible exact H) | (have uh:=(Option.bind_some _ _).symm.trans H;rw [zqA];with_reducible exact uh) | (have uh:=(Option.bind_some _ _).symm.trans H;with_reducible exact uh) | with_reducible exact H | (rw [zqA];exact H) | exact H
                      have zf3:=zx.mk zqA
                      clear zqA
                      have H':=zx.mk H
                      clear H
                      have zzH:0 ≤ (zJ:Int):=of_decide_eq_true yH
                      have zzI:zJ < (l0.length:Int):=of_decide_eq_true yH
                      obtain ⟨zJh,zex,zej,zev,zek,zey,zew,e272,Ka,Ke,Kg,Kh,Ki,Kl,mD,mE,mF,mG,mH,mI⟩:=jw jm.out zJ zzH zzI
                      obtain rfl:yj = zJh:=(by injection e272)
                      replace Ka:=(HB.out.cell (wb w _ Ka)).trans Ka
                      replace Ke:=(HB.out.cell (wb w _ Ke)).trans Ke
                      replace Kg:=(HB.out.cell (wb w _ Kg)).trans Kg
                      replace Kh:=(HB.out.cell (wb w _ Kh)).trans Kh
                      replace Ki:=(HB.out.cell (wb w _ Ki)).trans Ki
                      replace Kl:=(HB.out.cell (wb w _ Kl)).trans Kl
                      have zbE:=zx.mk mE
                      have zbF:=zx.mk mD
                      clear mE mD
                      have zbG:=zx.mk mG
                      have zbH:=zx.mk mF
                      clear mG mF
                      have zbI:=zx.mk mI
                      have zbL:=zx.mk mH
                      clear mI mH
                      replace zzH:=eq_true zzH
                      replace zzI:=eq_true zzI
                      try go_wp2
                      have ze:=zx.mk (Kd.xG um.out)
                      have zi:=zx.mk (Kd.Zz xZ.out)
                      have zo:=zx.mk (Kd.Zz uy.out)
                      have zT:=zx.mk (Kd.Zz wQ.out)
                      have qU:=zx.mk (y7 yZ.out)
                      have jI:=zx.mk (yY HB.out)
                      clear um xZ uy wQ yZ HB
                      have um:=ze
                      have xZ:=zi
                      have uy:=zo
                      have wQ:=zT
                      have yZ:=qU
                      have HB:=jI
                      clear ze zi zo zT qU jI
                      have zYb:0 ≤ (zJ:Int):=of_decide_eq_true yH
                      have zYc:zJ < (l0.length:Int):=of_decide_eq_true yH
                      obtain ⟨zf4,zyx,zyj,zyv,zyk,zs8,zyy,e273,mM,mO,mP,Km,Kn,Ko,zZj,zZv,zZk,zZy,zZw,zZZ⟩:=jw jm.out zJ zYb zYc
                      have Uh:=Ko
                      have Ui:=Kn
                      have Ul:=Km
                      have Um:=mP
                      have Un:=mO
                      have Uo:=mM
                      obtain rfl:yj = zf4:=(by injection e273)
                      replace mM:=(HB.out.cell (wb w _ mM)).trans mM
                      replace mO:=(HB.out.cell (wb w _ mO)).trans mO
                      replace mP:=(HB.out.cell (wb w _ mP)).trans mP
                      replace Km:=(HB.out.cell (wb w _ Km)).trans Km
                      replace Kn:=(HB.out.cell (wb w _ Kn)).trans Kn
                      replace Ko:=(HB.out.cell (wb w _ Ko)).trans Ko
                      have zbM:=zx.mk zZv
                      have zny:=zx.mk zZj
                      clear zZv zZj
                      have zbN:=zx.mk zZy
                      have znw:=zx.mk zZk
                      clear zZy zZk
                      have zZQ:=zx.mk zZZ
                      have znZ:=zx.mk zZw
                      clear zZZ zZw
                      replace zYb:=eq_true zYb
                      replace zYc:=eq_true zYc
                      have zYd:0 ≤ (vD:Int):=of_decide_eq_true yH
                      have zYe:vD < (((zV l0 zJ).f5).length:Int):=of_decide_eq_true yH
                      obtain ⟨Zf,e274,mR,mU,nk⟩:=Pz zZQ.out vD zYd zYe
                      have Ur:=nk
                      have Us:=mU
                      have Ut:=mR
                      cases e274
                      replace mR:=(HB.out.cell (wb w _ mR)).trans mR
                      replace mU:=(HB.out.cell (wb w _ mU)).trans mU
                      replace nk:=(HB.out.cell (wb w _ nk)).trans nk
                      replace zYd:=eq_true zYd
                      replace zYe:=eq_true zYe
                      have zYf:0 ≤ (zJ:Int):=of_decide_eq_true yH
                      have zYg:zJ < (l0.length:Int):=of_decide_eq_true yH
                      obtain ⟨zf5,zs9,ztz,ztq,ztx,ztj,ztv,e275,ny,nZ,nQ,PE,PG,PI,zZX,zZJ,zZV,zZK,zZY,zZW⟩:=jw jm.out zJ zYf zYg
                      have Uu:=PI
                      have UA:=PG
                      have UC:=PE
                      have UD:=nQ
                      have UE:=nZ
                      have UF:=ny
                      obtain rfl:yj = zf5:=(by injection e275)
                      replace ny:=(HB.out.cell (wb w _ ny)).trans ny
                      replace nZ:=(HB.out.cell (wb w _ nZ)).trans nZ
                      replace nQ:=(HB.out.cell (wb w _ nQ)).trans nQ
                      replace PE:=(HB.out.cell (wb w _ PE)).trans PE
                      replace PG:=(HB.out.cell (wb w _ PG)).trans PG
                      replace PI:=(HB.out.cell (wb w _ PI)).trans PI
                      have zbO:=zx.mk zZJ
                      have znQ:=zx.mk zZX
                      clear zZJ zZX
                      have zbP:=zx.mk zZK
                      have znX:=zx.mk zZV
                      clear zZK zZV
                      have zZa:=zx.mk zZW
                      have znJ:=zx.mk zZY
                      clear zZW zZY
                      replace zYf:=eq_true zYf
                      replace zYg:=eq_true zYg
                      have yO:=Option.some.inj (Km.symm.trans PE)
                      injection yO with yO vL vM
                      subst yO
                      subst vM
                      clear vL
                      have yO:=Option.some.inj (Kn.symm.trans PG)
                      injection yO with yO vL vM
                      subst yO
                      subst vM
                      clear vL
                      have yO:=Option.some.inj (Ko.symm.trans PI)
                      injection yO with yO vL vM
                      subst yO
                      subst vM
                      clear vL
                      have zYh:0 ≤ (vD:Int):=of_decide_eq_true yH
                      have zYi:vD < (((zV l0 zJ).f5).length:Int):=of_decide_eq_true yH
                      obtain ⟨zt5,ziV,nX,nJ,nV⟩:=Pz zZa.out vD zYh zYi
                      have UG:=nV
                      have UH:=nJ
                      have UL:=nX
                      cases ziV
                      replace nX:=(HB.out.cell (wb w _ nX)).trans nX
                      replace nJ:=(HB.out.cell (wb w _ nJ)).trans nJ
                      replace nV:=(HB.out.cell (wb w _ nV)).trans nV
                      replace zYh:=eq_true zYh
                      replace zYi:=eq_true zYi
                      have zYl:0 ≤ (zJ:Int):=of_decide_eq_true yH
                      have zYm:zJ < (l0.length:Int):=of_decide_eq_true yH
                      obtain ⟨zf6,ztk,zty,ztw,ztZ,ztQ,ztX,ziK,nK,nY,nW,PL,PN,PO,zZb,zZc,zZd,zZe,zZf,zZg⟩:=jw jm.out zJ zYl zYm
                      have UM:=PO
                      have UN:=PN
                      have UO:=PL
                      have UR:=nW
                      have UU:=nY
                      have U0:=nK
                      obtain rfl:yj = zf6:=(by injection ziK)
                      replace nK:=(HB.out.cell (wb w _ nK)).trans nK
                      replace nY:=(HB.out.cell (wb w _ nY)).trans nY
                      replace nW:=(HB.out.cell (wb w _ nW)).trans nW
                      replace PL:=(HB.out.cell (wb w _ PL)).trans PL
                      replace PN:=(HB.out.cell (wb w _ PN)).trans PN
                      replace PO:=(HB.out.cell (wb w _ PO)).trans PO
                      have zbR:=zx.mk zZc
                      have znV:=zx.mk zZb
                      clear zZc zZb
                      have zbS:=zx.mk zZe
                      have znK:=zx.mk zZd
                      clear zZe zZd
                      have zZh:=zx.mk zZg
                      have znY:=zx.mk zZf
                      clear zZg zZf
                      replace zYl:=eq_true zYl
                      replace zYm:=eq_true zYm
                      have yO:=Option.some.inj (Km.symm.trans PL)
                      injection yO with yO vL vM
                      subst yO
                      subst vM
                      clear vL
                      have yO:=Option.some.inj (Kn.symm.trans PN)
                      injection yO with yO vL vM
                      subst yO
                      subst vM
                      clear vL
                      have yO:=Option.some.inj (Ko.symm.trans PO)
                      injection yO with yO vL vM
                      subst yO
                      subst vM
                      clear vL
                      have zYn:0 ≤ (vD:Int):=of_decide_eq_true yH
                      have zYo:vD < (((zV l0 zJ).f5).length:Int):=of_decide_eq_true yH
                      obtain ⟨zt6,e278,ng,ni,nA⟩:=Pz zZh.out vD zYn zYo
                      have U1:=nA
                      have U2:=ni
                      have U3:=ng
                      cases e278
                      replace ng:=(HB.out.cell (wb w _ ng)).trans ng
                      replace ni:=(HB.out.cell (wb w _ ni)).trans ni
                      replace nA:=(HB.out.cell (wb w _ nA)).trans nA
                      replace zYn:=eq_true zYn
                      replace zYo:=eq_true zYo
                      refine Zq (n:=34) (S:=fun w'=>w'.cell? ⟨zA,0,none⟩ = some (.string ((zV l0 zJ).f0)) ∧ w'.cell? ⟨zA,1,none⟩ = some (.bool ((zV l0 zJ).f1)) ∧ w'.cell? ⟨zA,2,none⟩ = some (.int .i64 ((zV l0 zJ).f2)) ∧ w'.cell? ⟨zA,3,none⟩ = some (uN) ∧ w'.cell? ⟨zA,4,none⟩ = some (wz) ∧ w'.cell? ⟨zA,5,none⟩ = some (Xx) ∧ w'.cell? (yj.add ((zJ).toNat * 6)) = some (.string ((zV l0 zJ).f0)) ∧ w'.cell? ⟨(yj.add ((zJ).toNat * 6)).block,(yj.add ((zJ).toNat * 6)).off + 1,none⟩ = some (.bool ((zV l0 zJ).f1)) ∧ w'.cell? ⟨(yj.add ((zJ).toNat * 6)).block,(yj.add ((zJ).toNat * 6)).off + 2,none⟩ = some (.int .i64 ((zV l0 zJ).f2)) ∧ w'.cell? ⟨(yj.add ((zJ).toNat * 6)).block,(yj.add ((zJ).toNat * 6)).off + 3,none⟩ = some (.slice zyx ((zV l0 zJ).f3).length zyj) ∧ w'.cell? ⟨(yj.add ((zJ).toNat * 6)).block,(yj.add ((zJ).toNat * 6)).off + 4,none⟩ = some (.slice zyv ((zV l0 zJ).f4).length zyk) ∧ w'.cell? ⟨(yj.add ((zJ).toNat * 6)).block,(yj.add ((zJ).toNat * 6)).off + 5,none⟩ = some (.slice (some Zf) ((zV l0 zJ).f5).length zyy) ∧ w'.cell? (Zf.add ((vD).toNat * 3)) = some (.string ((qw ((zV l0 zJ).f5) vD).f0)) ∧ w'.cell? ⟨(Zf.add ((vD).toNat * 3)).block,(Zf.add ((vD).toNat * 3)).off + 1,none⟩ = some (.string ((qw ((zV l0 zJ).f5) vD).f1)) ∧ w'.cell? ⟨(Zf.add ((vD).toNat * 3)).block,(Zf.add ((vD).toNat * 3)).off + 2,none⟩ = some (.int .i64 ((qw ((zV l0 zJ).f5) vD).f2)) ∧ w'.cell? (yj.add ((zJ).toNat * 6)) = some (.string ((zV l0 zJ).f0)) ∧ w'.cell? ⟨(yj.add ((zJ).toNat * 6)).block,(yj.add ((zJ).toNat * 6)).off + 1,none⟩ = some (.bool ((zV l0 zJ).f1)) ∧ w'.cell? ⟨(yj.add ((zJ).toNat * 6)).block,(yj.add ((zJ).toNat * 6)).off + 2,none⟩ = some (.int .i64 ((zV l0 zJ).f2)) ∧ w'.cell? ⟨(yj.add ((zJ).toNat * 6)).block,(yj.add ((zJ).toNat * 6)).off + 3,none⟩ = some (.slice zyx ((zV l0 zJ).f3).length zyj) ∧ w'.cell? ⟨(yj.add ((zJ).toNat * 6)).block,(yj.add ((zJ).toNat * 6)).off + 4,none⟩ = some (.slice zyv ((zV l0 zJ).f4).length zyk) ∧ w'.cell? ⟨(yj.add ((zJ).toNat * 6)).block,(yj.add ((zJ).toNat * 6)).off + 5,none⟩ = some (.slice (some Zf) ((zV l0 zJ).f5).length zyy) ∧ w'.cell? (Zf.add ((vD).toNat * 3)) = some (.string ((qw ((zV l0 zJ).f5) vD).f0)) ∧ w'.cell? ⟨(Zf.add ((vD).toNat * 3)).block,(Zf.add ((vD).toNat * 3)).off + 1,none⟩ = some (.string ((qw ((zV l0 zJ).f5) vD).f1)) ∧ w'.cell? ⟨(Zf.add ((vD).toNat * 3)).block,(Zf.add ((vD).toNat * 3)).off + 2,none⟩ = some (.int .i64 ((qw ((zV l0 zJ).f5) vD).f2)) ∧ w'.cell? (yj.add ((zJ).toNat * 6)) = some (.string ((zV l0 zJ).f0)) ∧ w'.cell? ⟨(yj.add ((zJ).toNat * 6)).block,(yj.add ((zJ).toNat * 6)).off + 1,none⟩ = some (.bool ((zV l0 zJ).f1)) ∧ w'.cell? ⟨(yj.add ((zJ).toNat * 6)).block,(yj.add ((zJ).toNat * 6)).off + 2,none⟩ = some (.int .i64 ((zV l0 zJ).f2)) ∧ w'.cell? ⟨(yj.add ((zJ).toNat * 6)).block,(yj.add ((zJ).toNat * 6)).off + 3,none⟩ = some (.slice zyx ((zV l0 zJ).f3).length zyj) ∧ w'.cell? ⟨(yj.add ((zJ).toNat * 6)).block,(yj.add ((zJ).toNat * 6)).off + 4,none⟩ = some (.slice zyv ((zV l0 zJ).f4).length zyk) ∧ w'.cell? ⟨(yj.add ((zJ).toNat * 6)).block,(yj.add ((zJ).toNat * 6)).off + 5,none⟩ = some (.slice (some Zf) ((zV l0 zJ).f5).length zyy) ∧ w'.cell? (Zf.add ((vD).toNat * 3)) = some (.string ((qw ((zV l0 zJ).f5) vD).f0)) ∧ w'.cell? ⟨(Zf.add ((vD).toNat * 3)).block,(Zf.add ((vD).toNat * 3)).off + 1,none⟩ = some (.string ((qw ((zV l0 zJ).f5) vD).f1)) ∧ w'.cell? ⟨(Zf.add ((vD).toNat * 3)).block,(Zf.add ((vD).toNat * 3)).off + 2,none⟩ = some (.int .i64 ((qw ((zV l0 zJ).f5) vD).f2))) (ds:=[33]) #[false,false,false,false,false,false,false,false,false,false,false,false,false,false,false,false,false,false,false,false,false,false,false,false,false,false,false,false,false,false,false,false,false,false] (by kernel_rfl) rfl rfl ⟨zK yZ 0,zK yZ 1,zK yZ 2,zK yZ 3,zK yZ 4,zK yZ 5,((HB.out.cell (wb w _ Uo)).trans Uo),((HB.out.cell (wb w _ Un)).trans Un),((HB.out.cell (wb w _ Um)).trans Um),((HB.out.cell (wb w _ Ul)).trans Ul),((HB.out.cell (wb w _ Ui)).trans Ui),((HB.out.cell (wb w _ Uh)).trans Uh),((HB.out.cell (wb w _ Ut)).trans Ut),((HB.out.cell (wb w _ Us)).trans Us),((HB.out.cell (wb w _ Ur)).trans Ur),((HB.out.cell (wb w _ UF)).trans UF),((HB.out.cell (wb w _ UE)).trans UE),((HB.out.cell (wb w _ UD)).trans UD),((HB.out.cell (wb w _ UC)).trans UC),((HB.out.cell (wb w _ UA)).trans UA),((HB.out.cell (wb w _ Uu)).trans Uu),((HB.out.cell (wb w _ UL)).trans UL),((HB.out.cell (wb w _ UH)).trans UH),((HB.out.cell (wb w _ UG)).trans UG),((HB.out.cell (wb w _ U0)).trans U0),((HB.out.cell (wb w _ UU)).trans UU),((HB.out.cell (wb w _ UR)).trans UR),((HB.out.cell (wb w _ UO)).trans UO),((HB.out.cell (wb w _ UN)).trans UN),((HB.out.cell (wb w _ UM)).trans UM),((HB.out.cell (wb w _ U3)).trans U3),((HB.out.cell (wb w _ U2)).trans U2),((HB.out.cell (wb w _ U1)).trans U1)⟩ (fun hHeld=>?_);refine Yh zW.zkq zW.zqs (fun yX wY=>?_)
                      generalize wr.drew = w35 at um xZ uy wQ yZ HB zbM zbN zZQ zbO zbP zZa zbR zbS zZh mM mO mP Km Kn Ko mR mU nk ny nZ nQ PE PG PI nX nJ nV nK nY nW PL PN PO ng ni nA hHeld ⊢
                      refine q9 0 (some 118) yX ?_
                      refine q9 2 (some 120) yX ?_
                      refine q9 3 (some 121) yX ?_
                      refine q9 4 (some 122) yX ?_
                      refine q9 5 (some 123) yX ?_
                      refine q9 7 (some 125) yX ?_
                      refine q9 11 (some 129) yX ?_
                      refine q9 12 (some 130) yX ?_
                      refine q9 13 (some 131) yX ?_
                      refine q9 14 (some 132) yX ?_
                      refine q9 16 (some 134) yX ?_
                      refine q9 20 (some 138) yX ?_
                      refine q9 21 (some 139) yX ?_
                      refine q9 22 (some 140) yX ?_
                      refine q9 23 (some 141) yX ?_
                      refine q9 25 (some 143) yX ?_
                      refine ZI 1 (some 119) yX wY hHeld ?_
                      refine ZI 6 (some 124) yX wY hHeld ?_
                      refine q9 8 (some 126) yX ?_
                      refine q9 9 (some 127) yX ?_
                      refine ZI 10 (some 128) yX wY hHeld ?_
                      refine ZI 15 (some 133) yX wY hHeld ?_
                      refine q9 17 (some 135) yX ?_
                      refine q9 18 (some 136) yX ?_
                      refine ZI 19 (some 137) yX wY hHeld ?_
                      refine ZI 24 (some 142) yX wY hHeld ?_
                      refine q9 26 (some 144) yX ?_
                      refine q9 27 (some 145) yX ?_
                      refine ZI 28 (some 146) yX wY hHeld ?_
                      refine q9 29 (some 147) yX ?_
                      refine onS 30 (some 148) yX (fun K hK=>?_)
                      refine vaS ?_
                      refine hK.out _ _ ⟨(zX (yV yZ.out _) 0).trans rfl,(zX (yV yZ.out _) 1).trans rfl,(zX (yV yZ.out _) 2).trans rfl,(zX (yV yZ.out _) 3).trans rfl,(zX (yV yZ.out _) 4).trans rfl,(zX (yV yZ.out _) 5).trans rfl,(World.cell?_alloc_lt _ _ _ (wb _ _ (((HB.out.cell (wb w _ Uo)).trans Uo)))).trans (((HB.out.cell (wb w _ Uo)).trans Uo)),(World.cell?_alloc_lt _ _ _ (wb _ _ (((HB.out.cell (wb w _ Un)).trans Un)))).trans (((HB.out.cell (wb w _ Un)).trans Un)),(World.cell?_alloc_lt _ _ _ (wb _ _ (((HB.out.cell (wb w _ Um)).trans Um)))).trans (((HB.out.cell (wb w _ Um)).trans Um)),(World.cell?_alloc_lt _ _ _ (wb _ _ (((HB.out.cell (wb w _ Ul)).trans Ul)))).trans (((HB.out.cell (wb w _ Ul)).trans Ul)),(World.cell?_alloc_lt _ _ _ (wb _ _ (((HB.out.cell (wb w _ Ui)).trans Ui)))).trans (((HB.out.cell (wb w _ Ui)).trans Ui)),(World.cell?_alloc_lt _ _ _ (wb _ _ (((HB.out.cell (wb w _ Uh)).trans Uh)))).trans (((HB.out.cell (wb w _ Uh)).trans Uh)),(World.cell?_alloc_lt _ _ _ (wb _ _ (((HB.out.cell (wb w _ Ut)).trans Ut)))).trans (((HB.out.cell (wb w _ Ut)).trans Ut)),(World.cell?_alloc_lt _ _ _ (wb _ _ (((HB.out.cell (wb w _ Us)).trans Us)))).trans (((HB.out.cell (wb w _ Us)).trans Us)),(World.cell?_alloc_lt _ _ _ (wb _ _ (((HB.out.cell (wb w _ Ur)).trans Ur)))).trans (((HB.out.cell (wb w _ Ur)).trans Ur)),(World.cell?_alloc_lt _ _ _ (wb _ _ (((HB.out.cell (wb w _ UF)).trans UF)))).trans (((HB.out.cell (wb w _ UF)).trans UF)),(World.cell?_alloc_lt _ _ _ (wb _ _ (((HB.out.cell (wb w _ UE)).trans UE)))).trans (((HB.out.cell (wb w _ UE)).trans UE)),(World.cell?_alloc_lt _ _ _ (wb _ _ (((HB.out.cell (wb w _ UD)).trans UD)))).trans (((HB.out.cell (wb w _ UD)).trans UD)),(World.cell?_alloc_lt _ _ _ (wb _ _ (((HB.out.cell (wb w _ UC)).trans UC)))).trans (((HB.out.cell (wb w _ UC)).trans UC)),(World.cell?_alloc_lt _ _ _ (wb _ _ (((HB.out.cell (wb w _ UA)).trans UA)))).trans (((HB.out.cell (wb w _ UA)).trans UA)),(World.cell?_alloc_lt _ _ _ (wb _ _ (((HB.out.cell (wb w _ Uu)).trans Uu)))).trans (((HB.out.cell (wb w _ Uu)).trans Uu)),(World.cell?_alloc_lt _ _ _ (wb _ _ (((HB.out.cell (wb w _ UL)).trans UL)))).trans (((HB.out.cell (wb w _ UL)).trans UL)),(World.cell?_alloc_lt _ _ _ (wb _ _ (((HB.out.cell (wb w _ UH)).trans UH)))).trans (((HB.out.cell (wb w _ UH)).trans UH)),(World.cell?_alloc_lt _ _ _ (wb _ _ (((HB.out.cell (wb w _ UG)).trans UG)))).trans (((HB.out.cell (wb w _ UG)).trans UG)),(World.cell?_alloc_lt _ _ _ (wb _ _ (((HB.out.cell (wb w _ U0)).trans U0)))).trans (((HB.out.cell (wb w _ U0)).trans U0)),(World.cell?_alloc_lt _ _ _ (wb _ _ (((HB.out.cell (wb w _ UU)).trans UU)))).trans (((HB.out.cell (wb w _ UU)).trans UU)),(World.cell?_alloc_lt _ _ _ (wb _ _ (((HB.out.cell (wb w _ UR)).trans UR)))).trans (((HB.out.cell (wb w _ UR)).trans UR)),(World.cell?_alloc_lt _ _ _ (wb _ _ (((HB.out.cell (wb w _ UO)).trans UO)))).trans (((HB.out.cell (wb w _ UO)).trans UO)),(World.cell?_alloc_lt _ _ _ (wb _ _ (((HB.out.cell (wb w _ UN)).trans UN)))).trans (((HB.out.cell (wb w _ UN)).trans UN)),(World.cell?_alloc_lt _ _ _ (wb _ _ (((HB.out.cell (wb w _ UM)).trans UM)))).trans (((HB.out.cell (wb w _ UM)).trans UM)),(World.cell?_alloc_lt _ _ _ (wb _ _ (((HB.out.cell (wb w _ U3)).trans U3)))).trans (((HB.out.cell (wb w _ U3)).trans U3)),(World.cell?_alloc_lt _ _ _ (wb _ _ (((HB.out.cell (wb w _ U2)).trans U2)))).trans (((HB.out.cell (wb w _ U2)).trans U2)),(World.cell?_alloc_lt _ _ _ (wb _ _ (((HB.out.cell (wb w _ U1)).trans U1)))).trans (((HB.out.cell (wb w _ U1)).trans U1))⟩ (fun hHeld=>?_)
                      clear hK K
                      refine noS (some 148) ?_
                      refine onS 31 (some 149) yX (fun K hK=>?_)
                      refine Kd.Zi QZ (w0:=w) w.heap.size (by rfl) (.tmp 119) (.tmp 148) 99 112 (.agg #[(.string ⟨#[]⟩),(.string ⟨#[]⟩),(.int .i64 0)]) 40 rfl Tryz.underlying99 zaM rfl (by decide) (by omega) Xx wZ (⟨(qw ((zV l0 zJ).f5) vD).f0,(qw ((zV l0 zJ).f5) vD).f1,(qw ((zV l0 zJ).f5) vD).f2⟩:jJ) [.string ((qw ((zV l0 zJ).f5) vD).f0),.string ((qw ((zV l0 zJ).f5) vD).f1),.int .i64 ((qw ((zV l0 zJ).f5) vD).f2)] (fun _=>True) (fun _=>False) rfl rfl ?aP (fun _ hk=>hk.elim) ?aF ?aO ?aB ?aS ?aL ?_
                      (case aP=>exact zKU _ _ _ (⟨(qw ((zV l0 zJ).f5) vD).f0,(qw ((zV l0 zJ).f5) vD).f1,(qw ((zV l0 zJ).f5) vD).f2⟩:jJ))
                      (case aB=>exact (zD HB.out))
                      (case aF=>exact (fun _ _=>trivial))
                      (case aO=>exact (Yl wQ.out))
                      (case aS=>exact (zm (zD HB.out)))
                      (case aL=>have:=zf2.out;omega)
                      intro zuO w36 ho hb hg hat
                      rw [← zf3.out] at ho
                      have ze:=zx.mk (Kd.WT (ok:=(fun k_=>some k_ ≠ (uN:Value).ownBlock ∧ some k_ ≠ (wz:Value).ownBlock ∧ k_ ≠ zA)) (by (with_reducible repeat (first | apply Kd.xB | apply Kd.xC | apply Kd.xG));exact Kd.vJ um.out (fun _ hk=>⟨⟨hk.1,⟨hk.2.1,hk.2.2.2⟩⟩,hk.2.2.1⟩)) hg hat)
                      have zi:=zx.mk (Kd.zxx (Yl xZ.out) (Kd.lD (Yl wQ.out)) (by decide) hg)
                      have zo:=zx.mk (Kd.zxx (Yl uy.out) (Kd.lD (Yl wQ.out)) (by decide) hg)
                      have zT:=zx.mk (uK (g:=zA) (o:=.cells #[.string ((zV l0 zJ).f0),.bool ((zV l0 zJ).f1),.int .i64 ((zV l0 zJ).f2),uN,wz,Xx] 101 (0,0)) (qK yZ.out) hg (Kd.Qu wQ.out yZ.out (by decide)))
                      have qU:=zx.mk (hb)
                      have jI:=zx.mk (ho)
                      clear um xZ uy yZ HB wQ
                      have um:=ze
                      have xZ:=zi
                      have uy:=zo
                      have yZ:=zT
                      have HB:=qU
                      have zW2:=jI
                      clear ze zi zo zT qU jI ho hb hg hat
                      obtain ⟨zyw,zyZ,zeZ⟩:=Kd.xA zW2.out
                      (first | subst zeZ | (injection zeZ with f1_ f2_ f3_;have f4_:=f1_.symm;have f5_:=f3_.symm;clear f1_ f2_ f3_;subst f4_;subst f5_))
                      refine hK.out _ _ ⟨zK yZ 0,zK yZ 1,zK yZ 2,zK yZ 3,zK yZ 4,zK yZ 5,((HB.out.cell (wb w _ Uo)).trans Uo),((HB.out.cell (wb w _ Un)).trans Un),((HB.out.cell (wb w _ Um)).trans Um),((HB.out.cell (wb w _ Ul)).trans Ul),((HB.out.cell (wb w _ Ui)).trans Ui),((HB.out.cell (wb w _ Uh)).trans Uh),((HB.out.cell (wb w _ Ut)).trans Ut),((HB.out.cell (wb w _ Us)).trans Us),((HB.out.cell (wb w _ Ur)).trans Ur),((HB.out.cell (wb w _ UF)).trans UF),((HB.out.cell (wb w _ UE)).trans UE),((HB.out.cell (wb w _ UD)).trans UD),((HB.out.cell (wb w _ UC)).trans UC),((HB.out.cell (wb w _ UA)).trans UA),((HB.out.cell (wb w _ Uu)).trans Uu),((HB.out.cell (wb w _ UL)).trans UL),((HB.out.cell (wb w _ UH)).trans UH),((HB.out.cell (wb w _ UG)).trans UG),((HB.out.cell (wb w _ U0)).trans U0),((HB.out.cell (wb w _ UU)).trans UU),((HB.out.cell (wb w _ UR)).trans UR),((HB.out.cell (wb w _ UO)).trans UO),((HB.out.cell (wb w _ UN)).trans UN),((HB.out.cell (wb w _ UM)).trans UM),((HB.out.cell (wb w _ U3)).trans U3),((HB.out.cell (wb w _ U2)).trans U2),((HB.out.cell (wb w _ U1)).trans U1)⟩ (fun hHeld=>?_)
                      clear hK K
                      refine noS (some 149) ?_
                      refine q9 32 (some 150) yX ?_
                      refine dZ (i:=33) (N:=none) #[true,true,true,true,true,true,true,true,true,true,true,true,true,true,true,true,true,true,true,true,true,true,true,true,true,true,true,true,true,true,true,true,true,true] rfl rfl (jF yX.out (by kernel_rfl)) (by decide) (fun K hK=>?_)
                      have zuP:w36.cell? ⟨zA,5,none⟩ = some (Xx):=zK yZ 5
                      have zt7:=zw yZ.out 5
                      refine U9 (w1:=?_) (by rfl) rfl ?_ ?_
                      rotate_left
                      ·go_simp
                       rfl
                      refine hK.out _ _ ?_
                      clear hK K
                      refine xE (qW yX.out (by kernel_rfl)) ?_
                      try go_wp2
                      go_roundg k4
                      case measure=>have:=wo.out;have:=Qw.out;have:=fK.out;have:=HK4.out;omega
                      case rel=>exact ⟨(wrap64 (vD + 1)),(zzG),(.slice zyw zzG.length zyZ),(by first | rfl | (simp;done) | (simp [*];done)),H',⟨by have:=wo.out;have:=Qw.out;have:=fK.out;have:=HK4.out;omega⟩,⟨by (with_reducible repeat (first | apply Kd.xB | apply Kd.xC | apply Kd.xG));exact Kd.vJ (Kd.ji (p:=⟨zA,5,none⟩) (Kd.vJ um.out (fun k_ hk=>(⟨hk,hk.1.2.2⟩:_ ∧ k_ ≠ zA))) (fun _ hk=>hk.2) (.slice zyw zzG.length zyZ)) (fun _ hk=>⟨hk.1.1.1,⟨hk.1.1.2.1,⟨hk.1.2,hk.1.1.2.2⟩⟩⟩)⟩,⟨by (with_reducible repeat (first | apply Kd.QT | apply Kd.QU | apply Kd.Zz));exact Kd.qO (Kd.wC (p:=⟨zA,5,none⟩) (Kd.uM xZ.out yZ.out (by decide)) (fun _ hk=>hk.2) (.slice zyw zzG.length zyZ)) (fun _ hk=>trivial)⟩,⟨by (with_reducible repeat (first | apply Kd.QT | apply Kd.QU | apply Kd.Zz));exact Kd.qO (Kd.wC (p:=⟨zA,5,none⟩) (Kd.uM uy.out yZ.out (by decide)) (fun _ hk=>hk.2) (.slice zyw zzG.length zyZ)) (fun _ hk=>trivial)⟩,⟨by (with_reducible repeat (first | apply Kd.QT | apply Kd.QU | apply Kd.Zz));exact Kd.qO (Kd.wC (p:=⟨zA,5,none⟩) (Kd.uM zW2.out yZ.out (by decide)) (fun _ hk=>hk.2) (.slice zyw zzG.length zyZ)) (fun _ hk=>trivial)⟩,⟨by (with_reducible repeat (first | refine qj ?_ _ | refine y7 ?_ | refine yV ?_ _));refine qz (cs:=#[.string ((zV l0 zJ).f0),.bool ((zV l0 zJ).f1),.int .i64 ((zV l0 zJ).f2),uN,wz,Xx]) ?_ 5 _ rfl;(with_reducible repeat (first | refine qj ?_ _ | refine y7 ?_ | refine yV ?_ _));exact yZ.out⟩,⟨zD HB.out⟩⟩
                     ·rw [if_neg c34] at H
                      exact absurd H (by simp)
                    ·rw [if_neg c33] at H
                     exact absurd H (by simp)
                   ·rw [if_neg c32] at H
                    have zf1:decide (vD < (((zV l0 zJ).f5).length:Int)) = false:=decide_eq_false c32
                    clear c32
                    by_cases c39:yQ.length < 1353245080339
                    ·rw [if_pos c39] at H
                     have zf7:=zx.mk c39
                     clear c39
                     obtain ⟨zeQ,zqB⟩:∃ y_:List (jr),y_ = (yQ ++ [(⟨((zV l0 zJ).f0),((zV l0 zJ).f1),((zV l0 zJ).f2),uI,jo,wZ⟩:jr)]):=⟨_,rfl⟩
                     replace H:(zW.l0 k4 l0 zeQ (wrap64 (zJ + 1))) = some r:=by first | (rw [zqB];with_reducible exact H) | (have uh:=(Option.bind_some _ _).symm.trans H;rw [zqB];with_reducible exact uh) | (have uh:=(Option.bind_some _ _).symm.trans H;with_reducible exact uh) | with_reducible exact H | (rw [zqB];exact H) | exact H
                     have zf8:=zx.mk zqB
                     clear zqB
                     have H':=zx.mk H
                     clear H
                     have zzH:0 ≤ (zJ:Int):=of_decide_eq_true yH
                     have zzI:zJ < (l0.length:Int):=of_decide_eq_true yH
                     obtain ⟨zJh,zex,zej,zev,zek,zey,zew,e272,Ka,Ke,Kg,Kh,Ki,Kl,mD,mE,mF,mG,mH,mI⟩:=jw jm.out zJ zzH zzI
                     obtain rfl:yj = zJh:=(by injection e272)
                     replace Ka:=(HB.out.cell (wb w _ Ka)).trans Ka
                     replace Ke:=(HB.out.cell (wb w _ Ke)).trans Ke
                     replace Kg:=(HB.out.cell (wb w _ Kg)).trans Kg
                     replace Kh:=(HB.out.cell (wb w _ Kh)).trans Kh
                     replace Ki:=(HB.out.cell (wb w _ Ki)).trans Ki
                     replace Kl:=(HB.out.cell (wb w _ Kl)).trans Kl
                     have zbE:=zx.mk mE
                     have zbF:=zx.mk mD
                     clear mE mD
                     have zbG:=zx.mk mG
                     have zbH:=zx.mk mF
                     clear mG mF
                     have zbI:=zx.mk mI
                     have zbL:=zx.mk mH
                     clear mI mH
                     replace zzH:=eq_true zzH
                     replace zzI:=eq_true zzI
                     have zZi:wr.cell? ⟨zA,0,none⟩ = some (.string ((zV l0 zJ).f0)):=zK yZ 0
                     have zZl:wr.cell? ⟨zA,1,none⟩ = some (.bool ((zV l0 zJ).f1)):=zK yZ 1
                     have zZm:wr.cell? ⟨zA,2,none⟩ = some (.int .i64 ((zV l0 zJ).f2)):=zK yZ 2
                     have zZn:wr.cell? ⟨zA,3,none⟩ = some (uN):=zK yZ 3
                     have zZo:wr.cell? ⟨zA,4,none⟩ = some (wz):=zK yZ 4
                     have zZp:wr.cell? ⟨zA,5,none⟩ = some (Xx):=zK yZ 5
                     have zZr:=zw yZ.out 0
                     have zZs:=zw yZ.out 1
                     have zZt:=zw yZ.out 2
                     have zZu:=zw yZ.out 3
                     have zZA:=zw yZ.out 4
                     have zZB:=zw yZ.out 5
                     obtain ⟨QY,QW,zYp⟩:=Kd.xA xZ.out
                     subst zYp
                     obtain ⟨zJi,zJl,ziY⟩:=Kd.xA uy.out
                     subst ziY
                     obtain ⟨gK,gY,zYr⟩:=Kd.xA wQ.out
                     subst zYr
                     go_wp2_with (first | ((with_reducible refine jG (b:=.append) (xs:=#[.tmp 151,.tmp 153]) rfl ?_);at_builtin;refine Kd.tu bZ (w0:=w) w.heap.size rfl (.tmp 151) (.tmp 153) 39 101 (.agg #[(.string ⟨#[]⟩),(.bool false),(.int .i64 0),(.slice none 0 0),(.slice none 0 0),(.slice none 0 0)]) 104 rfl Tryz.underlying39 zaH rfl (by decide) (by omega) u3 yQ (⟨((zV l0 zJ).f0),((zV l0 zJ).f1),((zV l0 zJ).f2),uI,jo,wZ⟩:jr) [.string ((zV l0 zJ).f0),.bool ((zV l0 zJ).f1),.int .i64 ((zV l0 zJ).f2),.slice QY uI.length QW,.slice zJi jo.length zJl,.slice gK wZ.length gY] (fun k_=>k_ ≠ zA) (fun k_=>some k_ = (.slice QY uI.length QW:Value).ownBlock ∨ some k_ = (.slice zJi jo.length zJl:Value).ownBlock ∨ some k_ = (.slice gK wZ.length gY:Value).ownBlock) rfl rfl ?aP (fun k_ vN=>vN.elim (fun h_=>((Kd.qO (ok':=fun k_=>((fun k_=>k_ ≠ zA)) k_ ∧ some k_ ≠ (u3:Value).ownBlock) (Kd.uM (Kd.pI (xZ.out) (Kd.Zn um.out) (by decide)) yZ.out (by decide)) (fun k_ hk=>⟨hk.2,hk.1.2⟩))).1 k_ h_.symm) (fun h_=>h_.elim (fun h_=>((Kd.qO (ok':=fun k_=>((fun k_=>k_ ≠ zA)) k_ ∧ some k_ ≠ (u3:Value).ownBlock) (Kd.uM (Kd.pI (uy.out) (Kd.Zn um.out) (by decide)) yZ.out (by decide)) (fun k_ hk=>⟨hk.2,hk.1.2⟩))).1 k_ h_.symm) (fun h_=>((Kd.qO (ok':=fun k_=>((fun k_=>k_ ≠ zA)) k_ ∧ some k_ ≠ (u3:Value).ownBlock) (Kd.uM (Kd.pI (wQ.out) (Kd.Zn um.out) (by decide)) yZ.out (by decide)) (fun k_ hk=>⟨hk.2,hk.1.2⟩))).1 k_ h_.symm))) ?aF ?aO ?aB ?aS ?aL ?_;(case aP=>exact zK0 _ _ _ (⟨((zV l0 zJ).f0),((zV l0 zJ).f1),((zV l0 zJ).f2),uI,jo,wZ⟩:jr) (Kd.qO (Kd.JK rfl (Kd.qO (ok':=fun k_=>((fun k_=>k_ ≠ zA)) k_ ∧ some k_ ≠ (u3:Value).ownBlock) (Kd.uM (Kd.pI (xZ.out) (Kd.Zn um.out) (by decide)) yZ.out (by decide)) (fun k_ hk=>⟨hk.2,hk.1.2⟩))) (fun _ h_=>Or.inl h_)) (Kd.qO (Kd.JK rfl (Kd.qO (ok':=fun k_=>((fun k_=>k_ ≠ zA)) k_ ∧ some k_ ≠ (u3:Value).ownBlock) (Kd.uM (Kd.pI (uy.out) (Kd.Zn um.out) (by decide)) yZ.out (by decide)) (fun k_ hk=>⟨hk.2,hk.1.2⟩))) (fun _ h_=>Or.inr (Or.inl h_))) (Kd.qO (Kd.JK rfl (Kd.qO (ok':=fun k_=>((fun k_=>k_ ≠ zA)) k_ ∧ some k_ ≠ (u3:Value).ownBlock) (Kd.uM (Kd.pI (wQ.out) (Kd.Zn um.out) (by decide)) yZ.out (by decide)) (fun k_ hk=>⟨hk.2,hk.1.2⟩))) (fun _ h_=>Or.inr (Or.inr (h_)))));(case aB=>exact (zD HB.out));(case aF=>exact (fun k_ hk=>Kd.kC (g:=zA) (o:=.cells #[.string ((zV l0 zJ).f0),.bool ((zV l0 zJ).f1),.int .i64 ((zV l0 zJ).f2),.slice QY uI.length QW,.slice zJi jo.length zJl,.slice gK wZ.length gY] 101 (0,0)) (qK yZ.out) k_ hk));(case aO=>exact (by (with_reducible repeat (first | apply Kd.xB | apply Kd.xC | apply Kd.xG));exact Kd.vJ um.out (fun k_ hk=>⟨hk.2.2.2,fun e_=>e_.elim (fun h_=>hk.1 h_) (fun h_=>h_.elim (fun h_=>hk.2.1 h_) (fun h_=>hk.2.2.1 h_))⟩)));(case aS=>exact (zm (zD HB.out)));(case aL=>have:=zf7.out;omega);intro zuR w41 ho hb hg hat;rw [← zf8.out] at ho;have ze:=zx.mk (uK (g:=zA) (o:=.cells #[.string ((zV l0 zJ).f0),.bool ((zV l0 zJ).f1),.int .i64 ((zV l0 zJ).f2),.slice QY uI.length QW,.slice zJi jo.length zJl,.slice gK wZ.length gY] 101 (0,0)) (qK yZ.out) hg (Kd.zqW um.out (fun _ hk=>hk.2.2.2)));have zi:=zx.mk (hb);have zo:=zx.mk (ho);clear yZ;clear HB;clear um;clear xZ;clear uy;clear wQ;have yZ:=ze;have HB:=zi;have zf9:=zo;clear ze zi zo;clear ho hb hg hat))
                     go_roundg k4
                     case measure=>have:=wo.out;have:=Qw.out;have:=fK.out;have:=HK4.out;omega
                     case rel=>exact ⟨(zeQ),(wrap64 (zJ + 1)),(by first | rfl | (simp;done) | (simp [*];done)),H',⟨by have:=wo.out;have:=Qw.out;have:=fK.out;have:=HK4.out;omega⟩,⟨by (with_reducible repeat (first | apply Kd.xB | apply Kd.xC | apply Kd.xG));exact Kd.vJ zf9.out (fun _ hk=>trivial)⟩,⟨zD HB.out⟩⟩
                    ·rw [if_neg c39] at H
                     exact absurd H (by simp)
                  ·rw [if_neg c31] at H
                   exact absurd H (by simp)
                 ·rw [if_neg c30] at H
                  exact absurd H (by simp)
             ·rw [if_neg c22] at H
              exact absurd H (by simp)
            ·rw [if_neg c21] at H
             exact absurd H (by simp)
        ·rw [if_neg c13] at H
         exact absurd H (by simp)
       ·rw [if_neg c12] at H
        exact absurd H (by simp)
    ·rw [if_neg c3] at H
     exact absurd H (by simp)
   ·rw [if_neg c2] at H
    have bQ:decide (zJ < (l0.length:Int)) = false:=decide_eq_false c2
    clear c2
    obtain rfl:=Option.some.inj H
    go_wp2
    go_ret
    exact ⟨_,by first | rfl | (simp [zH,zI] <;> rfl) | (simp [*,zH,zI] <;> rfl),by (with_reducible repeat (first | apply Kd.xB | apply Kd.xC | apply Kd.xG));exact um.out,by repeat (first | (with_reducible first | exact HB.out | apply yJ | apply zC | apply yY) | exact HB.out)⟩
end Go.Proofs.YtggifbbiiickmaaGreatDoor.PX
namespace Go.Proofs.YtggifbbiiickmaaGreatDoor.PX
open Go.RowKit Go.Proofs.zk.za Go.Proofs.zk.zS Go.Proofs.zk.zR
attribute [local go_sem] qD qE xJ xV qc qd qF qG   -- for this text's walks alone
set_option linter.unusedVariables false
set_option linter.unusedSimpArgs false
def qg.l0:Nat → List (jr) → Int → Option (Bool)
 | 0,_,_=>none
 | k + 1,x0,x3=>if x3 < (x0.length:Int) then (if 0 ≤ x3 then ((xw.f ((zl x0 x3).f0) ((zl x0 x3).f1) ((zl x0 x3).f2) ((zl x0 x3).f3) ((zl x0 x3).f4) ((zl x0 x3).f5)).bind fun zJm=>(if zJm = true then (qg.l0 k x0 (wrap64 (x3 + 1))) else (some false))) else (none)) else (some true)
def qg.f (k:Nat) (l0:List (jr)):Option (Bool):=qg.l0 k l0 0
set_option maxHeartbeats 8000000 in
set_option maxRecDepth 100000 in
theorem qg.calls (k:Nat) (A0:Option Addr) (c0:Nat) (l0:List (jr)) (r:Bool) (w:World) (hr0:Kd.C bZ w A0 l0.length l0) (hc0:l0.length ≤ c0) (h:qg.f k l0 = some r) :
  Calls Tryz.prog 47 #[.slice A0 l0.length c0] w fun e w'=>e = .returned (.bool r) ∧ Below w.heap.size w w':=by
 have lI:=Tryz.underlying101
 have jm:=zx.mk hr0
 have HC0:=zx.mk hc0
 clear hr0 hc0
 have HB:=zx.mk (Below.refl w.heap.size w)
 have H:(qg.l0 k l0 0) = some r:=h
 clear h
 have H':=zx.mk H
 clear H
 go_enter Tryz.func47,Tryz.ntmps47
 go_wp2
 go_loopg [3] k (fun kq v3 w'=>∃ (yQ:Int),v3 = .int .i64 yQ ∧ zx (qg.l0 kq l0 yQ = some r) ∧ zx (kq ≤ k) ∧ zx (Below w.heap.size w w'))
 case atStart=>exact ⟨(0),(by first | rfl | (simp;done) | (simp [*];done)),H',⟨Nat.le_refl _⟩,⟨zD HB.out⟩⟩
 case round =>
  clear H'
  obtain ⟨yQ,rfl,HA,wo,HB⟩:=hrel
  cases gk with
  | zero=>exact absurd HA.out (by simp [qg.l0])
  | succ k1 =>
   have H:=HA.out
   clear HA
   simp only [qg.l0] at H
   by_cases c2:yQ < (l0.length:Int)
   ·rw [if_pos c2] at H
    have bQ:decide (yQ < (l0.length:Int)) = true:=decide_eq_true c2
    clear c2
    by_cases c3:0 ≤ yQ
    ·rw [if_pos c3] at H
     have ZN:decide (0 ≤ yQ) = true:=decide_eq_true c3
     clear c3
     replace H:=Option.bind_eq_some_iff.mp H
     obtain ⟨zJm,A40,H⟩:=H
     replace H:(if zJm = true then (qg.l0 k1 l0 (wrap64 (yQ + 1))) else (some false)) = some r:=H
     have A4:=zx.mk A40
     clear A40
     by_cases c5:zJm = true
     ·subst c5
      have H1:(qg.l0 k1 l0 (wrap64 (yQ + 1))) = some r:=by rw [if_pos rfl] at H;exact H
      clear H
      have H:=H1
      clear H1
      have H':=zx.mk H
      clear H
      have zzL:0 ≤ (yQ:Int):=of_decide_eq_true yH
      have zzM:yQ < (l0.length:Int):=of_decide_eq_true yH
      obtain ⟨zgz,zyQ,zyX,zyJ,zyV,zyK,zyY,zYs,Kt,Ku,KA,KC,KD,KE,nC,nD,nE,nG,nH,nI⟩:=Q7 jm.out yQ zzL zzM
      cases zYs
      replace Kt:=(HB.out.cell (World.block_lt_of_cell? w _ Kt)).trans Kt
      replace Ku:=(HB.out.cell (World.block_lt_of_cell? w _ Ku)).trans Ku
      replace KA:=(HB.out.cell (World.block_lt_of_cell? w _ KA)).trans KA
      replace KC:=(HB.out.cell (World.block_lt_of_cell? w _ KC)).trans KC
      replace KD:=(HB.out.cell (World.block_lt_of_cell? w _ KD)).trans KD
      replace KE:=(HB.out.cell (World.block_lt_of_cell? w _ KE)).trans KE
      have zje:=zx.mk nD
      have zjf:=zx.mk nC
      clear nD nC
      have zjg:=zx.mk nG
      have zjh:=zx.mk nE
      clear nG nE
      have zji:=zx.mk nI
      have zjl:=zx.mk nH
      clear nI nH
      replace zzL:=eq_true zzL
      replace zzM:=eq_true zzM
      go_wp2_with (first | ((with_reducible refine yx (f:=106) rfl ?_);refine uD (some 14) Tryz.func106 #[.agg #[.string ((zl l0 yQ).f0),.bool ((zl l0 yQ).f1),.int .i64 ((zl l0 yQ).f2),.slice zyQ ((zl l0 yQ).f3).length zyX,.slice zyJ ((zl l0 yQ).f4).length zyV,.slice zyK ((zl l0 yQ).f5).length zyY]] ?_;(with_reducible refine (xw.calls ((zl l0 yQ).f0) ((zl l0 yQ).f1) ((zl l0 yQ).f2) _ _ ((zl l0 yQ).f3) _ _ ((zl l0 yQ).f4) _ _ ((zl l0 yQ).f5) true _ ?yh ?yD ?qX ?qJ ?qR ?xg A4.out).mono ?_);(case yh=>exact qM (Kd.zh zje.out HB.out));(case yD=>exact zjf.out);(case qX=>exact qM (Kd.zh zjg.out HB.out));(case qJ=>exact zjh.out);(case qR=>exact qM (Kd.zh zji.out HB.out));(case xg=>exact zjl.out);rintro e w6 ⟨rfl,hb⟩;refine ⟨_,rfl,?_⟩;have ze:=zx.mk (zu (zD HB.out) hb);clear HB;have HB:=ze;clear ze;(try clear hb);(try clear hi)))
      go_roundg k1
      case measure=>have:=wo.out;omega
      case rel=>exact ⟨(wrap64 (yQ + 1)),(by first | rfl | (simp;done) | (simp [*];done)),H',⟨by have:=wo.out;omega⟩,⟨zD HB.out⟩⟩
     ·replace c5:=Bool.eq_false_iff.mpr c5
      subst c5
      have H1:(some false) = some r:=by rw [if_neg (show ¬ (false = true) by decide)] at H;exact H
      clear H
      have H:=H1
      clear H1
      obtain rfl:=Option.some.inj H
      have zzL:0 ≤ (yQ:Int):=of_decide_eq_true yH
      have zzM:yQ < (l0.length:Int):=of_decide_eq_true yH
      obtain ⟨zgz,zyQ,zyX,zyJ,zyV,zyK,zyY,zYs,Kt,Ku,KA,KC,KD,KE,nC,nD,nE,nG,nH,nI⟩:=Q7 jm.out yQ zzL zzM
      cases zYs
      replace Kt:=(HB.out.cell (World.block_lt_of_cell? w _ Kt)).trans Kt
      replace Ku:=(HB.out.cell (World.block_lt_of_cell? w _ Ku)).trans Ku
      replace KA:=(HB.out.cell (World.block_lt_of_cell? w _ KA)).trans KA
      replace KC:=(HB.out.cell (World.block_lt_of_cell? w _ KC)).trans KC
      replace KD:=(HB.out.cell (World.block_lt_of_cell? w _ KD)).trans KD
      replace KE:=(HB.out.cell (World.block_lt_of_cell? w _ KE)).trans KE
      have zje:=zx.mk nD
      have zjf:=zx.mk nC
      clear nD nC
      have zjg:=zx.mk nG
      have zjh:=zx.mk nE
      clear nG nE
      have zji:=zx.mk nI
      have zjl:=zx.mk nH
      clear nI nH
      replace zzL:=eq_true zzL
      replace zzM:=eq_true zzM
      go_wp2_with (first | ((with_reducible refine yx (f:=106) rfl ?_);refine uD (some 14) Tryz.func106 #[.agg #[.string ((zl l0 yQ).f0),.bool ((zl l0 yQ).f1),.int .i64 ((zl l0 yQ).f2),.slice zyQ ((zl l0 yQ).f3).length zyX,.slice zyJ ((zl l0 yQ).f4).length zyV,.slice zyK ((zl l0 yQ).f5).length zyY]] ?_;(with_reducible refine (xw.calls ((zl l0 yQ).f0) ((zl l0 yQ).f1) ((zl l0 yQ).f2) _ _ ((zl l0 yQ).f3) _ _ ((zl l0 yQ).f4) _ _ ((zl l0 yQ).f5) false _ ?yh ?yD ?qX ?qJ ?qR ?xg A4.out).mono ?_);(case yh=>exact qM (Kd.zh zje.out HB.out));(case yD=>exact zjf.out);(case qX=>exact qM (Kd.zh zjg.out HB.out));(case qJ=>exact zjh.out);(case qR=>exact qM (Kd.zh zji.out HB.out));(case xg=>exact zjl.out);rintro e w7 ⟨rfl,hb⟩;refine ⟨_,rfl,?_⟩;have ze:=zx.mk (zu (zD HB.out) hb);clear HB;have HB:=ze;clear ze;(try clear hb);(try clear hi)))
      go_ret
      exact ⟨by first | rfl | (simp [zH,zI] <;> rfl) | (simp [*,zH,zI] <;> rfl),by repeat (first | (with_reducible first | exact HB.out | apply yJ | apply zC | apply yY) | exact HB.out)⟩
    ·rw [if_neg c3] at H
     exact absurd H (by simp)
   ·rw [if_neg c2] at H
    have bQ:decide (yQ < (l0.length:Int)) = false:=decide_eq_false c2
    clear c2
    obtain rfl:=Option.some.inj H
    go_wp2
    go_ret
    exact ⟨by first | rfl | (simp [zH,zI] <;> rfl) | (simp [*,zH,zI] <;> rfl),by repeat (first | (with_reducible first | exact HB.out | apply yJ | apply zC | apply yY) | exact HB.out)⟩
end Go.Proofs.YtggifbbiiickmaaGreatDoor.PX
namespace Go.Proofs.YtggifbbiiickmaaGreatDoor.PX
open Go.RowKit Go.Proofs.zk.za Go.Proofs.zk.zS Go.Proofs.zk.zR
attribute [local go_sem] qD qE xJ xV qc qd qF qG   -- for this text's walks alone
set_option linter.unusedVariables false
set_option linter.unusedSimpArgs false
end Go.Proofs.YtggifbbiiickmaaGreatDoor.PX
namespace Go.Proofs.YtggifbbiiickmaaGreatDoor.PX
open Go.RowKit Go.Proofs.zk.za Go.Proofs.zk.zS Go.Proofs.zk.zR
attribute [local go_sem] qD qE xJ xV qc qd qF qG   -- for this text's walks alone
set_option linter.unusedVariables false
set_option linter.unusedSimpArgs false
end Go.Proofs.YtggifbbiiickmaaGreatDoor.PX
namespace Go.Proofs.YtggifbbiiickmaaGreatDoor.PX
open Go.RowKit Go.Proofs.zk.za Go.Proofs.zk.zS Go.Proofs.zk.zR
attribute [local go_sem] qD qE xJ xV qc qd qF qG   -- for this text's walks alone
set_option linter.unusedVariables false
set_option linter.unusedSimpArgs false
end Go.Proofs.YtggifbbiiickmaaGreatDoor.PX
namespace Go.Proofs.YtggifbbiiickmaaGreatDoor.PX
open Go.RowKit Go.Proofs.zk.za Go.Proofs.zk.zS Go.Proofs.zk.zR
attribute [local go_sem] qD qE xJ xV qc qd qF qG   -- for this text's walks alone
set_option linter.unusedVariables false
set_option linter.unusedSimpArgs false
end Go.Proofs.YtggifbbiiickmaaGreatDoor.PX
namespace Go.Proofs.YtggifbbiiickmaaGreatDoor
open Go.RowKit Go.Proofs.zk.za Go.Proofs.zk.zS Go.Proofs.zk.zR Go.Proofs.YtggifbbiiickmaaGreatDoor.PX
set_option linter.unusedSimpArgs false
set_option linter.unusedVariables false
abbrev aX:=jr
def kJ (x:y8):aX:=⟨x.f0,x.f1,x.f2,x.f3.map p8,x.f4.map ZO,x.f5.map ZP⟩
def Jk (x:y8):Prop:=x.f3.length ≤ 1000000000 ∧ x.f4.length ≤ 1000000000 ∧ x.f5.length ≤ 1000000000 ∧ x.f0.size ≤ 140737488355328 ∧ ∀ y ∈ x.f3,y.f0.size ≤ 140737488355328
theorem zeX (l:List y8) (i:Nat) (h:i < l.length):zl (l.map kJ) (i:Int) = kJ l[i]:=by simp [zl,List.getD_eq_getElem?_getD,h]
theorem zeJ (l:List y8) (i:Nat) (h:i < l.length):zV l (i:Int) = l[i]:=by simp [zV,List.getD_eq_getElem?_getD,h]
theorem aJ {α β:Type} (f:α → β) (l:List α) (j:Nat) (h:j < l.length):(l.map f).take (j + 1) = (l.map f).take j ++ [f l[j]]:=by
 rw [List.take_add_one];congr 1;simp [h]
theorem zgq (l:List y8) (i:Nat) (hi:i < l.length) (hl:l.length ≤ 1000000000) (x:y8) (hx:zV l (i:Int) = x) (hF:x.f5.length ≤ 1000000000) (acc:List aX) (hacc:acc.length ≤ 1000000000) (a:ByteArray) (b:Bool) (c:Int) (g3:List uF) (g4:List uU) (r:List aX)
  (hr:Ev (fun k=>zW.l0 k l (acc ++ [⟨a,b,c,g3,g4,x.f5.map ZP⟩]) ((i + 1:Nat):Int)) r):∀ d j,j + d = x.f5.length → Ev (fun k=>zW.l3 k l acc (i:Int) (j:Int) a b c g3 g4 ((x.f5.map ZP).take j)) r:=by
 have hwi:wrap64 ((i:Int) + 1) = ((i + 1:Nat):Int):=(jA (by omega) (by omega)).trans (by omega)
 have p1:(0:Int) ≤ (i:Int):=by omega
 have p2:(i:Int) < (l.length:Int):=by omega
 intro d
 induction d with
 | zero =>
  intro j h
  refine Ev.step (fun k=>by rw [zW.l3,hx,hwi]) (yB p1 (yB p2 (vw (by omega) (yB (by omega) ?_))))
  rw [List.take_of_length_le (by rw [List.length_map];omega)];exact hr
 | succ d ih =>
  intro j h
  have hj:j < x.f5.length:=by omega
  have hw:wrap64 ((j:Int) + 1) = ((j + 1:Nat):Int):=(jA (by omega) (by omega)).trans (by omega)
  have q1:(j:Int) < (x.f5.length:Int):=by omega
  have q2:(0:Int) ≤ (j:Int):=by omega
  have q3:((x.f5.map ZP).take j).length < 3518437208883:=by rw [List.length_take,List.length_map];omega
  have hs:=ih (j + 1) (by omega)
  rw [aJ ZP x.f5 j hj] at hs
  refine Ev.step (fun k=>by rw [zW.l3,hx,hw,zkF x.f5 j hj]) (yB p1 (yB p2 (yB q1 (yB q2 (yB q3 ?_)))))
  exact hs
theorem zgx (l:List y8) (i:Nat) (hi:i < l.length) (hl:l.length ≤ 1000000000) (x:y8) (hx:zV l (i:Int) = x) (hF:x.f4.length ≤ 1000000000) (acc:List aX) (a:ByteArray) (b:Bool) (c:Int) (g3:List uF) (r:List aX)
  (hr:Ev (fun k=>zW.l3 k l acc (i:Int) 0 a b c g3 (x.f4.map ZO) []) r):∀ d j,j + d = x.f4.length → Ev (fun k=>zW.l2 k l acc (i:Int) (j:Int) a b c g3 ((x.f4.map ZO).take j)) r:=by
 have p1:(0:Int) ≤ (i:Int):=by omega
 have p2:(i:Int) < (l.length:Int):=by omega
 intro d
 induction d with
 | zero =>
  intro j h
  refine Ev.step (fun k=>by rw [zW.l2,hx]) (yB p1 (yB p2 (vw (by omega) ?_)))
  rw [List.take_of_length_le (by rw [List.length_map];omega)];exact hr
 | succ d ih =>
  intro j h
  have hj:j < x.f4.length:=by omega
  have hw:wrap64 ((j:Int) + 1) = ((j + 1:Nat):Int):=(jA (by omega) (by omega)).trans (by omega)
  have q1:(j:Int) < (x.f4.length:Int):=by omega
  have q2:(0:Int) ≤ (j:Int):=by omega
  have q3:((x.f4.map ZO).take j).length < 2932031007402:=by rw [List.length_take,List.length_map];omega
  have hs:=ih (j + 1) (by omega)
  rw [aJ ZO x.f4 j hj] at hs
  refine Ev.step (fun k=>by rw [zW.l2,hx,hw,zkE x.f4 j hj]) (yB p1 (yB p2 (yB q1 (yB q2 (yB q3 ?_)))))
  exact hs
theorem zgj (l:List y8) (i:Nat) (hi:i < l.length) (hl:l.length ≤ 1000000000) (x:y8) (hx:zV l (i:Int) = x) (hF:x.f3.length ≤ 1000000000) (acc:List aX) (a:ByteArray) (b:Bool) (c:Int) (r:List aX)
  (hr:Ev (fun k=>zW.l2 k l acc (i:Int) 0 a b c (x.f3.map p8) []) r):∀ d j,j + d = x.f3.length → Ev (fun k=>zW.l1 k l acc (i:Int) (j:Int) a b c ((x.f3.map p8).take j)) r:=by
 have p1:(0:Int) ≤ (i:Int):=by omega
 have p2:(i:Int) < (l.length:Int):=by omega
 intro d
 induction d with
 | zero =>
  intro j h
  refine Ev.step (fun k=>by rw [zW.l1,hx]) (yB p1 (yB p2 (vw (by omega) ?_)))
  rw [List.take_of_length_le (by rw [List.length_map];omega)];exact hr
 | succ d ih =>
  intro j h
  have hj:j < x.f3.length:=by omega
  have hw:wrap64 ((j:Int) + 1) = ((j + 1:Nat):Int):=(jA (by omega) (by omega)).trans (by omega)
  have q1:(j:Int) < (x.f3.length:Int):=by omega
  have q2:(0:Int) ≤ (j:Int):=by omega
  have q3:((x.f3.map p8).take j).length < 5864062014805:=by rw [List.length_take,List.length_map];omega
  have hs:=ih (j + 1) (by omega)
  rw [aJ p8 x.f3 j hj] at hs
  refine Ev.step (fun k=>by rw [zW.l1,hx,hw,Wp x.f3 j hj]) (yB p1 (yB p2 (yB q1 (yB q2 (yB q3 ?_)))))
  exact hs
theorem ziW (l:List y8) (hl:l.length ≤ 1000000000) (hF:∀ x ∈ l,Jk x):∀ d i,i + d = l.length → Ev (fun k=>zW.l0 k l ((l.map kJ).take i) (i:Int)) (l.map kJ):=by
 intro d
 induction d with
 | zero =>
  intro i h
  refine Ev.step (fun k=>by rw [zW.l0]) (vw (by omega) (Xv ?_ (Ev.now _)))
  rw [List.take_of_length_le (by rw [List.length_map];omega)]
 | succ d ih =>
  intro i h
  have hi:i < l.length:=by omega
  have hr:=ih (i + 1) (by omega)
  rw [aJ kJ l i hi] at hr
  have hx:=zeJ l i hi
  obtain ⟨h3,h4,h5,_⟩:=hF _ (List.getElem_mem hi)
  have q1:(i:Int) < (l.length:Int):=by omega
  have q2:(0:Int) ≤ (i:Int):=by omega
  have hacc:((l.map kJ).take i).length ≤ 1000000000:=by rw [List.length_take];omega
  generalize l[i] = x at hr hx h3 h4 h5
  have s3:=zgq l i hi hl x hx h5 ((l.map kJ).take i) hacc x.f0 x.f1 x.f2 (x.f3.map p8) (x.f4.map ZO) _ hr x.f5.length 0 (by omega)
  have s2:=zgx l i hi hl x hx h4 ((l.map kJ).take i) x.f0 x.f1 x.f2 (x.f3.map p8) _ (by simpa using s3) x.f4.length 0 (by omega)
  have s1:=zgj l i hi hl x hx h3 ((l.map kJ).take i) x.f0 x.f1 x.f2 _ (by simpa using s2) x.f3.length 0 (by omega)
  exact Ev.step (fun k=>by rw [zW.l0,hx]) (yB q1 (yB q2 (by simpa using s1)))
theorem zgv (l:List y8) (hl:l.length ≤ 1000000000) (hF:∀ x ∈ l,Jk x):Ev (fun k=>zW.f k l) (l.map kJ):=by
 have h:=ziW l hl hF l.length 0 (by omega)
 rw [List.take_zero] at h
 exact Ev.congr (fun k=>by rw [zW.f];rfl) h
theorem zbT (l:List y8) (hl:l.length ≤ 1000000000) (hF:∀ x ∈ l,Jk x):∀ d i,i + d = l.length → Ev (fun k=>qg.l0 k (l.map kJ) (i:Int)) ((l.drop i).all xu):=by
 intro d
 induction d with
 | zero =>
  intro i h
  refine Ev.step (fun k=>by rw [qg.l0,List.length_map]) (vw (by omega) (Xv ?_ (Ev.now _)))
  rw [List.drop_eq_nil_of_le (by omega)];rfl
 | succ d ih =>
  intro i h
  have hi:i < l.length:=by omega
  have hr:=ih (i + 1) (by omega)
  have hw:wrap64 ((i:Int) + 1) = ((i + 1:Nat):Int):=(jA (by omega) (by omega)).trans (by omega)
  have hx:=zeX l i hi
  obtain ⟨h3,h4,h5,ha,hz⟩:=hF _ (List.getElem_mem hi)
  have q1:(i:Int) < (l.length:Int):=by omega
  have q2:(0:Int) ≤ (i:Int):=by omega
  rw [List.drop_eq_getElem_cons hi,List.all_cons]
  generalize l[i] = x at hx h3 h4 h5 ha hz ⊢
  have hv:=zzE x.f0 x.f1 x.f2 x.f3 x.f4 x.f5 h3 h4 h5 ha hz
  refine Ev.step (fun k=>by rw [qg.l0,List.length_map,hx,hw]) (yB q1 (yB q2 ?_))
  refine WI hv ?_
  show Ev _ (xH x.f0 x.f2 x.f3 x.f4 x.f5 && _)
  cases xH x.f0 x.f2 x.f3 x.f4 x.f5 with
  | true=>exact yB rfl hr
  | false=>exact vw (by simp) (Ev.now _)
theorem zYt (l:List y8) (hl:l.length ≤ 1000000000) (hF:∀ x ∈ l,Jk x):Ev (fun k=>qg.f k (l.map kJ)) (l.all xu):=by
 have h:=zbT l hl hF l.length 0 (by omega)
 rw [List.drop_zero] at h
 exact Ev.congr (fun k=>by rw [qg.f];rfl) h
end Go.Proofs.YtggifbbiiickmaaGreatDoor
namespace Go.Proofs.YtggifbbiiickmaaGreatDoor.PX
open Go.RowKit Go.Proofs.zk.za Go.Proofs.zk.zS Go.Proofs.zk.zR
attribute [local go_sem] qD qE xJ xV qc qd qF qG   -- for this text's walks alone
set_option linter.unusedVariables false
set_option linter.unusedSimpArgs false
end Go.Proofs.YtggifbbiiickmaaGreatDoor.PX
namespace Go.Proofs.YtggifbbiiickmaaGreatDoor.PX
open Go.RowKit Go.Proofs.zk.za Go.Proofs.zk.zS Go.Proofs.zk.zR
attribute [local go_sem] qD qE xJ xV qc qd qF qG   -- for this text's walks alone
set_option linter.unusedVariables false
set_option linter.unusedSimpArgs false
end Go.Proofs.YtggifbbiiickmaaGreatDoor.PX
namespace Go.Proofs.YtggifbbiiickmaaGreatDoor.PX
open Go.RowKit Go.Proofs.zk.za Go.Proofs.zk.zS Go.Proofs.zk.zR
attribute [local go_sem] qD qE xJ xV qc qd qF qG   -- for this text's walks alone
set_option linter.unusedVariables false
set_option linter.unusedSimpArgs false
end Go.Proofs.YtggifbbiiickmaaGreatDoor.PX
namespace Go.Proofs.YtggifbbiiickmaaGreatDoor
open Go.RowKit Go.Proofs.zk.za Go.Proofs.zk.zS Go.Proofs.zk.zR Go.Proofs.YtggifbbiiickmaaGreatDoor.PX
set_option linter.unusedSimpArgs false
set_option linter.unusedVariables false
theorem zYu (x:y8) (hx:Jk x) (n:ByteArray) (s:Int):Ev (fun k=>yL.f k (kJ x).f0 (kJ x).f1 (kJ x).f2 (kJ x).f3 (kJ x).f4 (kJ x).f5 n s) (YB x n s) :=
 zdS x.f0 x.f1 x.f2 x.f3 x.f4 x.f5 n s hx.1 hx.2.1 hx.2.2.1 hx.2.2.2.1 hx.2.2.2.2
end Go.Proofs.YtggifbbiiickmaaGreatDoor
namespace Go.Proofs.YtggifbbiiickmaaGreatDoor
open Go.RowKit Go.Proofs.zk.za
set_option linter.unusedSimpArgs false
set_option linter.unusedVariables false
def ZW {α:Type} (p:α → Bool):List α → Nat → Int
 | [],_=>-1
 | x :: r,i=>if p x then (i:Int) else ZW p r (i + 1)
theorem dG {α:Type} (p:α → Bool) (x:α) (r:List α) (i:Nat):ZW p (x :: r) i = if p x then (i:Int) else ZW p r (i + 1):=rfl
theorem aY {α:Type} (p:α → Bool):∀ (l:List α) (i:Nat),decide (0 ≤ ZW p l i) = l.any p
 | [],_=>rfl
 | x :: r,i=>by
  unfold ZW
  rw [List.any_cons]
  by_cases h:p x = true
  ·rw [if_pos h,h,Bool.true_or];exact decide_eq_true (by omega)
  ·rw [if_neg h,aY p r]
   simp only [Bool.not_eq_true] at h
   rw [h,Bool.false_or]
end Go.Proofs.YtggifbbiiickmaaGreatDoor
namespace Go.Proofs.YtggifbbiiickmaaGreatDoor
open Go.RowKit Go.Proofs.zk.za Go.Proofs.zk.zS Go.Proofs.zk.zR Go.Proofs.YtggifbbiiickmaaGreatDoor.PX
set_option linter.unusedSimpArgs false
set_option linter.unusedVariables false
set_option maxRecDepth 100000 in
set_option maxHeartbeats 4000000 in
theorem zyW (A0:Option Addr) (c0:Nat) (l:List jd) (w:World) (hr:Kd.C kP w A0 l.length l) (hl:l.length ≤ 1000000000) (p:jd → Bool) (g:Nat) (lb:Array Value) (eg:∀ args w,(callFunc g args).run Tryz.prog w = .ok (.enter g args) w)
  (hp:∀ (W:World) (x:jd) (A3:Option Addr) (c3:Nat) (A4:Option Addr) (c4:Nat) (A5:Option Addr) (c5:Nat),x ∈ l → Below w.heap.size w W → Kd.C vO W A3 x.f3.length x.f3 → x.f3.length ≤ c3 → Kd.C jX W A4 x.f4.length x.f4 → x.f4.length ≤ c4 → Kd.C jg W A5 x.f5.length x.f5 → x.f5.length ≤ c5 → Calls Tryz.prog g (#[.agg #[.string x.f0,.bool x.f1,.int .i64 x.f2,.slice A3 x.f3.length c3,.slice A4 x.f4.length c4,.slice A5 x.f5.length c5]] ++ lb) W fun e w'=>e = .returned (.bool (p x)) ∧ Below w.heap.size w w') :
  Calls Tryz.prog 83 #[.slice A0 l.length c0,.func (.func g) #[] lb] w fun e w'=>e = .returned (.int .i64 (ZW p l 0)) ∧ Below w.heap.size w w':=by
 have H:=zx.mk hr
 have HP:=zx.mk hp
 clear hr hp
 generalize hR:ZW p l 0 = R
 have HR:=zx.mk hR
 clear hR
 go_enter Tryz.func83,Tryz.ntmps83
 go_wp2
 go_loopw [8] (fun i W=>∃ k:Nat,k ≤ l.length ∧ i = .int .i64 (k:Int) ∧ zx (ZW p l 0 = ZW p (l.drop k) k) ∧ zx (Below w.heap.size w W)) (fun i _=>l.length - (intOf i).toNat)
 case atStart=>exact ⟨0,Nat.zero_le _,rfl,⟨by rw [List.drop_zero]⟩,⟨Below.refl _ _⟩⟩
 case round =>
  obtain ⟨k,hk,rfl,HI,HB⟩:=hrel
  by_cases hlt:k < l.length
  ·obtain ⟨ad,A3,c3,A4,c4,A5,c5,e,x0,x1,x2,x3,x4,x5,g3,q3,g4,q4,g5,q5⟩:=jw (Kd.zh H.out HB.out) (k:Int) (by omega) (by omega)
   cases e
   have e:zV l (k:Int) = l[k]:=by simp [zV,List.getD_eq_getElem?_getD,hlt]
   rw [Int.toNat_natCast] at x0 x1 x2 x3 x4 x5
   rw [e] at x0 x1 x2 x3 x4 x5 g3 q3 g4 q4 g5 q5
   clear e
   have hi:=HI.out
   rw [List.drop_eq_getElem_cons hlt,dG] at hi
   have hm:l[k] ∈ l:=List.getElem_mem hlt
   generalize l[k] = x at x0 x1 x2 x3 x4 x5 g3 q3 g4 q4 g5 q5 hi hm
   have hcall:=HP.out wr x A3 c3 A4 c4 A5 c5 hm HB.out q3 g3 q4 g4 q5 g5
   clear hm q3 g3 q4 g4 q5 g5
   cases hq:p x with
   | true =>
    rw [hq] at hcall
    rw [if_pos hq] at hi
    have HI2:=zx.mk (HR.out.symm.trans hi)
    clear hi hq HI
    go_wp2_with fail
    refine hcall.mono ?_;rintro e w' ⟨rfl,hb'⟩
    go_wp2_with fail
    go_ret
    exact ⟨by rw [HI2.out];rfl,hb'⟩
   | false =>
    rw [hq] at hcall
    rw [if_neg (by rw [hq];exact Bool.false_ne_true)] at hi
    have HI2:=zx.mk hi
    clear hi hq HI
    go_wp2_with fail
    refine hcall.mono ?_;rintro e w' ⟨rfl,hb'⟩
    go_wp2_with fail
    go_roundw
    case rel=>exact ⟨k + 1,by omega,by first | rfl | go_num,HI2,⟨hb'⟩⟩
    case measure=>simp [intOf];omega
  ·obtain rfl:k = l.length:=by omega
   have hi:=HI.out
   rw [List.drop_eq_nil_of_le (Nat.le_refl _)] at hi
   have HI2:=zx.mk (HR.out.symm.trans hi)
   clear hi HI
   go_wp2
   go_ret
   exact ⟨by rw [HI2.out];rfl,HB.out⟩
set_option maxRecDepth 100000 in
theorem zzN (A0:Option Addr) (c0:Nat) (l:List jd) (w:World) (hr:Kd.C kP w A0 l.length l) (hl:l.length ≤ 1000000000) (p:jd → Bool) (g:Nat) (lb:Array Value) (eg:∀ args w,(callFunc g args).run Tryz.prog w = .ok (.enter g args) w)
  (hp:∀ (W:World) (x:jd) (A3:Option Addr) (c3:Nat) (A4:Option Addr) (c4:Nat) (A5:Option Addr) (c5:Nat),x ∈ l → Below w.heap.size w W → Kd.C vO W A3 x.f3.length x.f3 → x.f3.length ≤ c3 → Kd.C jX W A4 x.f4.length x.f4 → x.f4.length ≤ c4 → Kd.C jg W A5 x.f5.length x.f5 → x.f5.length ≤ c5 → Calls Tryz.prog g (#[.agg #[.string x.f0,.bool x.f1,.int .i64 x.f2,.slice A3 x.f3.length c3,.slice A4 x.f4.length c4,.slice A5 x.f5.length c5]] ++ lb) W fun e w'=>e = .returned (.bool (p x)) ∧ Below w.heap.size w w') :
  Calls Tryz.prog 37 #[.slice A0 l.length c0,.func (.func g) #[] lb] w fun e w'=>e = .returned (.bool (l.any p)) ∧ Below w.heap.size w w':=by
 have h:=zyW A0 c0 l w hr hl p g lb eg hp
 have e:=aY p l 0
 generalize ZW p l 0 = i at h e
 generalize l.any p = b at e ⊢
 subst e
 clear hp hr
 go_enter Tryz.func37,Tryz.ntmps37
 go_wp2_with (go_at_call 83;refine h.mono ?_;rintro e w1 ⟨rfl,hb⟩)
 go_ret
 exact ⟨rfl,hb⟩
end Go.Proofs.YtggifbbiiickmaaGreatDoor
namespace Go.Proofs.YtggifbbiiickmaaGreatDoor
open Go.RowKit Go.Proofs.zk.za Go.Proofs.zk.zS Go.Proofs.zk.zR
set_option linter.unusedSimpArgs false
set_option linter.unusedVariables false
namespace RW
section
variable {P:Program} {ops:Array Oper} {Q:Exit → Act → World → Prop} {md:Region.Mode} {S:World → Prop} {ds:List Nat} {T:Bool × List (List Nat × List Nat)} {oi:Oper} {v:Value} {fuel:Nat} {l:Array Bool} {a a':Act} {w:World}
theorem rP (i:Nat) (N:Option Tmp) (HT:zx (vZ md ops = T)) (h:yA P md ops Q S ds fuel (l.setIfInBounds i true) a' w)
  (hi:ops[i]? = some oi:=by exact rfl) (hN:oi.dst = N:=by exact rfl) (hc:zze T l.toList (l.setIfInBounds i true).toList i = true:=by kernel_rfl) (hQ:∀ c a w,Q (.panic c) (a.put oi.dst v) w → Q (.panic c) a w:=by exact fun _ _ _ h=>h)
  (hg:Region.wanted oi (yielded ops a.tmps) = true:=by rfl) (hy:∀ w,(execOp a.eval oi).run P w = .ok (.value v) w:=by intro w';go_simp;with_reducible rfl) (ha:a.put N v = a':=by simp only [Act.put,List.setIfInBounds_toArray,List.set_cons_zero,List.set_cons_succ,vv,vk];rfl) :
  yA P md ops Q S ds (fuel + 1) l a w:=vX _ hi hN (xW HT.out hc) hQ (Or.inl ⟨hg,hy⟩) ha h
theorem rU (i:Nat) (N:Option Tmp) (HT:zx (vZ md ops = T)) (h:yA P md ops Q S ds fuel (l.setIfInBounds i true) a' w)
  (hi:ops[i]? = some oi:=by exact rfl) (hN:oi.dst = N:=by exact rfl) (hc:zze T l.toList (l.setIfInBounds i true).toList i = true:=by kernel_rfl) (hQ:∀ c a w,Q (.panic c) (a.put oi.dst undef) w → Q (.panic c) a w:=by exact fun _ _ _ h=>h)
  (hg:Region.wanted oi (yielded ops a.tmps) = false:=by rfl) (ha:a.put N undef = a':=by simp only [Act.put,List.setIfInBounds_toArray,List.set_cons_zero,List.set_cons_succ,vv,vk];rfl) :
  yA P md ops Q S ds (fuel + 1) l a w:=vX _ hi hN (xW HT.out hc) hQ (Or.inr ⟨hg,rfl⟩) ha h
theorem rT {B:List Nat} (i:Nat) (N:Option Tmp) (HT:zx (vZ md ops = T)) (HW:zx (vW T.2 B = true)) (hS:S w) (h:yA P md ops Q S ds fuel (l.setIfInBounds i true) a' w)
  (hi:ops[i]? = some oi:=by exact rfl) (hN:oi.dst = N:=by exact rfl) (hc:zqY T B ds l.toList (l.setIfInBounds i true).toList i = true:=by kernel_rfl) (hQ:∀ c a w,Q (.panic c) (a.put oi.dst v) w → Q (.panic c) a w:=by exact fun _ _ _ h=>h)
  (hg:Region.wanted oi (yielded ops a.tmps) = true:=by rfl) (hy:∀ w,S w → (execOp a.eval oi).run P w = .ok (.value v) w:=by intro w' hs_;go_simp;with_reducible rfl) (ha:a.put N v = a':=by simp only [Act.put,List.setIfInBounds_toArray,List.set_cons_zero,List.set_cons_succ,vv,vk];rfl) :
  yA P md ops Q S ds (fuel + 1) l a w:=Xi _ hi hN (QA HT.out HW.out hc) hQ (Or.inl ⟨hg,hy⟩) hS ha h
theorem rS {X:World} {B:List Nat} {n id:Nat} (HS:zx (∀ W,Below X.heap.size X W → S W)) (hT:vZ .any ops = T) (hB:vW T.2 B = true) (hm:P.follows .mixedOrders = true) (hn:ops.size = n) (hl:Array.replicate n false = l)
  (h:∀ w,zx (Below X.heap.size X w) → zx (vZ .any ops = T) → zx (vW T.2 B = true) → S w → yA P .any ops Q S [] n l a w):(Code.region id ops true).wp P Q a X :=
 Zq _ hm hn hl (HS.out _ (Below.refl _ _).drew) fun hH=>h _ ⟨(Below.refl _ _).drew⟩ ⟨hT⟩ ⟨hB⟩ hH
theorem rSD {X:World} {B:List Nat} {n id:Nat} (ds:List Nat) (HS:zx (∀ W,Below X.heap.size X W → S W)) (hT:vZ .any ops = T) (hB:vW T.2 B = true) (hm:P.follows .mixedOrders = true) (hn:ops.size = n) (hl:Array.replicate n false = l)
  (h:∀ w,zx (Below X.heap.size X w) → zx (vZ .any ops = T) → zx (vW T.2 B = true) → S w → yA P .any ops Q S ds n l a w):(Code.region id ops true).wp P Q a X :=
 Zq _ hm hn hl (HS.out _ (Below.refl _ _).drew) fun hH=>h _ ⟨(Below.refl _ _).drew⟩ ⟨hT⟩ ⟨hB⟩ hH
theorem rC {X:World} {f:FuncId} {fn:Func} {aps:Array Operand} {ts:Array TypeId} {args:Array Value} (i:Nat) (N:Option Tmp) (HT:zx (vZ md ops = T)) (HS:zx (∀ W,Below X.heap.size X W → S W)) (HY:zx (Below X.heap.size X w)) (hf:P.funcs[f]? = some fn)
  (hcall:Calls P f args w fun e w'=>e = .returned v ∧ Below w.heap.size w w') (h:∀ w',zx (Below X.heap.size X w') → S w' → yA P md ops Q S ds fuel (l.setIfInBounds i true) a' w') (hname:(fn.name == "runtime.NumGoroutine") = false)
  (hi:ops[i]? = some oi:=by exact rfl) (hN:oi.dst = N:=by exact rfl) (hc:(WQ T.2 l.toList == [i] && l.toList.set i true == (l.setIfInBounds i true).toList) = true:=by kernel_rfl) (hd:i ∉ ds:=by decide) (hb:fn.body.isSome = true:=by exact rfl) (hw:Region.wanted oi (yielded ops a.tmps) = true:=by rfl)
  (hop:oi.op = .call { callee:=.value (.func f),args:=aps,argTypes:=ts }:=by exact rfl) (hargs:aps.map a.eval = args:=by (try simp only [List.map_toArray,List.map_cons,List.map_nil]);first | done | rfl) (ha:a.put N v = a':=by simp only [Act.put,List.setIfInBounds_toArray,List.set_cons_zero,List.set_cons_succ,vv,vk];rfl) :
  yA P md ops Q S ds (fuel + 1) l a w:=by
 refine Xb _ hi hN (jF HT.out hc) hd fun K hK=>?_
 refine tK hf hname hb args hw hN hop hargs (hcall.mono ?_)
 rintro e w' ⟨rfl,hk⟩
 have h2:=HY.out.trans (hk.mono HY.out.size)
 refine ⟨_,rfl,hK.out _ _ (HS.out _ h2) fun hH=>?_⟩
 rw [ha]
 exact h _ ⟨h2⟩ hH
end
end RW
end Go.Proofs.YtggifbbiiickmaaGreatDoor
namespace Go.Proofs.YtggifbbiiickmaaGreatDoor
open Go.RowKit Go.Proofs.zk.za Go.Proofs.zk.zS Go.Proofs.zk.zR Go.Proofs.YtggifbbiiickmaaGreatDoor.PX
set_option linter.unusedSimpArgs false
set_option linter.unusedVariables false
theorem XG {x:y8} (h:xu x = true):x.f3.length ≤ 400 ∧ x.f4.length ≤ 50 ∧ x.f5.length ≤ 500:=zV5 h
theorem zJn {l:List y8} {i:Int} (h0:0 ≤ i) (h1:i < (l.length:Int)):vS l i ∈ l:=by
 unfold vS zV
 rw [List.getD_eq_getElem?_getD,List.getElem?_eq_getElem (by omega),Option.getD_some]
 exact List.getElem_mem _
theorem Xe {l:List y8} {i:Int} (hv:∀ x ∈ l,xu x = true) (h0:0 ≤ i) (h1:i < (l.length:Int)):xu (vS l i) = true:=hv _ (zJn h0 h1)
theorem zvR (n:ByteArray):∀ (l:List y8) (i:Nat),dD n l i = ZW (fun x=>x.f1 && aj x n) l i
 | [],_=>rfl
 | x :: r,i=>by
  unfold dD
  rw [dG,zvR n r]
theorem zya (n:ByteArray):∀ (l:List y8) (i:Nat),dD n l i = -1 ∨ (0 ≤ dD n l i ∧ dD n l i < ((i + l.length:Nat):Int))
 | [],_=>Or.inl rfl
 | x :: r,i=>by
  unfold dD
  by_cases h:(x.f1 && aj x n) = true
  ·rw [if_pos h];right;simp only [List.length_cons];omega
  ·rw [if_neg h]
   rcases zya n r (i + 1) with h1 | h1
   ·exact Or.inl h1
   ·right;simp only [List.length_cons];omega
theorem zYA {l:List y8} {f:Int} (n:ByteArray) (h0:0 ≤ f) (h1:f < (l.length:Int)):pq l f n = -1 ∨ (0 ≤ pq l f n ∧ pq l f n < (l.length:Int)):=by
 unfold pq
 split
 ·exact Or.inr ⟨h0,h1⟩
 ·have:=zya n l 0
  simpa using this
set_option maxRecDepth 100000 in
set_option maxHeartbeats 4000000 in
theorem zYB (B:Nat) (n:ByteArray) (x:y8) (A3:Option Addr) (c3:Nat) (A4:Option Addr) (c4:Nat) (A5:Option Addr) (c5:Nat) (W:World) (hG:GW W) (hx:xu x = true) (hB:W.cell? ⟨B,0,none⟩ = some (.string n))
  (q3:Kd.C vO W A3 x.f3.length x.f3) (g3:x.f3.length ≤ c3) (q4:Kd.C jX W A4 x.f4.length x.f4) (g4:x.f4.length ≤ c4) (q5:Kd.C jg W A5 x.f5.length x.f5) (g5:x.f5.length ≤ c5) :
  Calls Tryz.prog 136 #[.agg #[.string x.f0,.bool x.f1,.int .i64 x.f2,.slice A3 x.f3.length c3,.slice A4 x.f4.length c4,.slice A5 x.f5.length c5],.pointer (some ⟨B,0,none⟩)] W fun e w'=>e = .returned (.bool (x.f1 && aj x n)) ∧ Below W.heap.size W w':=by
 have hl:=World.block_lt_of_cell? W _ hB
 have hb0:Below W.heap.size W (W.alloc (.cells #[.string x.f0,.bool x.f1,.int .i64 x.f2,.slice A3 x.f3.length c3,.slice A4 x.f4.length c4,.slice A5 x.f5.length c5] 60)):=(Below.refl _ W).alloc (Nat.le_refl _) _
 have hc:(W.alloc (.cells #[.string x.f0,.bool x.f1,.int .i64 x.f2,.slice A3 x.f3.length c3,.slice A4 x.f4.length c4,.slice A5 x.f5.length c5] 60)).cell? ⟨B,0,none⟩ = some (.string n):=(World.cell?_alloc_lt _ _ _ hl).trans hB
 have hz:=XG hx
 have hh:=QF.calls x.f0 x.f1 x.f2 A3 c3 x.f3 A4 c4 x.f4 A5 c5 x.f5 n (ZK x.f3 n) _ (Kd.zh q3 hb0) g3 (Kd.zh q4 hb0) g4 (Kd.zh q5 hb0) g5 (hG.under hb0) (by unfold QF.f;rw [if_pos (by omega)])
 unfold aj
 generalize ZK x.f3 n = b at hh ⊢
 cases hs:x.f1 with
 | false =>
  rw [hs] at hc hb0
  clear hh hz hx q3 q4 q5
  go_enter Tryz.func136,Tryz.ntmps136
  go_wp2
  go_ret
  exact ⟨rfl,hb0⟩
 | true =>
  rw [hs] at hc hb0 hh
  clear hz hx q3 q4 q5
  go_enter Tryz.func136,Tryz.ntmps136
  go_wp2_with (go_at_call 135;refine hh.mono ?_;rintro e w2 ⟨rfl,hb2⟩)
  go_ret
  exact ⟨by cases b <;> rfl,hb0.trans (hb2.mono hb0.size)⟩
def home.T1:Bool × List (List Nat × List Nat):=(true,[([],[]),([0],[0]),([1],[1]),([2],[2]),([],[]),([4],[4]),([5],[5]),([6],[6]),([7],[7]),([3,8],[3,8]),([9],[9]),([],[]),([10,11],[10,11])])
def home.B1:List Nat:=[0,1,3,7,0,16,48,112,240,511,1023,0,4095]
theorem home.zjm:vZ .any (opsOf Tryz.f105 1) = home.T1:=by kernel_rfl
theorem home.lS:vW home.T1.2 home.B1 = true:=by kernel_rfl
set_option maxRecDepth 100000 in
set_option maxHeartbeats 8000000 in
theorem zyb (w0:World) (g:Nat) (Af:Option Addr) (cf:Nat) (l:List y8) (f s:Int) (yE yw:Bool) (vo vl:Value) (n:ByteArray) (w:World) (hG:GW w0) (hC:Kd.C kP w0 Af l.length l) (hl:l.length ≤ 1000000000) (hf0:0 ≤ f) (hf1:f < (l.length:Int)) (hv:∀ x ∈ l,xu x = true) (hw:Below w0.heap.size w0 w)
  (hS:w.heap[g]? = some (.cells #[.slice Af l.length cf,.int .i64 f,.int .i64 s,.bool yE,.bool yw,vo,vl] 90 (0,0))) :
  Calls Tryz.prog 105 #[.pointer (some ⟨g,0,none⟩),.string n] w fun e w'=>e = .returned (.int .i64 (pq l f n)) ∧ Below w.heap.size w w':=by
 obtain ⟨w1,hw1⟩:∃ w1,w.alloc (.cells #[.string n] 9) = w1:=⟨_,rfl⟩
 have hb1:Below w.heap.size w w1:=by rw [← hw1];exact (Below.refl _ w).alloc (Nat.le_refl _) _
 have hS1:=zM hS hb1
 have hN:w1.cell? ⟨w.heap.size,0,none⟩ = some (.string n):=by rw [← hw1];simp
 have hwb:Below w0.heap.size w0 w1:=hw.trans (hb1.mono hw.size)
 have hC1:=Kd.zh hC hwb
 have hG1:GW w1:=hG.under hwb
 obtain ⟨ad,A3,c3,A4,c4,A5,c5,e,x0,x1,x2,x3,x4,x5,g3,q3,g4,q4,g5,q5⟩:=jw hC1 f hf0 (by omega)
 subst e
 have hx:=Xe hv hf0 hf1
 have hz:=XG hx
 have hhome:pq l f n = if ZK (vS l f).f3 n then f else ZW (fun x=>x.f1 && aj x n) l 0:=by unfold pq;rw [zvR];rfl
 have e:zV l f = vS l f:=rfl
 rw [e] at x0 x1 x2 x3 x4 x5 g3 q3 g4 q4 g5 q5
 clear e
 generalize vS l f = x at x0 x1 x2 x3 x4 x5 g3 q3 g4 q4 g5 q5 hx hz hhome
 have hh:∀ W,Below w1.heap.size w1 W → Calls Tryz.prog 135 #[.agg #[.string x.f0,.bool x.f1,.int .i64 x.f2,.slice A3 x.f3.length c3,.slice A4 x.f4.length c4,.slice A5 x.f5.length c5],.string n] W fun e w'=>e = .returned (.bool (ZK x.f3 n)) ∧ Below W.heap.size W w':=fun W hb =>
  QF.calls x.f0 x.f1 x.f2 A3 c3 x.f3 A4 c4 x.f4 A5 c5 x.f5 n (ZK x.f3 n) _ (Kd.zh q3 hb) g3 (Kd.zh q4 hb) g4 (Kd.zh q5 hb) g5 (hG1.under hb) (by unfold QF.f;rw [if_pos (by omega)])
 have HH:=zx.mk hh
 have hi:∀ W,Below w1.heap.size w1 W → Calls Tryz.prog 83 #[.slice (some ad) l.length cf,.func (.func 136) #[] #[.pointer (some ⟨w.heap.size,0,none⟩)]] W fun e w'=>e = .returned (.int .i64 (ZW (fun x=>x.f1 && aj x n) l 0)) ∧ Below W.heap.size W w':=fun W hb =>
  (zyW (some ad) cf l W (Kd.zh hC1 hb) hl (fun x=>x.f1 && aj x n) 136 #[.pointer (some ⟨w.heap.size,0,none⟩)] (Zl Tryz.func136 (by kernel_rfl) rfl)
   (fun V y A3 c3 A4 c4 A5 c5 hm hV p3 g3 p4 g4 p5 g5=>by
    have hb2:=hb.trans (hV.mono hb.size)
    have hlt:=World.block_lt_of_cell? w1 _ hN
    exact (zYB w.heap.size n y A3 c3 A4 c4 A5 c5 V (hG1.under hb2) (hv y hm) ((hb2.cell (p:=⟨w.heap.size,0,none⟩) hlt).trans hN) p3 g3 p4 g4 p5 g5).mono fun e w' ⟨h1,h2⟩=>⟨h1,hV.trans (h2.mono hV.size)⟩))
 have HI:=zx.mk hi
 have hs0:w1.cell? ⟨g,0,none⟩ = some (.slice (some ad) l.length cf):=(zX hS1 0).trans rfl
 have hs1:w1.cell? ⟨g,1,none⟩ = some (.int .i64 f):=(zX hS1 1).trans rfl
 have HS:=zx.mk (fun (W:World) (h:Below w1.heap.size w1 W)=>(show W.cell? ⟨g,0,none⟩ = some (.slice (some ad) l.length cf) ∧ W.cell? ⟨g,1,none⟩ = some (.int .i64 f) ∧ W.cell? ⟨w.heap.size,0,none⟩ = some (.string n) ∧ W.cell? (ad.add (f.toNat * 6)) = some (.string x.f0) ∧ W.cell? ⟨(ad.add (f.toNat * 6)).block,(ad.add (f.toNat * 6)).off + 1,none⟩ = some (.bool x.f1) ∧ W.cell? ⟨(ad.add (f.toNat * 6)).block,(ad.add (f.toNat * 6)).off + 2,none⟩ = some (.int .i64 x.f2) ∧ W.cell? ⟨(ad.add (f.toNat * 6)).block,(ad.add (f.toNat * 6)).off + 3,none⟩ = some (.slice A3 x.f3.length c3) ∧ W.cell? ⟨(ad.add (f.toNat * 6)).block,(ad.add (f.toNat * 6)).off + 4,none⟩ = some (.slice A4 x.f4.length c4) ∧ W.cell? ⟨(ad.add (f.toNat * 6)).block,(ad.add (f.toNat * 6)).off + 5,none⟩ = some (.slice A5 x.f5.length c5) from
  ⟨(h.cell (World.block_lt_of_cell? w1 _ hs0)).trans hs0,(h.cell (World.block_lt_of_cell? w1 _ hs1)).trans hs1,(h.cell (World.block_lt_of_cell? w1 _ hN)).trans hN,(h.cell (World.block_lt_of_cell? w1 _ x0)).trans x0,(h.cell (World.block_lt_of_cell? w1 _ x1)).trans x1,(h.cell (World.block_lt_of_cell? w1 _ x2)).trans x2,(h.cell (World.block_lt_of_cell? w1 _ x3)).trans x3,(h.cell (World.block_lt_of_cell? w1 _ x4)).trans x4,(h.cell (World.block_lt_of_cell? w1 _ x5)).trans x5⟩))
 generalize hR:pq l f n = R at hhome
 have HR:=zx.mk hhome
 have HB1:=zx.mk hb1
 clear hhome hh hi hS hS1 hN hC hC1 hG hG1 hw hwb hs0 hs1 x0 x1 x2 x3 x4 x5 q3 q4 q5 hv hx hR hz hb1
 go_enter Tryz.func105,Tryz.ntmps105
 go_wp2_with fail
 clear hw1
 cases hb:ZK x.f3 n with
 | true =>
  rw [hb,if_pos rfl] at HR
  rw [hb] at HH
  refine RW.rS (n:=13) HS home.zjm home.lS (by kernel_rfl) rfl rfl (fun w2 H0 T U h=>?_)
  refine RW.rP 0 (some 5) T ?_
  refine RW.rP 1 (some 6) T ?_
  refine RW.rP 2 (some 7) T ?_
  refine RW.rT 3 (some 8) T U h ?_
  refine RW.rP 4 (some 9) T ?_
  refine RW.rP 5 (some 10) T ?_
  refine RW.rP 6 (some 11) T ?_
  refine RW.rP 7 (some 12) T ?_
  refine RW.rT 8 (some 13) T U h ?_
  refine RW.rP 9 (some 14) T ?_
  refine RW.rT 10 (some 15) T U h ?_
  refine RW.rT 11 (some 16) T U h ?_
  clear h
  refine RW.rC 12 (some 17) T HS H0 Tryz.func135 (HH.out _ H0.out) (fun w3 H3 h=>?_) (by kernel_rfl)
  refine xE (qW T.out (by kernel_rfl)) ?_
  obtain ⟨h1,h2,h3,h4⟩:=h
  go_wp2_with fail
  go_ret
  exact ⟨by rw [HR.out];rfl,HB1.out.trans (H3.out.mono HB1.out.size)⟩
 | false =>
  rw [hb,if_neg Bool.false_ne_true] at HR
  rw [hb] at HH
  refine RW.rS (n:=13) HS home.zjm home.lS (by kernel_rfl) rfl rfl (fun w2 H0 T U h=>?_)
  refine RW.rP 0 (some 5) T ?_
  refine RW.rP 1 (some 6) T ?_
  refine RW.rP 2 (some 7) T ?_
  refine RW.rT 3 (some 8) T U h ?_
  refine RW.rP 4 (some 9) T ?_
  refine RW.rP 5 (some 10) T ?_
  refine RW.rP 6 (some 11) T ?_
  refine RW.rP 7 (some 12) T ?_
  refine RW.rT 8 (some 13) T U h ?_
  refine RW.rP 9 (some 14) T ?_
  refine RW.rT 10 (some 15) T U h ?_
  refine RW.rT 11 (some 16) T U h ?_
  clear h
  refine RW.rC 12 (some 17) T HS H0 Tryz.func135 (HH.out _ H0.out) (fun w3 H3 h=>?_) (by kernel_rfl)
  refine xE (qW T.out (by kernel_rfl)) ?_
  obtain ⟨h1,h2,h3,h4⟩:=h
  clear h2 h4
  go_wp2_with fail
  refine (HI.out _ H3.out).mono ?_;rintro e w4 ⟨rfl,hb4⟩
  go_wp2_with fail
  go_ret
  exact ⟨by rw [HR.out];rfl,HB1.out.trans ((H3.out.trans (hb4.mono H3.out.size)).mono HB1.out.size)⟩
end Go.Proofs.YtggifbbiiickmaaGreatDoor
namespace Go.Proofs.YtggifbbiiickmaaGreatDoor
open Go.RowKit Go.Proofs.zk.za Go.Proofs.zk.zS Go.Proofs.zk.zR Go.Proofs.YtggifbbiiickmaaGreatDoor.PX
set_option linter.unusedSimpArgs false
set_option linter.unusedVariables false
def uO (base B:Nat) (w w':World):Prop:=Below 0 w w' ∧ (∀ (k:Nat) (o:Obj),w.heap[k]? = some o → o.isCells = false → w'.heap[k]? = some o) ∧ ∀ k:Nat,k < base → k ≠ B → w'.heap[k]? = w.heap[k]?
theorem uO.refl (base B:Nat) (w:World):uO base B w w:=⟨Below.refl _ _,fun _ _ h _=>h,fun _ _ _=>rfl⟩
theorem uO.trans {base B:Nat} {a b c:World} (h:uO base B a b) (k:uO base B b c):uO base B a c :=
 ⟨h.1.trans k.1,fun i o hi ho=>k.2.1 i o (h.2.1 i o hi ho) ho,fun i hi hb=>(k.2.2 i hi hb).trans (h.2.2 i hi hb)⟩
theorem uO.below {base B:Nat} {a b:World} (h:Below a.heap.size a b) (hb:base ≤ a.heap.size):uO base B a b :=
 ⟨h.mono (Nat.zero_le _),fun k o hk _=>(h.block k (Array.getElem?_eq_some_iff.1 hk).1).trans hk,fun k hk _=>h.block k (by omega)⟩
theorem uO.set {base B:Nat} {w:World} {cs:Array Value} {t:TypeId} {z:Nat × Nat} (h:w.heap[B]? = some (.cells cs t z)) (j:Nat) (u:Value):uO base B w (w.setCell ⟨B,j,none⟩ u):=by
 refine ⟨(Below.refl _ _).setCell (p:=⟨B,j,none⟩) (Nat.zero_le _) u,fun k o hk ho=>?_,fun k _ hb=>Below.heap_setCell w ⟨B,j,none⟩ u k hb⟩
 by_cases e:k = B
 ·subst e;rw [h] at hk;cases hk;cases ho
 ·rw [Below.heap_setCell w ⟨B,j,none⟩ u k e];exact hk
theorem uO.grown {base B:Nat} {a b:World} {v:Value} {e:TypeId} {size n:Nat} {xs:List Value} (ho:a.ownsRow base e size v n xs) (h:a.grownBy b v.ownBlock) (hb:base ≤ a.heap.size):uO base B a b:=by
 refine ⟨⟨h.os,h.tape,h.output,h.size,fun k hk=>absurd hk (Nat.not_lt_zero _)⟩,fun k o hk hc=>?_,fun k hk _=>h.block k (by omega) (fun e=>?_)⟩
 ·have hlt:=(Array.getElem?_eq_some_iff.1 hk).1
  rw [h.block k hlt (fun e=>?_)]
  ·exact hk
  ·obtain ⟨cells,hcc⟩:=QS ho k e.symm
   rw [hcc] at hk;cases hk;cases hc
 ·have:=Xa ho k e.symm
  omega
theorem zza {base B n₀:Nat} {W W':World} (h:uO base B W W') (hn:n₀ ≤ B) (hn2:n₀ ≤ base):Below n₀ W W':=⟨h.1.os,h.1.tape,h.1.output,h.1.size,fun k hk=>h.2.2 k (by omega) (by omega)⟩
theorem zbU {W W':World} {row:Option Nat} {k:Nat} {cs:Array Value} {t:TypeId} (h:W.heap[k]? = some (.cells cs t (0,0))) (hg:W.grownBy W' row) (hr:∀ r,row = some r → ∃ o:Obj,W.heap[r]? = some o ∧ o.isCells = false):W'.heap[k]? = some (.cells cs t (0,0)) :=
 uK h hg (fun e=>by obtain ⟨o,ho,hn⟩:=hr k e.symm;rw [h] at ho;cases ho;cases hn)
theorem zZC {α:Type} {d:Kd α} {e base:Nat} {W W':World} {row:Option Nat} {v:Value} {xs:List α} (h:d.R e W base (fun _=>True) v xs) (hg:W.grownBy W' row) (hr:∀ r,row = some r → ∃ o:Obj,W.heap[r]? = some o ∧ o.isCells = false):d.R e W' base (fun _=>True) v xs :=
 Kd.qO (Kd.lg (Kd.pY h) hg (fun k hk e=>by
  obtain ⟨_,_,_,q,hq,cells,hc⟩:=hk
  obtain ⟨o,ho,hn⟩:=hr k e.symm
  rw [hc] at ho;cases ho;cases hn)) (fun _ _=>trivial)
end Go.Proofs.YtggifbbiiickmaaGreatDoor
namespace Go.Proofs.YtggifbbiiickmaaGreatDoor
open Go.RowKit Go.Proofs.zk.za Go.Proofs.zk.zS Go.Proofs.zk.zR Go.Proofs.YtggifbbiiickmaaGreatDoor.PX
set_option linter.unusedSimpArgs false
set_option linter.unusedVariables false
set_option maxRecDepth 100000 in
set_option maxHeartbeats 4000000 in
theorem zyN (a:ByteArray) (b:Bool) (c:Int) (A3:Option Addr) (c3:Nat) (l3:List yG) (A4:Option Addr) (c4:Nat) (l4:List qb) (A5:Option Addr) (c5:Nat) (l5:List qP) (na nb:ByteArray) (s:Int) (w:World) (hG:GW w) (h3:Kd.C vO w A3 l3.length l3) (g3:l3.length ≤ c3) (h4:Kd.C jX w A4 l4.length l4) (g4:l4.length ≤ c4) (h5:Kd.C jg w A5 l5.length l5) (g5:l5.length ≤ c5) (z3:l3.length ≤ 1000000000) (z4:l4.length ≤ 1000000000) (z5:l5.length ≤ 1000000000) :
  Calls Tryz.prog 21 #[.agg #[.string a,.bool b,.int .i64 c,.slice A3 l3.length c3,.slice A4 l4.length c4,.slice A5 l5.length c5],.string na,.string nb,.int .i64 s] w fun e w'=>e = .returned (.tuple #[.int .i64 (zqp (xH a c l3 l4 l5) l5 na nb s).1,.int .i64 (zqp (xH a c l3 l4 l5) l5 na nb s).2]) ∧ Below w.heap.size w w':=by
 have hb0:Below w.heap.size w (w.alloc (.cells #[.string a,.bool b,.int .i64 c,.slice A3 l3.length c3,.slice A4 l4.length c4,.slice A5 l5.length c5] 60)):=(Below.refl _ w).alloc (Nat.le_refl _) _
 have hbf:=uo w (.cells #[.string a,.bool b,.int .i64 c,.slice A3 l3.length c3,.slice A4 l4.length c4,.slice A5 l5.length c5] 60)
 have hfair:=kW.calls a b c A3 c3 l3 A4 c4 l4 A5 c5 l5 s (YA s (xH a c l3 l4 l5)) (w.alloc (.cells #[.string a,.bool b,.int .i64 c,.slice A3 l3.length c3,.slice A4 l4.length c4,.slice A5 l5.length c5] 60)) (Kd.zh h3 hb0) g3 (Kd.zh h4 hb0) g4 (Kd.zh h5 hb0) g5 (hG.under hb0) (zkB a b c l3 l4 l5 s z3 z4 z5)
 have hval:zqp (xH a c l3 l4 l5) l5 na nb s = (if YA s (xH a c l3 l4 l5) = true then ((match l5.find? (fun x=>decide (x.f0 = na) && decide (x.f1 = nb)) with | some x=>flr s x.f2 | none=>0),0) else (0,1)):=rfl
 have hk:YA s (xH a c l3 l4 l5) = true → (1 ≤ s ∧ s ≤ 1000) ∧ ∀ x ∈ l5,-500 ≤ x.f2 ∧ x.f2 ≤ 500:=fun h=>by
  obtain ⟨p,q,hv⟩:=zzA h
  exact ⟨⟨p,q⟩,(tO hv).2⟩
 generalize zqp (xH a c l3 l4 l5) l5 na nb s = R at hval ⊢
 cases gT:YA s (xH a c l3 l4 l5) with
 | false =>
  rw [gT,if_neg (by simp)] at hval
  rw [gT] at hfair
  subst hval
  clear h3 h4 h5 hk
  go_enter Tryz.func21,Tryz.ntmps21
  go_wp2_with fail
  refine hfair.mono ?_;rintro e w1 ⟨rfl,hb1⟩
  go_wp2
  go_ret2
  exact ⟨rfl,hb0.trans (hb1.mono hb0.size)⟩
 | true =>
 rw [gT,if_pos rfl] at hval
 rw [gT] at hfair
 obtain ⟨⟨s1,s2⟩,hkn⟩:=hk gT
 have KF:=zx.mk hval
 have HK:=zx.mk hkn
 have H5:=zx.mk h5
 clear h3 h4 h5 hk hval hkn
 go_enter Tryz.func21,Tryz.ntmps21
 go_wp2_with fail
 refine hfair.mono ?_;rintro e w1 ⟨rfl,hb1⟩
 have HB0:=zx.mk (hb0.trans (hb1.mono hb0.size))
 have hc5:w1.cell? ⟨w.heap.size,5,none⟩ = some (.slice A5 l5.length c5):=(zX (zM hbf hb1) 5).trans rfl
 clear hbf hb1 hfair
 go_wp2_with fail
 clear hc5
 go_loopw [19] (fun y W=>∃ i:Nat,y = .int .i64 (i:Int) ∧ i ≤ l5.length ∧ zx (l5.find? (fun x=>decide (x.f0 = na) && decide (x.f1 = nb)) = (l5.drop i).find? (fun x=>decide (x.f0 = na) && decide (x.f1 = nb))) ∧ zx (Below w.heap.size w W)) (fun y _=>l5.length - (intOf y).toNat)
 case atStart=>exact ⟨0,rfl,Nat.zero_le _,⟨by rw [List.drop_zero]⟩,HB0⟩
 case round =>
  clear HB0
  obtain ⟨i,rfl,hi,HX,HB⟩:=hrel
  by_cases hlt:i < l5.length
  ·obtain ⟨ad,e,x0,x1,x2⟩:=Pz (Kd.zh H5.out HB.out) (i:Int) (by omega) (by omega)
   cases e
   have e:qw l5 (i:Int) = l5[i]:=by simp [qw,List.getD_eq_getElem?_getD,hlt]
   rw [Int.toNat_natCast,e] at x0 x1 x2
   clear e
   have hx:=HX.out
   rw [List.drop_eq_getElem_cons hlt,List.find?_cons] at hx
   have hm:l5[i] ∈ l5:=List.getElem_mem hlt
   generalize l5[i] = x at x0 x1 x2 hx hm
   have q1:(i:Int) < (l5.length:Int):=by omega
   have q0:(0:Int) ≤ (i:Int):=by omega
   have q3:((i:Int)).toNat = i:=Int.toNat_natCast i
   have hbX:Below wr.heap.size wr (wr.alloc (.cells #[.string x.f0,.string x.f1,.int .i64 x.f2] 111)):=(Below.refl _ wr).alloc (Nat.le_refl _) _
   have hb2:=HB.out.trans (hbX.mono HB.out.size)
   by_cases t0:x.f0 = na
   case neg =>
    have d0:(x.f0.toList == na.toList) = false:=beq_eq_false_iff_ne.2 (fun e=>t0 (gX.1 e))
    rw [decide_eq_false t0,Bool.false_and] at hx
    have HX2:=zx.mk hx
    clear hx
    clear hm t0
    go_wp2
    go_roundw
    case rel=>exact ⟨i + 1,by first | rfl | (simp;done) | go_num,by omega,HX2,⟨hb2⟩⟩
    case measure=>simp [intOf];omega
   have d0:(x.f0.toList == na.toList) = true:=beq_iff_eq.2 (gX.2 t0)
   by_cases t1:x.f1 = nb
   case neg =>
    have d1:(x.f1.toList == nb.toList) = false:=beq_eq_false_iff_ne.2 (fun e=>t1 (gX.1 e))
    rw [decide_eq_false t1,Bool.and_false] at hx
    have HX2:=zx.mk hx
    clear hx t1
    clear hm t0
    go_wp2
    go_roundw
    case rel=>exact ⟨i + 1,by first | rfl | (simp;done) | go_num,by omega,HX2,⟨hb2⟩⟩
    case measure=>simp [intOf];omega
   case pos =>
    have d1:(x.f1.toList == nb.toList) = true:=beq_iff_eq.2 (gX.2 t1)
    rw [decide_eq_true t0,decide_eq_true t1] at hx
    simp only [Bool.and_true] at hx
    rw [hx] at KF
    have hR:=KF.out
    subst hR
    have hsc:=fun W=>uH.calls x.f2 s (flr s x.f2) W (zkA x.f2 s s1 s2 (by have:=HK.out x hm;omega) (by have:=HK.out x hm;omega))
    clear hx KF hm t0 t1
    go_wp2_with fail
    refine (hsc _).mono ?_;rintro e w3 ⟨rfl,⟨nd,rfl⟩⟩
    go_wp2
    go_ret2
    exact ⟨rfl,zC hb2 nd⟩
  ·obtain rfl:i = l5.length:=by omega
   have q1:decide ((l5.length:Int) < (l5.length:Int)) = false:=decide_eq_false (by omega)
   have hx:=HX.out
   rw [List.drop_eq_nil_of_le (Nat.le_refl _),List.find?_nil] at hx
   rw [hx] at KF
   have hR:=KF.out
   subst hR
   clear hx KF
   go_wp2
   go_ret2
   exact ⟨rfl,HB.out⟩
set_option maxRecDepth 100000 in
set_option maxHeartbeats 4000000 in
theorem zYC (a:ByteArray) (b:Bool) (c:Int) (A3:Option Addr) (c3:Nat) (l3:List yG) (A4:Option Addr) (c4:Nat) (l4:List qb) (A5:Option Addr) (c5:Nat) (l5:List qP) (na nb:ByteArray) (w:World) (hG:GW w) (h3:Kd.C vO w A3 l3.length l3) (g3:l3.length ≤ c3) (h4:Kd.C jX w A4 l4.length l4) (g4:l4.length ≤ c4) (h5:Kd.C jg w A5 l5.length l5) (g5:l5.length ≤ c5) (z3:l3.length ≤ 1000000000) (z4:l4.length ≤ 1000000000) (z5:l5.length ≤ 1000000000) :
  Calls Tryz.prog 45 #[.agg #[.string a,.bool b,.int .i64 c,.slice A3 l3.length c3,.slice A4 l4.length c4,.slice A5 l5.length c5],.string na,.string nb] w fun e w'=>e = .returned (.tuple #[.string (lM (xH a c l3 l4 l5) l4 na nb).1,.bool (lM (xH a c l3 l4 l5) l4 na nb).2]) ∧ Below w.heap.size w w':=by
 have hb0:Below w.heap.size w (w.alloc (.cells #[.string a,.bool b,.int .i64 c,.slice A3 l3.length c3,.slice A4 l4.length c4,.slice A5 l5.length c5] 60)):=(Below.refl _ w).alloc (Nat.le_refl _) _
 have hbf:=uo w (.cells #[.string a,.bool b,.int .i64 c,.slice A3 l3.length c3,.slice A4 l4.length c4,.slice A5 l5.length c5] 60)
 have hvalid:=jP.calls a b c A3 c3 l3 A4 c4 l4 A5 c5 l5 (xH a c l3 l4 l5) (w.alloc (.cells #[.string a,.bool b,.int .i64 c,.slice A3 l3.length c3,.slice A4 l4.length c4,.slice A5 l5.length c5] 60)) (Kd.zh h3 hb0) g3 (Kd.zh h4 hb0) g4 (Kd.zh h5 hb0) g5 (hG.under hb0) (by unfold jP.f;rw [if_pos ⟨z3,z4,z5⟩])
 have hval:lM (xH a c l3 l4 l5) l4 na nb = (if xH a c l3 l4 l5 = true then (match l4.find? (fun x=>decide (x.f0 = na) && decide (x.f1 = nb)) with | some x=>(x.f2,true) | none=>((⟨#[]⟩:ByteArray),false)) else ((⟨#[]⟩:ByteArray),false)):=rfl
 generalize lM (xH a c l3 l4 l5) l4 na nb = R at hval ⊢
 by_cases h0:l4.length = 0
 ·have e:l4 = []:=List.eq_nil_of_length_eq_zero h0
  have hR:R = ((⟨#[]⟩:ByteArray),false):=by rw [hval,e];split <;> rfl
  subst hR
  have d0:((l4.length:Int) == 0) = true:=beq_iff_eq.2 (by omega)
  have d1:decide ((l4.length:Int) = 0) = true:=decide_eq_true (by omega)
  clear h3 h4 h5 hval hvalid e h0
  go_enter Tryz.func45,Tryz.ntmps45
  go_wp2
  go_ret2
  exact ⟨rfl,hb0⟩
 have d0:((l4.length:Int) == 0) = false:=beq_eq_false_iff_ne.2 (by omega)
 have d1:decide ((l4.length:Int) = 0) = false:=decide_eq_false (by omega)
 clear h0
 cases gT:xH a c l3 l4 l5 with
 | false =>
  rw [gT,if_neg (by simp)] at hval
  rw [gT] at hvalid
  subst hval
  clear h3 h4 h5
  go_enter Tryz.func45,Tryz.ntmps45
  go_wp2_with fail
  refine hvalid.mono ?_;rintro e w1 ⟨rfl,hb1⟩
  go_wp2
  go_ret2
  exact ⟨rfl,hb0.trans (hb1.mono hb0.size)⟩
 | true =>
 rw [gT,if_pos rfl] at hval
 rw [gT] at hvalid
 have KF:=zx.mk hval
 have H4:=zx.mk h4
 clear h3 h4 h5 hval
 go_enter Tryz.func45,Tryz.ntmps45
 go_wp2_with fail
 refine hvalid.mono ?_;rintro e w1 ⟨rfl,hb1⟩
 have HB0:=zx.mk (hb0.trans (hb1.mono hb0.size))
 have hc4:w1.cell? ⟨w.heap.size,4,none⟩ = some (.slice A4 l4.length c4):=(zX (zM hbf hb1) 4).trans rfl
 clear hbf hb1 hvalid
 go_wp2_with fail
 clear hc4 d0 d1
 go_loopw [22] (fun y W=>∃ i:Nat,y = .int .i64 (i:Int) ∧ i ≤ l4.length ∧ zx (l4.find? (fun x=>decide (x.f0 = na) && decide (x.f1 = nb)) = (l4.drop i).find? (fun x=>decide (x.f0 = na) && decide (x.f1 = nb))) ∧ zx (Below w.heap.size w W)) (fun y _=>l4.length - (intOf y).toNat)
 case atStart=>exact ⟨0,rfl,Nat.zero_le _,⟨by rw [List.drop_zero]⟩,HB0⟩
 case round =>
  clear HB0
  obtain ⟨i,rfl,hi,HX,HB⟩:=hrel
  by_cases hlt:i < l4.length
  ·obtain ⟨ad,e,x0,x1,x2⟩:=WU (Kd.zh H4.out HB.out) (i:Int) (by omega) (by omega)
   cases e
   have e:qx l4 (i:Int) = l4[i]:=by simp [qx,List.getD_eq_getElem?_getD,hlt]
   rw [Int.toNat_natCast,e] at x0 x1 x2
   clear e
   have hx:=HX.out
   rw [List.drop_eq_getElem_cons hlt,List.find?_cons] at hx
   have hm:l4[i] ∈ l4:=List.getElem_mem hlt
   generalize l4[i] = x at x0 x1 x2 hx hm
   have q1:(i:Int) < (l4.length:Int):=by omega
   have q0:(0:Int) ≤ (i:Int):=by omega
   have q3:((i:Int)).toNat = i:=Int.toNat_natCast i
   have hbX:Below wr.heap.size wr (wr.alloc (.cells #[.string x.f0,.string x.f1,.string x.f2] 108)):=(Below.refl _ wr).alloc (Nat.le_refl _) _
   have hb2:=HB.out.trans (hbX.mono HB.out.size)
   by_cases t0:x.f0 = na
   case neg =>
    have d0:(x.f0.toList == na.toList) = false:=beq_eq_false_iff_ne.2 (fun e=>t0 (gX.1 e))
    rw [decide_eq_false t0,Bool.false_and] at hx
    have HX2:=zx.mk hx
    clear hx
    clear hm t0
    go_wp2
    go_roundw
    case rel=>exact ⟨i + 1,by first | rfl | (simp;done) | go_num,by omega,HX2,⟨hb2⟩⟩
    case measure=>simp [intOf];omega
   have d0:(x.f0.toList == na.toList) = true:=beq_iff_eq.2 (gX.2 t0)
   by_cases t1:x.f1 = nb
   case neg =>
    have d1:(x.f1.toList == nb.toList) = false:=beq_eq_false_iff_ne.2 (fun e=>t1 (gX.1 e))
    rw [decide_eq_false t1,Bool.and_false] at hx
    have HX2:=zx.mk hx
    clear hx t1
    clear hm t0
    go_wp2
    go_roundw
    case rel=>exact ⟨i + 1,by first | rfl | (simp;done) | go_num,by omega,HX2,⟨hb2⟩⟩
    case measure=>simp [intOf];omega
   case pos =>
    have d1:(x.f1.toList == nb.toList) = true:=beq_iff_eq.2 (gX.2 t1)
    rw [decide_eq_true t0,decide_eq_true t1] at hx
    simp only [Bool.and_true] at hx
    rw [hx] at KF
    have hR:=KF.out
    subst hR
    clear hx KF hm t0 t1
    go_wp2
    go_ret2
    exact ⟨rfl,hb2⟩
  ·obtain rfl:i = l4.length:=by omega
   have q1:decide ((l4.length:Int) < (l4.length:Int)) = false:=decide_eq_false (by omega)
   have hx:=HX.out
   rw [List.drop_eq_nil_of_le (Nat.le_refl _),List.find?_nil] at hx
   rw [hx] at KF
   have hR:=KF.out
   subst hR
   clear hx KF
   go_wp2
   go_ret2
   exact ⟨rfl,HB.out⟩
end Go.Proofs.YtggifbbiiickmaaGreatDoor
