/-
  Texts that lean on one another, laid in one file. No condition.
-/
import Derived.Test.YtggifbbiiickmaaGreatDoorGTX3
import Derived.Test.YtggifbbiiickmaaGreatDoorGTX1
import Derived.Test.YtggifbbiiickmaaGreatDoorGTX2
import Derived.WalkKit
import Derived.WalkSpells
import Derived.WalkLawsBesides
import Derived.RangeFuncRecord
import Derived.Deep.QuietTactic
import Derived.BigQuiet
import Derived.RangeFuncBox
import Derived.Deep.DeepCutAuto
namespace Go.Proofs.YtggifbbiiickmaaGreatDoor
open Go.RowKit Go.Proofs.zk.zA Go.Proofs.zk.yB Go.Proofs.zk.yA Go.Proofs.YtggifbbiiickmaaGreatDoor.PX
set_option linter.unusedSimpArgs false
set_option linter.unusedVariables false
abbrev lu:=ji
def kr (x:qO):lu:=⟨x.f0,x.f1,x.f2,x.f3.map kJ,x.f4.map wX,x.f5.map wJ⟩
def Yi (x:qO):Prop:=x.f3.length ≤ 1000000000 ∧ x.f4.length ≤ 1000000000 ∧ x.f5.length ≤ 1000000000 ∧ x.f0.size ≤ 140737488355328 ∧ ∀ y ∈ x.f3,y.f0.size ≤ 140737488355328
theorem zyI (l:List qO) (i:Nat) (h:i < l.length):zw (l.map kr) (i:Int) = kr l[i]:=by simp [zw,List.getD_eq_getElem?_getD,h]
theorem zKw (l:List qO) (i:Nat) (h:i < l.length):zY l (i:Int) = l[i]:=by simp [zY,List.getD_eq_getElem?_getD,h]
theorem zg3 (l:List wB) (i:Nat) (h:i < l.length):j4 l (i:Int) = l[i]:=by simp [j4,List.getD_eq_getElem?_getD,h]
theorem gB {α β:Type} (f:α → β) (l:List α) (j:Nat) (h:j < l.length):(l.map f).take (j + 1) = (l.map f).take j ++ [f l[j]]:=by
 rw [List.take_add_one];congr 1;simp [h]
theorem zlQ (l:List qO) (i:Nat) (hi:i < l.length) (hl:l.length ≤ 1000000000) (x:qO) (hx:zY l (i:Int) = x) (hF:x.f5.length ≤ 1000000000) (acc:List lu) (hacc:acc.length ≤ 1000000000) (a:ByteArray) (b:Bool) (c:Int) (g3:List uX) (g4:List uo) (r:List lu)
  (hr:Ev (fun k=>zh.l0 k l (acc ++ [⟨a,b,c,g3,g4,x.f5.map wJ⟩]) ((i + 1:Nat):Int)) r):∀ d j,j + d = x.f5.length → Ev (fun k=>zh.l3 k l acc (i:Int) (j:Int) a b c g3 g4 ((x.f5.map wJ).take j)) r:=by
 have hwi:wrap64 ((i:Int) + 1) = ((i + 1:Nat):Int):=(kQ (by omega) (by omega)).trans (by omega)
 have p1:(0:Int) ≤ (i:Int):=by omega
 have p2:(i:Int) < (l.length:Int):=by omega
 intro d
 induction d with
 | zero =>
  intro j h
  refine Ev.step (fun k=>by rw [zh.l3,hx,hwi]) (yJ p1 (yJ p2 (xW (by omega) (yJ (by omega) ?_))))
  rw [List.take_of_length_le (by rw [List.length_map];omega)];exact hr
 | succ d ih =>
  intro j h
  have hj:j < x.f5.length:=by omega
  have hw:wrap64 ((j:Int) + 1) = ((j + 1:Nat):Int):=(kQ (by omega) (by omega)).trans (by omega)
  have q1:(j:Int) < (x.f5.length:Int):=by omega
  have q2:(0:Int) ≤ (j:Int):=by omega
  have q3:((x.f5.map wJ).take j).length < 3518437208883:=by rw [List.length_take,List.length_map];omega
  have hs:=ih (j + 1) (by omega)
  rw [gB wJ x.f5 j hj] at hs
  refine Ev.step (fun k=>by rw [zh.l3,hx,hw,zk7 x.f5 j hj]) (yJ p1 (yJ p2 (yJ q1 (yJ q2 (yJ q3 ?_)))))
  exact hs
theorem zlX (l:List qO) (i:Nat) (hi:i < l.length) (hl:l.length ≤ 1000000000) (x:qO) (hx:zY l (i:Int) = x) (hF:x.f4.length ≤ 1000000000) (acc:List lu) (a:ByteArray) (b:Bool) (c:Int) (g3:List uX) (r:List lu)
  (hr:Ev (fun k=>zh.l3 k l acc (i:Int) 0 a b c g3 (x.f4.map wX) []) r):∀ d j,j + d = x.f4.length → Ev (fun k=>zh.l2 k l acc (i:Int) (j:Int) a b c g3 ((x.f4.map wX).take j)) r:=by
 have p1:(0:Int) ≤ (i:Int):=by omega
 have p2:(i:Int) < (l.length:Int):=by omega
 intro d
 induction d with
 | zero =>
  intro j h
  refine Ev.step (fun k=>by rw [zh.l2,hx]) (yJ p1 (yJ p2 (xW (by omega) ?_)))
  rw [List.take_of_length_le (by rw [List.length_map];omega)];exact hr
 | succ d ih =>
  intro j h
  have hj:j < x.f4.length:=by omega
  have hw:wrap64 ((j:Int) + 1) = ((j + 1:Nat):Int):=(kQ (by omega) (by omega)).trans (by omega)
  have q1:(j:Int) < (x.f4.length:Int):=by omega
  have q2:(0:Int) ≤ (j:Int):=by omega
  have q3:((x.f4.map wX).take j).length < 2932031007402:=by rw [List.length_take,List.length_map];omega
  have hs:=ih (j + 1) (by omega)
  rw [gB wX x.f4 j hj] at hs
  refine Ev.step (fun k=>by rw [zh.l2,hx,hw,zk6 x.f4 j hj]) (yJ p1 (yJ p2 (yJ q1 (yJ q2 (yJ q3 ?_)))))
  exact hs
theorem zlJ (l:List qO) (i:Nat) (hi:i < l.length) (hl:l.length ≤ 1000000000) (x:qO) (hx:zY l (i:Int) = x) (hF:x.f3.length ≤ 1000000000) (acc:List lu) (a:ByteArray) (b:Bool) (c:Int) (r:List lu)
  (hr:Ev (fun k=>zh.l2 k l acc (i:Int) 0 a b c (x.f3.map kJ) []) r):∀ d j,j + d = x.f3.length → Ev (fun k=>zh.l1 k l acc (i:Int) (j:Int) a b c ((x.f3.map kJ).take j)) r:=by
 have p1:(0:Int) ≤ (i:Int):=by omega
 have p2:(i:Int) < (l.length:Int):=by omega
 intro d
 induction d with
 | zero =>
  intro j h
  refine Ev.step (fun k=>by rw [zh.l1,hx]) (yJ p1 (yJ p2 (xW (by omega) ?_)))
  rw [List.take_of_length_le (by rw [List.length_map];omega)];exact hr
 | succ d ih =>
  intro j h
  have hj:j < x.f3.length:=by omega
  have hw:wrap64 ((j:Int) + 1) = ((j + 1:Nat):Int):=(kQ (by omega) (by omega)).trans (by omega)
  have q1:(j:Int) < (x.f3.length:Int):=by omega
  have q2:(0:Int) ≤ (j:Int):=by omega
  have q3:((x.f3.map kJ).take j).length < 5864062014805:=by rw [List.length_take,List.length_map];omega
  have hs:=ih (j + 1) (by omega)
  rw [gB kJ x.f3 j hj] at hs
  refine Ev.step (fun k=>by rw [zh.l1,hx,hw,PN x.f3 j hj]) (yJ p1 (yJ p2 (yJ q1 (yJ q2 (yJ q3 ?_)))))
  exact hs
theorem znu (l:List qO) (hl:l.length ≤ 1000000000) (hF:∀ x ∈ l,Yi x):∀ d i,i + d = l.length → Ev (fun k=>zh.l0 k l ((l.map kr).take i) (i:Int)) (l.map kr):=by
 intro d
 induction d with
 | zero =>
  intro i h
  refine Ev.step (fun k=>by rw [zh.l0]) (xW (by omega) (jo ?_ (Ev.now _)))
  rw [List.take_of_length_le (by rw [List.length_map];omega)]
 | succ d ih =>
  intro i h
  have hi:i < l.length:=by omega
  have hr:=ih (i + 1) (by omega)
  rw [gB kr l i hi] at hr
  have hx:=zKw l i hi
  obtain ⟨h3,h4,h5,_⟩:=hF _ (List.getElem_mem hi)
  have q1:(i:Int) < (l.length:Int):=by omega
  have q2:(0:Int) ≤ (i:Int):=by omega
  have hacc:((l.map kr).take i).length ≤ 1000000000:=by rw [List.length_take];omega
  generalize l[i] = x at hr hx h3 h4 h5
  have s3:=zlQ l i hi hl x hx h5 ((l.map kr).take i) hacc x.f0 x.f1 x.f2 (x.f3.map kJ) (x.f4.map wX) _ hr x.f5.length 0 (by omega)
  have s2:=zlX l i hi hl x hx h4 ((l.map kr).take i) x.f0 x.f1 x.f2 (x.f3.map kJ) _ (by simpa using s3) x.f4.length 0 (by omega)
  have s1:=zlJ l i hi hl x hx h3 ((l.map kr).take i) x.f0 x.f1 x.f2 _ (by simpa using s2) x.f3.length 0 (by omega)
  exact Ev.step (fun k=>by rw [zh.l0,hx]) (yJ q1 (yJ q2 (by simpa using s1)))
theorem zlV (l:List qO) (hl:l.length ≤ 1000000000) (hF:∀ x ∈ l,Yi x):Ev (fun k=>zh.f k l) (l.map kr):=by
 have h:=znu l hl hF l.length 0 (by omega)
 rw [List.take_zero] at h
 exact Ev.congr (fun k=>by rw [zh.f];rfl) h
theorem zeC (l:List qO) (hl:l.length ≤ 1000000000) (hF:∀ x ∈ l,Yi x):∀ d i,i + d = l.length → Ev (fun k=>qN.l0 k (l.map kr) (i:Int)) ((l.drop i).all jY):=by
 intro d
 induction d with
 | zero =>
  intro i h
  refine Ev.step (fun k=>by rw [qN.l0,List.length_map]) (xW (by omega) (jo ?_ (Ev.now _)))
  rw [List.drop_eq_nil_of_le (by omega)];rfl
 | succ d ih =>
  intro i h
  have hi:i < l.length:=by omega
  have hr:=ih (i + 1) (by omega)
  have hw:wrap64 ((i:Int) + 1) = ((i + 1:Nat):Int):=(kQ (by omega) (by omega)).trans (by omega)
  have hx:=zyI l i hi
  obtain ⟨h3,h4,h5,ha,hz⟩:=hF _ (List.getElem_mem hi)
  have q1:(i:Int) < (l.length:Int):=by omega
  have q2:(0:Int) ≤ (i:Int):=by omega
  rw [List.drop_eq_getElem_cons hi,List.all_cons]
  generalize l[i] = x at hx h3 h4 h5 ha hz ⊢
  have hv:=lX x.f0 x.f1 x.f2 x.f3 x.f4 x.f5 h3 h4 h5 ha hz
  refine Ev.step (fun k=>by rw [qN.l0,List.length_map,hx,hw]) (yJ q1 (yJ q2 ?_))
  refine J9 hv ?_
  show Ev _ (vL x.f0 x.f2 x.f3 x.f4 x.f5 && _)
  cases vL x.f0 x.f2 x.f3 x.f4 x.f5 with
  | true=>exact yJ rfl hr
  | false=>exact xW (by simp) (Ev.now _)
theorem zaT (l:List qO) (hl:l.length ≤ 1000000000) (hF:∀ x ∈ l,Yi x):Ev (fun k=>qN.f k (l.map kr)) (l.all jY):=by
 have h:=zeC l hl hF l.length 0 (by omega)
 rw [List.drop_zero] at h
 exact Ev.congr (fun k=>by rw [qN.f];rfl) h
theorem zeD (l:List UInt8) (hl:l.length ≤ 140737488355328):∀ d i,l.length - i = d → i ≤ l.length → Ev (fun k=>qj.l0 k (bar l) (i:Int)) ((l.drop i).all okB && (decide (1 ≤ l.length) && decide (l.length ≤ 10))):=by
 intro d
 induction d with
 | zero =>
  intro i hd hi
  have e:l.drop i = []:=List.drop_eq_nil_of_le (by omega)
  rw [e]
  refine Ev.step (fun k=>by rw [qj.l0,KA]) (xW (by omega) ?_)
  by_cases h:1 ≤ l.length
  ·refine yJ (by omega) (jo ?_ (Ev.now _))
   rw [List.all_nil,decide_eq_true h,Bool.true_and,Bool.true_and]
   exact decide_eq_decide.2 (by omega)
  ·refine xW (by omega) (jo ?_ (Ev.now _))
   rw [List.all_nil,decide_eq_false h];rfl
 | succ d ih =>
  intro i hd hi
  have h1:i < l.length:=by omega
  have q0:(0:Int) ≤ (i:Int):=by omega
  have q1:(i:Int) < (l.length:Int):=by omega
  have hw:wrap64 ((i:Int) + 1) = ((i + 1:Nat):Int):=(kQ (by omega) (by omega)).trans (by omega)
  have hr:=ih (i + 1) (by omega) (by omega)
  have hb:=zja l i h1
  rw [List.drop_eq_getElem_cons h1,List.all_cons]
  refine Ev.step (fun k=>by rw [qj.l0,KA,hb,hw]) (yJ q1 (yJ q0 ?_))
  clear hb hw
  generalize l[i] = b at *
  by_cases a1:b.toNat < 33
  ·refine yJ (by omega) (jo ?_ (Ev.now _))
   have:okB b = false:=by unfold okB;rw [decide_eq_false (by omega:¬ 33 ≤ b.toNat)];rfl
   rw [this];rfl
  ·refine xW (by omega) ?_
   by_cases a2:126 < b.toNat
   ·refine yJ (by omega) (jo ?_ (Ev.now _))
    have:okB b = false:=by unfold okB;rw [decide_eq_false (by omega:¬ b.toNat ≤ 126),Bool.and_false]
    rw [this];rfl
   ·refine xW (by omega) (jo ?_ hr)
    have:okB b = true:=by unfold okB;rw [decide_eq_true (by omega:33 ≤ b.toNat),decide_eq_true (by omega:b.toNat ≤ 126)];rfl
    rw [this,Bool.true_and]
theorem o8 (s:ByteArray) (hs:s.size ≤ 140737488355328):Ev (fun k=>qj.f k s) (!ZN s):=by
 obtain ⟨l,rfl⟩:=zdw s
 rw [KA] at hs
 have h1:Ev (fun k=>qj.l0 k (bar l) 0) _:=zeD l hs _ 0 rfl (Nat.zero_le _)
 refine Ev.congr (fun k=>by rw [qj.f]) (jo ?_ h1)
 rw [List.drop_zero]
 unfold ZN Zc
 rw [Bool.not_not,zW5,Bool.and_comm,Bool.and_assoc]
theorem zyL (c:ByteArray) (l:List wB) (hl:l.length ≤ 1000000000):∀ d i,i + d = l.length → Ev (fun k=>qA.l0 k c l (i:Int)) (mg (l.drop i) c):=by
 intro d
 induction d with
 | zero =>
  intro i h
  refine Ev.step (fun k=>by rw [qA.l0]) (xW (by omega) (jo ?_ (Ev.now _)))
  rw [List.drop_eq_nil_of_le (by omega)];rfl
 | succ d ih =>
  intro i h
  have hi:i < l.length:=by omega
  have hr:=ih (i + 1) (by omega)
  have hw:wrap64 ((i:Int) + 1) = ((i + 1:Nat):Int):=(kQ (by omega) (by omega)).trans (by omega)
  have hx:=zg3 l i hi
  have q1:(i:Int) < (l.length:Int):=by omega
  have q2:(0:Int) ≤ (i:Int):=by omega
  rw [List.drop_eq_getElem_cons hi]
  unfold mg at hr ⊢
  rw [List.find?_cons]
  refine Ev.step (fun k=>by rw [qA.l0,hx,hw]) (yJ q1 (yJ q2 ?_))
  by_cases he:l[i].f0 = c
  ·refine yJ (YA.2 he) (jo ?_ (Ev.now _))
   rw [decide_eq_true he]
  ·refine xW (fun e=>he (YA.1 e)) (jo ?_ hr)
   rw [decide_eq_false he]
theorem zkm (c:ByteArray) (l:List wB) (hl:l.length ≤ 1000000000):Ev (fun k=>qA.f k c l) (mg l c):=by
 have h:=zyL c l hl l.length 0 (by omega)
 rw [List.drop_zero] at h
 exact Ev.congr (fun k=>by rw [qA.f];rfl) h
theorem rdS (l:List ByteArray) (i:Nat) (h:i < l.length):qJ ByteArray.empty l (i:Int) = l[i]:=by rw [zkU];simp [List.getD_eq_getElem?_getD,h]
theorem zaU (x:qO) (hx:Yi x) (l:List ByteArray) (hl:l.length ≤ 1000000000):∀ d i,i + d = l.length →
  (∀ acc:List ByteArray,acc.length ≤ i → Ev (fun k=>z8.l0 k l acc (i:Int) x.f0 x.f1 x.f2 (x.f3.map kJ) (x.f4.map wX) (x.f5.map wJ)) (acc ++ kU (fjoin x) (l.drop i))) ∧
  (0 < d → ∀ (acc:List ByteArray) (c:ByteArray),acc.length ≤ i → Ev (fun k=>z8.l1 k l acc (i:Int) c x.f0 x.f1 x.f2 (x.f3.map kJ) (x.f4.map wX) (x.f5.map wJ)) (acc ++ (YH (fjoin x) c (l.drop (i + 1))).1 :: kU (fjoin x) (YH (fjoin x) c (l.drop (i + 1))).2)):=by
 obtain ⟨h3,h4,h5,ha,hz⟩:=hx
 intro d
 induction d with
 | zero =>
  intro i h
  refine ⟨fun acc hacc=>Ev.step (fun k=>by rw [z8.l0]) (xW (by omega) (jo ?_ (Ev.now _))),fun h=>absurd h (Nat.lt_irrefl _)⟩
  rw [List.drop_eq_nil_of_le (by omega),kU,List.append_nil]
 | succ d ih =>
  intro i h
  have hi:i < l.length:=by omega
  have hw:wrap64 ((i:Int) + 1) = ((i + 1:Nat):Int):=(kQ (by omega) (by omega)).trans (by omega)
  have q1:(i:Int) < (l.length:Int):=by omega
  have q2:(0:Int) ≤ (i:Int):=by omega
  have p2:(0:Int) ≤ ((i + 1:Nat):Int):=by omega
  obtain ⟨g0,g1⟩:=ih (i + 1) (by omega)
  have key:∀ (acc:List ByteArray) (c:ByteArray),acc.length ≤ i → Ev (fun k=>z8.l1 k l acc (i:Int) c x.f0 x.f1 x.f2 (x.f3.map kJ) (x.f4.map wX) (x.f5.map wJ)) (acc ++ (YH (fjoin x) c (l.drop (i + 1))).1 :: kU (fjoin x) (YH (fjoin x) c (l.drop (i + 1))).2):=by
   intro acc c hacc
   have q3:acc.length < 8796093022208:=by omega
   by_cases hd:i + 1 < l.length
   ·have p1:((i + 1:Nat):Int) < (l.length:Int):=by omega
    have hj:=ziD x.f0 x.f1 x.f2 x.f3 x.f4 x.f5 c l[i + 1] h3 h4 h5 ha hz
    rw [List.drop_eq_getElem_cons hd,YH]
    refine Ev.step (fun k=>by rw [z8.l1,hw,rdS l (i + 1) hd]) (yJ p1 (yJ p2 (Ev.bind hj ?_)))
    show Ev (fun n=>if (fjoin x c l[i + 1]).2 = true then z8.l1 n l acc ((i + 1:Nat):Int) (fjoin x c l[i + 1]).1 x.f0 x.f1 x.f2 (x.f3.map kJ) (x.f4.map wX) (x.f5.map wJ) else _) _
    by_cases hq:(fjoin x c l[i + 1]).2 = true
    ·rw [if_pos hq]
     exact yJ hq (g1 (by omega) acc _ (by omega))
    ·rw [if_neg hq]
     refine xW hq (yJ q3 (jo ?_ (g0 (acc ++ [c]) (by simp;omega))))
     rw [List.append_assoc,← List.drop_eq_getElem_cons hd];rfl
   ·refine Ev.step (fun k=>by rw [z8.l1,hw]) (xW (by omega) (yJ q3 (jo ?_ (g0 (acc ++ [c]) (by simp;omega)))))
    rw [List.drop_eq_nil_of_le (by omega),List.append_assoc];rfl
  refine ⟨fun acc hacc=>?_,fun _=>key⟩
  rw [List.drop_eq_getElem_cons hi,kU]
  exact Ev.step (fun k=>by rw [z8.l0,rdS l i hi]) (yJ q1 (yJ q2 (key acc l[i] hacc)))
theorem zY1 (x:qO) (hx:Yi x) (l:List ByteArray) (hl:l.length ≤ 1000000000):Ev (fun k=>z8.f k x.f0 x.f1 x.f2 (x.f3.map kJ) (x.f4.map wX) (x.f5.map wJ) l) (kU (fjoin x) l):=by
 have h:=(zaU x hx l hl l.length 0 (by omega)).1 [] (Nat.le_refl _)
 rw [List.drop_zero,List.nil_append] at h
 exact Ev.congr (fun k=>by rw [z8.f];rfl) h
theorem zQo (x:qO) (hx:Yi x) (n:ByteArray):Ev (fun k=>qd.f k x.f0 x.f1 x.f2 (x.f3.map kJ) (x.f4.map wX) (x.f5.map wJ) n) (PO x n):=by
 have h1:Ev (fun k=>qd.l0 k n 0 x.f0 x.f1 x.f2 (x.f3.map kJ) (x.f4.map wX) (x.f5.map wJ)) _:=hasL x.f0 x.f1 x.f2 (x.f3.map kJ) (x.f4.map wX) (x.f5.map wJ) n (by rw [List.length_map];exact hx.1) _ 0 rfl (Nat.zero_le _)
 rw [List.drop_zero,VO] at h1
 exact Ev.congr (fun k=>by rw [qd.f]) h1
theorem zg4 (l:List qO) (hl:l.length ≤ 1000000000) (hF:∀ x ∈ l,Yi x) (n:ByteArray):∀ d i,i + d = l.length → Ev (fun k=>qg.l0 k (l.map kr) n (i:Int)) (X9 n (l.drop i) i):=by
 intro d
 induction d with
 | zero =>
  intro i h
  refine Ev.step (fun k=>by rw [qg.l0,List.length_map]) (xW (by omega) (jo ?_ (Ev.now _)))
  rw [List.drop_eq_nil_of_le (by omega)];rfl
 | succ d ih =>
  intro i h
  have hi:i < l.length:=by omega
  have hr:=ih (i + 1) (by omega)
  have hw:wrap64 ((i:Int) + 1) = ((i + 1:Nat):Int):=(kQ (by omega) (by omega)).trans (by omega)
  have hx:=zyI l i hi
  have hf:=hF _ (List.getElem_mem hi)
  have q1:(i:Int) < (l.length:Int):=by omega
  have q2:(0:Int) ≤ (i:Int):=by omega
  rw [List.drop_eq_getElem_cons hi,X9]
  generalize l[i] = x at hx hf ⊢
  have hh:=zQo x hf n
  refine Ev.step (fun k=>by rw [qg.l0,List.length_map,hx,hw]) (yJ q1 (yJ q2 ?_))
  by_cases hs:x.f1 = true
  ·refine yJ hs (Ev.bind hh ?_)
   by_cases hq:PO x n = true
   ·rw [if_pos (by rw [hs,hq];rfl)]
    exact yJ hq (Ev.now _)
   ·rw [if_neg (by simp [hq])]
    exact xW hq hr
  ·rw [if_neg (by simp [hs])]
   exact xW hs hr
theorem zeE (l:List qO) (hl:l.length ≤ 1000000000) (hF:∀ x ∈ l,Yi x) (a:Nat) (ha:a < l.length) (n:ByteArray):Ev (fun k=>qg.f k (l.map kr) (a:Int) n) (kR l (a:Int) n):=by
 have h:=zg4 l hl hF n l.length 0 (by omega)
 rw [List.drop_zero] at h
 have hx:=zyI l a ha
 have hx0:j5 l (a:Int) = l[a]:=zKw l a ha
 have hf:=hF _ (List.getElem_mem ha)
 have q1:(a:Int) < (l.length:Int):=by omega
 have q2:(0:Int) ≤ (a:Int):=by omega
 unfold kR
 rw [hx0]
 generalize l[a] = x at hx hf ⊢
 have hh:=zQo x hf n
 refine Ev.congr (fun k=>by rw [qg.f,List.length_map,hx]) (yJ q2 (yJ q1 ?_))
 refine Ev.bind hh ?_
 by_cases hq:PO x n = true
 ·rw [if_pos hq];exact yJ hq (Ev.now _)
 ·rw [if_neg hq];exact xW hq h
end Go.Proofs.YtggifbbiiickmaaGreatDoor
namespace Go.Proofs.YtggifbbiiickmaaGreatDoor.PX
open Go.RowKit Go.Proofs.zk.zA Go.Proofs.zk.yB Go.Proofs.zk.yA
attribute [local go_sem] xR xS vM vN xB xC xU vv   -- for this text's walks alone
set_option linter.unusedVariables false
set_option linter.unusedSimpArgs false
def vW.f (l0:List (ji)) (zl:Int) (zf:Int) (zO:Bool) (zI:Bool):Option (Bool):=if zl ≥ 0 then (if zl < (l0.length:Int) then (if zf ≥ 1 then (some (decide (zf ≤ 1000))) else (some false)) else (some false)) else (some false)
set_option maxHeartbeats 8000000 in
set_option maxRecDepth 100000 in
theorem vW.calls (A0:Option Addr) (c0:Nat) (l0:List (ji)) (zl:Int) (zf:Int) (zO:Bool) (zI:Bool) (r:Bool) (w:World) (hr0:Kd.C J8 w A0 l0.length l0) (hc0:l0.length ≤ c0) (h:vW.f l0 zl zf zO zI = some r) :
  Calls Tryz.prog 48 #[.slice A0 l0.length c0,.agg #[.int .i64 zl,.int .i64 zf,.bool zO,.bool zI]] w fun e w'=>e = .returned (.bool r) ∧ Below w.heap.size w w':=by
 have za0:=Tryz.underlying41
 have jW:=zx.mk hr0
 have Q9:=zx.mk hc0
 clear hr0 hc0
 have HB:=zx.mk (Below.refl w.heap.size w)
 have H:(if zl ≥ 0 then (if zl < (l0.length:Int) then (if zf ≥ 1 then (some (decide (zf ≤ 1000))) else (some false)) else (some false)) else (some false)) = some r:=h
 clear h
 by_cases c3:zl ≥ 0
 ·rw [if_pos c3] at H
  have Zh:decide (0 ≤ zl) = true:=decide_eq_true c3
  clear c3
  by_cases c4:zl < (l0.length:Int)
  ·rw [if_pos c4] at H
   have ZI:decide (zl < (l0.length:Int)) = true:=decide_eq_true c4
   clear c4
   by_cases c5:zf ≥ 1
   ·rw [if_pos c5] at H
    have wR:decide (1 ≤ zf) = true:=decide_eq_true c5
    clear c5
    obtain rfl:=Option.some.inj H
    go_enter Tryz.func48,Tryz.ntmps48
    go_wp2_with (first | ((with_reducible refine qC (N:=3) rfl ?_);(try (refine jS (by rfl) ?_;dsimp only));refine qM ?hg (N:=3) ?hd (cs:=#[.int .i64 zl,.int .i64 zf,.bool zO,.bool zI]) (t:=41) ?hr ?_;(case hd=>rfl);(case hg=>rfl);(case hr=>first | (go_simp;done) | (go_simp;rfl));intro wC hg w6 qc hb;have zJ:=zx.mk (zo (zH HB.out) hb);have zK:=zx.mk (qc);have zi:=zx.mk ((by rw [hg];exact (ze (zH HB.out)):w.heap.size ≤ wC));have zL:=zx.mk ((by rw [hg];exact (ze (zH HB.out)):w.heap.size ≤ wC));clear HB;have HB:=zJ;have jE:=zK;have zKZ:=zi;have lC:=zL;clear zJ zK zi zL;clear hb qc hg;have zYf:w6.cell? ⟨wC,0,none⟩ = some (.int .i64 zl):=zZ jE 0;have zYg:w6.cell? ⟨wC,1,none⟩ = some (.int .i64 zf):=zZ jE 1;have zYh:w6.cell? ⟨wC,2,none⟩ = some (.bool zO):=zZ jE 2;have zYi:w6.cell? ⟨wC,3,none⟩ = some (.bool zI):=zZ jE 3;have zYl:=zy jE.out 0;have zYm:=zy jE.out 1;have zYn:=zy jE.out 2;have zYo:=zy jE.out 3))
    go_ret
    exact ⟨by first | rfl | (simp [zM,zN] <;> rfl) | (simp [*,zM,zN] <;> rfl),by repeat (first | (with_reducible first | exact HB.out | apply yV | apply zP | apply zT | refine qb ?_ lC.out) | exact HB.out)⟩
   ·rw [if_neg c5] at H
    have wR:decide (1 ≤ zf) = false:=decide_eq_false c5
    clear c5
    obtain rfl:=Option.some.inj H
    go_enter Tryz.func48,Tryz.ntmps48
    go_wp2_with (first | ((with_reducible refine qC (N:=3) rfl ?_);(try (refine jS (by rfl) ?_;dsimp only));refine qM ?hg (N:=3) ?hd (cs:=#[.int .i64 zl,.int .i64 zf,.bool zO,.bool zI]) (t:=41) ?hr ?_;(case hd=>rfl);(case hg=>rfl);(case hr=>first | (go_simp;done) | (go_simp;rfl));intro wC hg w8 qc hb;have zJ:=zx.mk (zo (zH HB.out) hb);have zK:=zx.mk (qc);have zi:=zx.mk ((by rw [hg];exact (ze (zH HB.out)):w.heap.size ≤ wC));have zL:=zx.mk ((by rw [hg];exact (ze (zH HB.out)):w.heap.size ≤ wC));clear HB;have HB:=zJ;have jE:=zK;have zKZ:=zi;have lC:=zL;clear zJ zK zi zL;clear hb qc hg;have ni:w8.cell? ⟨wC,0,none⟩ = some (.int .i64 zl):=zZ jE 0;have nA:w8.cell? ⟨wC,1,none⟩ = some (.int .i64 zf):=zZ jE 1;have nC:w8.cell? ⟨wC,2,none⟩ = some (.bool zO):=zZ jE 2;have nD:w8.cell? ⟨wC,3,none⟩ = some (.bool zI):=zZ jE 3;have nE:=zy jE.out 0;have nG:=zy jE.out 1;have nH:=zy jE.out 2;have nI:=zy jE.out 3))
    go_ret
    exact ⟨by first | rfl | (simp [zM,zN] <;> rfl) | (simp [*,zM,zN] <;> rfl),by repeat (first | (with_reducible first | exact HB.out | apply yV | apply zP | apply zT | refine qb ?_ lC.out) | exact HB.out)⟩
  ·rw [if_neg c4] at H
   have ZI:decide (zl < (l0.length:Int)) = false:=decide_eq_false c4
   clear c4
   obtain rfl:=Option.some.inj H
   go_enter Tryz.func48,Tryz.ntmps48
   go_wp2_with (first | ((with_reducible refine qC (N:=3) rfl ?_);(try (refine jS (by rfl) ?_;dsimp only));refine qM ?hg (N:=3) ?hd (cs:=#[.int .i64 zl,.int .i64 zf,.bool zO,.bool zI]) (t:=41) ?hr ?_;(case hd=>rfl);(case hg=>rfl);(case hr=>first | (go_simp;done) | (go_simp;rfl));intro wC hg Po qc hb;have zJ:=zx.mk (zo (zH HB.out) hb);have zK:=zx.mk (qc);have zi:=zx.mk ((by rw [hg];exact (ze (zH HB.out)):w.heap.size ≤ wC));have zL:=zx.mk ((by rw [hg];exact (ze (zH HB.out)):w.heap.size ≤ wC));clear HB;have HB:=zJ;have jE:=zK;have zKZ:=zi;have lC:=zL;clear zJ zK zi zL;clear hb qc hg;have zzr:Po.cell? ⟨wC,0,none⟩ = some (.int .i64 zl):=zZ jE 0;have zzs:Po.cell? ⟨wC,1,none⟩ = some (.int .i64 zf):=zZ jE 1;have zzt:Po.cell? ⟨wC,2,none⟩ = some (.bool zO):=zZ jE 2;have zzu:Po.cell? ⟨wC,3,none⟩ = some (.bool zI):=zZ jE 3;have zzA:=zy jE.out 0;have zzB:=zy jE.out 1;have zzC:=zy jE.out 2;have zzD:=zy jE.out 3))
   go_ret
   exact ⟨by first | rfl | (simp [zM,zN] <;> rfl) | (simp [*,zM,zN] <;> rfl),by repeat (first | (with_reducible first | exact HB.out | apply yV | apply zP | apply zT | refine qb ?_ lC.out) | exact HB.out)⟩
 ·rw [if_neg c3] at H
  have Zh:decide (0 ≤ zl) = false:=decide_eq_false c3
  clear c3
  obtain rfl:=Option.some.inj H
  go_enter Tryz.func48,Tryz.ntmps48
  go_wp2_with (first | ((with_reducible refine qC (N:=3) rfl ?_);(try (refine jS (by rfl) ?_;dsimp only));refine qM ?hg (N:=3) ?hd (cs:=#[.int .i64 zl,.int .i64 zf,.bool zO,.bool zI]) (t:=41) ?hr ?_;(case hd=>rfl);(case hg=>rfl);(case hr=>first | (go_simp;done) | (go_simp;rfl));intro wC hg Yq qc hb;have zJ:=zx.mk (zo (zH HB.out) hb);have zK:=zx.mk (qc);have zi:=zx.mk ((by rw [hg];exact (ze (zH HB.out)):w.heap.size ≤ wC));have zL:=zx.mk ((by rw [hg];exact (ze (zH HB.out)):w.heap.size ≤ wC));clear HB;have HB:=zJ;have jE:=zK;have zKZ:=zi;have lC:=zL;clear zJ zK zi zL;clear hb qc hg;have Xm:Yq.cell? ⟨wC,0,none⟩ = some (.int .i64 zl):=zZ jE 0;have Xn:Yq.cell? ⟨wC,1,none⟩ = some (.int .i64 zf):=zZ jE 1;have Xo:Yq.cell? ⟨wC,2,none⟩ = some (.bool zO):=zZ jE 2;have Xp:Yq.cell? ⟨wC,3,none⟩ = some (.bool zI):=zZ jE 3;have Xr:=zy jE.out 0;have Xt:=zy jE.out 1;have Xu:=zy jE.out 2;have XA:=zy jE.out 3))
  go_ret
  exact ⟨by first | rfl | (simp [zM,zN] <;> rfl) | (simp [*,zM,zN] <;> rfl),by repeat (first | (with_reducible first | exact HB.out | apply yV | apply zP | apply zT | refine qb ?_ lC.out) | exact HB.out)⟩
end Go.Proofs.YtggifbbiiickmaaGreatDoor.PX
namespace Go.Proofs.YtggifbbiiickmaaGreatDoor.PX
open Go.RowKit Go.Proofs.zk.zA Go.Proofs.zk.yB Go.Proofs.zk.yA
attribute [local go_sem] xR xS vM vN xB xC xU vv   -- for this text's walks alone
set_option linter.unusedVariables false
set_option linter.unusedSimpArgs false
mutual
def zV.l0:Nat → List (ji) → List ByteArray → List (vP) → List ByteArray → Int → Int → Int → Bool → Bool → Option ((List (vP)) × List ByteArray)
 | 0,_,_,_,_,_,_,_,_,_=>none
 | k + 1,x0,x2,x8,x9,x10,Qp,Za,JL,Qr=>if x10 < (x2.length:Int) then (if 0 ≤ x10 then ((qg.f k x0 Qp (qJ ByteArray.empty x2 x10)).bind fun t182=>(if t182 < 0 then (if x9.length < 8796093022208 then (zV.l0 k x0 x2 x8 (x9 ++ [qJ ByteArray.empty x2 x10]) (wrap64 (x10 + 1)) Qp Za JL Qr) else (none)) else (if Qr = true then (if (wrap64 ((x8.length:Int) - 1)) ≥ 0 then (if 0 ≤ (wrap64 ((x8.length:Int) - 1)) then (if (wrap64 ((x8.length:Int) - 1)) < (x8.length:Int) then (zV.j1 k x0 x2 x8 x9 x10 t182 (wrap64 ((x8.length:Int) - 1)) (((yj x8 (wrap64 ((x8.length:Int) - 1))).f2) == t182) Qp Za JL Qr) else (none)) else (none)) else (zV.j1 k x0 x2 x8 x9 x10 t182 (wrap64 ((x8.length:Int) - 1)) false Qp Za JL Qr)) else (zV.j1 k x0 x2 x8 x9 x10 t182 (wrap64 ((x8.length:Int) - 1)) false Qp Za JL Qr)))) else (none)) else (some (x8,x9))
def zV.j1:Nat → List (ji) → List ByteArray → List (vP) → List ByteArray → Int → Int → Int → Bool → Int → Int → Bool → Bool → Option ((List (vP)) × List ByteArray)
 | 0,_,_,_,_,_,_,_,_,_,_,_,_=>none
 | k + 1,x0,x2,x8,x9,x10,wF,x12,x57,Qp,Za,JL,Qr=>if x57 = true then (if 0 ≤ wF then (if wF < (x0.length:Int) then (if 0 ≤ x12 then (if x12 < (x8.length:Int) then (if 0 ≤ x10 then (if x10 < (x2.length:Int) then ((uD.f k ((zw x0 wF).f0) ((zw x0 wF).f1) ((zw x0 wF).f2) ((zw x0 wF).f3) ((zw x0 wF).f4) ((zw x0 wF).f5) ((yj x8 x12).f4) (qJ ByteArray.empty x2 x10) Za).bind fun mo=>(if mo.1 = 0 then ((yM.f k ((zw x0 wF).f0) ((zw x0 wF).f1) ((zw x0 wF).f2) ((zw x0 wF).f3) ((zw x0 wF).f4) ((zw x0 wF).f5) (qJ ByteArray.empty x2 x10) Za).bind fun lD=>(if x8.length < 1599289640401 then (zV.l0 k x0 x2 (x8 ++ [(⟨0,lD.1,wF,Za,qJ ByteArray.empty x2 x10,(⟨#[]⟩:ByteArray),([]:List Int)⟩:vP)]) x9 (wrap64 (x10 + 1)) Qp Za JL Qr) else (none))) else (if x8.length < 1599289640401 then ((some (x8 ++ [(⟨2,mo.1,0,0,(⟨#[]⟩:ByteArray),(⟨#[]⟩:ByteArray),([]:List Int)⟩:vP)]:List (vP))).bind fun Xa=>((yM.f k ((zw x0 wF).f0) ((zw x0 wF).f1) ((zw x0 wF).f2) ((zw x0 wF).f3) ((zw x0 wF).f4) ((zw x0 wF).f5) (qJ ByteArray.empty x2 x10) Za).bind fun bq=>(if Xa.length < 1599289640401 then (zV.l0 k x0 x2 (Xa ++ [(⟨0,bq.1,wF,Za,qJ ByteArray.empty x2 x10,(⟨#[]⟩:ByteArray),([]:List Int)⟩:vP)]) x9 (wrap64 (x10 + 1)) Qp Za JL Qr) else (none)))) else (none)))) else (none)) else (none)) else (none)) else (none)) else (none)) else (none)) else (if 0 ≤ wF then (if wF < (x0.length:Int) then (if 0 ≤ x10 then (if x10 < (x2.length:Int) then ((yM.f k ((zw x0 wF).f0) ((zw x0 wF).f1) ((zw x0 wF).f2) ((zw x0 wF).f3) ((zw x0 wF).f4) ((zw x0 wF).f5) (qJ ByteArray.empty x2 x10) Za).bind fun zKQ=>(if x8.length < 1599289640401 then (zV.l0 k x0 x2 (x8 ++ [(⟨0,zKQ.1,wF,Za,qJ ByteArray.empty x2 x10,(⟨#[]⟩:ByteArray),([]:List Int)⟩:vP)]) x9 (wrap64 (x10 + 1)) Qp Za JL Qr) else (none))) else (none)) else (none)) else (none)) else (none))
end
def zV.f (k:Nat) (l0:List (ji)) (zl:Int) (zf:Int) (zO:Bool) (zI:Bool) (l2:List ByteArray):Option ((List (vP)) × List ByteArray):=zV.l0 k l0 l2 ([]:List (vP)) ([]:List ByteArray) 0 zl zf zO zI
def zV.T6:Bool × List (List Nat × List Nat):=(true,[([],[]),([],[]),([1],[1]),([],[]),([],[]),([3,4],[3,4]),([5],[5]),([0,2,6],[0,2,6]),([7,7,0,1,2,3,4,5,6,7],[7])])
def zV.B6:List Nat:=[0,0,2,0,0,24,56,127,255]
theorem zV.ny:vR .any (opsOf Tryz.f52 6) = zV.T6:=by kernel_rfl
theorem zV.PY:uV zV.T6.2 zV.B6 = true:=by kernel_rfl
def zV.T11:Bool × List (List Nat × List Nat):=(true,[([],[]),([],[]),([0,1],[0,1]),([2],[2]),([],[]),([],[]),([4,5],[4,5]),([6],[6]),([7],[7]),([],[]),([],[]),([9,10],[9,10]),([11],[11]),([],[]),([13],[13]),([3,8,12,14],[3,8,12,14]),([15],[15]),([16],[16]),([16],[16]),([17,15,0,1,2,3,4,5,6,7,8,9,10,11,12,13,14,15,16,17],[17]),([18,19,0,1,2,3,4,5,6,7,8,9,10,11,12,13,14,15,16,17,18,19],[18])])
def zV.B11:List Nat:=[0,0,3,7,0,0,48,112,240,0,0,1536,3584,0,8192,32767,65535,131071,131071,262143,1048575]
theorem zV.zcs:vR .any (opsOf Tryz.f52 11) = zV.T11:=by kernel_rfl
theorem zV.zY2:uV zV.T11.2 zV.B11 = true:=by kernel_rfl
def zV.T14:Bool × List (List Nat × List Nat):=(true,[([],[]),([],[]),([0,1],[0,1]),([2],[2]),([],[]),([],[]),([4,5],[4,5]),([6],[6]),([],[]),([8],[8]),([3,7,9],[3,7,9]),([10],[10]),([11],[11]),([11],[11]),([12,10,0,1,2,3,4,5,6,7,8,9,10,11,12],[12]),([13,14,0,1,2,3,4,5,6,7,8,9,10,11,12,13,14],[13])])
def zV.B14:List Nat:=[0,0,3,7,0,0,48,112,0,256,1023,2047,4095,4095,8191,32767]
theorem zV.zxR:vR .any (opsOf Tryz.f52 14) = zV.T14:=by kernel_rfl
theorem zV.zyM:uV zV.T14.2 zV.B14 = true:=by kernel_rfl
def zV.T15:Bool × List (List Nat × List Nat):=(true,[([],[]),([],[]),([],[]),([],[]),([3],[3]),([],[]),([],[]),([5,6],[5,6]),([7],[7]),([1,2,4,8],[1,2,4,8]),([9],[9]),([0,10],[0,10]),([11,11,0,1,2,3,4,5,6,7,8,9,10,11],[0,11])])
def zV.B15:List Nat:=[0,0,0,0,8,0,0,96,224,510,1022,2047,4095]
theorem zV.zKX:vR .any (opsOf Tryz.f52 15) = zV.T15:=by kernel_rfl
theorem zV.zyN:uV zV.T15.2 zV.B15 = true:=by kernel_rfl
set_option maxHeartbeats 8000000 in
set_option maxRecDepth 100000 in
theorem zV.calls (k:Nat) (A0:Option Addr) (c0:Nat) (l0:List (ji)) (zl:Int) (zf:Int) (zO:Bool) (zI:Bool) (A2:Option Addr) (c2:Nat) (l2:List ByteArray) (r1:List (vP)) (r2:List ByteArray) (w:World) (hr0:Kd.C J8 w A0 l0.length l0) (hc0:l0.length ≤ c0) (hr2:Kd.C Kd.string w A2 l2.length l2) (hc2:l2.length ≤ c2) (h:zV.f k l0 zl zf zO zI l2 = some (r1,r2)) :
  Calls Tryz.prog 52 #[.slice A0 l0.length c0,.agg #[.int .i64 zl,.int .i64 zf,.bool zO,.bool zI],.slice A2 l2.length c2] w fun e w'=>∃ Qw v1_:Value,e = .returned (.tuple #[Qw,v1_]) ∧ Kd.S X8 53 w' w.heap.size (fun _=>True) Qw r1 ∧ Kd.R Kd.string 9 w' w.heap.size (fun _=>True) v1_ r2 ∧ Below w.heap.size w w':=by
 have za0:=Tryz.underlying41
 have VW:=Tryz.underlying101
 have zg5:=Tryz.underlying53
 have jW:=zx.mk hr0
 have Q9:=zx.mk hc0
 clear hr0 hc0
 have HR2:=zx.mk hr2
 have HC2:=zx.mk hc2
 clear hr2 hc2
 have HB:=zx.mk (Below.refl w.heap.size w)
 have H:(zV.l0 k l0 l2 ([]:List (vP)) ([]:List ByteArray) 0 zl zf zO zI) = some (r1,r2):=h
 clear h
 have H':=zx.mk H
 clear H
 go_enter Tryz.func52,Tryz.ntmps52
 go_wp2_with (first | ((with_reducible refine qC (N:=4) rfl ?_);refine qM ?hg (N:=4) ?hd (cs:=#[.int .i64 zl,.int .i64 zf,.bool zO,.bool zI]) (t:=41) ?hr ?_;(case hd=>rfl);(case hg=>rfl);(case hr=>first | (go_simp;done) | (go_simp;rfl));intro xg hg w4 qc hb;have zJ:=zx.mk (zo (zH HB.out) hb);have zK:=zx.mk (qc);have zi:=zx.mk ((by rw [hg];exact (ze (zH HB.out)):w.heap.size ≤ xg));have zL:=zx.mk ((by rw [hg];exact (ze (zH HB.out)):w.heap.size ≤ xg));clear HB;have HB:=zJ;have zS:=zK;have zuk:=zi;have zlK:=zL;clear zJ zK zi zL;clear hb qc hg))
 go_loopg [8,9,10] k (fun kq v8 v9 v10 w'=>∃ (yX:List (vP)) (xO:List ByteArray) (yY:Int),v10 = .int .i64 yY ∧ zx (zV.l0 kq l0 l2 yX xO yY zl zf zO zI = some (r1,r2)) ∧ zx (kq ≤ k) ∧ zx (Kd.S X8 53 w' w.heap.size (fun _=>True) v8 yX) ∧ zx (Kd.R Kd.string 9 w' w.heap.size (fun _=>True) v9 xO) ∧ zx (w'.heap[xg]? = some (.cells #[.int .i64 zl,.int .i64 zf,.bool zO,.bool zI] 41 (0,0))) ∧ zx (Below w.heap.size w w'))
 case atStart=>exact ⟨(([]:List (vP))),(([]:List ByteArray)),(0),(by first | rfl | (simp;done) | (simp [*];done)),H',⟨Nat.le_refl _⟩,⟨by first | exact Kd.YQ _ _ _ _ _ | exact Kd.Yc _ _ _ _ _ | exact Kd.Yd _ _ _ _ _ | exact Kd.Ya _ _ _ _ _ | exact Kd.jw _ _ _ _ _⟩,⟨by first | exact Kd.jw _ _ _ _ _ | exact Kd.Yc _ _ _ _ _ | exact Kd.Yd _ _ _ _ _ | exact Kd.Ya _ _ _ _ _ | exact Kd.YQ _ _ _ _ _⟩,⟨qh zS.out⟩,⟨zH HB.out⟩⟩
 case round =>
  clear H'
  try clear c2
  obtain ⟨yX,xO,yY,rfl,HA,uK,xE,xu,zS,HB⟩:=hrel
  cases gk with
  | zero=>exact absurd HA.out (by simp [zV.l0])
  | succ k1 =>
   have H:=HA.out
   clear HA
   simp only [zV.l0] at H
   by_cases c5:yY < (l2.length:Int)
   ·rw [if_pos c5] at H
    have wR:decide (yY < (l2.length:Int)) = true:=decide_eq_true c5
    clear c5
    by_cases c6:0 ≤ yY
    ·rw [if_pos c6] at H
     have pq:decide (0 ≤ yY) = true:=decide_eq_true c6
     clear c6
     replace H:=Option.bind_eq_some_iff.mp H
     obtain ⟨t182,mQ,H⟩:=H
     replace H:(if t182 < 0 then (if xO.length < 8796093022208 then (zV.l0 k1 l0 l2 yX (xO ++ [qJ ByteArray.empty l2 yY]) (wrap64 (yY + 1)) zl zf zO zI) else (none)) else (if zI = true then (if (wrap64 ((yX.length:Int) - 1)) ≥ 0 then (if 0 ≤ (wrap64 ((yX.length:Int) - 1)) then (if (wrap64 ((yX.length:Int) - 1)) < (yX.length:Int) then (zV.j1 k1 l0 l2 yX xO yY t182 (wrap64 ((yX.length:Int) - 1)) (((yj yX (wrap64 ((yX.length:Int) - 1))).f2) == t182) zl zf zO zI) else (none)) else (none)) else (zV.j1 k1 l0 l2 yX xO yY t182 (wrap64 ((yX.length:Int) - 1)) false zl zf zO zI)) else (zV.j1 k1 l0 l2 yX xO yY t182 (wrap64 ((yX.length:Int) - 1)) false zl zf zO zI))) = some (r1,r2):=H
     have A7:=zx.mk mQ
     clear mQ
     by_cases c8:t182 < 0
     ·rw [if_pos c8] at H
      have X6:decide (t182 < 0) = true:=decide_eq_true c8
      clear c8
      by_cases c9:xO.length < 8796093022208
      ·rw [if_pos c9] at H
       have znA:=zx.mk c9
       clear c9
       obtain ⟨zg6,zxS⟩:∃ y_:List ByteArray,y_ = (xO ++ [qJ ByteArray.empty l2 yY]):=⟨_,rfl⟩
       replace H:(zV.l0 k1 l0 l2 yX zg6 (wrap64 (yY + 1)) zl zf zO zI) = some (r1,r2):=by first | (rw [zxS];with_reducible exact H) | (have jC:=(Option.bind_some _ _).symm.trans H;rw [zxS];with_reducible exact jC) | (have jC:=(Option.bind_some _ _).symm.trans H;with_reducible exact jC) | with_reducible exact H | (rw [zxS];exact H) | exact H
       have zlY:=zx.mk zxS
       clear zxS
       have H':=zx.mk H
       clear H
       try go_wp2
       have zJ:=zx.mk (Kd.qR xE.out)
       have zK:=zx.mk (Kd.vB xu.out)
       have zi:=zx.mk (qK zS.out)
       have zL:=zx.mk (zT HB.out)
       clear xE xu zS HB
       have xE:=zJ
       have xu:=zK
       have zS:=zi
       have HB:=zL
       clear zJ zK zi zL
       have o9:0 ≤ (yY:Int):=of_decide_eq_true yE
       have zzq:yY < (l2.length:Int):=of_decide_eq_true yE
       obtain ⟨Zr,e181,YW⟩:=Kd.uw HR2.out yY o9 zzq
       have Qs:=YW
       cases e181
       replace YW:=(HB.out.cell (World.block_lt_of_cell? w _ YW)).trans YW
       replace o9:=eq_true o9
       replace zzq:=eq_true zzq
       refine jy (n:=9) (S:=fun w'=>w'.cell? ⟨xg,0,none⟩ = some (.int .i64 zl) ∧ w'.cell? ⟨xg,1,none⟩ = some (.int .i64 zf) ∧ w'.cell? ⟨xg,2,none⟩ = some (.bool zO) ∧ w'.cell? ⟨xg,3,none⟩ = some (.bool zI) ∧ w'.cell? (Zr.add (yY).toNat) = some (.string (qJ ByteArray.empty l2 yY))) (ds:=[]) #[false,false,false,false,false,false,false,false,false] (by kernel_rfl) rfl rfl ⟨zZ zS 0,zZ zS 1,zZ zS 2,zZ zS 3,((HB.out.cell (World.block_lt_of_cell? w _ Qs)).trans Qs)⟩ (fun hHeld=>?_);refine uZ zV.ny zV.PY (fun za vC=>?_)
       generalize wr.drew = Po at xE xu zS HB YW hHeld ⊢
       refine yQ 0 (some 23) za ?_
       refine yQ 1 (some 24) za ?_
       refine yQ 3 (some 26) za ?_
       refine yQ 4 (some 27) za ?_
       refine yQ 5 (some 28) za ?_
       refine jg 2 (some 25) za vC hHeld ?_
       refine jg 6 (some 29) za vC hHeld ?_
       refine wZ 7 (some 30) za (fun K hK=>?_)
       refine je Tryz.func108 (by kernel_rfl) rfl #[.slice A0 l0.length c0,.int .i64 zl,.string (qJ ByteArray.empty l2 yY)] (by rfl) rfl rfl (by (try simp only [List.map_toArray,List.map_cons,List.map_nil]);first | done | rfl | (simp only [List.length_drop,List.length_take];rfl)) ?_
       with_reducible refine (qg.calls k1 _ _ l0 zl (qJ ByteArray.empty l2 yY) t182 _ ?yc ?yI A7.out).mono ?_
       (case yc=>exact ql (Kd.zu jW.out HB.out))
       (case yI=>exact Q9.out)
       rintro e oq ⟨rfl,hb⟩
       refine ⟨_,rfl,?_⟩
       have zJ:=zx.mk (Kd.y8 (uq xE.out) hb)
       have zK:=zx.mk (Kd.qG (qp xu.out) hb)
       have zi:=zx.mk (zU (g:=xg) (o:=.cells #[.int .i64 zl,.int .i64 zf,.bool zO,.bool zI] 41 (0,0)) (qh zS.out) hb)
       have zL:=zx.mk (zo (zH HB.out) hb)
       clear xE xu zS HB
       have xE:=zJ
       have xu:=zK
       have zS:=zi
       have HB:=zL
       clear zJ zK zi zL
       (try clear hb)
       (try clear hk)
       refine hK.out _ _ ⟨zZ zS 0,zZ zS 1,zZ zS 2,zZ zS 3,((HB.out.cell (World.block_lt_of_cell? w _ Qs)).trans Qs)⟩ (fun hHeld=>?_)
       clear hK K
       refine wY (some 30) ?_
       refine yQ 8 (some 11) za ?_
       refine xP (qH za.out (by kernel_rfl)) ?_
       have zKJ:0 ≤ (yY:Int):=of_decide_eq_true yE
       have zKV:yY < (l2.length:Int):=of_decide_eq_true yE
       obtain ⟨zlW,znB,zzN⟩:=Kd.uw HR2.out yY zKJ zKV
       obtain rfl:Zr = zlW:=(by injection znB)
       replace zzN:=(HB.out.cell (World.block_lt_of_cell? w _ zzN)).trans zzN
       replace zKJ:=eq_true zKJ
       replace zKV:=eq_true zKV
       try go_wp2_with (first | ((with_reducible refine pR (b:=.append) (xs:=#[.tmp 33,.tmp 38]) rfl ?_);at_builtin;refine Kd.Qy Kd.string (w0:=w) w.heap.size rfl (.tmp 33) (.tmp 38) 27 9 (.string ⟨#[]⟩) 16 rfl Tryz.underlying27 zzo rfl (by decide) (by omega) u9 xO (qJ ByteArray.empty l2 yY) [.string (qJ ByteArray.empty l2 yY)] (fun _=>True) (fun _=>False) rfl rfl ?aP (fun _ hk=>hk.elim) ?aF ?aO ?aB ?aS ?aL ?_;(case aP=>exact rfl);(case aB=>exact (zH HB.out));(case aF=>exact (fun _ _=>trivial));(case aO=>exact (qp xu.out));(case aS=>exact (ze (zH HB.out)));(case aL=>have:=znA.out;omega);intro zAy Yq ho hb hg hat;rw [← zlY.out] at ho;have zJ:=zx.mk (Kd.zc9 (uq xE.out) (Kd.nV (qp xu.out)) (by decide) hg);have zK:=zx.mk (uO (g:=xg) (o:=.cells #[.int .i64 zl,.int .i64 zf,.bool zO,.bool zI] 41 (0,0)) (qh zS.out) hg (Kd.Vz xu.out zS.out (by decide)));have zi:=zx.mk (hb);have zL:=zx.mk (ho);clear xE;clear zS;clear HB;clear xu;have xE:=zJ;have zS:=zK;have HB:=zi;have zla:=zL;clear zJ zK zi zL;clear ho hb hg hat))
       go_roundg k1
       case measure=>have:=uK.out;omega
       case rel=>exact ⟨(yX),(zg6),(wrap64 (yY + 1)),(by first | rfl | (simp;done) | (simp [*];done)),H',⟨by have:=uK.out;omega⟩,⟨by (with_reducible repeat (first | apply Kd.vK | apply Kd.vY | apply Kd.qR));exact xE.out⟩,⟨qp zla.out⟩,⟨qh zS.out⟩,⟨zH HB.out⟩⟩
      ·rw [if_neg c9] at H
       exact absurd H (by simp)
     ·rw [if_neg c8] at H
      have X6:decide (t182 < 0) = false:=decide_eq_false c8
      clear c8
      have za1:=zx.mk H
      clear H
      try go_wp2
      have zJ:=zx.mk (Kd.qR xE.out)
      have zK:=zx.mk (Kd.vB xu.out)
      have zi:=zx.mk (qK zS.out)
      have zL:=zx.mk (zT HB.out)
      clear xE xu zS HB
      have xE:=zJ
      have xu:=zK
      have zS:=zi
      have HB:=zL
      clear zJ zK zi zL
      have o9:0 ≤ (yY:Int):=of_decide_eq_true yE
      have zzq:yY < (l2.length:Int):=of_decide_eq_true yE
      obtain ⟨Zr,e181,YW⟩:=Kd.uw HR2.out yY o9 zzq
      have Qs:=YW
      cases e181
      replace YW:=(HB.out.cell (World.block_lt_of_cell? w _ YW)).trans YW
      replace o9:=eq_true o9
      replace zzq:=eq_true zzq
      refine jy (n:=9) (S:=fun w'=>w'.cell? ⟨xg,0,none⟩ = some (.int .i64 zl) ∧ w'.cell? ⟨xg,1,none⟩ = some (.int .i64 zf) ∧ w'.cell? ⟨xg,2,none⟩ = some (.bool zO) ∧ w'.cell? ⟨xg,3,none⟩ = some (.bool zI) ∧ w'.cell? (Zr.add (yY).toNat) = some (.string (qJ ByteArray.empty l2 yY))) (ds:=[]) #[false,false,false,false,false,false,false,false,false] (by kernel_rfl) rfl rfl ⟨zZ zS 0,zZ zS 1,zZ zS 2,zZ zS 3,((HB.out.cell (World.block_lt_of_cell? w _ Qs)).trans Qs)⟩ (fun hHeld=>?_);refine uZ zV.ny zV.PY (fun za vC=>?_)
      generalize wr.drew = Kg at xE xu zS HB YW hHeld ⊢
      refine yQ 0 (some 23) za ?_
      refine yQ 1 (some 24) za ?_
      refine yQ 3 (some 26) za ?_
      refine yQ 4 (some 27) za ?_
      refine yQ 5 (some 28) za ?_
      refine jg 2 (some 25) za vC hHeld ?_
      refine jg 6 (some 29) za vC hHeld ?_
      refine wZ 7 (some 30) za (fun K hK=>?_)
      refine je Tryz.func108 (by kernel_rfl) rfl #[.slice A0 l0.length c0,.int .i64 zl,.string (qJ ByteArray.empty l2 yY)] (by rfl) rfl rfl (by (try simp only [List.map_toArray,List.map_cons,List.map_nil]);first | done | rfl | (simp only [List.length_drop,List.length_take];rfl)) ?_
      with_reducible refine (qg.calls k1 _ _ l0 zl (qJ ByteArray.empty l2 yY) t182 _ ?yc ?yI A7.out).mono ?_
      (case yc=>exact ql (Kd.zu jW.out HB.out))
      (case yI=>exact Q9.out)
      rintro e Zi ⟨rfl,hb⟩
      refine ⟨_,rfl,?_⟩
      have zJ:=zx.mk (Kd.y8 (uq xE.out) hb)
      have zK:=zx.mk (Kd.qG (qp xu.out) hb)
      have zi:=zx.mk (zU (g:=xg) (o:=.cells #[.int .i64 zl,.int .i64 zf,.bool zO,.bool zI] 41 (0,0)) (qh zS.out) hb)
      have zL:=zx.mk (zo (zH HB.out) hb)
      clear xE xu zS HB
      have xE:=zJ
      have xu:=zK
      have zS:=zi
      have HB:=zL
      clear zJ zK zi zL
      (try clear hb)
      (try clear hk)
      refine hK.out _ _ ⟨zZ zS 0,zZ zS 1,zZ zS 2,zZ zS 3,((HB.out.cell (World.block_lt_of_cell? w _ Qs)).trans Qs)⟩ (fun hHeld=>?_)
      clear hK K
      refine wY (some 30) ?_
      refine yQ 8 (some 11) za ?_
      refine xP (qH za.out (by kernel_rfl)) ?_
      obtain ⟨zg7,zKK,znC⟩:=Kd.wm xE.out
      subst znC
      go_upto_region 10 with (fail)
      go_cut [57] (fun v57 wc=>∃ (kq:Nat) (zxT:Bool),v57 = .bool zxT ∧ zx (zV.j1 kq l0 l2 yX xO yY t182 (wrap64 ((yX.length:Int) - 1)) zxT zl zf zO zI = some (r1,r2)) ∧ zx (kq ≤ k1) ∧ zx (Kd.S X8 53 wc w.heap.size (fun _=>True) (.slice zg7 yX.length zKK) yX) ∧ zx (Kd.R Kd.string 9 wc w.heap.size (fun _=>True) u9 xO) ∧ zx (wc.heap[xg]? = some (.cells #[.int .i64 zl,.int .i64 zf,.bool zO,.bool zI] 41 (0,0))) ∧ zx (Below w.heap.size w wc))
      case first =>
       have H:=za1.out
       clear za1
       by_cases c17:zI = true
       ·subst c17
        have H1:(if (wrap64 ((yX.length:Int) - 1)) ≥ 0 then (if 0 ≤ (wrap64 ((yX.length:Int) - 1)) then (if (wrap64 ((yX.length:Int) - 1)) < (yX.length:Int) then (zV.j1 k1 l0 l2 yX xO yY t182 (wrap64 ((yX.length:Int) - 1)) (((yj yX (wrap64 ((yX.length:Int) - 1))).f2) == t182) zl zf zO true) else (none)) else (none)) else (zV.j1 k1 l0 l2 yX xO yY t182 (wrap64 ((yX.length:Int) - 1)) false zl zf zO true)) = some (r1,r2):=by rw [if_pos rfl] at H;exact H
        clear H
        have H:=H1
        clear H1
        by_cases c18:(wrap64 ((yX.length:Int) - 1)) ≥ 0
        ·rw [if_pos c18] at H
         have lF:decide (0 ≤ (wrap64 ((yX.length:Int) - 1))) = true:=decide_eq_true c18
         clear c18
         (first | rw [lF] | (simp only [uF,jZ];rw [lF]) | skip)
         obtain ⟨Ky,zzO⟩:∃ j_:Int,(wrap64 ((yX.length:Int) - 1)) = j_:=⟨_,rfl⟩
         replace H:(if 0 ≤ (Ky) then (if (Ky) < (yX.length:Int) then (zV.j1 k1 l0 l2 yX xO yY t182 Ky (((yj yX (Ky)).f2) == t182) zl zf zO true) else (none)) else (none)) = some (r1,r2):=by first | (rw [zzO] at H;exact H) | (simp only [zzO] at H ⊢;exact H)
         (try rw [zzO] at lF)
         have zte:(IntKind.i64.wrap ((yX.length:Int) - 1)) = Ky:=(uF _).trans zzO
         by_cases c20:0 ≤ (Ky)
         ·rw [if_pos c20] at H
          have zlb:decide (0 ≤ (Ky)) = true:=decide_eq_true c20
          clear c20
          by_cases c21:(Ky) < (yX.length:Int)
          ·rw [if_pos c21] at H
           have zVF:decide ((Ky) < (yX.length:Int)) = true:=decide_eq_true c21
           clear c21
           have H':=zx.mk H
           clear H
           have aC:Zi.cell? ⟨xg,0,none⟩ = some (.int .i64 zl):=zZ zS 0
           have aD:Zi.cell? ⟨xg,1,none⟩ = some (.int .i64 zf):=zZ zS 1
           have aG:Zi.cell? ⟨xg,2,none⟩ = some (.bool zO):=zZ zS 2
           have aH:Zi.cell? ⟨xg,3,none⟩ = some (.bool true):=zZ zS 3
           have aI:=zy zS.out 0
           have aM:=zy zS.out 1
           have aN:=zy zS.out 2
           have aR:=zy zS.out 3
           have zyO:0 ≤ ((Ky):Int):=of_decide_eq_true yE
           have zyP:(Ky) < (yX.length:Int):=of_decide_eq_true yE
           obtain ⟨zuy,ztf,ztg,e187,zeF,zeG,zeH,zeI,zeL,zeM,zQp,zQr,zQs⟩:=Vy (Kd.qU xE.out).2.2 (Ky) zyO zyP
           cases e187
           obtain ⟨zuw,zg8,zg9,zY3⟩:=Kd.zkp xE.out z53 (Ky) zyO (by first | exact zyP | exact of_decide_eq_true yE | (have e_:=(Kd.qU xE.out).1;omega))
           obtain ⟨zp7,rfl,zvn⟩:=mZ zg9
           have aT:=zY3 6 _ rfl
           rw [vZ _ _ 6 (by omega)] at aT
           replace aT:=Option.some.inj (aT.symm.trans zQp)
           rw [aT] at zvn
           have zp8:=zx.mk (show Kd.R (Kd.int .i64) 3 _ _ _ _ ((yj yX (Ky)).f6) from zvn)
           clear aT zvn zY3 zg8
           have zp9:=zx.mk zQs
           have zrz:=zx.mk zQr
           clear zQs zQr
           replace zyO:=eq_true zyO
           replace zyP:=eq_true zyP
           go_wp2
           subst zzO
           go_meet
           case rel=>exact ⟨_,((((yj yX (wrap64 ((yX.length:Int) - 1))).f2) == t182)),(by first | rfl | (simp;done) | (simp only [← zzO] <;> (first | rfl | simp)) | (simp [*];done)),H',⟨by have:=uK.out;first | omega | exact Nat.le_refl _⟩,⟨by (with_reducible repeat (first | apply Kd.vK | apply Kd.vY | apply Kd.qR));exact xE.out⟩,⟨qp xu.out⟩,⟨qh zS.out⟩,⟨zH HB.out⟩⟩
          ·rw [if_neg c21] at H
           exact absurd H (by simp)
         ·rw [if_neg c20] at H
          exact absurd H (by simp)
        ·rw [if_neg c18] at H
         have lF:decide (0 ≤ (wrap64 ((yX.length:Int) - 1))) = false:=decide_eq_false c18
         clear c18
         (first | rw [lF] | (simp only [uF,jZ];rw [lF]) | skip)
         have H':=zx.mk H
         clear H
         have rJ:Zi.cell? ⟨xg,0,none⟩ = some (.int .i64 zl):=zZ zS 0
         have rV:Zi.cell? ⟨xg,1,none⟩ = some (.int .i64 zf):=zZ zS 1
         have rY:Zi.cell? ⟨xg,2,none⟩ = some (.bool zO):=zZ zS 2
         have rW:Zi.cell? ⟨xg,3,none⟩ = some (.bool true):=zZ zS 3
         have ru:=zy zS.out 0
         have rA:=zy zS.out 1
         have rD:=zy zS.out 2
         have rE:=zy zS.out 3
         go_wp2
         go_meet
         case rel=>exact ⟨_,(false),(by first | rfl | (simp;done) | (simp [*];done)),H',⟨by have:=uK.out;first | omega | exact Nat.le_refl _⟩,⟨by (with_reducible repeat (first | apply Kd.vK | apply Kd.vY | apply Kd.qR));exact xE.out⟩,⟨qp xu.out⟩,⟨qh zS.out⟩,⟨zH HB.out⟩⟩
       ·replace c17:=Bool.eq_false_iff.mpr c17
        subst c17
        have H1:(zV.j1 k1 l0 l2 yX xO yY t182 (wrap64 ((yX.length:Int) - 1)) false zl zf zO false) = some (r1,r2):=by rw [if_neg (show ¬ (false = true) by decide)] at H;exact H
        clear H
        have H:=H1
        clear H1
        have H':=zx.mk H
        clear H
        have zeN:Zi.cell? ⟨xg,0,none⟩ = some (.int .i64 zl):=zZ zS 0
        have zeO:Zi.cell? ⟨xg,1,none⟩ = some (.int .i64 zf):=zZ zS 1
        have zeP:Zi.cell? ⟨xg,2,none⟩ = some (.bool zO):=zZ zS 2
        have zeR:Zi.cell? ⟨xg,3,none⟩ = some (.bool false):=zZ zS 3
        have zeS:=zy zS.out 0
        have zeT:=zy zS.out 1
        have zeU:=zy zS.out 2
        have ze0:=zy zS.out 3
        go_wp2
        go_meet
        case rel=>exact ⟨_,(false),(by first | rfl | (simp;done) | (simp [*];done)),H',⟨by have:=uK.out;first | omega | exact Nat.le_refl _⟩,⟨by (with_reducible repeat (first | apply Kd.vK | apply Kd.vY | apply Kd.qR));exact xE.out⟩,⟨qp xu.out⟩,⟨qh zS.out⟩,⟨zH HB.out⟩⟩
      case rest =>
       clear za1
       try clear c2
       try clear c5
       try clear wR
       try clear c6
       try clear pq
       try clear c8
       try clear X6
       try clear c9
       try clear c17
       try clear c18
       try clear lF
       try clear c20
       try clear zlb
       try clear c21
       try clear zVF
       try clear aC
       try clear aD
       try clear aG
       try clear aH
       try clear rJ
       try clear rV
       try clear rY
       try clear rW
       try clear zeN
       try clear zeO
       try clear zeP
       try clear zeR
       try clear aI
       try clear aM
       try clear aN
       try clear aR
       try clear ru
       try clear rA
       try clear rD
       try clear rE
       try clear zeS
       try clear zeT
       try clear zeU
       try clear ze0
       try clear YW
       try clear zzN
       try clear zeF
       try clear zeG
       try clear zeH
       try clear zeI
       try clear zeL
       try clear zeM
       try clear zQp
       try clear o9
       try clear zKJ
       try clear zyO
       try clear zzq
       try clear zKV
       try clear zyP
       obtain ⟨kq,zxT,rfl,HA,zvo,xE,xu,zS,HB⟩:=hcut
       cases kq with
       | zero=>exact absurd HA.out (by simp [zV.j1])
       | succ wS =>
        have H:=HA.out
        clear HA
        simp only [zV.j1] at H
        by_cases c25:zxT = true
        ·subst c25
         have H1:(if 0 ≤ t182 then (if t182 < (l0.length:Int) then (if 0 ≤ (wrap64 ((yX.length:Int) - 1)) then (if (wrap64 ((yX.length:Int) - 1)) < (yX.length:Int) then (if 0 ≤ yY then (if yY < (l2.length:Int) then ((uD.f wS ((zw l0 t182).f0) ((zw l0 t182).f1) ((zw l0 t182).f2) ((zw l0 t182).f3) ((zw l0 t182).f4) ((zw l0 t182).f5) ((yj yX (wrap64 ((yX.length:Int) - 1))).f4) (qJ ByteArray.empty l2 yY) zf).bind fun mo=>(if mo.1 = 0 then ((yM.f wS ((zw l0 t182).f0) ((zw l0 t182).f1) ((zw l0 t182).f2) ((zw l0 t182).f3) ((zw l0 t182).f4) ((zw l0 t182).f5) (qJ ByteArray.empty l2 yY) zf).bind fun lD=>(if yX.length < 1599289640401 then (zV.l0 wS l0 l2 (yX ++ [(⟨0,lD.1,t182,zf,qJ ByteArray.empty l2 yY,(⟨#[]⟩:ByteArray),([]:List Int)⟩:vP)]) xO (wrap64 (yY + 1)) zl zf zO zI) else (none))) else (if yX.length < 1599289640401 then ((some (yX ++ [(⟨2,mo.1,0,0,(⟨#[]⟩:ByteArray),(⟨#[]⟩:ByteArray),([]:List Int)⟩:vP)]:List (vP))).bind fun Xa=>((yM.f wS ((zw l0 t182).f0) ((zw l0 t182).f1) ((zw l0 t182).f2) ((zw l0 t182).f3) ((zw l0 t182).f4) ((zw l0 t182).f5) (qJ ByteArray.empty l2 yY) zf).bind fun bq=>(if Xa.length < 1599289640401 then (zV.l0 wS l0 l2 (Xa ++ [(⟨0,bq.1,t182,zf,qJ ByteArray.empty l2 yY,(⟨#[]⟩:ByteArray),([]:List Int)⟩:vP)]) xO (wrap64 (yY + 1)) zl zf zO zI) else (none)))) else (none)))) else (none)) else (none)) else (none)) else (none)) else (none)) else (none)) = some (r1,r2):=by rw [if_pos rfl] at H;exact H
         clear H
         have H:=H1
         clear H1
         by_cases c26:0 ≤ t182
         ·rw [if_pos c26] at H
          have zuZ:decide (0 ≤ t182) = true:=decide_eq_true c26
          clear c26
          by_cases c27:t182 < (l0.length:Int)
          ·rw [if_pos c27] at H
           have zuQ:decide (t182 < (l0.length:Int)) = true:=decide_eq_true c27
           clear c27
           obtain ⟨vS,zxU⟩:∃ j_:Int,(wrap64 ((yX.length:Int) - 1)) = j_:=⟨_,rfl⟩
           replace H:(if 0 ≤ (vS) then (if (vS) < (yX.length:Int) then (if 0 ≤ yY then (if yY < (l2.length:Int) then ((uD.f wS ((zw l0 t182).f0) ((zw l0 t182).f1) ((zw l0 t182).f2) ((zw l0 t182).f3) ((zw l0 t182).f4) ((zw l0 t182).f5) ((yj yX (vS)).f4) (qJ ByteArray.empty l2 yY) zf).bind fun mo=>(if mo.1 = 0 then ((yM.f wS ((zw l0 t182).f0) ((zw l0 t182).f1) ((zw l0 t182).f2) ((zw l0 t182).f3) ((zw l0 t182).f4) ((zw l0 t182).f5) (qJ ByteArray.empty l2 yY) zf).bind fun lD=>(if yX.length < 1599289640401 then (zV.l0 wS l0 l2 (yX ++ [(⟨0,lD.1,t182,zf,qJ ByteArray.empty l2 yY,(⟨#[]⟩:ByteArray),([]:List Int)⟩:vP)]) xO (wrap64 (yY + 1)) zl zf zO zI) else (none))) else (if yX.length < 1599289640401 then ((some (yX ++ [(⟨2,mo.1,0,0,(⟨#[]⟩:ByteArray),(⟨#[]⟩:ByteArray),([]:List Int)⟩:vP)]:List (vP))).bind fun Xa=>((yM.f wS ((zw l0 t182).f0) ((zw l0 t182).f1) ((zw l0 t182).f2) ((zw l0 t182).f3) ((zw l0 t182).f4) ((zw l0 t182).f5) (qJ ByteArray.empty l2 yY) zf).bind fun bq=>(if Xa.length < 1599289640401 then (zV.l0 wS l0 l2 (Xa ++ [(⟨0,bq.1,t182,zf,qJ ByteArray.empty l2 yY,(⟨#[]⟩:ByteArray),([]:List Int)⟩:vP)]) xO (wrap64 (yY + 1)) zl zf zO zI) else (none)))) else (none)))) else (none)) else (none)) else (none)) else (none)) = some (r1,r2):=by first | (rw [zxU] at H;exact H) | (simp only [zxU] at H ⊢;exact H)
           have zth:(IntKind.i64.wrap ((yX.length:Int) - 1)) = vS:=(uF _).trans zxU
           by_cases c29:0 ≤ (vS)
           ·rw [if_pos c29] at H
            have zuX:decide (0 ≤ (vS)) = true:=decide_eq_true c29
            clear c29
            by_cases P8:(vS) < (yX.length:Int)
            ·rw [if_pos P8] at H
             have zV4:decide ((vS) < (yX.length:Int)) = true:=decide_eq_true P8
             clear P8
             by_cases c31:0 ≤ yY
             ·rw [if_pos c31] at H
              have zcn:decide (0 ≤ yY) = true:=decide_eq_true c31
              clear c31
              by_cases c32:yY < (l2.length:Int)
              ·rw [if_pos c32] at H
               have zco:decide (yY < (l2.length:Int)) = true:=decide_eq_true c32
               clear c32
               replace H:=Option.bind_eq_some_iff.mp H
               obtain ⟨⟨WS,zhz⟩,zhq,H⟩:=H
               replace H:(if WS = 0 then ((yM.f wS ((zw l0 t182).f0) ((zw l0 t182).f1) ((zw l0 t182).f2) ((zw l0 t182).f3) ((zw l0 t182).f4) ((zw l0 t182).f5) (qJ ByteArray.empty l2 yY) zf).bind fun lD=>(if yX.length < 1599289640401 then (zV.l0 wS l0 l2 (yX ++ [(⟨0,lD.1,t182,zf,qJ ByteArray.empty l2 yY,(⟨#[]⟩:ByteArray),([]:List Int)⟩:vP)]) xO (wrap64 (yY + 1)) zl zf zO zI) else (none))) else (if yX.length < 1599289640401 then ((some (yX ++ [(⟨2,WS,0,0,(⟨#[]⟩:ByteArray),(⟨#[]⟩:ByteArray),([]:List Int)⟩:vP)]:List (vP))).bind fun Xa=>((yM.f wS ((zw l0 t182).f0) ((zw l0 t182).f1) ((zw l0 t182).f2) ((zw l0 t182).f3) ((zw l0 t182).f4) ((zw l0 t182).f5) (qJ ByteArray.empty l2 yY) zf).bind fun bq=>(if Xa.length < 1599289640401 then (zV.l0 wS l0 l2 (Xa ++ [(⟨0,bq.1,t182,zf,qJ ByteArray.empty l2 yY,(⟨#[]⟩:ByteArray),([]:List Int)⟩:vP)]) xO (wrap64 (yY + 1)) zl zf zO zI) else (none)))) else (none))) = some (r1,r2):=H
               have A33:=zx.mk zhq
               clear zhq
               by_cases c34:WS = 0
               ·rw [if_pos c34] at H
                have zKY:(WS == 0) = true:=beq_iff_eq.mpr c34
                have zlc:(WS != 0) = false:=bne_eq_false_iff_eq.mpr c34
                clear c34
                replace H:=Option.bind_eq_some_iff.mp H
                obtain ⟨⟨zvp,t196⟩,zhx,H⟩:=H
                replace H:(if yX.length < 1599289640401 then (zV.l0 wS l0 l2 (yX ++ [(⟨0,zvp,t182,zf,qJ ByteArray.empty l2 yY,(⟨#[]⟩:ByteArray),([]:List Int)⟩:vP)]) xO (wrap64 (yY + 1)) zl zf zO zI) else (none)) = some (r1,r2):=H
                have A35:=zx.mk zhx
                clear zhx
                by_cases mD:yX.length < 1599289640401
                ·rw [if_pos mD] at H
                 have zld:=zx.mk mD
                 clear mD
                 obtain ⟨zhj,zx0⟩:∃ y_:List (vP),y_ = (yX ++ [(⟨0,zvp,t182,zf,qJ ByteArray.empty l2 yY,(⟨#[]⟩:ByteArray),([]:List Int)⟩:vP)]):=⟨_,rfl⟩
                 replace H:(zV.l0 wS l0 l2 zhj xO (wrap64 (yY + 1)) zl zf zO zI) = some (r1,r2):=by first | (rw [zx0];with_reducible exact H) | (have jC:=(Option.bind_some _ _).symm.trans H;rw [zx0];with_reducible exact jC) | (have jC:=(Option.bind_some _ _).symm.trans H;with_reducible exact jC) | with_reducible exact H | (rw [zx0];exact H) | exact H
                 have zle:=zx.mk zx0
                 clear zx0
                 have H':=zx.mk H
                 clear H
                 try go_wp2
                 have zJ:=zx.mk (Kd.qR xE.out)
                 have zK:=zx.mk (Kd.vB xu.out)
                 have zi:=zx.mk (qK zS.out)
                 have zL:=zx.mk (zT HB.out)
                 clear xE xu zS HB
                 have xE:=zJ
                 have xu:=zK
                 have zS:=zi
                 have HB:=zL
                 clear zJ zK zi zL
                 have zq0:0 ≤ (t182:Int):=of_decide_eq_true yE
                 have zq1:t182 < (l0.length:Int):=of_decide_eq_true yE
                 obtain ⟨uJ,zzx,zzj,zzv,zzk,zzy,zzw,za2,YO,YP,YR,YS,YT,YU,aU,fq,fZ,fQ,fJ,fV⟩:=ZY jW.out t182 zq0 zq1
                 have Qt:=YU
                 have Qu:=YT
                 have QA:=YS
                 have QB:=YR
                 have QC:=YP
                 have QD:=YO
                 cases za2
                 replace YO:=(HB.out.cell (World.block_lt_of_cell? w _ YO)).trans YO
                 replace YP:=(HB.out.cell (World.block_lt_of_cell? w _ YP)).trans YP
                 replace YR:=(HB.out.cell (World.block_lt_of_cell? w _ YR)).trans YR
                 replace YS:=(HB.out.cell (World.block_lt_of_cell? w _ YS)).trans YS
                 replace YT:=(HB.out.cell (World.block_lt_of_cell? w _ YT)).trans YT
                 replace YU:=(HB.out.cell (World.block_lt_of_cell? w _ YU)).trans YU
                 have fK:=zx.mk fq
                 have zvr:=zx.mk aU
                 clear fq aU
                 have fu:=zx.mk fQ
                 have zvs:=zx.mk fZ
                 clear fQ fZ
                 have fA:=zx.mk fV
                 have zvt:=zx.mk fJ
                 clear fV fJ
                 replace zq0:=eq_true zq0
                 replace zq1:=eq_true zq1
                 have lG:0 ≤ ((vS):Int):=of_decide_eq_true yE
                 have lH:(vS) < (yX.length:Int):=of_decide_eq_true yE
                 obtain ⟨kS,zyR,zyS,e189,fB,fC,fD,fE,fF,fG,WT,fH,fI⟩:=Vy (Kd.qU xE.out).2.2 (vS) lG lH
                 cases e189
                 obtain ⟨zlf,zyT,zyU,zzZ⟩:=Kd.zkp xE.out z53 (vS) lG (by first | exact lH | exact of_decide_eq_true yE | (have e_:=(Kd.qU xE.out).1;omega))
                 obtain ⟨ze1,rfl,WU⟩:=mZ zyU
                 have Y0:=zzZ 6 _ rfl
                 rw [vZ _ _ 6 (by omega)] at Y0
                 replace Y0:=Option.some.inj (Y0.symm.trans WT)
                 rw [Y0] at WU
                 have vV:=zx.mk (show Kd.R (Kd.int .i64) 3 _ _ _ _ ((yj yX (vS)).f6) from WU)
                 clear Y0 WU zzZ zyT
                 have wz:=zx.mk fI
                 have ze2:=zx.mk fH
                 clear fI fH
                 replace lG:=eq_true lG
                 replace lH:=eq_true lH
                 have zq2:0 ≤ (yY:Int):=of_decide_eq_true yE
                 have zq3:yY < (l2.length:Int):=of_decide_eq_true yE
                 obtain ⟨zKW,e190,Y1⟩:=Kd.uw HR2.out yY zq2 zq3
                 have QE:=Y1
                 obtain rfl:Zr = zKW:=(by injection e190)
                 replace Y1:=(HB.out.cell (World.block_lt_of_cell? w _ Y1)).trans Y1
                 replace zq2:=eq_true zq2
                 replace zq3:=eq_true zq3
                 refine jy (n:=21) (S:=fun w'=>w'.cell? ⟨xg,0,none⟩ = some (.int .i64 zl) ∧ w'.cell? ⟨xg,1,none⟩ = some (.int .i64 zf) ∧ w'.cell? ⟨xg,2,none⟩ = some (.bool zO) ∧ w'.cell? ⟨xg,3,none⟩ = some (.bool zI) ∧ w'.cell? (uJ.add ((t182).toNat * 6)) = some (.string ((zw l0 t182).f0)) ∧ w'.cell? ⟨(uJ.add ((t182).toNat * 6)).block,(uJ.add ((t182).toNat * 6)).off + 1,none⟩ = some (.bool ((zw l0 t182).f1)) ∧ w'.cell? ⟨(uJ.add ((t182).toNat * 6)).block,(uJ.add ((t182).toNat * 6)).off + 2,none⟩ = some (.int .i64 ((zw l0 t182).f2)) ∧ w'.cell? ⟨(uJ.add ((t182).toNat * 6)).block,(uJ.add ((t182).toNat * 6)).off + 3,none⟩ = some (.slice zzx ((zw l0 t182).f3).length zzj) ∧ w'.cell? ⟨(uJ.add ((t182).toNat * 6)).block,(uJ.add ((t182).toNat * 6)).off + 4,none⟩ = some (.slice zzv ((zw l0 t182).f4).length zzk) ∧ w'.cell? ⟨(uJ.add ((t182).toNat * 6)).block,(uJ.add ((t182).toNat * 6)).off + 5,none⟩ = some (.slice zzy ((zw l0 t182).f5).length zzw) ∧ w'.cell? (kS.add (((vS)).toNat * 7)) = some (.int .i64 ((yj yX (vS)).f0)) ∧ w'.cell? ⟨(kS.add (((vS)).toNat * 7)).block,(kS.add (((vS)).toNat * 7)).off + 1,none⟩ = some (.int .i64 ((yj yX (vS)).f1)) ∧ w'.cell? ⟨(kS.add (((vS)).toNat * 7)).block,(kS.add (((vS)).toNat * 7)).off + 2,none⟩ = some (.int .i64 ((yj yX (vS)).f2)) ∧ w'.cell? ⟨(kS.add (((vS)).toNat * 7)).block,(kS.add (((vS)).toNat * 7)).off + 3,none⟩ = some (.int .i64 ((yj yX (vS)).f3)) ∧ w'.cell? ⟨(kS.add (((vS)).toNat * 7)).block,(kS.add (((vS)).toNat * 7)).off + 4,none⟩ = some (.string ((yj yX (vS)).f4)) ∧ w'.cell? ⟨(kS.add (((vS)).toNat * 7)).block,(kS.add (((vS)).toNat * 7)).off + 5,none⟩ = some (.string ((yj yX (vS)).f5)) ∧ w'.cell? ⟨(kS.add (((vS)).toNat * 7)).block,(kS.add (((vS)).toNat * 7)).off + 6,none⟩ = some (.slice zyR ((yj yX (vS)).f6).length zyS) ∧ w'.cell? (Zr.add (yY).toNat) = some (.string (qJ ByteArray.empty l2 yY))) (ds:=[]) #[false,false,false,false,false,false,false,false,false,false,false,false,false,false,false,false,false,false,false,false,false] (by kernel_rfl) rfl rfl ⟨zZ zS 0,zZ zS 1,zZ zS 2,zZ zS 3,((HB.out.cell (World.block_lt_of_cell? w _ QD)).trans QD),((HB.out.cell (World.block_lt_of_cell? w _ QC)).trans QC),((HB.out.cell (World.block_lt_of_cell? w _ QB)).trans QB),((HB.out.cell (World.block_lt_of_cell? w _ QA)).trans QA),((HB.out.cell (World.block_lt_of_cell? w _ Qu)).trans Qu),((HB.out.cell (World.block_lt_of_cell? w _ Qt)).trans Qt),fB,fC,fD,fE,fF,fG,WT,((HB.out.cell (World.block_lt_of_cell? w _ QE)).trans QE)⟩ (fun hHeld=>?_);refine uZ zV.zcs zV.zY2 (fun za vC=>?_)
                 generalize wc.drew = w37 at xE xu zS HB vV fK fu fA wz YO YP YR YS YT YU fB fC fD fE fF fG WT Y1 hHeld ⊢
                 refine yQ 0 (some 59) za ?_
                 refine yQ 1 (some 60) za ?_
                 refine yQ 2 (some 61) za ?_
                 refine yQ 4 (some 63) za ?_
                 refine yQ 5 (some 64) za ?_
                 refine yQ 6 (some 65) za ?_
                 refine yQ 7 (some 66) za ?_
                 refine yQ 9 (some 68) za ?_
                 refine yQ 10 (some 69) za ?_
                 refine yQ 11 (some 70) za ?_
                 refine yQ 13 (some 72) za ?_
                 refine jg 3 (some 62) za vC hHeld ?_
                 refine jg 8 (some 67) za vC hHeld ?_
                 refine jg 12 (some 71) za vC hHeld ?_
                 refine jg 14 (some 73) za vC hHeld ?_
                 refine wZ 15 (some 74) za (fun K hK=>?_)
                 refine je Tryz.func109 (by kernel_rfl) rfl #[.agg #[.string ((zw l0 t182).f0),.bool ((zw l0 t182).f1),.int .i64 ((zw l0 t182).f2),.slice zzx ((zw l0 t182).f3).length zzj,.slice zzv ((zw l0 t182).f4).length zzk,.slice zzy ((zw l0 t182).f5).length zzw],.string ((yj yX (vS)).f4),.string (qJ ByteArray.empty l2 yY),.int .i64 zf] (by rfl) rfl rfl (by (try simp only [List.map_toArray,List.map_cons,List.map_nil]);first | done | (simp only [zxU];rfl) | rfl | (simp only [List.length_drop,List.length_take];rfl)) ?_
                 with_reducible refine (uD.calls wS ((zw l0 t182).f0) ((zw l0 t182).f1) ((zw l0 t182).f2) _ _ ((zw l0 t182).f3) _ _ ((zw l0 t182).f4) _ _ ((zw l0 t182).f5) ((yj yX (vS)).f4) (qJ ByteArray.empty l2 yY) zf WS zhz _ ?yc ?yI ?qy ?qw ?qD ?qE A33.out).mono ?_
                 (case yc=>exact ql (Kd.zu fK.out HB.out))
                 (case yI=>exact zvr.out)
                 (case qy=>exact ql (Kd.zu fu.out HB.out))
                 (case qw=>exact zvs.out)
                 (case qD=>exact ql (Kd.zu fA.out HB.out))
                 (case qE=>exact zvt.out)
                 rintro e w38 ⟨rfl,hb⟩
                 have zKa:=(hb.cell (World.block_lt_of_cell? _ _ (hHeld.2.2.2.2.2.2.2.2.2.2.1))).trans (hHeld.2.2.2.2.2.2.2.2.2.2.1)
                 have zKb:=(hb.cell (World.block_lt_of_cell? _ _ (hHeld.2.2.2.2.2.2.2.2.2.2.2.1))).trans (hHeld.2.2.2.2.2.2.2.2.2.2.2.1)
                 have zKc:=(hb.cell (World.block_lt_of_cell? _ _ (hHeld.2.2.2.2.2.2.2.2.2.2.2.2.1))).trans (hHeld.2.2.2.2.2.2.2.2.2.2.2.2.1)
                 have zKd:=(hb.cell (World.block_lt_of_cell? _ _ (hHeld.2.2.2.2.2.2.2.2.2.2.2.2.2.1))).trans (hHeld.2.2.2.2.2.2.2.2.2.2.2.2.2.1)
                 have zKe:=(hb.cell (World.block_lt_of_cell? _ _ (hHeld.2.2.2.2.2.2.2.2.2.2.2.2.2.2.1))).trans (hHeld.2.2.2.2.2.2.2.2.2.2.2.2.2.2.1)
                 have zKf:=(hb.cell (World.block_lt_of_cell? _ _ (hHeld.2.2.2.2.2.2.2.2.2.2.2.2.2.2.2.1))).trans (hHeld.2.2.2.2.2.2.2.2.2.2.2.2.2.2.2.1)
                 have zKg:=(hb.cell (World.block_lt_of_cell? _ _ (hHeld.2.2.2.2.2.2.2.2.2.2.2.2.2.2.2.2.1))).trans (hHeld.2.2.2.2.2.2.2.2.2.2.2.2.2.2.2.2.1)
                 refine ⟨_,rfl,?_⟩
                 have zJ:=zx.mk (Kd.y8 (uq xE.out) hb)
                 have zK:=zx.mk (Kd.qG (qp xu.out) hb)
                 have zi:=zx.mk (Kd.qG (qp vV.out) hb)
                 have zL:=zx.mk (zU (g:=xg) (o:=.cells #[.int .i64 zl,.int .i64 zf,.bool zO,.bool zI] 41 (0,0)) (qh zS.out) hb)
                 have qz:=zx.mk (Kd.zu (ckS wz.out) hb)
                 have xX:=zx.mk (zo (zH HB.out) hb)
                 clear xE xu vV zS wz HB
                 have xE:=zJ
                 have xu:=zK
                 have vV:=zi
                 have zS:=zL
                 have wz:=qz
                 have HB:=xX
                 clear zJ zK zi zL qz xX
                 (try clear hb)
                 (try clear hk)
                 refine hK.out _ _ ⟨zZ zS 0,zZ zS 1,zZ zS 2,zZ zS 3,((HB.out.cell (World.block_lt_of_cell? w _ QD)).trans QD),((HB.out.cell (World.block_lt_of_cell? w _ QC)).trans QC),((HB.out.cell (World.block_lt_of_cell? w _ QB)).trans QB),((HB.out.cell (World.block_lt_of_cell? w _ QA)).trans QA),((HB.out.cell (World.block_lt_of_cell? w _ Qu)).trans Qu),((HB.out.cell (World.block_lt_of_cell? w _ Qt)).trans Qt),zKa,zKb,zKc,zKd,zKe,zKf,zKg,((HB.out.cell (World.block_lt_of_cell? w _ QE)).trans QE)⟩ (fun hHeld=>?_)
                 clear hK K
                 refine wY (some 74) ?_
                 refine yQ 16 (some 58) za ?_
                 refine yQ 17 (some 75) za ?_
                 refine yQ 18 (some 76) za ?_
                 refine yQ 19 (some 13) za ?_
                 refine yQ 20 (some 14) za ?_
                 refine xP (qH za.out (by kernel_rfl)) ?_
                 try go_wp2
                 have zJ:=zx.mk (Kd.qR xE.out)
                 have zK:=zx.mk (Kd.vB xu.out)
                 have zi:=zx.mk (Kd.vB vV.out)
                 have zL:=zx.mk (qK zS.out)
                 have qz:=zx.mk (Kd.oV wz.out)
                 have xX:=zx.mk (zT HB.out)
                 clear xE xu vV zS wz HB
                 have xE:=zJ
                 have xu:=zK
                 have vV:=zi
                 have zS:=zL
                 have wz:=qz
                 have HB:=xX
                 clear zJ zK zi zL qz xX
                 have za3:0 ≤ (t182:Int):=of_decide_eq_true yE
                 have za4:t182 < (l0.length:Int):=of_decide_eq_true yE
                 obtain ⟨zlg,zY4,zY5,zY6,zY7,zY8,zY9,znD,fM,fO,fP,fT,fU,eZ,zQt,zQu,zQA,zQB,zQC,zQD⟩:=ZY jW.out t182 za3 za4
                 have zzP:=eZ
                 have zzR:=fU
                 have zzS:=fT
                 have zzT:=fP
                 have zzU:=fO
                 have zz0:=fM
                 obtain rfl:uJ = zlg:=(by injection znD)
                 replace fM:=(HB.out.cell (World.block_lt_of_cell? w _ fM)).trans fM
                 replace fO:=(HB.out.cell (World.block_lt_of_cell? w _ fO)).trans fO
                 replace fP:=(HB.out.cell (World.block_lt_of_cell? w _ fP)).trans fP
                 replace fT:=(HB.out.cell (World.block_lt_of_cell? w _ fT)).trans fT
                 replace fU:=(HB.out.cell (World.block_lt_of_cell? w _ fU)).trans fU
                 replace eZ:=(HB.out.cell (World.block_lt_of_cell? w _ eZ)).trans eZ
                 have zQE:=zx.mk zQu
                 have ze3:=zx.mk zQt
                 clear zQu zQt
                 have zQF:=zx.mk zQB
                 have ze4:=zx.mk zQA
                 clear zQB zQA
                 have zQG:=zx.mk zQD
                 have ze5:=zx.mk zQC
                 clear zQD zQC
                 replace za3:=eq_true za3
                 replace za4:=eq_true za4
                 have za5:0 ≤ (yY:Int):=of_decide_eq_true yE
                 have za6:yY < (l2.length:Int):=of_decide_eq_true yE
                 obtain ⟨zlh,znE,eX⟩:=Kd.uw HR2.out yY za5 za6
                 have zz1:=eX
                 obtain rfl:Zr = zlh:=(by injection znE)
                 replace eX:=(HB.out.cell (World.block_lt_of_cell? w _ eX)).trans eX
                 replace za5:=eq_true za5
                 replace za6:=eq_true za6
                 refine jy (n:=16) (S:=fun w'=>w'.cell? ⟨xg,0,none⟩ = some (.int .i64 zl) ∧ w'.cell? ⟨xg,1,none⟩ = some (.int .i64 zf) ∧ w'.cell? ⟨xg,2,none⟩ = some (.bool zO) ∧ w'.cell? ⟨xg,3,none⟩ = some (.bool zI) ∧ w'.cell? (uJ.add ((t182).toNat * 6)) = some (.string ((zw l0 t182).f0)) ∧ w'.cell? ⟨(uJ.add ((t182).toNat * 6)).block,(uJ.add ((t182).toNat * 6)).off + 1,none⟩ = some (.bool ((zw l0 t182).f1)) ∧ w'.cell? ⟨(uJ.add ((t182).toNat * 6)).block,(uJ.add ((t182).toNat * 6)).off + 2,none⟩ = some (.int .i64 ((zw l0 t182).f2)) ∧ w'.cell? ⟨(uJ.add ((t182).toNat * 6)).block,(uJ.add ((t182).toNat * 6)).off + 3,none⟩ = some (.slice zY4 ((zw l0 t182).f3).length zY5) ∧ w'.cell? ⟨(uJ.add ((t182).toNat * 6)).block,(uJ.add ((t182).toNat * 6)).off + 4,none⟩ = some (.slice zY6 ((zw l0 t182).f4).length zY7) ∧ w'.cell? ⟨(uJ.add ((t182).toNat * 6)).block,(uJ.add ((t182).toNat * 6)).off + 5,none⟩ = some (.slice zY8 ((zw l0 t182).f5).length zY9) ∧ w'.cell? (Zr.add (yY).toNat) = some (.string (qJ ByteArray.empty l2 yY))) (ds:=[]) #[false,false,false,false,false,false,false,false,false,false,false,false,false,false,false,false] (by kernel_rfl) rfl rfl ⟨zZ zS 0,zZ zS 1,zZ zS 2,zZ zS 3,((HB.out.cell (World.block_lt_of_cell? w _ zz0)).trans zz0),((HB.out.cell (World.block_lt_of_cell? w _ zzU)).trans zzU),((HB.out.cell (World.block_lt_of_cell? w _ zzT)).trans zzT),((HB.out.cell (World.block_lt_of_cell? w _ zzS)).trans zzS),((HB.out.cell (World.block_lt_of_cell? w _ zzR)).trans zzR),((HB.out.cell (World.block_lt_of_cell? w _ zzP)).trans zzP),((HB.out.cell (World.block_lt_of_cell? w _ zz1)).trans zz1)⟩ (fun hHeld=>?_);refine uZ zV.zxR zV.zyM (fun za vC=>?_)
                 generalize w38.drew = w39 at xE xu vV zS wz HB zQE zQF zQG fM fO fP fT fU eZ eX hHeld ⊢
                 refine yQ 0 (some 85) za ?_
                 refine yQ 1 (some 86) za ?_
                 refine yQ 2 (some 87) za ?_
                 refine yQ 4 (some 89) za ?_
                 refine yQ 5 (some 90) za ?_
                 refine yQ 6 (some 91) za ?_
                 refine yQ 8 (some 93) za ?_
                 refine jg 3 (some 88) za vC hHeld ?_
                 refine jg 7 (some 92) za vC hHeld ?_
                 refine jg 9 (some 94) za vC hHeld ?_
                 refine wZ 10 (some 95) za (fun K hK=>?_)
                 refine je Tryz.func71 (by kernel_rfl) rfl #[.agg #[.string ((zw l0 t182).f0),.bool ((zw l0 t182).f1),.int .i64 ((zw l0 t182).f2),.slice zY4 ((zw l0 t182).f3).length zY5,.slice zY6 ((zw l0 t182).f4).length zY7,.slice zY8 ((zw l0 t182).f5).length zY9],.string (qJ ByteArray.empty l2 yY),.int .i64 zf] (by rfl) rfl rfl (by (try simp only [List.map_toArray,List.map_cons,List.map_nil]);first | done | rfl | (simp only [List.length_drop,List.length_take];rfl)) ?_
                 with_reducible refine (yM.calls wS ((zw l0 t182).f0) ((zw l0 t182).f1) ((zw l0 t182).f2) _ _ ((zw l0 t182).f3) _ _ ((zw l0 t182).f4) _ _ ((zw l0 t182).f5) (qJ ByteArray.empty l2 yY) zf zvp t196 _ ?yc ?yI ?qy ?qw ?qD ?qE A35.out).mono ?_
                 (case yc=>exact ql (Kd.zu zQE.out HB.out))
                 (case yI=>exact ze3.out)
                 (case qy=>exact ql (Kd.zu zQF.out HB.out))
                 (case qw=>exact ze4.out)
                 (case qD=>exact ql (Kd.zu zQG.out HB.out))
                 (case qE=>exact ze5.out)
                 rintro e w40 ⟨rfl,hb⟩
                 refine ⟨_,rfl,?_⟩
                 have zJ:=zx.mk (Kd.y8 (uq xE.out) hb)
                 have zK:=zx.mk (Kd.qG (qp xu.out) hb)
                 have zi:=zx.mk (Kd.qG (qp vV.out) hb)
                 have zL:=zx.mk (zU (g:=xg) (o:=.cells #[.int .i64 zl,.int .i64 zf,.bool zO,.bool zI] 41 (0,0)) (qh zS.out) hb)
                 have qz:=zx.mk (Kd.zu (ckS wz.out) hb)
                 have xX:=zx.mk (zo (zH HB.out) hb)
                 clear xE xu vV zS wz HB
                 have xE:=zJ
                 have xu:=zK
                 have vV:=zi
                 have zS:=zL
                 have wz:=qz
                 have HB:=xX
                 clear zJ zK zi zL qz xX
                 (try clear hb)
                 (try clear hk)
                 refine hK.out _ _ ⟨zZ zS 0,zZ zS 1,zZ zS 2,zZ zS 3,((HB.out.cell (World.block_lt_of_cell? w _ zz0)).trans zz0),((HB.out.cell (World.block_lt_of_cell? w _ zzU)).trans zzU),((HB.out.cell (World.block_lt_of_cell? w _ zzT)).trans zzT),((HB.out.cell (World.block_lt_of_cell? w _ zzS)).trans zzS),((HB.out.cell (World.block_lt_of_cell? w _ zzR)).trans zzR),((HB.out.cell (World.block_lt_of_cell? w _ zzP)).trans zzP),((HB.out.cell (World.block_lt_of_cell? w _ zz1)).trans zz1)⟩ (fun hHeld=>?_)
                 clear hK K
                 refine wY (some 95) ?_
                 refine yQ 11 (some 84) za ?_
                 refine yQ 12 (some 96) za ?_
                 refine yQ 13 (some 97) za ?_
                 refine yQ 14 (some 15) za ?_
                 refine yQ 15 (some 16) za ?_
                 refine xP (qH za.out (by kernel_rfl)) ?_
                 try go_wp2
                 have zJ:=zx.mk (Kd.qR xE.out)
                 have zK:=zx.mk (Kd.vB xu.out)
                 have zi:=zx.mk (Kd.vB vV.out)
                 have zL:=zx.mk (qK zS.out)
                 have qz:=zx.mk (Kd.oV wz.out)
                 have xX:=zx.mk (zT HB.out)
                 clear xE xu vV zS wz HB
                 have xE:=zJ
                 have xu:=zK
                 have vV:=zi
                 have zS:=zL
                 have wz:=qz
                 have HB:=xX
                 clear zJ zK zi zL qz xX
                 have za7:0 ≤ (yY:Int):=of_decide_eq_true yE
                 have za8:yY < (l2.length:Int):=of_decide_eq_true yE
                 obtain ⟨zli,e197,eY⟩:=Kd.uw HR2.out yY za7 za8
                 have JM:=eY
                 obtain rfl:Zr = zli:=(by injection e197)
                 replace eY:=(HB.out.cell (World.block_lt_of_cell? w _ eY)).trans eY
                 replace za7:=eq_true za7
                 replace za8:=eq_true za8
                 refine jy (n:=13) (S:=fun w'=>w'.cell? ⟨xg,0,none⟩ = some (.int .i64 zl) ∧ w'.cell? ⟨xg,1,none⟩ = some (.int .i64 zf) ∧ w'.cell? ⟨xg,2,none⟩ = some (.bool zO) ∧ w'.cell? ⟨xg,3,none⟩ = some (.bool zI) ∧ w'.cell? (Zr.add (yY).toNat) = some (.string (qJ ByteArray.empty l2 yY))) (ds:=[]) #[false,false,false,false,false,false,false,false,false,false,false,false,false] (by kernel_rfl) rfl rfl ⟨zZ zS 0,zZ zS 1,zZ zS 2,zZ zS 3,((HB.out.cell (World.block_lt_of_cell? w _ JM)).trans JM)⟩ (fun hHeld=>?_);refine uZ zV.zKX zV.zyN (fun za vC=>?_)
                 generalize w40.drew = w41 at xE xu vV zS wz HB eY hHeld ⊢
                 refine yQ 0 (some 98) za ?_
                 refine yQ 1 (some 99) za ?_
                 refine yQ 2 (some 100) za ?_
                 refine yQ 3 (some 101) za ?_
                 refine yQ 5 (some 103) za ?_
                 refine yQ 6 (some 104) za ?_
                 refine yQ 7 (some 105) za ?_
                 refine jg 4 (some 102) za vC hHeld ?_
                 refine jg 8 (some 106) za vC hHeld ?_
                 refine yQ 9 (some 107) za ?_
                 refine wZ 10 (some 108) za (fun K hK=>?_)
                 refine vaS ?_
                 refine hK.out _ _ ⟨(zQ (yL zS.out _) 0).trans rfl,(zQ (yL zS.out _) 1).trans rfl,(zQ (yL zS.out _) 2).trans rfl,(zQ (yL zS.out _) 3).trans rfl,(World.cell?_alloc_lt _ _ _ (World.block_lt_of_cell? _ _ (((HB.out.cell (World.block_lt_of_cell? w _ JM)).trans JM)))).trans (((HB.out.cell (World.block_lt_of_cell? w _ JM)).trans JM))⟩ (fun hHeld=>?_)
                 clear hK K
                 refine wY (some 108) ?_
                 refine wZ 11 (some 109) za (fun K hK=>?_)
                 refine Kd.PI X8 (w0:=w) w.heap.size (by rfl) (.tmp 98) (.tmp 108) 34 53 (.agg #[(.int .i64 0),(.int .i64 0),(.int .i64 0),(.int .i64 0),(.string ⟨#[]⟩),(.string ⟨#[]⟩),(.slice none 0 0)]) 88 rfl Tryz.underlying34 ng rfl (by decide) (by omega) (.slice (some kS) yX.length zKK) yX (⟨0,zvp,t182,zf,qJ ByteArray.empty l2 yY,(⟨#[]⟩:ByteArray),([]:List Int)⟩:vP) [.int .i64 0,.int .i64 zvp,.int .i64 t182,.int .i64 zf,.string (qJ ByteArray.empty l2 yY),.string (⟨#[]⟩:ByteArray),.slice none 0 0] (fun _=>True) (fun _=>False) rfl rfl ?aP (fun k_ hk_=>hk_.elim) ?aF ?aO ?aB ?aS ?aL ?_
                 (case aP=>exact bW _ _ _ (⟨0,zvp,t182,zf,qJ ByteArray.empty l2 yY,(⟨#[]⟩:ByteArray),([]:List Int)⟩:vP) (Kd.jw _ _ _ _ _))
                 (case aB=>exact (zH HB.out))
                 (case aF=>exact (fun _ _=>trivial))
                 (case aO=>exact (by (with_reducible repeat (first | apply Kd.vK | apply Kd.vY | apply Kd.qR));exact Kd.kD xE.out (fun k_ hk=>⟨trivial,fun e_=>e_⟩)))
                 (case aS=>exact (ze (zH HB.out)))
                 (case aL=>have:=zld.out;omega)
                 intro zAw w42 ho hb hg hat
                 rw [← zle.out] at ho
                 have zJ:=zx.mk (Kd.Vo (qp xu.out) (Kd.Xl (uq xE.out)) (by decide) hg)
                 have zK:=zx.mk (uO (g:=xg) (o:=.cells #[.int .i64 zl,.int .i64 zf,.bool zO,.bool zI] 41 (0,0)) (qh zS.out) hg (Kd.zVc xE.out zS.out (by decide)))
                 have zi:=zx.mk (Kd.zzh (ok:=(fun _=>True)) (qp vV.out) hg hat)
                 have zL:=zx.mk (hb)
                 have qz:=zx.mk (ho)
                 clear xu zS vV HB xE
                 have xu:=zJ
                 have zS:=zK
                 have vV:=zi
                 have HB:=zL
                 have zll:=qz
                 clear zJ zK zi zL qz ho hb hg hat
                 refine hK.out _ _ ⟨zZ zS 0,zZ zS 1,zZ zS 2,zZ zS 3,((HB.out.cell (World.block_lt_of_cell? w _ JM)).trans JM)⟩ (fun hHeld=>?_)
                 clear hK K
                 refine wY (some 109) ?_
                 refine yQ 12 (some 8) za ?_
                 refine xP (qH za.out (by kernel_rfl)) ?_
                 try go_wp2
                 go_roundg wS
                 case measure=>have:=uK.out;have:=zvo.out;omega
                 case rel=>exact ⟨(zhj),(xO),(wrap64 (yY + 1)),(by first | rfl | (simp;done) | (simp [*];done)),H',⟨by have:=uK.out;have:=zvo.out;omega⟩,⟨by (with_reducible repeat (first | apply Kd.vK | apply Kd.vY | apply Kd.qR));exact zll.out⟩,⟨qp xu.out⟩,⟨qh zS.out⟩,⟨zH HB.out⟩⟩
                ·rw [if_neg mD] at H
                 exact absurd H (by simp)
               ·rw [if_neg c34] at H
                have zKY:(WS == 0) = false:=beq_eq_false_iff_ne.mpr c34
                have zlc:(WS != 0) = true:=bne_iff_ne.mpr c34
                by_cases c43:yX.length < 1599289640401
                ·rw [if_pos c43] at H
                 have zlm:=zx.mk c43
                 clear c43
                 obtain ⟨Xa,zx1⟩:∃ y_:List (vP),y_ = (yX ++ [(⟨2,WS,0,0,(⟨#[]⟩:ByteArray),(⟨#[]⟩:ByteArray),([]:List Int)⟩:vP)]):=⟨_,rfl⟩
                 replace H:((yM.f wS ((zw l0 t182).f0) ((zw l0 t182).f1) ((zw l0 t182).f2) ((zw l0 t182).f3) ((zw l0 t182).f4) ((zw l0 t182).f5) (qJ ByteArray.empty l2 yY) zf).bind fun bq=>(if Xa.length < 1599289640401 then (zV.l0 wS l0 l2 (Xa ++ [(⟨0,bq.1,t182,zf,qJ ByteArray.empty l2 yY,(⟨#[]⟩:ByteArray),([]:List Int)⟩:vP)]) xO (wrap64 (yY + 1)) zl zf zO zI) else (none))) = some (r1,r2):=by first | (rw [zx1];with_reducible exact H) | (have jC:=(Option.bind_some _ _).symm.trans H;rw [zx1];with_reducible exact jC) | (have jC:=(Option.bind_some _ _).symm.trans H;with_reducible exact jC) | with_reducible exact H | (rw [zx1];exact H) | exact H
                 have zln:=zx.mk zx1
                 clear zx1
                 replace H:=Option.bind_eq_some_iff.mp H
                 obtain ⟨⟨t206,znF⟩,zhv,H⟩:=H
                 replace H:(if Xa.length < 1599289640401 then (zV.l0 wS l0 l2 (Xa ++ [(⟨0,t206,t182,zf,qJ ByteArray.empty l2 yY,(⟨#[]⟩:ByteArray),([]:List Int)⟩:vP)]) xO (wrap64 (yY + 1)) zl zf zO zI) else (none)) = some (r1,r2):=H
                 have A44:=zx.mk zhv
                 clear zhv
                 by_cases c45:Xa.length < 1599289640401
                 ·rw [if_pos c45] at H
                  have zlo:=zx.mk c45
                  clear c45
                  obtain ⟨zhk,zx2⟩:∃ y_:List (vP),y_ = (Xa ++ [(⟨0,t206,t182,zf,qJ ByteArray.empty l2 yY,(⟨#[]⟩:ByteArray),([]:List Int)⟩:vP)]):=⟨_,rfl⟩
                  replace H:(zV.l0 wS l0 l2 zhk xO (wrap64 (yY + 1)) zl zf zO zI) = some (r1,r2):=by first | (rw [zx2];with_reducible exact H) | (have jC:=(Option.bind_some _ _).symm.trans H;rw [zx2];with_reducible exact jC) | (have jC:=(Option.bind_some _ _).symm.trans H;with_reducible exact jC) | with_reducible exact H | (rw [zx2];exact H) | exact H
                  have zlp:=zx.mk zx2
                  clear zx2
                  have H':=zx.mk H
                  clear H
                  try go_wp2
                  have zJ:=zx.mk (Kd.qR xE.out)
                  have zK:=zx.mk (Kd.vB xu.out)
                  have zi:=zx.mk (qK zS.out)
                  have zL:=zx.mk (zT HB.out)
                  clear xE xu zS HB
                  have xE:=zJ
                  have xu:=zK
                  have zS:=zi
                  have HB:=zL
                  clear zJ zK zi zL
                  have zq0:0 ≤ (t182:Int):=of_decide_eq_true yE
                  have zq1:t182 < (l0.length:Int):=of_decide_eq_true yE
                  obtain ⟨uJ,zzx,zzj,zzv,zzk,zzy,zzw,za2,YO,YP,YR,YS,YT,YU,aU,fq,fZ,fQ,fJ,fV⟩:=ZY jW.out t182 zq0 zq1
                  have Qt:=YU
                  have Qu:=YT
                  have QA:=YS
                  have QB:=YR
                  have QC:=YP
                  have QD:=YO
                  cases za2
                  replace YO:=(HB.out.cell (World.block_lt_of_cell? w _ YO)).trans YO
                  replace YP:=(HB.out.cell (World.block_lt_of_cell? w _ YP)).trans YP
                  replace YR:=(HB.out.cell (World.block_lt_of_cell? w _ YR)).trans YR
                  replace YS:=(HB.out.cell (World.block_lt_of_cell? w _ YS)).trans YS
                  replace YT:=(HB.out.cell (World.block_lt_of_cell? w _ YT)).trans YT
                  replace YU:=(HB.out.cell (World.block_lt_of_cell? w _ YU)).trans YU
                  have fK:=zx.mk fq
                  have zvr:=zx.mk aU
                  clear fq aU
                  have fu:=zx.mk fQ
                  have zvs:=zx.mk fZ
                  clear fQ fZ
                  have fA:=zx.mk fV
                  have zvt:=zx.mk fJ
                  clear fV fJ
                  replace zq0:=eq_true zq0
                  replace zq1:=eq_true zq1
                  have lG:0 ≤ ((vS):Int):=of_decide_eq_true yE
                  have lH:(vS) < (yX.length:Int):=of_decide_eq_true yE
                  obtain ⟨kS,zyR,zyS,e189,fB,fC,fD,fE,fF,fG,WT,fH,fI⟩:=Vy (Kd.qU xE.out).2.2 (vS) lG lH
                  cases e189
                  obtain ⟨zlf,zyT,zyU,zzZ⟩:=Kd.zkp xE.out z53 (vS) lG (by first | exact lH | exact of_decide_eq_true yE | (have e_:=(Kd.qU xE.out).1;omega))
                  obtain ⟨ze1,rfl,WU⟩:=mZ zyU
                  have Y0:=zzZ 6 _ rfl
                  rw [vZ _ _ 6 (by omega)] at Y0
                  replace Y0:=Option.some.inj (Y0.symm.trans WT)
                  rw [Y0] at WU
                  have vV:=zx.mk (show Kd.R (Kd.int .i64) 3 _ _ _ _ ((yj yX (vS)).f6) from WU)
                  clear Y0 WU zzZ zyT
                  have wz:=zx.mk fI
                  have ze2:=zx.mk fH
                  clear fI fH
                  replace lG:=eq_true lG
                  replace lH:=eq_true lH
                  have zq2:0 ≤ (yY:Int):=of_decide_eq_true yE
                  have zq3:yY < (l2.length:Int):=of_decide_eq_true yE
                  obtain ⟨zKW,e190,Y1⟩:=Kd.uw HR2.out yY zq2 zq3
                  have QE:=Y1
                  obtain rfl:Zr = zKW:=(by injection e190)
                  replace Y1:=(HB.out.cell (World.block_lt_of_cell? w _ Y1)).trans Y1
                  replace zq2:=eq_true zq2
                  replace zq3:=eq_true zq3
                  refine jy (n:=21) (S:=fun w'=>w'.cell? ⟨xg,0,none⟩ = some (.int .i64 zl) ∧ w'.cell? ⟨xg,1,none⟩ = some (.int .i64 zf) ∧ w'.cell? ⟨xg,2,none⟩ = some (.bool zO) ∧ w'.cell? ⟨xg,3,none⟩ = some (.bool zI) ∧ w'.cell? (uJ.add ((t182).toNat * 6)) = some (.string ((zw l0 t182).f0)) ∧ w'.cell? ⟨(uJ.add ((t182).toNat * 6)).block,(uJ.add ((t182).toNat * 6)).off + 1,none⟩ = some (.bool ((zw l0 t182).f1)) ∧ w'.cell? ⟨(uJ.add ((t182).toNat * 6)).block,(uJ.add ((t182).toNat * 6)).off + 2,none⟩ = some (.int .i64 ((zw l0 t182).f2)) ∧ w'.cell? ⟨(uJ.add ((t182).toNat * 6)).block,(uJ.add ((t182).toNat * 6)).off + 3,none⟩ = some (.slice zzx ((zw l0 t182).f3).length zzj) ∧ w'.cell? ⟨(uJ.add ((t182).toNat * 6)).block,(uJ.add ((t182).toNat * 6)).off + 4,none⟩ = some (.slice zzv ((zw l0 t182).f4).length zzk) ∧ w'.cell? ⟨(uJ.add ((t182).toNat * 6)).block,(uJ.add ((t182).toNat * 6)).off + 5,none⟩ = some (.slice zzy ((zw l0 t182).f5).length zzw) ∧ w'.cell? (kS.add (((vS)).toNat * 7)) = some (.int .i64 ((yj yX (vS)).f0)) ∧ w'.cell? ⟨(kS.add (((vS)).toNat * 7)).block,(kS.add (((vS)).toNat * 7)).off + 1,none⟩ = some (.int .i64 ((yj yX (vS)).f1)) ∧ w'.cell? ⟨(kS.add (((vS)).toNat * 7)).block,(kS.add (((vS)).toNat * 7)).off + 2,none⟩ = some (.int .i64 ((yj yX (vS)).f2)) ∧ w'.cell? ⟨(kS.add (((vS)).toNat * 7)).block,(kS.add (((vS)).toNat * 7)).off + 3,none⟩ = some (.int .i64 ((yj yX (vS)).f3)) ∧ w'.cell? ⟨(kS.add (((vS)).toNat * 7)).block,(kS.add (((vS)).toNat * 7)).off + 4,none⟩ = some (.string ((yj yX (vS)).f4)) ∧ w'.cell? ⟨(kS.add (((vS)).toNat * 7)).block,(kS.add (((vS)).toNat * 7)).off + 5,none⟩ = some (.string ((yj yX (vS)).f5)) ∧ w'.cell? ⟨(kS.add (((vS)).toNat * 7)).block,(kS.add (((vS)).toNat * 7)).off + 6,none⟩ = some (.slice zyR ((yj yX (vS)).f6).length zyS) ∧ w'.cell? (Zr.add (yY).toNat) = some (.string (qJ ByteArray.empty l2 yY))) (ds:=[]) #[false,false,false,false,false,false,false,false,false,false,false,false,false,false,false,false,false,false,false,false,false] (by kernel_rfl) rfl rfl ⟨zZ zS 0,zZ zS 1,zZ zS 2,zZ zS 3,((HB.out.cell (World.block_lt_of_cell? w _ QD)).trans QD),((HB.out.cell (World.block_lt_of_cell? w _ QC)).trans QC),((HB.out.cell (World.block_lt_of_cell? w _ QB)).trans QB),((HB.out.cell (World.block_lt_of_cell? w _ QA)).trans QA),((HB.out.cell (World.block_lt_of_cell? w _ Qu)).trans Qu),((HB.out.cell (World.block_lt_of_cell? w _ Qt)).trans Qt),fB,fC,fD,fE,fF,fG,WT,((HB.out.cell (World.block_lt_of_cell? w _ QE)).trans QE)⟩ (fun hHeld=>?_);refine uZ zV.zcs zV.zY2 (fun za vC=>?_)
                  generalize wc.drew = w46 at xE xu zS HB vV fK fu fA wz YO YP YR YS YT YU fB fC fD fE fF fG WT Y1 hHeld ⊢
                  refine yQ 0 (some 59) za ?_
                  refine yQ 1 (some 60) za ?_
                  refine yQ 2 (some 61) za ?_
                  refine yQ 4 (some 63) za ?_
                  refine yQ 5 (some 64) za ?_
                  refine yQ 6 (some 65) za ?_
                  refine yQ 7 (some 66) za ?_
                  refine yQ 9 (some 68) za ?_
                  refine yQ 10 (some 69) za ?_
                  refine yQ 11 (some 70) za ?_
                  refine yQ 13 (some 72) za ?_
                  refine jg 3 (some 62) za vC hHeld ?_
                  refine jg 8 (some 67) za vC hHeld ?_
                  refine jg 12 (some 71) za vC hHeld ?_
                  refine jg 14 (some 73) za vC hHeld ?_
                  refine wZ 15 (some 74) za (fun K hK=>?_)
                  refine je Tryz.func109 (by kernel_rfl) rfl #[.agg #[.string ((zw l0 t182).f0),.bool ((zw l0 t182).f1),.int .i64 ((zw l0 t182).f2),.slice zzx ((zw l0 t182).f3).length zzj,.slice zzv ((zw l0 t182).f4).length zzk,.slice zzy ((zw l0 t182).f5).length zzw],.string ((yj yX (vS)).f4),.string (qJ ByteArray.empty l2 yY),.int .i64 zf] (by rfl) rfl rfl (by (try simp only [List.map_toArray,List.map_cons,List.map_nil]);first | done | (simp only [zxU];rfl) | rfl | (simp only [List.length_drop,List.length_take];rfl)) ?_
                  with_reducible refine (uD.calls wS ((zw l0 t182).f0) ((zw l0 t182).f1) ((zw l0 t182).f2) _ _ ((zw l0 t182).f3) _ _ ((zw l0 t182).f4) _ _ ((zw l0 t182).f5) ((yj yX (vS)).f4) (qJ ByteArray.empty l2 yY) zf WS zhz _ ?yc ?yI ?qy ?qw ?qD ?qE A33.out).mono ?_
                  (case yc=>exact ql (Kd.zu fK.out HB.out))
                  (case yI=>exact zvr.out)
                  (case qy=>exact ql (Kd.zu fu.out HB.out))
                  (case qw=>exact zvs.out)
                  (case qD=>exact ql (Kd.zu fA.out HB.out))
                  (case qE=>exact zvt.out)
                  rintro e w47 ⟨rfl,hb⟩
                  have zKa:=(hb.cell (World.block_lt_of_cell? _ _ (hHeld.2.2.2.2.2.2.2.2.2.2.1))).trans (hHeld.2.2.2.2.2.2.2.2.2.2.1)
                  have zKb:=(hb.cell (World.block_lt_of_cell? _ _ (hHeld.2.2.2.2.2.2.2.2.2.2.2.1))).trans (hHeld.2.2.2.2.2.2.2.2.2.2.2.1)
                  have zKc:=(hb.cell (World.block_lt_of_cell? _ _ (hHeld.2.2.2.2.2.2.2.2.2.2.2.2.1))).trans (hHeld.2.2.2.2.2.2.2.2.2.2.2.2.1)
                  have zKd:=(hb.cell (World.block_lt_of_cell? _ _ (hHeld.2.2.2.2.2.2.2.2.2.2.2.2.2.1))).trans (hHeld.2.2.2.2.2.2.2.2.2.2.2.2.2.1)
                  have zKe:=(hb.cell (World.block_lt_of_cell? _ _ (hHeld.2.2.2.2.2.2.2.2.2.2.2.2.2.2.1))).trans (hHeld.2.2.2.2.2.2.2.2.2.2.2.2.2.2.1)
                  have zKf:=(hb.cell (World.block_lt_of_cell? _ _ (hHeld.2.2.2.2.2.2.2.2.2.2.2.2.2.2.2.1))).trans (hHeld.2.2.2.2.2.2.2.2.2.2.2.2.2.2.2.1)
                  have zKg:=(hb.cell (World.block_lt_of_cell? _ _ (hHeld.2.2.2.2.2.2.2.2.2.2.2.2.2.2.2.2.1))).trans (hHeld.2.2.2.2.2.2.2.2.2.2.2.2.2.2.2.2.1)
                  refine ⟨_,rfl,?_⟩
                  have zJ:=zx.mk (Kd.y8 (uq xE.out) hb)
                  have zK:=zx.mk (Kd.qG (qp xu.out) hb)
                  have zi:=zx.mk (Kd.qG (qp vV.out) hb)
                  have zL:=zx.mk (zU (g:=xg) (o:=.cells #[.int .i64 zl,.int .i64 zf,.bool zO,.bool zI] 41 (0,0)) (qh zS.out) hb)
                  have qz:=zx.mk (Kd.zu (ckS wz.out) hb)
                  have xX:=zx.mk (zo (zH HB.out) hb)
                  clear xE xu vV zS wz HB
                  have xE:=zJ
                  have xu:=zK
                  have vV:=zi
                  have zS:=zL
                  have wz:=qz
                  have HB:=xX
                  clear zJ zK zi zL qz xX
                  (try clear hb)
                  (try clear hk)
                  refine hK.out _ _ ⟨zZ zS 0,zZ zS 1,zZ zS 2,zZ zS 3,((HB.out.cell (World.block_lt_of_cell? w _ QD)).trans QD),((HB.out.cell (World.block_lt_of_cell? w _ QC)).trans QC),((HB.out.cell (World.block_lt_of_cell? w _ QB)).trans QB),((HB.out.cell (World.block_lt_of_cell? w _ QA)).trans QA),((HB.out.cell (World.block_lt_of_cell? w _ Qu)).trans Qu),((HB.out.cell (World.block_lt_of_cell? w _ Qt)).trans Qt),zKa,zKb,zKc,zKd,zKe,zKf,zKg,((HB.out.cell (World.block_lt_of_cell? w _ QE)).trans QE)⟩ (fun hHeld=>?_)
                  clear hK K
                  refine wY (some 74) ?_
                  refine yQ 16 (some 58) za ?_
                  refine yQ 17 (some 75) za ?_
                  refine yQ 18 (some 76) za ?_
                  refine yQ 19 (some 13) za ?_
                  refine yQ 20 (some 14) za ?_
                  refine xP (qH za.out (by kernel_rfl)) ?_
                  try go_wp2_with (first | ((with_reducible refine pR (b:=.append) (xs:=#[.tmp 79,.tmp 82]) rfl ?_);at_builtin;refine Kd.zkP X8 (w0:=w) w.heap.size rfl (.tmp 79) (.tmp 82) 34 53 (.agg #[(.int .i64 0),(.int .i64 0),(.int .i64 0),(.int .i64 0),(.string ⟨#[]⟩),(.string ⟨#[]⟩),(.slice none 0 0)]) 88 rfl Tryz.underlying34 ng rfl (by decide) (by omega) (.slice (some kS) yX.length zKK) yX (⟨2,WS,0,0,(⟨#[]⟩:ByteArray),(⟨#[]⟩:ByteArray),([]:List Int)⟩:vP) [.int .i64 2,.int .i64 WS,.int .i64 0,.int .i64 0,.string (⟨#[]⟩:ByteArray),.string (⟨#[]⟩:ByteArray),.slice none 0 0] (fun _=>True) (fun _=>False) rfl rfl ?aP (fun k_ hk_=>hk_.elim) ?aF ?aO ?aB ?aS ?aL ?_;(case aP=>exact bW _ _ _ (⟨2,WS,0,0,(⟨#[]⟩:ByteArray),(⟨#[]⟩:ByteArray),([]:List Int)⟩:vP) (Kd.jw _ _ _ _ _));(case aB=>exact (zH HB.out));(case aF=>exact (fun _ _=>trivial));(case aO=>exact (by (with_reducible repeat (first | apply Kd.vK | apply Kd.vY | apply Kd.qR));exact Kd.kD xE.out (fun k_ hk=>⟨trivial,fun e_=>e_⟩)));(case aS=>exact (ze (zH HB.out)));(case aL=>have:=zlm.out;omega);intro znG w48 ho hb hg hat;rw [← zln.out] at ho;have zJ:=zx.mk (Kd.Vo (qp xu.out) (Kd.Xl (uq xE.out)) (by decide) hg);have zK:=zx.mk (uO (g:=xg) (o:=.cells #[.int .i64 zl,.int .i64 zf,.bool zO,.bool zI] 41 (0,0)) (qh zS.out) hg (Kd.zVc xE.out zS.out (by decide)));have zi:=zx.mk (Kd.zzh (ok:=(fun _=>True)) (qp vV.out) hg hat);have zL:=zx.mk (hb);have qz:=zx.mk (ho);clear xu;clear zS;clear vV;clear HB;clear xE;have xu:=zJ;have zS:=zK;have vV:=zi;have HB:=zL;have Xb:=qz;clear zJ zK zi zL qz;clear ho hb hg hat))
                  have zJ:=zx.mk (Kd.vB xu.out)
                  have zK:=zx.mk (Kd.vB vV.out)
                  have zi:=zx.mk (Kd.qR Xb.out)
                  have zL:=zx.mk (qK zS.out)
                  have qz:=zx.mk (zT HB.out)
                  clear xu vV Xb zS HB
                  have xu:=zJ
                  have vV:=zK
                  have Xb:=zi
                  have zS:=zL
                  have HB:=qz
                  clear zJ zK zi zL qz
                  have za9:0 ≤ (t182:Int):=of_decide_eq_true yE
                  have zbz:t182 < (l0.length:Int):=of_decide_eq_true yE
                  obtain ⟨zlr,zWz,zWq,zWx,zWj,zWv,zWk,e204,eB,eD,eF,eG,eH,eO,zQH,zQI,zQL,zQM,zQN,zQO⟩:=ZY jW.out t182 za9 zbz
                  have zz2:=eO
                  have zz3:=eH
                  have zz4:=eG
                  have zz5:=eF
                  have zz6:=eD
                  have zz7:=eB
                  obtain rfl:uJ = zlr:=(by injection e204)
                  replace eB:=(HB.out.cell (World.block_lt_of_cell? w _ eB)).trans eB
                  replace eD:=(HB.out.cell (World.block_lt_of_cell? w _ eD)).trans eD
                  replace eF:=(HB.out.cell (World.block_lt_of_cell? w _ eF)).trans eF
                  replace eG:=(HB.out.cell (World.block_lt_of_cell? w _ eG)).trans eG
                  replace eH:=(HB.out.cell (World.block_lt_of_cell? w _ eH)).trans eH
                  replace eO:=(HB.out.cell (World.block_lt_of_cell? w _ eO)).trans eO
                  have zQP:=zx.mk zQI
                  have ze6:=zx.mk zQH
                  clear zQI zQH
                  have zQR:=zx.mk zQM
                  have ze7:=zx.mk zQL
                  clear zQM zQL
                  have zQS:=zx.mk zQO
                  have ze8:=zx.mk zQN
                  clear zQO zQN
                  replace za9:=eq_true za9
                  replace zbz:=eq_true zbz
                  have zbq:0 ≤ (yY:Int):=of_decide_eq_true yE
                  have zbx:yY < (l2.length:Int):=of_decide_eq_true yE
                  obtain ⟨zls,znH,eP⟩:=Kd.uw HR2.out yY zbq zbx
                  have zz8:=eP
                  obtain rfl:Zr = zls:=(by injection znH)
                  replace eP:=(HB.out.cell (World.block_lt_of_cell? w _ eP)).trans eP
                  replace zbq:=eq_true zbq
                  replace zbx:=eq_true zbx
                  refine jy (n:=16) (S:=fun w'=>w'.cell? ⟨xg,0,none⟩ = some (.int .i64 zl) ∧ w'.cell? ⟨xg,1,none⟩ = some (.int .i64 zf) ∧ w'.cell? ⟨xg,2,none⟩ = some (.bool zO) ∧ w'.cell? ⟨xg,3,none⟩ = some (.bool zI) ∧ w'.cell? (uJ.add ((t182).toNat * 6)) = some (.string ((zw l0 t182).f0)) ∧ w'.cell? ⟨(uJ.add ((t182).toNat * 6)).block,(uJ.add ((t182).toNat * 6)).off + 1,none⟩ = some (.bool ((zw l0 t182).f1)) ∧ w'.cell? ⟨(uJ.add ((t182).toNat * 6)).block,(uJ.add ((t182).toNat * 6)).off + 2,none⟩ = some (.int .i64 ((zw l0 t182).f2)) ∧ w'.cell? ⟨(uJ.add ((t182).toNat * 6)).block,(uJ.add ((t182).toNat * 6)).off + 3,none⟩ = some (.slice zWz ((zw l0 t182).f3).length zWq) ∧ w'.cell? ⟨(uJ.add ((t182).toNat * 6)).block,(uJ.add ((t182).toNat * 6)).off + 4,none⟩ = some (.slice zWx ((zw l0 t182).f4).length zWj) ∧ w'.cell? ⟨(uJ.add ((t182).toNat * 6)).block,(uJ.add ((t182).toNat * 6)).off + 5,none⟩ = some (.slice zWv ((zw l0 t182).f5).length zWk) ∧ w'.cell? (Zr.add (yY).toNat) = some (.string (qJ ByteArray.empty l2 yY))) (ds:=[]) #[false,false,false,false,false,false,false,false,false,false,false,false,false,false,false,false] (by kernel_rfl) rfl rfl ⟨zZ zS 0,zZ zS 1,zZ zS 2,zZ zS 3,((HB.out.cell (World.block_lt_of_cell? w _ zz7)).trans zz7),((HB.out.cell (World.block_lt_of_cell? w _ zz6)).trans zz6),((HB.out.cell (World.block_lt_of_cell? w _ zz5)).trans zz5),((HB.out.cell (World.block_lt_of_cell? w _ zz4)).trans zz4),((HB.out.cell (World.block_lt_of_cell? w _ zz3)).trans zz3),((HB.out.cell (World.block_lt_of_cell? w _ zz2)).trans zz2),((HB.out.cell (World.block_lt_of_cell? w _ zz8)).trans zz8)⟩ (fun hHeld=>?_);refine uZ zV.zxR zV.zyM (fun za vC=>?_)
                  generalize w48.drew = w49 at xu vV Xb zS HB zQP zQR zQS eB eD eF eG eH eO eP hHeld ⊢
                  refine yQ 0 (some 85) za ?_
                  refine yQ 1 (some 86) za ?_
                  refine yQ 2 (some 87) za ?_
                  refine yQ 4 (some 89) za ?_
                  refine yQ 5 (some 90) za ?_
                  refine yQ 6 (some 91) za ?_
                  refine yQ 8 (some 93) za ?_
                  refine jg 3 (some 88) za vC hHeld ?_
                  refine jg 7 (some 92) za vC hHeld ?_
                  refine jg 9 (some 94) za vC hHeld ?_
                  refine wZ 10 (some 95) za (fun K hK=>?_)
                  refine je Tryz.func71 (by kernel_rfl) rfl #[.agg #[.string ((zw l0 t182).f0),.bool ((zw l0 t182).f1),.int .i64 ((zw l0 t182).f2),.slice zWz ((zw l0 t182).f3).length zWq,.slice zWx ((zw l0 t182).f4).length zWj,.slice zWv ((zw l0 t182).f5).length zWk],.string (qJ ByteArray.empty l2 yY),.int .i64 zf] (by rfl) rfl rfl (by (try simp only [List.map_toArray,List.map_cons,List.map_nil]);first | done | rfl | (simp only [List.length_drop,List.length_take];rfl)) ?_
                  with_reducible refine (yM.calls wS ((zw l0 t182).f0) ((zw l0 t182).f1) ((zw l0 t182).f2) _ _ ((zw l0 t182).f3) _ _ ((zw l0 t182).f4) _ _ ((zw l0 t182).f5) (qJ ByteArray.empty l2 yY) zf t206 znF _ ?yc ?yI ?qy ?qw ?qD ?qE A44.out).mono ?_
                  (case yc=>exact ql (Kd.zu zQP.out HB.out))
                  (case yI=>exact ze6.out)
                  (case qy=>exact ql (Kd.zu zQR.out HB.out))
                  (case qw=>exact ze7.out)
                  (case qD=>exact ql (Kd.zu zQS.out HB.out))
                  (case qE=>exact ze8.out)
                  rintro e w50 ⟨rfl,hb⟩
                  refine ⟨_,rfl,?_⟩
                  have zJ:=zx.mk (Kd.qG (qp xu.out) hb)
                  have zK:=zx.mk (Kd.qG (qp vV.out) hb)
                  have zi:=zx.mk (Kd.y8 (uq Xb.out) hb)
                  have zL:=zx.mk (zU (g:=xg) (o:=.cells #[.int .i64 zl,.int .i64 zf,.bool zO,.bool zI] 41 (0,0)) (qh zS.out) hb)
                  have qz:=zx.mk (zo (zH HB.out) hb)
                  clear xu vV Xb zS HB
                  have xu:=zJ
                  have vV:=zK
                  have Xb:=zi
                  have zS:=zL
                  have HB:=qz
                  clear zJ zK zi zL qz
                  (try clear hb)
                  (try clear hk)
                  refine hK.out _ _ ⟨zZ zS 0,zZ zS 1,zZ zS 2,zZ zS 3,((HB.out.cell (World.block_lt_of_cell? w _ zz7)).trans zz7),((HB.out.cell (World.block_lt_of_cell? w _ zz6)).trans zz6),((HB.out.cell (World.block_lt_of_cell? w _ zz5)).trans zz5),((HB.out.cell (World.block_lt_of_cell? w _ zz4)).trans zz4),((HB.out.cell (World.block_lt_of_cell? w _ zz3)).trans zz3),((HB.out.cell (World.block_lt_of_cell? w _ zz2)).trans zz2),((HB.out.cell (World.block_lt_of_cell? w _ zz8)).trans zz8)⟩ (fun hHeld=>?_)
                  clear hK K
                  refine wY (some 95) ?_
                  refine yQ 11 (some 84) za ?_
                  refine yQ 12 (some 96) za ?_
                  refine yQ 13 (some 97) za ?_
                  refine yQ 14 (some 15) za ?_
                  refine yQ 15 (some 16) za ?_
                  refine xP (qH za.out (by kernel_rfl)) ?_
                  try go_wp2
                  have zJ:=zx.mk (Kd.vB xu.out)
                  have zK:=zx.mk (Kd.vB vV.out)
                  have zi:=zx.mk (Kd.qR Xb.out)
                  have zL:=zx.mk (qK zS.out)
                  have qz:=zx.mk (zT HB.out)
                  clear xu vV Xb zS HB
                  have xu:=zJ
                  have vV:=zK
                  have Xb:=zi
                  have zS:=zL
                  have HB:=qz
                  clear zJ zK zi zL qz
                  have zbj:0 ≤ (yY:Int):=of_decide_eq_true yE
                  have zbv:yY < (l2.length:Int):=of_decide_eq_true yE
                  obtain ⟨zlt,e208,eT⟩:=Kd.uw HR2.out yY zbj zbv
                  have JN:=eT
                  obtain rfl:Zr = zlt:=(by injection e208)
                  replace eT:=(HB.out.cell (World.block_lt_of_cell? w _ eT)).trans eT
                  replace zbj:=eq_true zbj
                  replace zbv:=eq_true zbv
                  refine jy (n:=13) (S:=fun w'=>w'.cell? ⟨xg,0,none⟩ = some (.int .i64 zl) ∧ w'.cell? ⟨xg,1,none⟩ = some (.int .i64 zf) ∧ w'.cell? ⟨xg,2,none⟩ = some (.bool zO) ∧ w'.cell? ⟨xg,3,none⟩ = some (.bool zI) ∧ w'.cell? (Zr.add (yY).toNat) = some (.string (qJ ByteArray.empty l2 yY))) (ds:=[]) #[false,false,false,false,false,false,false,false,false,false,false,false,false] (by kernel_rfl) rfl rfl ⟨zZ zS 0,zZ zS 1,zZ zS 2,zZ zS 3,((HB.out.cell (World.block_lt_of_cell? w _ JN)).trans JN)⟩ (fun hHeld=>?_);refine uZ zV.zKX zV.zyN (fun za vC=>?_)
                  generalize w50.drew = w51 at xu vV Xb zS HB eT hHeld ⊢
                  refine yQ 0 (some 98) za ?_
                  refine yQ 1 (some 99) za ?_
                  refine yQ 2 (some 100) za ?_
                  refine yQ 3 (some 101) za ?_
                  refine yQ 5 (some 103) za ?_
                  refine yQ 6 (some 104) za ?_
                  refine yQ 7 (some 105) za ?_
                  refine jg 4 (some 102) za vC hHeld ?_
                  refine jg 8 (some 106) za vC hHeld ?_
                  refine yQ 9 (some 107) za ?_
                  refine wZ 10 (some 108) za (fun K hK=>?_)
                  refine vaS ?_
                  refine hK.out _ _ ⟨(zQ (yL zS.out _) 0).trans rfl,(zQ (yL zS.out _) 1).trans rfl,(zQ (yL zS.out _) 2).trans rfl,(zQ (yL zS.out _) 3).trans rfl,(World.cell?_alloc_lt _ _ _ (World.block_lt_of_cell? _ _ (((HB.out.cell (World.block_lt_of_cell? w _ JN)).trans JN)))).trans (((HB.out.cell (World.block_lt_of_cell? w _ JN)).trans JN))⟩ (fun hHeld=>?_)
                  clear hK K
                  refine wY (some 108) ?_
                  refine wZ 11 (some 109) za (fun K hK=>?_)
                  refine Kd.PI X8 (w0:=w) w.heap.size (by rfl) (.tmp 98) (.tmp 108) 34 53 (.agg #[(.int .i64 0),(.int .i64 0),(.int .i64 0),(.int .i64 0),(.string ⟨#[]⟩),(.string ⟨#[]⟩),(.slice none 0 0)]) 88 rfl Tryz.underlying34 ng rfl (by decide) (by omega) znG Xa (⟨0,t206,t182,zf,qJ ByteArray.empty l2 yY,(⟨#[]⟩:ByteArray),([]:List Int)⟩:vP) [.int .i64 0,.int .i64 t206,.int .i64 t182,.int .i64 zf,.string (qJ ByteArray.empty l2 yY),.string (⟨#[]⟩:ByteArray),.slice none 0 0] (fun _=>True) (fun _=>False) rfl rfl ?aP (fun k_ hk_=>hk_.elim) ?aF ?aO ?aB ?aS ?aL ?_
                  (case aP=>exact bW _ _ _ (⟨0,t206,t182,zf,qJ ByteArray.empty l2 yY,(⟨#[]⟩:ByteArray),([]:List Int)⟩:vP) (Kd.jw _ _ _ _ _))
                  (case aB=>exact (zH HB.out))
                  (case aF=>exact (fun _ _=>trivial))
                  (case aO=>exact (by (with_reducible repeat (first | apply Kd.vK | apply Kd.vY | apply Kd.qR));exact Kd.kD Xb.out (fun k_ hk=>⟨trivial,fun e_=>e_⟩)))
                  (case aS=>exact (ze (zH HB.out)))
                  (case aL=>have:=zlo.out;omega)
                  intro v210 w52 ho hb hg hat
                  rw [← zlp.out] at ho
                  have zJ:=zx.mk (Kd.Vo (qp xu.out) (Kd.Xl (uq Xb.out)) (by decide) hg)
                  have zK:=zx.mk (uO (g:=xg) (o:=.cells #[.int .i64 zl,.int .i64 zf,.bool zO,.bool zI] 41 (0,0)) (qh zS.out) hg (Kd.zVc Xb.out zS.out (by decide)))
                  have zi:=zx.mk (Kd.zzh (ok:=(fun _=>True)) (qp vV.out) hg hat)
                  have zL:=zx.mk (hb)
                  have qz:=zx.mk (ho)
                  clear xu zS vV HB Xb
                  have xu:=zJ
                  have zS:=zK
                  have vV:=zi
                  have HB:=zL
                  have zlu:=qz
                  clear zJ zK zi zL qz ho hb hg hat
                  refine hK.out _ _ ⟨zZ zS 0,zZ zS 1,zZ zS 2,zZ zS 3,((HB.out.cell (World.block_lt_of_cell? w _ JN)).trans JN)⟩ (fun hHeld=>?_)
                  clear hK K
                  refine wY (some 109) ?_
                  refine yQ 12 (some 8) za ?_
                  refine xP (qH za.out (by kernel_rfl)) ?_
                  try go_wp2
                  go_roundg wS
                  case measure=>have:=uK.out;have:=zvo.out;omega
                  case rel=>exact ⟨(zhk),(xO),(wrap64 (yY + 1)),(by first | rfl | (simp;done) | (simp [*];done)),H',⟨by have:=uK.out;have:=zvo.out;omega⟩,⟨by (with_reducible repeat (first | apply Kd.vK | apply Kd.vY | apply Kd.qR));exact zlu.out⟩,⟨qp xu.out⟩,⟨qh zS.out⟩,⟨zH HB.out⟩⟩
                 ·rw [if_neg c45] at H
                  exact absurd H (by simp)
                ·rw [if_neg c43] at H
                 exact absurd H (by simp)
              ·rw [if_neg c32] at H
               exact absurd H (by simp)
             ·rw [if_neg c31] at H
              exact absurd H (by simp)
            ·rw [if_neg P8] at H
             exact absurd H (by simp)
           ·rw [if_neg c29] at H
            exact absurd H (by simp)
          ·rw [if_neg c27] at H
           exact absurd H (by simp)
         ·rw [if_neg c26] at H
          exact absurd H (by simp)
        ·replace c25:=Bool.eq_false_iff.mpr c25
         subst c25
         have H1:(if 0 ≤ t182 then (if t182 < (l0.length:Int) then (if 0 ≤ yY then (if yY < (l2.length:Int) then ((yM.f wS ((zw l0 t182).f0) ((zw l0 t182).f1) ((zw l0 t182).f2) ((zw l0 t182).f3) ((zw l0 t182).f4) ((zw l0 t182).f5) (qJ ByteArray.empty l2 yY) zf).bind fun zKQ=>(if yX.length < 1599289640401 then (zV.l0 wS l0 l2 (yX ++ [(⟨0,zKQ.1,t182,zf,qJ ByteArray.empty l2 yY,(⟨#[]⟩:ByteArray),([]:List Int)⟩:vP)]) xO (wrap64 (yY + 1)) zl zf zO zI) else (none))) else (none)) else (none)) else (none)) else (none)) = some (r1,r2):=by rw [if_neg (show ¬ (false = true) by decide)] at H;exact H
         clear H
         have H:=H1
         clear H1
         by_cases c53:0 ≤ t182
         ·rw [if_pos c53] at H
          have zuJ:decide (0 ≤ t182) = true:=decide_eq_true c53
          clear c53
          by_cases c54:t182 < (l0.length:Int)
          ·rw [if_pos c54] at H
           have zuV:decide (t182 < (l0.length:Int)) = true:=decide_eq_true c54
           clear c54
           by_cases c55:0 ≤ yY
           ·rw [if_pos c55] at H
            have zuK:decide (0 ≤ yY) = true:=decide_eq_true c55
            clear c55
            by_cases c56:yY < (l2.length:Int)
            ·rw [if_pos c56] at H
             have zuY:decide (yY < (l2.length:Int)) = true:=decide_eq_true c56
             clear c56
             replace H:=Option.bind_eq_some_iff.mp H
             obtain ⟨⟨zvu,znI⟩,zhy,H⟩:=H
             replace H:(if yX.length < 1599289640401 then (zV.l0 wS l0 l2 (yX ++ [(⟨0,zvu,t182,zf,qJ ByteArray.empty l2 yY,(⟨#[]⟩:ByteArray),([]:List Int)⟩:vP)]) xO (wrap64 (yY + 1)) zl zf zO zI) else (none)) = some (r1,r2):=H
             have A57:=zx.mk zhy
             clear zhy
             by_cases c58:yX.length < 1599289640401
             ·rw [if_pos c58] at H
              have zlA:=zx.mk c58
              clear c58
              obtain ⟨zhw,zx3⟩:∃ y_:List (vP),y_ = (yX ++ [(⟨0,zvu,t182,zf,qJ ByteArray.empty l2 yY,(⟨#[]⟩:ByteArray),([]:List Int)⟩:vP)]):=⟨_,rfl⟩
              replace H:(zV.l0 wS l0 l2 zhw xO (wrap64 (yY + 1)) zl zf zO zI) = some (r1,r2):=by first | (rw [zx3];with_reducible exact H) | (have jC:=(Option.bind_some _ _).symm.trans H;rw [zx3];with_reducible exact jC) | (have jC:=(Option.bind_some _ _).symm.trans H;with_reducible exact jC) | with_reducible exact H | (rw [zx3];exact H) | exact H
              have zlB:=zx.mk zx3
              clear zx3
              have H':=zx.mk H
              clear H
              try go_wp2
              have zJ:=zx.mk (Kd.qR xE.out)
              have zK:=zx.mk (Kd.vB xu.out)
              have zi:=zx.mk (qK zS.out)
              have zL:=zx.mk (zT HB.out)
              clear xE xu zS HB
              have xE:=zJ
              have xu:=zK
              have zS:=zi
              have HB:=zL
              clear zJ zK zi zL
              have zbk:0 ≤ (t182:Int):=of_decide_eq_true yE
              have zby:t182 < (l0.length:Int):=of_decide_eq_true yE
              obtain ⟨Kw,zWy,zWw,zWZ,zWQ,zWX,zWJ,e212,eU,iq,iy,iw,iZ,iQ,zQT,zQU,zQ0,zQ1,zQ2,zQ3⟩:=ZY jW.out t182 zbk zby
              have zz9:=iQ
              have zqz:=iZ
              have zqq:=iw
              have zqx:=iy
              have zqj:=iq
              have zqv:=eU
              cases e212
              replace eU:=(HB.out.cell (World.block_lt_of_cell? w _ eU)).trans eU
              replace iq:=(HB.out.cell (World.block_lt_of_cell? w _ iq)).trans iq
              replace iy:=(HB.out.cell (World.block_lt_of_cell? w _ iy)).trans iy
              replace iw:=(HB.out.cell (World.block_lt_of_cell? w _ iw)).trans iw
              replace iZ:=(HB.out.cell (World.block_lt_of_cell? w _ iZ)).trans iZ
              replace iQ:=(HB.out.cell (World.block_lt_of_cell? w _ iQ)).trans iQ
              have zQ4:=zx.mk zQU
              have ze9:=zx.mk zQT
              clear zQU zQT
              have zQ5:=zx.mk zQ1
              have zfz:=zx.mk zQ0
              clear zQ1 zQ0
              have zQ6:=zx.mk zQ3
              have zfq:=zx.mk zQ2
              clear zQ3 zQ2
              replace zbk:=eq_true zbk
              replace zby:=eq_true zby
              have zbw:0 ≤ (yY:Int):=of_decide_eq_true yE
              have zbZ:yY < (l2.length:Int):=of_decide_eq_true yE
              obtain ⟨zlC,e213,iX⟩:=Kd.uw HR2.out yY zbw zbZ
              have zqk:=iX
              obtain rfl:Zr = zlC:=(by injection e213)
              replace iX:=(HB.out.cell (World.block_lt_of_cell? w _ iX)).trans iX
              replace zbw:=eq_true zbw
              replace zbZ:=eq_true zbZ
              refine jy (n:=16) (S:=fun w'=>w'.cell? ⟨xg,0,none⟩ = some (.int .i64 zl) ∧ w'.cell? ⟨xg,1,none⟩ = some (.int .i64 zf) ∧ w'.cell? ⟨xg,2,none⟩ = some (.bool zO) ∧ w'.cell? ⟨xg,3,none⟩ = some (.bool zI) ∧ w'.cell? (Kw.add ((t182).toNat * 6)) = some (.string ((zw l0 t182).f0)) ∧ w'.cell? ⟨(Kw.add ((t182).toNat * 6)).block,(Kw.add ((t182).toNat * 6)).off + 1,none⟩ = some (.bool ((zw l0 t182).f1)) ∧ w'.cell? ⟨(Kw.add ((t182).toNat * 6)).block,(Kw.add ((t182).toNat * 6)).off + 2,none⟩ = some (.int .i64 ((zw l0 t182).f2)) ∧ w'.cell? ⟨(Kw.add ((t182).toNat * 6)).block,(Kw.add ((t182).toNat * 6)).off + 3,none⟩ = some (.slice zWy ((zw l0 t182).f3).length zWw) ∧ w'.cell? ⟨(Kw.add ((t182).toNat * 6)).block,(Kw.add ((t182).toNat * 6)).off + 4,none⟩ = some (.slice zWZ ((zw l0 t182).f4).length zWQ) ∧ w'.cell? ⟨(Kw.add ((t182).toNat * 6)).block,(Kw.add ((t182).toNat * 6)).off + 5,none⟩ = some (.slice zWX ((zw l0 t182).f5).length zWJ) ∧ w'.cell? (Zr.add (yY).toNat) = some (.string (qJ ByteArray.empty l2 yY))) (ds:=[]) #[false,false,false,false,false,false,false,false,false,false,false,false,false,false,false,false] (by kernel_rfl) rfl rfl ⟨zZ zS 0,zZ zS 1,zZ zS 2,zZ zS 3,((HB.out.cell (World.block_lt_of_cell? w _ zqv)).trans zqv),((HB.out.cell (World.block_lt_of_cell? w _ zqj)).trans zqj),((HB.out.cell (World.block_lt_of_cell? w _ zqx)).trans zqx),((HB.out.cell (World.block_lt_of_cell? w _ zqq)).trans zqq),((HB.out.cell (World.block_lt_of_cell? w _ zqz)).trans zqz),((HB.out.cell (World.block_lt_of_cell? w _ zz9)).trans zz9),((HB.out.cell (World.block_lt_of_cell? w _ zqk)).trans zqk)⟩ (fun hHeld=>?_);refine uZ zV.zxR zV.zyM (fun za vC=>?_)
              generalize wc.drew = w59 at xE xu zS HB zQ4 zQ5 zQ6 eU iq iy iw iZ iQ iX hHeld ⊢
              refine yQ 0 (some 85) za ?_
              refine yQ 1 (some 86) za ?_
              refine yQ 2 (some 87) za ?_
              refine yQ 4 (some 89) za ?_
              refine yQ 5 (some 90) za ?_
              refine yQ 6 (some 91) za ?_
              refine yQ 8 (some 93) za ?_
              refine jg 3 (some 88) za vC hHeld ?_
              refine jg 7 (some 92) za vC hHeld ?_
              refine jg 9 (some 94) za vC hHeld ?_
              refine wZ 10 (some 95) za (fun K hK=>?_)
              refine je Tryz.func71 (by kernel_rfl) rfl #[.agg #[.string ((zw l0 t182).f0),.bool ((zw l0 t182).f1),.int .i64 ((zw l0 t182).f2),.slice zWy ((zw l0 t182).f3).length zWw,.slice zWZ ((zw l0 t182).f4).length zWQ,.slice zWX ((zw l0 t182).f5).length zWJ],.string (qJ ByteArray.empty l2 yY),.int .i64 zf] (by rfl) rfl rfl (by (try simp only [List.map_toArray,List.map_cons,List.map_nil]);first | done | rfl | (simp only [List.length_drop,List.length_take];rfl)) ?_
              with_reducible refine (yM.calls wS ((zw l0 t182).f0) ((zw l0 t182).f1) ((zw l0 t182).f2) _ _ ((zw l0 t182).f3) _ _ ((zw l0 t182).f4) _ _ ((zw l0 t182).f5) (qJ ByteArray.empty l2 yY) zf zvu znI _ ?yc ?yI ?qy ?qw ?qD ?qE A57.out).mono ?_
              (case yc=>exact ql (Kd.zu zQ4.out HB.out))
              (case yI=>exact ze9.out)
              (case qy=>exact ql (Kd.zu zQ5.out HB.out))
              (case qw=>exact zfz.out)
              (case qD=>exact ql (Kd.zu zQ6.out HB.out))
              (case qE=>exact zfq.out)
              rintro e w60 ⟨rfl,hb⟩
              refine ⟨_,rfl,?_⟩
              have zJ:=zx.mk (Kd.y8 (uq xE.out) hb)
              have zK:=zx.mk (Kd.qG (qp xu.out) hb)
              have zi:=zx.mk (zU (g:=xg) (o:=.cells #[.int .i64 zl,.int .i64 zf,.bool zO,.bool zI] 41 (0,0)) (qh zS.out) hb)
              have zL:=zx.mk (zo (zH HB.out) hb)
              clear xE xu zS HB
              have xE:=zJ
              have xu:=zK
              have zS:=zi
              have HB:=zL
              clear zJ zK zi zL
              (try clear hb)
              (try clear hk)
              refine hK.out _ _ ⟨zZ zS 0,zZ zS 1,zZ zS 2,zZ zS 3,((HB.out.cell (World.block_lt_of_cell? w _ zqv)).trans zqv),((HB.out.cell (World.block_lt_of_cell? w _ zqj)).trans zqj),((HB.out.cell (World.block_lt_of_cell? w _ zqx)).trans zqx),((HB.out.cell (World.block_lt_of_cell? w _ zqq)).trans zqq),((HB.out.cell (World.block_lt_of_cell? w _ zqz)).trans zqz),((HB.out.cell (World.block_lt_of_cell? w _ zz9)).trans zz9),((HB.out.cell (World.block_lt_of_cell? w _ zqk)).trans zqk)⟩ (fun hHeld=>?_)
              clear hK K
              refine wY (some 95) ?_
              refine yQ 11 (some 84) za ?_
              refine yQ 12 (some 96) za ?_
              refine yQ 13 (some 97) za ?_
              refine yQ 14 (some 15) za ?_
              refine yQ 15 (some 16) za ?_
              refine xP (qH za.out (by kernel_rfl)) ?_
              try go_wp2
              have zJ:=zx.mk (Kd.qR xE.out)
              have zK:=zx.mk (Kd.vB xu.out)
              have zi:=zx.mk (qK zS.out)
              have zL:=zx.mk (zT HB.out)
              clear xE xu zS HB
              have xE:=zJ
              have xu:=zK
              have zS:=zi
              have HB:=zL
              clear zJ zK zi zL
              have zbQ:0 ≤ (yY:Int):=of_decide_eq_true yE
              have zbX:yY < (l2.length:Int):=of_decide_eq_true yE
              obtain ⟨zlD,e216,iJ⟩:=Kd.uw HR2.out yY zbQ zbX
              have JO:=iJ
              obtain rfl:Zr = zlD:=(by injection e216)
              replace iJ:=(HB.out.cell (World.block_lt_of_cell? w _ iJ)).trans iJ
              replace zbQ:=eq_true zbQ
              replace zbX:=eq_true zbX
              refine jy (n:=13) (S:=fun w'=>w'.cell? ⟨xg,0,none⟩ = some (.int .i64 zl) ∧ w'.cell? ⟨xg,1,none⟩ = some (.int .i64 zf) ∧ w'.cell? ⟨xg,2,none⟩ = some (.bool zO) ∧ w'.cell? ⟨xg,3,none⟩ = some (.bool zI) ∧ w'.cell? (Zr.add (yY).toNat) = some (.string (qJ ByteArray.empty l2 yY))) (ds:=[]) #[false,false,false,false,false,false,false,false,false,false,false,false,false] (by kernel_rfl) rfl rfl ⟨zZ zS 0,zZ zS 1,zZ zS 2,zZ zS 3,((HB.out.cell (World.block_lt_of_cell? w _ JO)).trans JO)⟩ (fun hHeld=>?_);refine uZ zV.zKX zV.zyN (fun za vC=>?_)
              generalize w60.drew = w61 at xE xu zS HB iJ hHeld ⊢
              refine yQ 0 (some 98) za ?_
              refine yQ 1 (some 99) za ?_
              refine yQ 2 (some 100) za ?_
              refine yQ 3 (some 101) za ?_
              refine yQ 5 (some 103) za ?_
              refine yQ 6 (some 104) za ?_
              refine yQ 7 (some 105) za ?_
              refine jg 4 (some 102) za vC hHeld ?_
              refine jg 8 (some 106) za vC hHeld ?_
              refine yQ 9 (some 107) za ?_
              refine wZ 10 (some 108) za (fun K hK=>?_)
              refine vaS ?_
              refine hK.out _ _ ⟨(zQ (yL zS.out _) 0).trans rfl,(zQ (yL zS.out _) 1).trans rfl,(zQ (yL zS.out _) 2).trans rfl,(zQ (yL zS.out _) 3).trans rfl,(World.cell?_alloc_lt _ _ _ (World.block_lt_of_cell? _ _ (((HB.out.cell (World.block_lt_of_cell? w _ JO)).trans JO)))).trans (((HB.out.cell (World.block_lt_of_cell? w _ JO)).trans JO))⟩ (fun hHeld=>?_)
              clear hK K
              refine wY (some 108) ?_
              refine wZ 11 (some 109) za (fun K hK=>?_)
              refine Kd.PI X8 (w0:=w) w.heap.size (by rfl) (.tmp 98) (.tmp 108) 34 53 (.agg #[(.int .i64 0),(.int .i64 0),(.int .i64 0),(.int .i64 0),(.string ⟨#[]⟩),(.string ⟨#[]⟩),(.slice none 0 0)]) 88 rfl Tryz.underlying34 ng rfl (by decide) (by omega) (.slice zg7 yX.length zKK) yX (⟨0,zvu,t182,zf,qJ ByteArray.empty l2 yY,(⟨#[]⟩:ByteArray),([]:List Int)⟩:vP) [.int .i64 0,.int .i64 zvu,.int .i64 t182,.int .i64 zf,.string (qJ ByteArray.empty l2 yY),.string (⟨#[]⟩:ByteArray),.slice none 0 0] (fun _=>True) (fun _=>False) rfl rfl ?aP (fun k_ hk_=>hk_.elim) ?aF ?aO ?aB ?aS ?aL ?_
              (case aP=>exact bW _ _ _ (⟨0,zvu,t182,zf,qJ ByteArray.empty l2 yY,(⟨#[]⟩:ByteArray),([]:List Int)⟩:vP) (Kd.jw _ _ _ _ _))
              (case aB=>exact (zH HB.out))
              (case aF=>exact (fun _ _=>trivial))
              (case aO=>exact (by (with_reducible repeat (first | apply Kd.vK | apply Kd.vY | apply Kd.qR));exact Kd.kD xE.out (fun k_ hk=>⟨trivial,fun e_=>e_⟩)))
              (case aS=>exact (ze (zH HB.out)))
              (case aL=>have:=zlA.out;omega)
              intro v218 w62 ho hb hg hat
              rw [← zlB.out] at ho
              have zJ:=zx.mk (Kd.Vo (qp xu.out) (Kd.Xl (uq xE.out)) (by decide) hg)
              have zK:=zx.mk (uO (g:=xg) (o:=.cells #[.int .i64 zl,.int .i64 zf,.bool zO,.bool zI] 41 (0,0)) (qh zS.out) hg (Kd.zVc xE.out zS.out (by decide)))
              have zi:=zx.mk (hb)
              have zL:=zx.mk (ho)
              clear xu zS HB xE
              have xu:=zJ
              have zS:=zK
              have HB:=zi
              have zlE:=zL
              clear zJ zK zi zL ho hb hg hat
              refine hK.out _ _ ⟨zZ zS 0,zZ zS 1,zZ zS 2,zZ zS 3,((HB.out.cell (World.block_lt_of_cell? w _ JO)).trans JO)⟩ (fun hHeld=>?_)
              clear hK K
              refine wY (some 109) ?_
              refine yQ 12 (some 8) za ?_
              refine xP (qH za.out (by kernel_rfl)) ?_
              try go_wp2
              go_roundg wS
              case measure=>have:=uK.out;have:=zvo.out;omega
              case rel=>exact ⟨(zhw),(xO),(wrap64 (yY + 1)),(by first | rfl | (simp;done) | (simp [*];done)),H',⟨by have:=uK.out;have:=zvo.out;omega⟩,⟨by (with_reducible repeat (first | apply Kd.vK | apply Kd.vY | apply Kd.qR));exact zlE.out⟩,⟨qp xu.out⟩,⟨qh zS.out⟩,⟨zH HB.out⟩⟩
             ·rw [if_neg c58] at H
              exact absurd H (by simp)
            ·rw [if_neg c56] at H
             exact absurd H (by simp)
           ·rw [if_neg c55] at H
            exact absurd H (by simp)
          ·rw [if_neg c54] at H
           exact absurd H (by simp)
         ·rw [if_neg c53] at H
          exact absurd H (by simp)
    ·rw [if_neg c6] at H
     exact absurd H (by simp)
   ·rw [if_neg c5] at H
    have wR:decide (yY < (l2.length:Int)) = false:=decide_eq_false c5
    clear c5
    simp only [Option.some.injEq,Prod.mk.injEq] at H
    obtain ⟨rfl,rfl⟩:=H
    go_wp2
    go_ret2
    exact ⟨_,_,by first | rfl | (simp [zM,zN] <;> rfl) | (simp [*,zM,zN] <;> rfl),by (with_reducible repeat (first | apply Kd.vK | apply Kd.vY | apply Kd.qR));exact xE.out,by (with_reducible repeat (first | apply Kd.Z5 | apply Kd.Z6 | apply Kd.vB));exact xu.out,by repeat (first | (with_reducible first | exact HB.out | apply yV | apply zP | apply zT | refine qb ?_ zlK.out) | exact HB.out)⟩
end Go.Proofs.YtggifbbiiickmaaGreatDoor.PX
namespace Go.Proofs.YtggifbbiiickmaaGreatDoor.PX
open Go.RowKit Go.Proofs.zk.zA Go.Proofs.zk.yB Go.Proofs.zk.yA
attribute [local go_sem] xR xS vM vN xB xC xU vv   -- for this text's walks alone
set_option linter.unusedVariables false
set_option linter.unusedSimpArgs false
mutual
def zm.j0:Nat → List (ji) → List ByteArray → List (kV) → Bool → Int → Int → Bool → Bool → Option ((List (vP)) × List ByteArray × Int)
 | 0,_,_,_,_,_,_,_,_=>none
 | k + 1,x0,x2,x3,x34,Zv,JR,QF,JU=>if x34 = true then (some (([]:List (vP)),([]:List ByteArray),1)) else (zm.l0 k x0 x2 x3 ([]:List ByteArray) 0 Zv JR QF JU)
def zm.l0:Nat → List (ji) → List ByteArray → List (kV) → List ByteArray → Int → Int → Int → Bool → Bool → Option ((List (vP)) × List ByteArray × Int)
 | 0,_,_,_,_,_,_,_,_,_=>none
 | k + 1,x0,x2,x3,wF,x12,Zv,JR,QF,JU=>if x12 < (x2.length:Int) then (if 0 ≤ x12 then ((qj.f k (qJ ByteArray.empty x2 x12)).bind fun zKh=>(if zKh = true then ((qA.f k (qJ ByteArray.empty x2 x12) x3).bind fun t226=>(if wF.length < 8796093022208 then (zm.l0 k x0 x2 x3 (wF ++ [t226]) (wrap64 (x12 + 1)) Zv JR QF JU) else (none))) else (some (([]:List (vP)),([]:List ByteArray),1)))) else (none)) else (zm.l1 k x0 x3 wF 0 Zv JR QF JU)
def zm.l1:Nat → List (ji) → List (kV) → List ByteArray → Int → Int → Int → Bool → Bool → Option ((List (vP)) × List ByteArray × Int)
 | 0,_,_,_,_,_,_,_,_=>none
 | k + 1,x0,x3,wF,x13,Zv,JR,QF,JU=>if x13 < (x3.length:Int) then (if 0 ≤ x13 then ((qj.f k ((j4 x3 x13).f0)).bind fun zKi=>(if zKi = true then ((qj.f k ((j4 x3 x13).f1)).bind fun t233=>(if t233 = true then (zm.l1 k x0 x3 wF (wrap64 (x13 + 1)) Zv JR QF JU) else (some (([]:List (vP)),([]:List ByteArray),1)))) else (some (([]:List (vP)),([]:List ByteArray),1)))) else (none)) else (if QF = true then (if 0 ≤ Zv then (if Zv < (x0.length:Int) then ((z8.f k ((zw x0 Zv).f0) ((zw x0 Zv).f1) ((zw x0 Zv).f2) ((zw x0 Zv).f3) ((zw x0 Zv).f4) ((zw x0 Zv).f5) wF).bind fun zzQ=>((zV.f k x0 Zv JR QF JU zzQ).bind fun mE=>(some (mE.1,mE.2,0)))) else (none)) else (none)) else ((zV.f k x0 Zv JR QF JU wF).bind fun zx4=>(some (zx4.1,zx4.2,0))))
end
def zm.f (k:Nat) (l0:List (ji)) (zl:Int) (zf:Int) (zO:Bool) (zI:Bool) (l2:List ByteArray) (l3:List (kV)):Option ((List (vP)) × List ByteArray × Int):=(qN.f k l0).bind fun zvA=>(if zvA = true then ((vW.f l0 zl zf zO zI).bind fun t222=>(if t222 = true then (if (l2.length:Int) > 2000 then (zm.j0 k l0 l2 l3 true zl zf zO zI) else (zm.j0 k l0 l2 l3 (decide ((l3.length:Int) > 100)) zl zf zO zI)) else (zm.j0 k l0 l2 l3 true zl zf zO zI))) else (zm.j0 k l0 l2 l3 true zl zf zO zI))
set_option maxHeartbeats 8000000 in
set_option maxRecDepth 100000 in
theorem zm.calls (k:Nat) (A0:Option Addr) (c0:Nat) (l0:List (ji)) (zl:Int) (zf:Int) (zO:Bool) (zI:Bool) (A2:Option Addr) (c2:Nat) (l2:List ByteArray) (A3:Option Addr) (c3:Nat) (l3:List (kV)) (r1:List (vP)) (r2:List ByteArray) (r3:Int) (w:World) (hr0:Kd.C J8 w A0 l0.length l0) (hc0:l0.length ≤ c0) (hr2:Kd.C Kd.string w A2 l2.length l2) (hc2:l2.length ≤ c2) (hr3:Kd.C Vt w A3 l3.length l3) (hc3:l3.length ≤ c3) (h:zm.f k l0 zl zf zO zI l2 l3 = some (r1,r2,r3)) :
  Calls Tryz.prog 14 #[.slice A0 l0.length c0,.agg #[.int .i64 zl,.int .i64 zf,.bool zO,.bool zI],.slice A2 l2.length c2,.slice A3 l3.length c3] w fun e w'=>∃ Qw v1_:Value,e = .returned (.tuple #[Qw,v1_,.int .i64 r3]) ∧ Kd.S X8 53 w' w.heap.size (fun _=>True) Qw r1 ∧ Kd.R Kd.string 9 w' w.heap.size (fun _=>True) v1_ r2 ∧ Below w.heap.size w w':=by
 have za0:=Tryz.underlying41
 have VW:=Tryz.underlying101
 have jW:=zx.mk hr0
 have Q9:=zx.mk hc0
 clear hr0 hc0
 have HR2:=zx.mk hr2
 have HC2:=zx.mk hc2
 clear hr2 hc2
 have HR3:=zx.mk hr3
 have gD:=zx.mk hc3
 clear hr3 hc3
 have HB:=zx.mk (Below.refl w.heap.size w)
 have H:((qN.f k l0).bind fun zvA=>(if zvA = true then ((vW.f l0 zl zf zO zI).bind fun t222=>(if t222 = true then (if (l2.length:Int) > 2000 then (zm.j0 k l0 l2 l3 true zl zf zO zI) else (zm.j0 k l0 l2 l3 (decide ((l3.length:Int) > 100)) zl zf zO zI)) else (zm.j0 k l0 l2 l3 true zl zf zO zI))) else (zm.j0 k l0 l2 l3 true zl zf zO zI))) = some (r1,r2,r3):=h
 clear h
 have HC5:=zx.mk H
 clear H
 go_enter Tryz.func14,Tryz.ntmps14
 go_upto_region 1 with (first | ((with_reducible refine qC (N:=5) rfl ?_);(try (refine jS (by rfl) ?_;dsimp only));refine qM ?hg (N:=5) ?hd (cs:=#[.int .i64 zl,.int .i64 zf,.bool zO,.bool zI]) (t:=41) ?hr ?_;(case hd=>rfl);(case hg=>rfl);(case hr=>first | (go_simp;done) | (go_simp;rfl));intro uT hg w6 qc hb;have zJ:=zx.mk (zo (zH HB.out) hb);have zK:=zx.mk (qc);have zi:=zx.mk ((by rw [hg];exact (ze (zH HB.out)):w.heap.size ≤ uT));have zL:=zx.mk ((by rw [hg];exact (ze (zH HB.out)):w.heap.size ≤ uT));clear HB;have HB:=zJ;have qY:=zK;have zuW:=zi;have zqy:=zL;clear zJ zK zi zL;clear hb qc hg))
 (try simp only [Act.put,List.setIfInBounds_toArray,List.set_cons_zero,List.set_cons_succ])
 go_cut [34] (fun v34 wc=>∃ (kq:Nat) (zkC:Bool),v34 = .bool zkC ∧ zx (zm.j0 kq l0 l2 l3 zkC zl zf zO zI = some (r1,r2,r3)) ∧ zx (kq ≤ k) ∧ zx (wc.heap[uT]? = some (.cells #[.int .i64 zl,.int .i64 zf,.bool zO,.bool zI] 41 (0,0))) ∧ zx (Below w.heap.size w wc))
 case first =>
  have H:=HC5.out
  clear HC5
  replace H:=Option.bind_eq_some_iff.mp H
  obtain ⟨zvA,mQ,H⟩:=H
  replace H:(if zvA = true then ((vW.f l0 zl zf zO zI).bind fun t222=>(if t222 = true then (if (l2.length:Int) > 2000 then (zm.j0 k l0 l2 l3 true zl zf zO zI) else (zm.j0 k l0 l2 l3 (decide ((l3.length:Int) > 100)) zl zf zO zI)) else (zm.j0 k l0 l2 l3 true zl zf zO zI))) else (zm.j0 k l0 l2 l3 true zl zf zO zI)) = some (r1,r2,r3):=H
  have A7:=zx.mk mQ
  clear mQ
  by_cases c8:zvA = true
  ·subst c8
   have H1:((vW.f l0 zl zf zO zI).bind fun t222=>(if t222 = true then (if (l2.length:Int) > 2000 then (zm.j0 k l0 l2 l3 true zl zf zO zI) else (zm.j0 k l0 l2 l3 (decide ((l3.length:Int) > 100)) zl zf zO zI)) else (zm.j0 k l0 l2 l3 true zl zf zO zI))) = some (r1,r2,r3):=by rw [if_pos rfl] at H;exact H
   clear H
   have H:=H1
   clear H1
   replace H:=Option.bind_eq_some_iff.mp H
   obtain ⟨t222,oM,H⟩:=H
   replace H:(if t222 = true then (if (l2.length:Int) > 2000 then (zm.j0 k l0 l2 l3 true zl zf zO zI) else (zm.j0 k l0 l2 l3 (decide ((l3.length:Int) > 100)) zl zf zO zI)) else (zm.j0 k l0 l2 l3 true zl zf zO zI)) = some (r1,r2,r3):=H
   have A9:=zx.mk oM
   clear oM
   by_cases c10:t222 = true
   ·subst c10
    have H1:(if (l2.length:Int) > 2000 then (zm.j0 k l0 l2 l3 true zl zf zO zI) else (zm.j0 k l0 l2 l3 (decide ((l3.length:Int) > 100)) zl zf zO zI)) = some (r1,r2,r3):=by rw [if_pos rfl] at H;exact H
    clear H
    have H:=H1
    clear H1
    by_cases c11:(l2.length:Int) > 2000
    ·rw [if_pos c11] at H
     have Qi:decide (2000 < (l2.length:Int)) = true:=decide_eq_true c11
     have mF:decide (2000 < l2.length) = true:=decide_eq_true (by omega)
     clear c11
     (first | rw [Qi] | (simp only [uF,jZ];rw [Qi]) | skip)
     have H':=zx.mk H
     clear H
     go_wp2_with (first | ((with_reducible refine yG (f:=47) rfl ?_);refine jm (some 17) Tryz.func47 #[.slice A0 l0.length c0] ?_;(with_reducible refine (qN.calls k _ _ l0 true _ ?yc ?yI A7.out).mono ?_);(case yc=>exact ql (Kd.zu jW.out HB.out));(case yI=>exact Q9.out);rintro e Yq ⟨rfl,hb⟩;refine ⟨_,rfl,?_⟩;have zJ:=zx.mk (zU (g:=uT) (o:=.cells #[.int .i64 zl,.int .i64 zf,.bool zO,.bool zI] 41 (0,0)) (qh qY.out) hb);have zK:=zx.mk (zo (zH HB.out) hb);clear qY;clear HB;have qY:=zJ;have HB:=zK;clear zJ zK;(try clear hb);(try clear hk);have Xm:Yq.cell? ⟨uT,0,none⟩ = some (.int .i64 zl):=zZ qY 0;have Xn:Yq.cell? ⟨uT,1,none⟩ = some (.int .i64 zf):=zZ qY 1;have Xo:Yq.cell? ⟨uT,2,none⟩ = some (.bool zO):=zZ qY 2;have Xp:Yq.cell? ⟨uT,3,none⟩ = some (.bool zI):=zZ qY 3;have Xr:=zy qY.out 0;have Xt:=zy qY.out 1;have Xu:=zy qY.out 2;have XA:=zy qY.out 3) | (go_at_call 48;(with_reducible refine (vW.calls _ _ l0 zl zf zO zI true _ ?yc ?yI A9.out).mono ?_);(case yc=>exact ql (Kd.zu jW.out HB.out));(case yI=>exact Q9.out);rintro e Kg ⟨rfl,hb⟩;have zJ:=zx.mk (zU (g:=uT) (o:=.cells #[.int .i64 zl,.int .i64 zf,.bool zO,.bool zI] 41 (0,0)) (qh qY.out) hb);have zK:=zx.mk (zo (zH HB.out) hb);clear qY;clear HB;have qY:=zJ;have HB:=zK;clear zJ zK;(try clear hb);(try clear hk);(try clear hi)))
     go_meet
     case rel=>exact ⟨_,(true),(by first | rfl | (simp;done) | (simp [*];done)),H',⟨by first | omega | exact Nat.le_refl _⟩,⟨qh qY.out⟩,⟨zH HB.out⟩⟩
    ·rw [if_neg c11] at H
     have Qi:decide (2000 < (l2.length:Int)) = false:=decide_eq_false c11
     have mF:decide (2000 < l2.length) = false:=decide_eq_false (by omega)
     clear c11
     (first | rw [Qi] | (simp only [uF,jZ];rw [Qi]) | skip)
     have H':=zx.mk H
     clear H
     go_wp2_with (first | ((with_reducible refine yG (f:=47) rfl ?_);refine jm (some 17) Tryz.func47 #[.slice A0 l0.length c0] ?_;(with_reducible refine (qN.calls k _ _ l0 true _ ?yc ?yI A7.out).mono ?_);(case yc=>exact ql (Kd.zu jW.out HB.out));(case yI=>exact Q9.out);rintro e Zi ⟨rfl,hb⟩;refine ⟨_,rfl,?_⟩;have zJ:=zx.mk (zU (g:=uT) (o:=.cells #[.int .i64 zl,.int .i64 zf,.bool zO,.bool zI] 41 (0,0)) (qh qY.out) hb);have zK:=zx.mk (zo (zH HB.out) hb);clear qY;clear HB;have qY:=zJ;have HB:=zK;clear zJ zK;(try clear hb);(try clear hk);have VD:Zi.cell? ⟨uT,0,none⟩ = some (.int .i64 zl):=zZ qY 0;have VE:Zi.cell? ⟨uT,1,none⟩ = some (.int .i64 zf):=zZ qY 1;have VF:Zi.cell? ⟨uT,2,none⟩ = some (.bool zO):=zZ qY 2;have VG:Zi.cell? ⟨uT,3,none⟩ = some (.bool zI):=zZ qY 3;have VH:=zy qY.out 0;have VI:=zy qY.out 1;have VL:=zy qY.out 2;have VN:=zy qY.out 3) | (go_at_call 48;(with_reducible refine (vW.calls _ _ l0 zl zf zO zI true _ ?yc ?yI A9.out).mono ?_);(case yc=>exact ql (Kd.zu jW.out HB.out));(case yI=>exact Q9.out);rintro e VQ ⟨rfl,hb⟩;have zJ:=zx.mk (zU (g:=uT) (o:=.cells #[.int .i64 zl,.int .i64 zf,.bool zO,.bool zI] 41 (0,0)) (qh qY.out) hb);have zK:=zx.mk (zo (zH HB.out) hb);clear qY;clear HB;have qY:=zJ;have HB:=zK;clear zJ zK;(try clear hb);(try clear hk);(try clear hi)))
     go_meet
     case rel=>exact ⟨_,(decide ((l3.length:Int) > 100)),(by first | rfl | (simp;done) | (simp [*];done)),H',⟨by first | omega | exact Nat.le_refl _⟩,⟨qh qY.out⟩,⟨zH HB.out⟩⟩
   ·replace c10:=Bool.eq_false_iff.mpr c10
    subst c10
    have H1:(zm.j0 k l0 l2 l3 true zl zf zO zI) = some (r1,r2,r3):=by rw [if_neg (show ¬ (false = true) by decide)] at H;exact H
    clear H
    have H:=H1
    clear H1
    have H':=zx.mk H
    clear H
    go_wp2_with (first | ((with_reducible refine yG (f:=47) rfl ?_);refine jm (some 17) Tryz.func47 #[.slice A0 l0.length c0] ?_;(with_reducible refine (qN.calls k _ _ l0 true _ ?yc ?yI A7.out).mono ?_);(case yc=>exact ql (Kd.zu jW.out HB.out));(case yI=>exact Q9.out);rintro e gK ⟨rfl,hb⟩;refine ⟨_,rfl,?_⟩;have zJ:=zx.mk (zU (g:=uT) (o:=.cells #[.int .i64 zl,.int .i64 zf,.bool zO,.bool zI] 41 (0,0)) (qh qY.out) hb);have zK:=zx.mk (zo (zH HB.out) hb);clear qY;clear HB;have qY:=zJ;have HB:=zK;clear zJ zK;(try clear hb);(try clear hk);have dA:gK.cell? ⟨uT,0,none⟩ = some (.int .i64 zl):=zZ qY 0;have dB:gK.cell? ⟨uT,1,none⟩ = some (.int .i64 zf):=zZ qY 1;have dD:gK.cell? ⟨uT,2,none⟩ = some (.bool zO):=zZ qY 2;have dF:gK.cell? ⟨uT,3,none⟩ = some (.bool zI):=zZ qY 3;have dG:=zy qY.out 0;have dH:=zy qY.out 1;have dI:=zy qY.out 2;have dL:=zy qY.out 3) | (go_at_call 48;(with_reducible refine (vW.calls _ _ l0 zl zf zO zI false _ ?yc ?yI A9.out).mono ?_);(case yc=>exact ql (Kd.zu jW.out HB.out));(case yI=>exact Q9.out);rintro e w20 ⟨rfl,hb⟩;have zJ:=zx.mk (zU (g:=uT) (o:=.cells #[.int .i64 zl,.int .i64 zf,.bool zO,.bool zI] 41 (0,0)) (qh qY.out) hb);have zK:=zx.mk (zo (zH HB.out) hb);clear qY;clear HB;have qY:=zJ;have HB:=zK;clear zJ zK;(try clear hb);(try clear hk);(try clear hi)))
    go_meet
    case rel=>exact ⟨_,(true),(by first | rfl | (simp;done) | (simp [*];done)),H',⟨by first | omega | exact Nat.le_refl _⟩,⟨qh qY.out⟩,⟨zH HB.out⟩⟩
  ·replace c8:=Bool.eq_false_iff.mpr c8
   subst c8
   have H1:(zm.j0 k l0 l2 l3 true zl zf zO zI) = some (r1,r2,r3):=by rw [if_neg (show ¬ (false = true) by decide)] at H;exact H
   clear H
   have H:=H1
   clear H1
   have H':=zx.mk H
   clear H
   go_wp2_with (first | ((with_reducible refine yG (f:=47) rfl ?_);refine jm (some 17) Tryz.func47 #[.slice A0 l0.length c0] ?_;(with_reducible refine (qN.calls k _ _ l0 false _ ?yc ?yI A7.out).mono ?_);(case yc=>exact ql (Kd.zu jW.out HB.out));(case yI=>exact Q9.out);rintro e w21 ⟨rfl,hb⟩;refine ⟨_,rfl,?_⟩;have zJ:=zx.mk (zU (g:=uT) (o:=.cells #[.int .i64 zl,.int .i64 zf,.bool zO,.bool zI] 41 (0,0)) (qh qY.out) hb);have zK:=zx.mk (zo (zH HB.out) hb);clear qY;clear HB;have qY:=zJ;have HB:=zK;clear zJ zK;(try clear hb);(try clear hk);(try clear hi)))
   go_meet
   case rel=>exact ⟨_,(true),(by first | rfl | (simp;done) | (simp [*];done)),H',⟨by first | omega | exact Nat.le_refl _⟩,⟨qh qY.out⟩,⟨zH HB.out⟩⟩
 case rest =>
  clear HC5
  try clear c2
  try clear c3
  try clear c8
  try clear c10
  try clear c11
  try clear Qi
  try clear mF
  try clear Xm
  try clear Xn
  try clear Xo
  try clear Xp
  try clear VD
  try clear VE
  try clear VF
  try clear VG
  try clear dA
  try clear dB
  try clear dD
  try clear dF
  try clear Xr
  try clear Xt
  try clear Xu
  try clear XA
  try clear VH
  try clear VI
  try clear VL
  try clear VN
  try clear dG
  try clear dH
  try clear dI
  try clear dL
  obtain ⟨kq,zkC,rfl,HA,HJ4,qY,HB⟩:=hcut
  cases kq with
  | zero=>exact absurd HA.out (by simp [zm.j0])
  | succ kj4 =>
   have H:=HA.out
   clear HA
   simp only [zm.j0] at H
   by_cases ow:zkC = true
   ·subst ow
    have H1:(some (([]:List (vP)),([]:List ByteArray),1)) = some (r1,r2,r3):=by rw [if_pos rfl] at H;exact H
    clear H
    have H:=H1
    clear H1
    simp only [Option.some.injEq,Prod.mk.injEq] at H
    obtain ⟨rfl,rfl,rfl⟩:=H
    go_wp2
    go_ret3
    exact ⟨_,_,by first | rfl | (simp [zM,zN] <;> rfl) | (simp [*,zM,zN] <;> rfl),by first | exact Kd.YQ _ _ _ _ _ | exact Kd.Yc _ _ _ _ _ | exact Kd.Yd _ _ _ _ _ | exact Kd.Ya _ _ _ _ _ | exact Kd.jw _ _ _ _ _,by first | exact Kd.jw _ _ _ _ _ | exact Kd.Yc _ _ _ _ _ | exact Kd.Yd _ _ _ _ _ | exact Kd.Ya _ _ _ _ _ | exact Kd.YQ _ _ _ _ _,by repeat (first | (with_reducible first | exact HB.out | apply yV | apply zP | apply zT | refine qb ?_ zqy.out) | exact HB.out)⟩
   ·replace ow:=Bool.eq_false_iff.mpr ow
    subst ow
    have H1:(zm.l0 kj4 l0 l2 l3 ([]:List ByteArray) 0 zl zf zO zI) = some (r1,r2,r3):=by rw [if_neg (show ¬ (false = true) by decide)] at H;exact H
    clear H
    have H:=H1
    clear H1
    have H':=zx.mk H
    clear H
    go_wp2
    go_loopg [11,12] kj4 (fun kq v11 v12 w'=>∃ (pF:List ByteArray) (kE:Int),v12 = .int .i64 kE ∧ zx (zm.l0 kq l0 l2 l3 pF kE zl zf zO zI = some (r1,r2,r3)) ∧ zx (kq ≤ kj4) ∧ zx (Kd.R Kd.string 9 w' w.heap.size (fun _=>True) v11 pF) ∧ zx (w'.heap[uT]? = some (.cells #[.int .i64 zl,.int .i64 zf,.bool zO,.bool zI] 41 (0,0))) ∧ zx (Below w.heap.size w w'))
    case atStart=>exact ⟨(([]:List ByteArray)),(0),(by first | rfl | (simp;done) | (simp [*];done)),H',⟨Nat.le_refl _⟩,⟨by first | exact Kd.jw _ _ _ _ _ | exact Kd.Yc _ _ _ _ _ | exact Kd.Yd _ _ _ _ _ | exact Kd.Ya _ _ _ _ _ | exact Kd.YQ _ _ _ _ _⟩,⟨qh qY.out⟩,⟨zH HB.out⟩⟩
    case round =>
     clear H'
     try clear c2
     try clear c3
     try clear c8
     try clear c10
     try clear c11
     try clear Qi
     try clear mF
     try clear ow
     try clear Xm
     try clear Xn
     try clear Xo
     try clear Xp
     try clear VD
     try clear VE
     try clear VF
     try clear VG
     try clear dA
     try clear dB
     try clear dD
     try clear dF
     try clear Xr
     try clear Xt
     try clear Xu
     try clear XA
     try clear VH
     try clear VI
     try clear VL
     try clear VN
     try clear dG
     try clear dH
     try clear dI
     try clear dL
     obtain ⟨pF,kE,rfl,HA,QJ,pG,qY,HB⟩:=hrel
     cases gk with
     | zero=>exact absurd HA.out (by simp [zm.l0])
     | succ k2 =>
      have H:=HA.out
      clear HA
      simp only [zm.l0] at H
      by_cases c23:kE < (l2.length:Int)
      ·rw [if_pos c23] at H
       have zxF:decide (kE < (l2.length:Int)) = true:=decide_eq_true c23
       clear c23
       by_cases c24:0 ≤ kE
       ·rw [if_pos c24] at H
        have zVG:decide (0 ≤ kE) = true:=decide_eq_true c24
        clear c24
        replace H:=Option.bind_eq_some_iff.mp H
        obtain ⟨zKh,zhZ,H⟩:=H
        replace H:(if zKh = true then ((qA.f k2 (qJ ByteArray.empty l2 kE) l3).bind fun t226=>(if pF.length < 8796093022208 then (zm.l0 k2 l0 l2 l3 (pF ++ [t226]) (wrap64 (kE + 1)) zl zf zO zI) else (none))) else (some (([]:List (vP)),([]:List ByteArray),1))) = some (r1,r2,r3):=H
        have A25:=zx.mk zhZ
        clear zhZ
        by_cases c26:zKh = true
        ·subst c26
         have H1:((qA.f k2 (qJ ByteArray.empty l2 kE) l3).bind fun t226=>(if pF.length < 8796093022208 then (zm.l0 k2 l0 l2 l3 (pF ++ [t226]) (wrap64 (kE + 1)) zl zf zO zI) else (none))) = some (r1,r2,r3):=by rw [if_pos rfl] at H;exact H
         clear H
         have H:=H1
         clear H1
         replace H:=Option.bind_eq_some_iff.mp H
         obtain ⟨t226,zhQ,H⟩:=H
         replace H:(if pF.length < 8796093022208 then (zm.l0 k2 l0 l2 l3 (pF ++ [t226]) (wrap64 (kE + 1)) zl zf zO zI) else (none)) = some (r1,r2,r3):=H
         have A27:=zx.mk zhQ
         clear zhQ
         by_cases c28:pF.length < 8796093022208
         ·rw [if_pos c28] at H
          have zlF:=zx.mk c28
          clear c28
          obtain ⟨zhX,zx5⟩:∃ y_:List ByteArray,y_ = (pF ++ [t226]):=⟨_,rfl⟩
          replace H:(zm.l0 k2 l0 l2 l3 zhX (wrap64 (kE + 1)) zl zf zO zI) = some (r1,r2,r3):=by first | (rw [zx5];with_reducible exact H) | (have jC:=(Option.bind_some _ _).symm.trans H;rw [zx5];with_reducible exact jC) | (have jC:=(Option.bind_some _ _).symm.trans H;with_reducible exact jC) | with_reducible exact H | (rw [zx5];exact H) | exact H
          have zlG:=zx.mk zx5
          clear zx5
          have H':=zx.mk H
          clear H
          have zzX:0 ≤ (kE:Int):=of_decide_eq_true yE
          have zzJ:kE < (l2.length:Int):=of_decide_eq_true yE
          obtain ⟨zct,e223,J2⟩:=Kd.uw HR2.out kE zzX zzJ
          cases e223
          replace J2:=(HB.out.cell (World.block_lt_of_cell? w _ J2)).trans J2
          replace zzX:=eq_true zzX
          replace zzJ:=eq_true zzJ
          go_wp2_with (first | ((with_reducible refine yG (f:=49) rfl ?_);refine jm (some 45) Tryz.func49 #[.string (qJ ByteArray.empty l2 kE)] ?_;(with_reducible refine (qj.calls k2 (qJ ByteArray.empty l2 kE) true _ A25.out).mono ?_);rintro e w' ⟨rfl,⟨nd,rfl⟩⟩;refine ⟨_,rfl,?_⟩;have zKl:0 ≤ (kE:Int):=of_decide_eq_true yE;have zKm:kE < (l2.length:Int):=of_decide_eq_true yE;obtain ⟨zlH,znL,zqw⟩:=Kd.uw HR2.out kE zKl zKm;obtain rfl:zct = zlH:=(by injection znL);replace zqw:=(HB.out.cell (World.block_lt_of_cell? w _ zqw)).trans zqw;replace zKl:=eq_true zKl;replace zKm:=eq_true zKm) | ((with_reducible refine yG (f:=50) rfl ?_);refine jm (some 53) Tryz.func50 #[.string (qJ ByteArray.empty l2 kE),.slice A3 l3.length c3] ?_;(with_reducible refine (qA.calls k2 (qJ ByteArray.empty l2 kE) _ _ l3 t226 _ ?yc ?yI A27.out).mono ?_);(case yc=>repeat (first | exact (Kd.zu HR3.out (zH HB.out)) | (with_reducible refine Kd.zjy ?_ _) | (with_reducible refine Kd.zjw ?_ _) | (with_reducible refine Kd.oV ?_)));(case yI=>exact gD.out);rintro e w' ⟨rfl,⟨nd,rfl⟩⟩;refine ⟨_,rfl,?_⟩) | ((with_reducible refine pR (b:=.append) (xs:=#[.tmp 47,.tmp 54]) rfl ?_);(try (refine jS (by rfl) ?_;dsimp only));at_builtin;refine Kd.Qy Kd.string (w0:=w) w.heap.size rfl (.tmp 47) (.tmp 54) 27 9 (.string ⟨#[]⟩) 16 rfl Tryz.underlying27 zzo rfl (by decide) (by omega) u11 pF t226 [.string t226] (fun _=>True) (fun _=>False) rfl rfl ?aP (fun _ hk=>hk.elim) ?aF ?aO ?aB ?aS ?aL ?_;(case aP=>exact rfl);(case aB=>exact (zH HB.out));(case aF=>exact (fun _ _=>trivial));(case aO=>exact (qp pG.out));(case aS=>exact (ze (zH HB.out)));(case aL=>have:=zlF.out;omega);intro v228 w29 ho hb hg hat;rw [← zlG.out] at ho;have zJ:=zx.mk (uO (g:=uT) (o:=.cells #[.int .i64 zl,.int .i64 zf,.bool zO,.bool zI] 41 (0,0)) (qh qY.out) hg (Kd.Vz pG.out qY.out (by decide)));have zK:=zx.mk (hb);have zi:=zx.mk (ho);clear qY;clear HB;clear pG;have qY:=zJ;have HB:=zK;have zlI:=zi;clear zJ zK zi;clear ho hb hg hat))
          go_roundg k2
          case measure=>have:=HJ4.out;have:=QJ.out;omega
          case rel=>exact ⟨(zhX),(wrap64 (kE + 1)),(by first | rfl | (simp;done) | (simp [*];done)),H',⟨by have:=HJ4.out;have:=QJ.out;omega⟩,⟨qp zlI.out⟩,⟨qh qY.out⟩,⟨zH HB.out⟩⟩
         ·rw [if_neg c28] at H
          exact absurd H (by simp)
        ·replace c26:=Bool.eq_false_iff.mpr c26
         subst c26
         have H1:(some (([]:List (vP)),([]:List ByteArray),1)) = some (r1,r2,r3):=by rw [if_neg (show ¬ (false = true) by decide)] at H;exact H
         clear H
         have H:=H1
         clear H1
         simp only [Option.some.injEq,Prod.mk.injEq] at H
         obtain ⟨rfl,rfl,rfl⟩:=H
         have zzX:0 ≤ (kE:Int):=of_decide_eq_true yE
         have zzJ:kE < (l2.length:Int):=of_decide_eq_true yE
         obtain ⟨zct,e223,J2⟩:=Kd.uw HR2.out kE zzX zzJ
         cases e223
         replace J2:=(HB.out.cell (World.block_lt_of_cell? w _ J2)).trans J2
         replace zzX:=eq_true zzX
         replace zzJ:=eq_true zzJ
         go_wp2_with (first | ((with_reducible refine yG (f:=49) rfl ?_);refine jm (some 45) Tryz.func49 #[.string (qJ ByteArray.empty l2 kE)] ?_;(with_reducible refine (qj.calls k2 (qJ ByteArray.empty l2 kE) false _ A25.out).mono ?_);rintro e w' ⟨rfl,⟨nd,rfl⟩⟩;refine ⟨_,rfl,?_⟩))
         go_ret3
         exact ⟨_,_,by first | rfl | (simp [zM,zN] <;> rfl) | (simp [*,zM,zN] <;> rfl),by first | exact Kd.YQ _ _ _ _ _ | exact Kd.Yc _ _ _ _ _ | exact Kd.Yd _ _ _ _ _ | exact Kd.Ya _ _ _ _ _ | exact Kd.jw _ _ _ _ _,by first | exact Kd.jw _ _ _ _ _ | exact Kd.Yc _ _ _ _ _ | exact Kd.Yd _ _ _ _ _ | exact Kd.Ya _ _ _ _ _ | exact Kd.YQ _ _ _ _ _,by repeat (first | (with_reducible first | exact HB.out | apply yV | apply zP | apply zT | refine qb ?_ zqy.out) | exact HB.out)⟩
       ·rw [if_neg c24] at H
        exact absurd H (by simp)
      ·rw [if_neg c23] at H
       have zxF:decide (kE < (l2.length:Int)) = false:=decide_eq_false c23
       clear c23
       have H':=zx.mk H
       clear H
       go_wp2
       go_loopg [13] k2 (fun kq v13 w'=>∃ (jc:Int),v13 = .int .i64 jc ∧ zx (zm.l1 kq l0 l3 pF jc zl zf zO zI = some (r1,r2,r3)) ∧ zx (kq ≤ k2) ∧ zx (Kd.R Kd.string 9 w' w.heap.size (fun _=>True) u11 pF) ∧ zx (w'.heap[uT]? = some (.cells #[.int .i64 zl,.int .i64 zf,.bool zO,.bool zI] 41 (0,0))) ∧ zx (Below w.heap.size w w'))
       case atStart=>exact ⟨(0),(by first | rfl | (simp;done) | (simp [*];done)),H',⟨Nat.le_refl _⟩,⟨qp pG.out⟩,⟨qh qY.out⟩,⟨zH HB.out⟩⟩
       case round =>
        clear H'
        try clear c2
        try clear c3
        try clear c8
        try clear c10
        try clear c11
        try clear Qi
        try clear mF
        try clear ow
        try clear c23
        try clear zxF
        try clear c24
        try clear zVG
        try clear c26
        try clear c28
        try clear Xm
        try clear Xn
        try clear Xo
        try clear Xp
        try clear VD
        try clear VE
        try clear VF
        try clear VG
        try clear dA
        try clear dB
        try clear dD
        try clear dF
        try clear Xr
        try clear Xt
        try clear Xu
        try clear XA
        try clear VH
        try clear VI
        try clear VL
        try clear VN
        try clear dG
        try clear dH
        try clear dI
        try clear dL
        try clear J2
        try clear zqw
        try clear zzX
        try clear zKl
        try clear zzJ
        try clear zKm
        obtain ⟨jc,rfl,HA,dR,pG,qY,HB⟩:=hrel
        cases gk with
        | zero=>exact absurd HA.out (by simp [zm.l1])
        | succ k3 =>
         have H:=HA.out
         clear HA
         simp only [zm.l1] at H
         by_cases P8:jc < (l3.length:Int)
         ·rw [if_pos P8] at H
          have zV4:decide (jc < (l3.length:Int)) = true:=decide_eq_true P8
          clear P8
          by_cases c31:0 ≤ jc
          ·rw [if_pos c31] at H
           have zcn:decide (0 ≤ jc) = true:=decide_eq_true c31
           clear c31
           replace H:=Option.bind_eq_some_iff.mp H
           obtain ⟨zKi,zhJ,H⟩:=H
           replace H:(if zKi = true then ((qj.f k3 ((j4 l3 jc).f1)).bind fun t233=>(if t233 = true then (zm.l1 k3 l0 l3 pF (wrap64 (jc + 1)) zl zf zO zI) else (some (([]:List (vP)),([]:List ByteArray),1)))) else (some (([]:List (vP)),([]:List ByteArray),1))) = some (r1,r2,r3):=H
           have A32:=zx.mk zhJ
           clear zhJ
           by_cases gY:zKi = true
           ·subst gY
            have H1:((qj.f k3 ((j4 l3 jc).f1)).bind fun t233=>(if t233 = true then (zm.l1 k3 l0 l3 pF (wrap64 (jc + 1)) zl zf zO zI) else (some (([]:List (vP)),([]:List ByteArray),1)))) = some (r1,r2,r3):=by rw [if_pos rfl] at H;exact H
            clear H
            have H:=H1
            clear H1
            replace H:=Option.bind_eq_some_iff.mp H
            obtain ⟨t233,zhV,H⟩:=H
            replace H:(if t233 = true then (zm.l1 k3 l0 l3 pF (wrap64 (jc + 1)) zl zf zO zI) else (some (([]:List (vP)),([]:List ByteArray),1))) = some (r1,r2,r3):=H
            have A34:=zx.mk zhV
            clear zhV
            by_cases c35:t233 = true
            ·subst c35
             have H1:(zm.l1 k3 l0 l3 pF (wrap64 (jc + 1)) zl zf zO zI) = some (r1,r2,r3):=by rw [if_pos rfl] at H;exact H
             clear H
             have H:=H1
             clear H1
             have H':=zx.mk H
             clear H
             have gF:0 ≤ (jc:Int):=of_decide_eq_true yE
             have gG:jc < (l3.length:Int):=of_decide_eq_true yE
             obtain ⟨zkD,e230,Y2,Y3⟩:=Vw HR3.out jc gF gG
             cases e230
             replace Y2:=(HB.out.cell (World.block_lt_of_cell? w _ Y2)).trans Y2
             replace Y3:=(HB.out.cell (World.block_lt_of_cell? w _ Y3)).trans Y3
             replace gF:=eq_true gF
             replace gG:=eq_true gG
             go_wp2_with (first | ((with_reducible refine yG (f:=49) rfl ?_);refine jm (some 67) Tryz.func49 #[.string ((j4 l3 jc).f0)] ?_;(with_reducible refine (qj.calls k3 ((j4 l3 jc).f0) true _ A32.out).mono ?_);rintro e w' ⟨rfl,⟨nd,rfl⟩⟩;refine ⟨_,rfl,?_⟩;have zq4:0 ≤ (jc:Int):=of_decide_eq_true yE;have zq5:jc < (l3.length:Int):=of_decide_eq_true yE;obtain ⟨zKn,e232,Pz,Pq⟩:=Vw HR3.out jc zq4 zq5;obtain rfl:zkD = zKn:=(by injection e232);replace Pz:=(HB.out.cell (World.block_lt_of_cell? w _ Pz)).trans Pz;replace Pq:=(HB.out.cell (World.block_lt_of_cell? w _ Pq)).trans Pq;replace zq4:=eq_true zq4;replace zq5:=eq_true zq5) | (go_at_call 49;(with_reducible refine (qj.calls k3 ((j4 l3 jc).f1) true _ A34.out).mono ?_);rintro e w' ⟨rfl,⟨nd,rfl⟩⟩))
             go_roundg k3
             case measure=>have:=HJ4.out;have:=QJ.out;have:=dR.out;omega
             case rel=>exact ⟨(wrap64 (jc + 1)),(by first | rfl | (simp;done) | (simp [*];done)),H',⟨by have:=HJ4.out;have:=QJ.out;have:=dR.out;omega⟩,⟨qp pG.out⟩,⟨qh qY.out⟩,⟨zH HB.out⟩⟩
            ·replace c35:=Bool.eq_false_iff.mpr c35
             subst c35
             have H1:(some (([]:List (vP)),([]:List ByteArray),1)) = some (r1,r2,r3):=by rw [if_neg (show ¬ (false = true) by decide)] at H;exact H
             clear H
             have H:=H1
             clear H1
             simp only [Option.some.injEq,Prod.mk.injEq] at H
             obtain ⟨rfl,rfl,rfl⟩:=H
             have gF:0 ≤ (jc:Int):=of_decide_eq_true yE
             have gG:jc < (l3.length:Int):=of_decide_eq_true yE
             obtain ⟨zkD,e230,Y2,Y3⟩:=Vw HR3.out jc gF gG
             cases e230
             replace Y2:=(HB.out.cell (World.block_lt_of_cell? w _ Y2)).trans Y2
             replace Y3:=(HB.out.cell (World.block_lt_of_cell? w _ Y3)).trans Y3
             replace gF:=eq_true gF
             replace gG:=eq_true gG
             go_wp2_with (first | ((with_reducible refine yG (f:=49) rfl ?_);refine jm (some 67) Tryz.func49 #[.string ((j4 l3 jc).f0)] ?_;(with_reducible refine (qj.calls k3 ((j4 l3 jc).f0) true _ A32.out).mono ?_);rintro e w' ⟨rfl,⟨nd,rfl⟩⟩;refine ⟨_,rfl,?_⟩;have zq4:0 ≤ (jc:Int):=of_decide_eq_true yE;have zq5:jc < (l3.length:Int):=of_decide_eq_true yE;obtain ⟨zKn,e232,Pz,Pq⟩:=Vw HR3.out jc zq4 zq5;obtain rfl:zkD = zKn:=(by injection e232);replace Pz:=(HB.out.cell (World.block_lt_of_cell? w _ Pz)).trans Pz;replace Pq:=(HB.out.cell (World.block_lt_of_cell? w _ Pq)).trans Pq;replace zq4:=eq_true zq4;replace zq5:=eq_true zq5) | (go_at_call 49;(with_reducible refine (qj.calls k3 ((j4 l3 jc).f1) false _ A34.out).mono ?_);rintro e w' ⟨rfl,⟨nd,rfl⟩⟩))
             go_ret3
             exact ⟨_,_,by first | rfl | (simp [zM,zN] <;> rfl) | (simp [*,zM,zN] <;> rfl),by first | exact Kd.YQ _ _ _ _ _ | exact Kd.Yc _ _ _ _ _ | exact Kd.Yd _ _ _ _ _ | exact Kd.Ya _ _ _ _ _ | exact Kd.jw _ _ _ _ _,by first | exact Kd.jw _ _ _ _ _ | exact Kd.Yc _ _ _ _ _ | exact Kd.Yd _ _ _ _ _ | exact Kd.Ya _ _ _ _ _ | exact Kd.YQ _ _ _ _ _,by repeat (first | (with_reducible first | exact HB.out | apply yV | apply zP | apply zT | refine qb ?_ zqy.out) | exact HB.out)⟩
           ·replace gY:=Bool.eq_false_iff.mpr gY
            subst gY
            have H1:(some (([]:List (vP)),([]:List ByteArray),1)) = some (r1,r2,r3):=by rw [if_neg (show ¬ (false = true) by decide)] at H;exact H
            clear H
            have H:=H1
            clear H1
            simp only [Option.some.injEq,Prod.mk.injEq] at H
            obtain ⟨rfl,rfl,rfl⟩:=H
            have gF:0 ≤ (jc:Int):=of_decide_eq_true yE
            have gG:jc < (l3.length:Int):=of_decide_eq_true yE
            obtain ⟨zkD,e230,Y2,Y3⟩:=Vw HR3.out jc gF gG
            cases e230
            replace Y2:=(HB.out.cell (World.block_lt_of_cell? w _ Y2)).trans Y2
            replace Y3:=(HB.out.cell (World.block_lt_of_cell? w _ Y3)).trans Y3
            replace gF:=eq_true gF
            replace gG:=eq_true gG
            go_wp2_with (first | ((with_reducible refine yG (f:=49) rfl ?_);refine jm (some 67) Tryz.func49 #[.string ((j4 l3 jc).f0)] ?_;(with_reducible refine (qj.calls k3 ((j4 l3 jc).f0) false _ A32.out).mono ?_);rintro e w' ⟨rfl,⟨nd,rfl⟩⟩;refine ⟨_,rfl,?_⟩))
            go_ret3
            exact ⟨_,_,by first | rfl | (simp [zM,zN] <;> rfl) | (simp [*,zM,zN] <;> rfl),by first | exact Kd.YQ _ _ _ _ _ | exact Kd.Yc _ _ _ _ _ | exact Kd.Yd _ _ _ _ _ | exact Kd.Ya _ _ _ _ _ | exact Kd.jw _ _ _ _ _,by first | exact Kd.jw _ _ _ _ _ | exact Kd.Yc _ _ _ _ _ | exact Kd.Yd _ _ _ _ _ | exact Kd.Ya _ _ _ _ _ | exact Kd.YQ _ _ _ _ _,by repeat (first | (with_reducible first | exact HB.out | apply yV | apply zP | apply zT | refine qb ?_ zqy.out) | exact HB.out)⟩
          ·rw [if_neg c31] at H
           exact absurd H (by simp)
         ·rw [if_neg P8] at H
          have zV4:decide (jc < (l3.length:Int)) = false:=decide_eq_false P8
          clear P8
          by_cases mD:zO = true
          ·subst mD
           have H1:(if 0 ≤ zl then (if zl < (l0.length:Int) then ((z8.f k3 ((zw l0 zl).f0) ((zw l0 zl).f1) ((zw l0 zl).f2) ((zw l0 zl).f3) ((zw l0 zl).f4) ((zw l0 zl).f5) pF).bind fun zzQ=>((zV.f k3 l0 zl zf true zI zzQ).bind fun mE=>(some (mE.1,mE.2,0)))) else (none)) else (none)) = some (r1,r2,r3):=by rw [if_pos rfl] at H;exact H
           clear H
           have H:=H1
           clear H1
           by_cases c37:0 ≤ zl
           ·rw [if_pos c37] at H
            have zcu:decide (0 ≤ zl) = true:=decide_eq_true c37
            clear c37
            by_cases c38:zl < (l0.length:Int)
            ·rw [if_pos c38] at H
             have zua:decide (zl < (l0.length:Int)) = true:=decide_eq_true c38
             clear c38
             replace H:=Option.bind_eq_some_iff.mp H
             obtain ⟨zzQ,zhK,H⟩:=H
             replace H:((zV.f k3 l0 zl zf true zI zzQ).bind fun mE=>(some (mE.1,mE.2,0))) = some (r1,r2,r3):=H
             have A39:=zx.mk zhK
             clear zhK
             replace H:=Option.bind_eq_some_iff.mp H
             obtain ⟨⟨zhY,zhW⟩,zha,H⟩:=H
             replace H:(some (zhY,zhW,0)) = some (r1,r2,r3):=H
             have P6:=zx.mk zha
             clear zha
             simp only [Option.some.injEq,Prod.mk.injEq] at H
             obtain ⟨rfl,rfl,rfl⟩:=H
             have zrq:wr.cell? ⟨uT,0,none⟩ = some (.int .i64 zl):=zZ qY 0
             have zrx:wr.cell? ⟨uT,1,none⟩ = some (.int .i64 zf):=zZ qY 1
             have zrj:wr.cell? ⟨uT,2,none⟩ = some (.bool true):=zZ qY 2
             have zrv:wr.cell? ⟨uT,3,none⟩ = some (.bool zI):=zZ qY 3
             have zrk:=zy qY.out 0
             have zry:=zy qY.out 1
             have zrw:=zy qY.out 2
             have zrZ:=zy qY.out 3
             have zbJ:0 ≤ (zl:Int):=of_decide_eq_true yE
             have zbV:zl < (l0.length:Int):=of_decide_eq_true yE
             obtain ⟨zlL,zhb,zhc,zhd,zhe,zhf,zhg,e234,zvB,zvC,zvD,zvE,zvF,zvG,zQ7,zQ8,zQ9,zXz,zXq,zXx⟩:=ZY jW.out zl zbJ zbV
             cases e234
             replace zvB:=(HB.out.cell (World.block_lt_of_cell? w _ zvB)).trans zvB
             replace zvC:=(HB.out.cell (World.block_lt_of_cell? w _ zvC)).trans zvC
             replace zvD:=(HB.out.cell (World.block_lt_of_cell? w _ zvD)).trans zvD
             replace zvE:=(HB.out.cell (World.block_lt_of_cell? w _ zvE)).trans zvE
             replace zvF:=(HB.out.cell (World.block_lt_of_cell? w _ zvF)).trans zvF
             replace zvG:=(HB.out.cell (World.block_lt_of_cell? w _ zvG)).trans zvG
             have zfx:=zx.mk zQ8
             have zfj:=zx.mk zQ7
             clear zQ8 zQ7
             have zfv:=zx.mk zXz
             have zfk:=zx.mk zQ9
             clear zXz zQ9
             have zfy:=zx.mk zXx
             have zfw:=zx.mk zXq
             clear zXx zXq
             replace zbJ:=eq_true zbJ
             replace zbV:=eq_true zbV
             obtain ⟨zvw,zvZ,zaL⟩:=Kd.xK pG.out
             subst zaL
             go_wp2_with (first | ((with_reducible refine yG (f:=51) rfl ?_);refine jm (some 86) Tryz.func51 #[.agg #[.string ((zw l0 zl).f0),.bool ((zw l0 zl).f1),.int .i64 ((zw l0 zl).f2),.slice zhb ((zw l0 zl).f3).length zhc,.slice zhd ((zw l0 zl).f4).length zhe,.slice zhf ((zw l0 zl).f5).length zhg],.slice zvw pF.length zvZ] ?_;(with_reducible refine (z8.calls k3 ((zw l0 zl).f0) ((zw l0 zl).f1) ((zw l0 zl).f2) _ _ ((zw l0 zl).f3) _ _ ((zw l0 zl).f4) _ _ ((zw l0 zl).f5) _ _ pF zzQ _ ?yc ?yI ?qy ?qw ?qD ?qE ?jU ?zlM A39.out).mono ?_);(case yc=>exact ql (Kd.zu zfx.out HB.out));(case yI=>exact zfj.out);(case qy=>exact ql (Kd.zu zfv.out HB.out));(case qw=>exact zfk.out);(case qD=>exact ql (Kd.zu zfy.out HB.out));(case qE=>exact zfw.out);(case jU=>exact ql ((Kd.xw pG.out).2.2));(case zlM=>exact (Kd.xw pG.out).2.1);rintro e iV ⟨v236,rfl,ho0,hb⟩;refine ⟨_,rfl,?_⟩;have zJ:=zx.mk (Kd.vD (qp pG.out) (Kd.jq ho0) hb);have zK:=zx.mk (Kd.vG (Kd.jk ho0 (Kd.wH (qp pG.out))) (ze (zH HB.out)));have zi:=zx.mk (zU (g:=uT) (o:=.cells #[.int .i64 zl,.int .i64 zf,.bool true,.bool zI] 41 (0,0)) (qh qY.out) hb);have zL:=zx.mk (zo (zH HB.out) hb);clear pG;clear qY;clear HB;have pG:=zJ;have lI:=zK;have qY:=zi;have HB:=zL;clear zJ zK zi zL;(try clear hb);(try clear hk);(try clear ho0);have zfZ:iV.cell? ⟨uT,0,none⟩ = some (.int .i64 zl):=zZ qY 0;have zfQ:iV.cell? ⟨uT,1,none⟩ = some (.int .i64 zf):=zZ qY 1;have zfX:iV.cell? ⟨uT,2,none⟩ = some (.bool true):=zZ qY 2;have zfJ:iV.cell? ⟨uT,3,none⟩ = some (.bool zI):=zZ qY 3;have zfV:=zy qY.out 0;have zfK:=zy qY.out 1;have zfY:=zy qY.out 2;have zfW:=zy qY.out 3;obtain ⟨znM,znN,znO⟩:=Kd.xK lI.out;subst znO) | ((with_reducible refine yG (f:=52) rfl ?_);refine jm (some 91) Tryz.func52 #[.slice (some zlL) l0.length c0,.agg #[.int .i64 zl,.int .i64 zf,.bool true,.bool zI],.slice znM zzQ.length znN] ?_;(with_reducible refine (zV.calls k3 _ _ l0 zl zf true zI _ _ zzQ zhY zhW _ ?yc ?yI ?qy ?qw P6.out).mono ?_);(case yc=>exact ql (Kd.zu jW.out HB.out));(case yI=>exact Q9.out);(case qy=>exact ql ((Kd.xw lI.out).2.2));(case qw=>exact (Kd.xw lI.out).2.1);rintro e w46 ⟨zAZ,zAQ,rfl,ho0,ho1,hb⟩;refine ⟨_,rfl,?_⟩;have zJ:=zx.mk (Kd.vD (qp pG.out) (Kd.jq ho1) hb);have zK:=zx.mk (Kd.vD (qp lI.out) (Kd.jq ho1) hb);have zi:=zx.mk (Kd.jf ho0 (ze (zH HB.out)));have zL:=zx.mk (Kd.vG (Kd.jk (Kd.jk ho1 (Kd.wH (qp pG.out))) (Kd.wH (qp lI.out))) (ze (zH HB.out)));have qz:=zx.mk (zU (g:=uT) (o:=.cells #[.int .i64 zl,.int .i64 zf,.bool true,.bool zI] 41 (0,0)) (qh qY.out) hb);have xX:=zx.mk (zo (zH HB.out) hb);clear pG;clear lI;clear qY;clear HB;have pG:=zJ;have lI:=zK;have zlN:=zi;have zlO:=zL;have qY:=qz;have HB:=xX;clear zJ zK zi zL qz xX;(try clear hb);(try clear hk);(try clear ho0);(try clear ho1)))
             go_ret3
             exact ⟨_,_,by first | rfl | (simp [zM,zN] <;> rfl) | (simp [*,zM,zN] <;> rfl),by (with_reducible repeat (first | apply Kd.vK | apply Kd.vY | apply Kd.qR));exact zlN.out,by (with_reducible repeat (first | apply Kd.Z5 | apply Kd.Z6 | apply Kd.vB));exact Kd.uW zlO.out (fun _ hk=>trivial),by repeat (first | (with_reducible first | exact HB.out | apply yV | apply zP | apply zT | refine qb ?_ zqy.out) | exact HB.out)⟩
            ·rw [if_neg c38] at H
             exact absurd H (by simp)
           ·rw [if_neg c37] at H
            exact absurd H (by simp)
          ·replace mD:=Bool.eq_false_iff.mpr mD
           subst mD
           have H1:((zV.f k3 l0 zl zf false zI pF).bind fun zx4=>(some (zx4.1,zx4.2,0))) = some (r1,r2,r3):=by rw [if_neg (show ¬ (false = true) by decide)] at H;exact H
           clear H
           have H:=H1
           clear H1
           replace H:=Option.bind_eq_some_iff.mp H
           obtain ⟨⟨zhh,zhi⟩,zhl,H⟩:=H
           replace H:(some (zhh,zhi,0)) = some (r1,r2,r3):=H
           have A47:=zx.mk zhl
           clear zhl
           simp only [Option.some.injEq,Prod.mk.injEq] at H
           obtain ⟨rfl,rfl,rfl⟩:=H
           have zrQ:wr.cell? ⟨uT,0,none⟩ = some (.int .i64 zl):=zZ qY 0
           have zrX:wr.cell? ⟨uT,1,none⟩ = some (.int .i64 zf):=zZ qY 1
           have zrJ:wr.cell? ⟨uT,2,none⟩ = some (.bool false):=zZ qY 2
           have zrV:wr.cell? ⟨uT,3,none⟩ = some (.bool zI):=zZ qY 3
           have zrK:=zy qY.out 0
           have zrY:=zy qY.out 1
           have zrW:=zy qY.out 2
           have zra:=zy qY.out 3
           obtain ⟨zbK,zbY,zKo⟩:=Kd.xK pG.out
           subst zKo
           go_wp2_with (first | ((with_reducible refine yG (f:=52) rfl ?_);refine jm (some 91) Tryz.func52 #[.slice A0 l0.length c0,.agg #[.int .i64 zl,.int .i64 zf,.bool false,.bool zI],.slice zbK pF.length zbY] ?_;(with_reducible refine (zV.calls k3 _ _ l0 zl zf false zI _ _ pF zhh zhi _ ?yc ?yI ?qy ?qw A47.out).mono ?_);(case yc=>exact ql (Kd.zu jW.out HB.out));(case yI=>exact Q9.out);(case qy=>exact ql ((Kd.xw pG.out).2.2));(case qw=>exact (Kd.xw pG.out).2.1);rintro e w50 ⟨zAX,zAJ,rfl,ho0,ho1,hb⟩;refine ⟨_,rfl,?_⟩;have zJ:=zx.mk (Kd.vD (qp pG.out) (Kd.jq ho1) hb);have zK:=zx.mk (Kd.jf ho0 (ze (zH HB.out)));have zi:=zx.mk (Kd.vG (Kd.jk ho1 (Kd.wH (qp pG.out))) (ze (zH HB.out)));have zL:=zx.mk (zU (g:=uT) (o:=.cells #[.int .i64 zl,.int .i64 zf,.bool false,.bool zI] 41 (0,0)) (qh qY.out) hb);have qz:=zx.mk (zo (zH HB.out) hb);clear pG;clear qY;clear HB;have pG:=zJ;have zlP:=zK;have zlR:=zi;have qY:=zL;have HB:=qz;clear zJ zK zi zL qz;(try clear hb);(try clear hk);(try clear ho0);(try clear ho1)))
           go_ret3
           exact ⟨_,_,by first | rfl | (simp [zM,zN] <;> rfl) | (simp [*,zM,zN] <;> rfl),by (with_reducible repeat (first | apply Kd.vK | apply Kd.vY | apply Kd.qR));exact zlP.out,by (with_reducible repeat (first | apply Kd.Z5 | apply Kd.Z6 | apply Kd.vB));exact Kd.uW zlR.out (fun _ hk=>trivial),by repeat (first | (with_reducible first | exact HB.out | apply yV | apply zP | apply zT | refine qb ?_ zqy.out) | exact HB.out)⟩
end Go.Proofs.YtggifbbiiickmaaGreatDoor.PX
namespace Go.Proofs.YtggifbbiiickmaaGreatDoor
open Go.RowKit Go.Proofs.zk.zA Go.Proofs.zk.yB Go.Proofs.zk.yA Go.Proofs.YtggifbbiiickmaaGreatDoor.PX
set_option linter.unusedSimpArgs false
set_option linter.unusedVariables false
theorem zfa (x:qO) (hx:Yi x) (n m:ByteArray) (s:Int):Ev (fun k=>uD.f k (kr x).f0 (kr x).f1 (kr x).f2 (kr x).f3 (kr x).f4 (kr x).f5 n m s) (Qc x n m s) :=
 ziC x.f0 x.f1 x.f2 x.f3 x.f4 x.f5 n m s hx.1 hx.2.1 hx.2.2.1 hx.2.2.2.1 hx.2.2.2.2
theorem zbW (x:qO) (hx:Yi x) (n:ByteArray) (s:Int):Ev (fun k=>yM.f k (kr x).f0 (kr x).f1 (kr x).f2 (kr x).f3 (kr x).f4 (kr x).f5 n s) (lJ x n s) :=
 zgi x.f0 x.f1 x.f2 x.f3 x.f4 x.f5 n s hx.1 hx.2.1 hx.2.2.1 hx.2.2.2.1 hx.2.2.2.2
theorem zba {l:List qO} {f:Int} (n:ByteArray) (h0:0 ≤ f) (h1:f < (l.length:Int)):kR l f n = -1 ∨ (0 ≤ kR l f n ∧ kR l f n < (l.length:Int)):=by
 unfold kR
 split
 ·exact Or.inr ⟨h0,h1⟩
 ·have key:∀ (m:List qO) (i:Nat),X9 n m i = -1 ∨ (0 ≤ X9 n m i ∧ X9 n m i < ((i + m.length:Nat):Int)):=by
   intro m
   induction m with
   | nil=>intro i;exact Or.inl rfl
   | cons x r ih =>
    intro i
    unfold X9
    split
    ·exact Or.inr ⟨by omega,by simp only [List.length_cons];omega⟩
    ·rcases ih (i + 1) with h | h
     ·exact Or.inl h
     ·exact Or.inr ⟨h.1,by have:=h.2;simp only [List.length_cons];omega⟩
  have:=key l 0
  simpa using this
theorem zfb (l:List wV) (b:wV) (hl:l.length ≤ 1000000000) (h:l.getLast? = some b):wrap64 ((l.length:Int) - 1) = ((l.length - 1:Nat):Int) ∧ l.length - 1 < l.length ∧ yj l ((l.length - 1:Nat):Int) = b:=by
 have hp:0 < l.length:=by
  rcases Nat.eq_zero_or_pos l.length with h0 | h0
  ·rw [List.eq_nil_of_length_eq_zero h0] at h;cases h
  ·exact h0
 refine ⟨(kQ (by omega) (by omega)).trans (by omega),by omega,?_⟩
 rw [List.getLast?_eq_getElem?] at h
 simp [yj,List.getD_eq_getElem?_getD,h]
theorem zbb (l:List qO) (hl:l.length ≤ 1000000000) (hF:∀ x ∈ l,Yi x) (f:Nat) (hf:f < l.length) (s:Int) (lg kn:Bool) (ns:List ByteArray) (hn:ns.length ≤ 100000000) (i:Nat) (hi:i < ns.length) (out:List wV) (miss:List ByteArray) (ho:out.length ≤ 2 * i) (hm:miss.length ≤ i) (r:List wV × List ByteArray)
  (hr:Ev (fun k=>zV.l0 k (l.map kr) ns (Yp l (f:Int) s kn (out,miss) ns[i]).1 (Yp l (f:Int) s kn (out,miss) ns[i]).2 ((i + 1:Nat):Int) (f:Int) s lg kn) r) :
  Ev (fun k=>zV.l0 k (l.map kr) ns out miss (i:Int) (f:Int) s lg kn) r:=by
 have hw:wrap64 ((i:Int) + 1) = ((i + 1:Nat):Int):=(kQ (by omega) (by omega)).trans (by omega)
 have q1:(i:Int) < (ns.length:Int):=by omega
 have q2:(0:Int) ≤ (i:Int):=by omega
 have hd:=rdS ns i hi
 generalize ns[i] = c at hr hd
 have zKp:=zeE l hl hF f hf c
 have hlt:=zba (l:=l) (f:=(f:Int)) c (by omega) (by omega)
 have o1:out.length < 1599289640401:=by omega
 have m1:miss.length < 8796093022208:=by omega
 unfold Yp at hr
 generalize kR l (f:Int) c = a at hr zKp hlt
 by_cases ha:a < 0
 ·rw [if_pos ha] at hr
  exact Ev.step (fun k=>by rw [zV.l0,hd,hw]) (yJ q1 (yJ q2 (Ev.bind zKp (yJ ha (yJ m1 hr)))))
 ·rw [if_neg ha] at hr
  obtain ⟨b,rfl⟩:∃ b:Nat,a = (b:Int):=⟨a.toNat,by omega⟩
  have hb:b < l.length:=by omega
  have hx:=zyI l b hb
  have hx0:j5 l (b:Int) = l[b]:=zKw l b hb
  have hfx:=hF _ (List.getElem_mem hb)
  have b1:(0:Int) ≤ (b:Int):=by omega
  have b2:(b:Int) < (l.length:Int):=by omega
  rw [hx0] at hr
  generalize hgx:l[b] = x at hr hx hfx hx0
  have hwd:=zbW x hfx c s
  have plain:∀ nn:Int,Ev (fun k=>zV.l0 k (l.map kr) ns (out ++ [zqF (lJ x c s).1 (b:Int) s c]) miss ((i + 1:Nat):Int) (f:Int) s lg kn) r → Ev (fun k=>zV.j1 k (l.map kr) ns out miss (i:Int) (b:Int) nn false (f:Int) s lg kn) r:=by
   intro nn h
   refine Ev.step (fun k=>by rw [zV.j1,List.length_map,hx,hd,hw]) (xW Bool.false_ne_true (yJ b1 (yJ b2 (yJ q2 (yJ q1 ?_)))))
   refine Ev.bind hwd (yJ o1 ?_)
   exact h
  refine Ev.step (fun k=>by rw [zV.l0,hd,hw]) (yJ q1 (yJ q2 (Ev.bind zKp (xW ha ?_))))
  cases hkn:kn with
  | false =>
   have hk0:Zn l s kn out (b:Int) c = []:=by unfold Zn;rw [hkn];cases out.getLast? <;> rfl
   rw [hk0,List.append_nil,hkn] at hr
   refine xW Bool.false_ne_true ?_
   have:=plain (wrap64 ((out.length:Int) - 1))
   rw [hkn] at this
   exact this hr
  | true =>
   refine yJ rfl ?_
   cases hlast:out.getLast? with
   | none =>
    have hnil:out = []:=List.getLast?_eq_none_iff.1 hlast
    have hk0:Zn l s kn out (b:Int) c = []:=by unfold Zn;rw [hlast]
    rw [hk0,List.append_nil,hkn] at hr
    have hneg:¬ wrap64 ((out.length:Int) - 1) ≥ 0:=by rw [hnil,kQ (by simp) (by simp)];simp
    refine xW hneg ?_
    have:=plain (wrap64 ((out.length:Int) - 1))
    rw [hkn] at this
    exact this hr
   | some g =>
    obtain ⟨e1,e2,e3⟩:=zfb out g (by omega) hlast
    have p1:(0:Int) ≤ ((out.length - 1:Nat):Int):=by omega
    have p2:((out.length - 1:Nat):Int) < (out.length:Int):=by omega
    rw [e1,e3]
    refine yJ p1 (yJ p1 (yJ p2 ?_))
    by_cases hga:g.f2 = (b:Int)
    ·have ht:(g.f2 == (b:Int)) = true:=beq_iff_eq.2 hga
     rw [ht]
     have hke:=zfa x hfx g.f4 c s
     have hk1:Zn l s kn out (b:Int) c = if (Qc x g.f4 c s).1 = 0 then [] else [lV (Qc x g.f4 c s).1]:=by
      unfold Zn
      rw [hlast,hkn]
      dsimp only
      rw [decide_eq_true hga,hx0];rfl
     rw [hk1,hkn] at hr
     refine Ev.step (fun k=>by rw [zV.j1,List.length_map,hx,hd,hw,e3]) (yJ rfl (yJ b1 (yJ b2 (yJ p1 (yJ p2 (yJ q2 (yJ q1 ?_)))))))
     refine Ev.bind hke ?_
     by_cases hz:(Qc x g.f4 c s).1 = 0
     ·rw [if_pos hz,List.append_nil] at hr
      refine yJ hz (Ev.bind hwd (yJ o1 ?_))
      exact hr
     ·rw [if_neg hz] at hr
      refine xW hz (yJ o1 (zkr (Ev.bind hwd (yJ (by simp;omega) ?_))))
      exact hr
    ·have ht:(g.f2 == (b:Int)) = false:=beq_eq_false_iff_ne.2 hga
     rw [ht]
     have hk0:Zn l s kn out (b:Int) c = []:=by
      unfold Zn
      rw [hlast]
      dsimp only
      rw [decide_eq_false hga,Bool.and_false];rfl
     rw [hk0,List.append_nil,hkn] at hr
     have:=plain ((out.length - 1:Nat):Int)
     rw [hkn] at this
     exact this hr
theorem zWV (l:List qO) (f s:Int) (kn:Bool) (st:List wV × List ByteArray) (n:ByteArray):(Yp l f s kn st n).1.length ≤ st.1.length + 2 ∧ (Yp l f s kn st n).2.length ≤ st.2.length + 1:=by
 have hk:(Zn l s kn st.1 (kR l f n) n).length ≤ 1:=by
  unfold Zn
  split
  ·exact Nat.zero_le _
  ·split
   ·split
    ·exact Nat.zero_le _
    ·exact Nat.le_refl _
   ·exact Nat.zero_le _
 unfold Yp
 split
 ·refine ⟨by simp,by simp⟩
 ·refine ⟨by simp;omega,by simp⟩
theorem zlS (l:List qO) (hl:l.length ≤ 1000000000) (hF:∀ x ∈ l,Yi x) (f:Nat) (hf:f < l.length) (s:Int) (lg kn:Bool) (ns:List ByteArray) (hn:ns.length ≤ 100000000):∀ d i,i + d = ns.length → ∀ (out:List wV) (miss:List ByteArray),out.length ≤ 2 * i → miss.length ≤ i → Ev (fun k=>zV.l0 k (l.map kr) ns out miss (i:Int) (f:Int) s lg kn) ((ns.drop i).foldl (Yp l (f:Int) s kn) (out,miss)):=by
 intro d
 induction d with
 | zero =>
  intro i h out miss ho hm
  refine Ev.step (fun k=>by rw [zV.l0]) (xW (by omega) (jo ?_ (Ev.now _)))
  rw [List.drop_eq_nil_of_le (by omega)];rfl
 | succ d ih =>
  intro i h out miss ho hm
  have hi:i < ns.length:=by omega
  rw [List.drop_eq_getElem_cons hi,List.foldl_cons]
  have hlen:=zWV l (f:Int) s kn (out,miss) ns[i]
  exact zbb l hl hF f hf s lg kn ns hn i hi out miss ho hm _ (ih (i + 1) (by omega) _ _ (by have:=hlen.1;simp only at this;omega) (by have:=hlen.2;simp only at this;omega))
theorem zWK (l:List qO) (hl:l.length ≤ 1000000000) (hF:∀ x ∈ l,Yi x) (f:Nat) (hf:f < l.length) (s:Int) (lg kn:Bool) (ns:List ByteArray) (hn:ns.length ≤ 100000000):Ev (fun k=>zV.f k (l.map kr) (f:Int) s lg kn ns) (Vj l (f:Int) s kn ns):=by
 have h:=zlS l hl hF f hf s lg kn ns hn ns.length 0 (by omega) [] [] (Nat.zero_le _) (Nat.zero_le _)
 rw [List.drop_zero] at h
 exact Ev.congr (fun k=>by rw [zV.f];rfl) h
theorem zWY (l:List qO) (hl:l.length ≤ 1000000000) (hF:∀ x ∈ l,Yi x) (f:Nat) (hf:f < l.length) (s:Int) (lg kn:Bool) (pairs:List wB) (hp:pairs.length ≤ 100) (hpz:∀ p ∈ pairs,p.f0.size ≤ 140737488355328 ∧ p.f1.size ≤ 140737488355328) (all:List ByteArray) (ha:all.length ≤ 2000) (hal:(kU (fjoin (j5 l (f:Int))) all).length ≤ all.length) :
  ∀ d i,i + d = pairs.length → Ev (fun k=>zm.l1 k (l.map kr) pairs all (i:Int) (f:Int) s lg kn) (if (pairs.drop i).any PU = true then ([],[],1) else ((Vj l (f:Int) s kn (if lg = true then kU (fjoin (j5 l (f:Int))) all else all)).1,(Vj l (f:Int) s kn (if lg = true then kU (fjoin (j5 l (f:Int))) all else all)).2,0)):=by
 have f1:(0:Int) ≤ (f:Int):=by omega
 have f2:(f:Int) < (l.length:Int):=by omega
 intro d
 induction d with
 | zero =>
  intro i h
  have hx:=zyI l f hf
  have hx0:j5 l (f:Int) = l[f]:=zKw l f hf
  have hfx:=hF _ (List.getElem_mem hf)
  rw [hx0] at hal ⊢
  generalize hgx:l[f] = x at hx hfx hx0 hal ⊢
  rw [List.drop_eq_nil_of_le (by omega),List.any_nil,if_neg Bool.false_ne_true]
  refine Ev.step (fun k=>by rw [zm.l1,List.length_map,hx]) (xW (by omega) ?_)
  cases lg with
  | true =>
   rw [if_pos rfl]
   refine yJ rfl (yJ f1 (yJ f2 ?_))
   refine Ev.bind (zY1 x hfx all (by omega)) ?_
   exact Ev.bind (zWK l hl hF f hf s true kn _ (by omega)) (Ev.now _)
  | false =>
   rw [if_neg Bool.false_ne_true]
   refine xW Bool.false_ne_true ?_
   exact Ev.bind (zWK l hl hF f hf s false kn all (by omega)) (Ev.now _)
 | succ d ih =>
  intro i h
  have hi:i < pairs.length:=by omega
  have hr:=ih (i + 1) (by omega)
  have hw:wrap64 ((i:Int) + 1) = ((i + 1:Nat):Int):=(kQ (by omega) (by omega)).trans (by omega)
  have q1:(i:Int) < (pairs.length:Int):=by omega
  have q2:(0:Int) ≤ (i:Int):=by omega
  have hx:=zg3 pairs i hi
  obtain ⟨z0,z1⟩:=hpz _ (List.getElem_mem hi)
  rw [List.drop_eq_getElem_cons hi,List.any_cons]
  generalize pairs[i] = p at hx z0 z1 ⊢
  refine Ev.step (fun k=>by rw [zm.l1,hx,hw]) (yJ q1 (yJ q2 (Ev.bind (o8 p.f0 z0) ?_)))
  unfold PU
  cases h0:ZN p.f0 with
  | true=>exact xW (by decide) (Ev.now _)
  | false =>
   refine yJ rfl (Ev.bind (o8 p.f1 z1) ?_)
   cases h1:ZN p.f1 with
   | true=>exact xW (by decide) (Ev.now _)
   | false=>exact yJ rfl hr
theorem zWW (l:List qO) (f s:Int) (lg kn:Bool) (pairs:List wB) (hp:pairs.length ≤ 100) (chars:List ByteArray) (hc:chars.length ≤ 2000) (hcz:∀ c ∈ chars,c.size ≤ 140737488355328) (r:List wV × List ByteArray × Int)
  (hr:Ev (fun k=>zm.l1 k (l.map kr) pairs (chars.map (mg pairs)) 0 f s lg kn) r) :
  ∀ d i,i + d = chars.length → Ev (fun k=>zm.l0 k (l.map kr) chars pairs ((chars.map (mg pairs)).take i) (i:Int) f s lg kn) (if (chars.drop i).any ZN = true then ([],[],1) else r):=by
 intro d
 induction d with
 | zero =>
  intro i h
  rw [List.drop_eq_nil_of_le (by omega),List.any_nil,if_neg Bool.false_ne_true,List.take_of_length_le (by rw [List.length_map];omega)]
  exact Ev.step (fun k=>by rw [zm.l0]) (xW (by omega) hr)
 | succ d ih =>
  intro i h
  have hi:i < chars.length:=by omega
  have hs:=ih (i + 1) (by omega)
  rw [gB (mg pairs) chars i hi] at hs
  have hw:wrap64 ((i:Int) + 1) = ((i + 1:Nat):Int):=(kQ (by omega) (by omega)).trans (by omega)
  have q1:(i:Int) < (chars.length:Int):=by omega
  have q2:(0:Int) ≤ (i:Int):=by omega
  have q3:((chars.map (mg pairs)).take i).length < 8796093022208:=by rw [List.length_take,List.length_map];omega
  have hx:=rdS chars i hi
  have hz:=hcz _ (List.getElem_mem hi)
  rw [List.drop_eq_getElem_cons hi,List.any_cons]
  generalize chars[i] = c at hs hx hz ⊢
  refine Ev.step (fun k=>by rw [zm.l0,hx,hw]) (yJ q1 (yJ q2 (Ev.bind (o8 c hz) ?_)))
  cases h0:ZN c with
  | true=>exact xW (by decide) (Ev.now _)
  | false=>exact yJ rfl (Ev.bind (zkm c pairs (by omega)) (yJ q3 hs))
theorem zWa (l:List qO) (hl:l.length ≤ 1000000000) (hF:∀ x ∈ l,Yi x) (f s:Int) (lg kn:Bool) (chars:List ByteArray) (hcz:∀ c ∈ chars,c.size ≤ 140737488355328) (pairs:List wB) (hpz:∀ p ∈ pairs,p.f0.size ≤ 140737488355328 ∧ p.f1.size ≤ 140737488355328)
  (hal:∀ all:List ByteArray,(kU (fjoin (j5 l f)) all).length ≤ all.length):Ev (fun k=>zm.f k (l.map kr) f s lg kn chars pairs) (pV l f s lg kn chars pairs):=by
 have hbad:∀ r,r = (([]:List wV),([]:List ByteArray),(1:Int)) → Ev (fun k=>zm.j0 k (l.map kr) chars pairs true f s lg kn) r:=fun r hr=>Ev.step (fun k=>by rw [zm.j0]) (yJ rfl (jo hr.symm (Ev.now _)))
 have hfn:=zaT l hl hF
 refine Ev.congr (fun k=>by rw [zm.f]) (Ev.bind hfn ?_)
 have hany:l.any (fun x=>!jY x) = !l.all jY:=by
  rw [← List.not_all_eq_any_not]
 by_cases hv:l.all jY = true
 ·refine yJ hv ?_
  by_cases hst:0 ≤ f ∧ f < (l.length:Int) ∧ 1 ≤ s ∧ s ≤ 1000
  ·obtain ⟨g0,g1,g2,g3⟩:=hst
   have ZP:vW.f (l.map kr) f s lg kn = some true:=by
    unfold vW.f
    rw [if_pos g0,List.length_map,if_pos g1,if_pos g2,decide_eq_true g3]
   refine J9 ZP (yJ rfl ?_)
   by_cases hc:(chars.length:Int) > 2000
   ·refine yJ hc (hbad _ ?_)
    unfold pV
    rw [if_pos (by unfold ZW;rw [decide_eq_true (by omega:2000 < chars.length)];simp)]
   ·refine xW hc ?_
    by_cases hp:(pairs.length:Int) > 100
    ·rw [decide_eq_true hp]
     refine hbad _ ?_
     unfold pV
     rw [if_pos (by unfold ZW;rw [decide_eq_true (by omega:100 < pairs.length)];simp)]
    ·rw [decide_eq_false hp]
     obtain ⟨a,rfl⟩:∃ a:Nat,f = (a:Int):=⟨f.toNat,by omega⟩
     have h1:=zWY l hl hF a (by omega) s lg kn pairs (by omega) hpz (chars.map (mg pairs)) (by rw [List.length_map];omega) (hal _) pairs.length 0 (by omega)
     have h0:=zWW l (a:Int) s lg kn pairs (by omega) chars (by omega) hcz _ h1 chars.length 0 (by omega)
     refine Ev.step (fun k=>by rw [zm.j0]) (xW Bool.false_ne_true ?_)
     refine jo ?_ h0
     have hrf:ZW l (a:Int) s chars pairs = (chars.any ZN || pairs.any PU):=by
      unfold ZW
      rw [hany,hv,decide_eq_false (by omega:¬ (a:Int) < 0),decide_eq_false (by omega:¬ (l.length:Int) ≤ (a:Int)),decide_eq_false (by omega:¬ s < 1),decide_eq_false (by omega:¬ 1000 < s),decide_eq_false (by omega:¬ 2000 < chars.length),decide_eq_false (by omega:¬ 100 < pairs.length)]
      rfl
     unfold pV
     rw [hrf,List.drop_zero,List.drop_zero]
     unfold YI
     cases chars.any ZN with
     | true=>rfl
     | false=>rfl
  ·have ZP:vW.f (l.map kr) f s lg kn = some false:=by
    unfold vW.f
    rw [List.length_map]
    by_cases g0:f ≥ 0
    ·rw [if_pos g0]
     by_cases g1:f < (l.length:Int)
     ·rw [if_pos g1]
      by_cases g2:s ≥ 1
      ·rw [if_pos g2,decide_eq_false (fun g3=>hst ⟨g0,g1,g2,g3⟩)]
      ·rw [if_neg g2]
     ·rw [if_neg g1]
    ·rw [if_neg g0]
   refine J9 ZP (xW Bool.false_ne_true (hbad _ ?_))
   unfold pV
   rw [if_pos ?_]
   unfold ZW
   have:(decide (f < 0) || decide ((l.length:Int) ≤ f) || decide (s < 1) || decide (1000 < s)) = true:=by
    simp only [Bool.or_eq_true,decide_eq_true_eq]
    omega
   rw [this];simp
 ·refine xW hv (hbad _ ?_)
  unfold pV
  rw [if_pos ?_]
  unfold ZW
  rw [hany]
  simp only [Bool.not_eq_true] at hv
  rw [hv];rfl
end Go.Proofs.YtggifbbiiickmaaGreatDoor
namespace Go.Proofs.YtggifbbiiickmaaGreatDoor
open Go.RowKit Go.Proofs.zk.zA
set_option linter.unusedSimpArgs false
set_option linter.unusedVariables false
def Yv {α:Type} (p:α → Bool):List α → Nat → Int
 | [],_=>-1
 | x :: r,i=>if p x then (i:Int) else Yv p r (i + 1)
theorem mG {α:Type} (p:α → Bool) (x:α) (r:List α) (i:Nat):Yv p (x :: r) i = if p x then (i:Int) else Yv p r (i + 1):=rfl
theorem lM {α:Type} (p:α → Bool):∀ (l:List α) (i:Nat),decide (0 ≤ Yv p l i) = l.any p
 | [],_=>rfl
 | x :: r,i=>by
  unfold Yv
  rw [List.any_cons]
  by_cases h:p x = true
  ·rw [if_pos h,h,Bool.true_or];exact decide_eq_true (by omega)
  ·rw [if_neg h,lM p r]
   simp only [Bool.not_eq_true] at h
   rw [h,Bool.false_or]
end Go.Proofs.YtggifbbiiickmaaGreatDoor
namespace Go.Proofs.YtggifbbiiickmaaGreatDoor
open Go.RowKit Go.Proofs.zk.zA Go.Proofs.zk.yB Go.Proofs.zk.yA Go.Proofs.YtggifbbiiickmaaGreatDoor.PX
set_option linter.unusedSimpArgs false
set_option linter.unusedVariables false
set_option maxRecDepth 100000 in
set_option maxHeartbeats 4000000 in
theorem zy0 (A0:Option Addr) (c0:Nat) (l:List Zg) (w:World) (hr:Kd.C Ye w A0 l.length l) (hl:l.length ≤ 1000000000) (p:Zg → Bool) (g:Nat) (lb:Array Value) (eg:∀ args w,(callFunc g args).run Tryz.prog w = .ok (.enter g args) w)
  (hp:∀ (W:World) (x:Zg) (A3:Option Addr) (c3:Nat) (A4:Option Addr) (c4:Nat) (A5:Option Addr) (c5:Nat),x ∈ l → Below w.heap.size w W → Kd.C jh W A3 x.f3.length x.f3 → x.f3.length ≤ c3 → Kd.C wO W A4 x.f4.length x.f4 → x.f4.length ≤ c4 → Kd.C pz W A5 x.f5.length x.f5 → x.f5.length ≤ c5 → Calls Tryz.prog g (#[.agg #[.string x.f0,.bool x.f1,.int .i64 x.f2,.slice A3 x.f3.length c3,.slice A4 x.f4.length c4,.slice A5 x.f5.length c5]] ++ lb) W fun e w'=>e = .returned (.bool (p x)) ∧ Below w.heap.size w w') :
  Calls Tryz.prog 83 #[.slice A0 l.length c0,.func (.func g) #[] lb] w fun e w'=>e = .returned (.int .i64 (Yv p l 0)) ∧ Below w.heap.size w w':=by
 have H:=zx.mk hr
 have HP:=zx.mk hp
 clear hr hp
 generalize hR:Yv p l 0 = R
 have HR:=zx.mk hR
 clear hR
 go_enter Tryz.func83,Tryz.ntmps83
 go_wp2
 go_loopw [8] (fun i W=>∃ k:Nat,k ≤ l.length ∧ i = .int .i64 (k:Int) ∧ zx (Yv p l 0 = Yv p (l.drop k) k) ∧ zx (Below w.heap.size w W)) (fun i _=>l.length - (intOf i).toNat)
 case atStart=>exact ⟨0,Nat.zero_le _,rfl,⟨by rw [List.drop_zero]⟩,⟨Below.refl _ _⟩⟩
 case round =>
  obtain ⟨k,hk,rfl,HI,HB⟩:=hrel
  by_cases hlt:k < l.length
  ·obtain ⟨ad,A3,c3,A4,c4,A5,c5,e,x0,x1,x2,x3,x4,x5,g3,q3,g4,q4,g5,q5⟩:=wP (Kd.zu H.out HB.out) (k:Int) (by omega) (by omega)
   cases e
   have e:zY l (k:Int) = l[k]:=by simp [zY,List.getD_eq_getElem?_getD,hlt]
   rw [Int.toNat_natCast] at x0 x1 x2 x3 x4 x5
   rw [e] at x0 x1 x2 x3 x4 x5 g3 q3 g4 q4 g5 q5
   clear e
   have hi:=HI.out
   rw [List.drop_eq_getElem_cons hlt,mG] at hi
   have hm:l[k] ∈ l:=List.getElem_mem hlt
   generalize l[k] = x at x0 x1 x2 x3 x4 x5 g3 q3 g4 q4 g5 q5 hi hm
   have hcall:=HP.out wr x A3 c3 A4 c4 A5 c5 hm HB.out q3 g3 q4 g4 q5 g5
   clear hm q3 g3 q4 g4 q5 g5
   cases hq:p x with
   | true =>
    rw [hq] at hcall
    rw [if_pos hq] at hi
    have HI2:=zx.mk (HR.out.symm.trans hi)
    clear hi hq HI
    go_wp2_with fail
    refine hcall.mono ?_;rintro e w' ⟨rfl,hb'⟩
    go_wp2_with fail
    go_ret
    exact ⟨by rw [HI2.out];rfl,hb'⟩
   | false =>
    rw [hq] at hcall
    rw [if_neg (by rw [hq];exact Bool.false_ne_true)] at hi
    have HI2:=zx.mk hi
    clear hi hq HI
    go_wp2_with fail
    refine hcall.mono ?_;rintro e w' ⟨rfl,hb'⟩
    go_wp2_with fail
    go_roundw
    case rel=>exact ⟨k + 1,by omega,by first | rfl | go_num,HI2,⟨hb'⟩⟩
    case measure=>simp [intOf];omega
  ·obtain rfl:k = l.length:=by omega
   have hi:=HI.out
   rw [List.drop_eq_nil_of_le (Nat.le_refl _)] at hi
   have HI2:=zx.mk (HR.out.symm.trans hi)
   clear hi HI
   go_wp2
   go_ret
   exact ⟨by rw [HI2.out];rfl,HB.out⟩
set_option maxRecDepth 100000 in
theorem zbc (A0:Option Addr) (c0:Nat) (l:List Zg) (w:World) (hr:Kd.C Ye w A0 l.length l) (hl:l.length ≤ 1000000000) (p:Zg → Bool) (g:Nat) (lb:Array Value) (eg:∀ args w,(callFunc g args).run Tryz.prog w = .ok (.enter g args) w)
  (hp:∀ (W:World) (x:Zg) (A3:Option Addr) (c3:Nat) (A4:Option Addr) (c4:Nat) (A5:Option Addr) (c5:Nat),x ∈ l → Below w.heap.size w W → Kd.C jh W A3 x.f3.length x.f3 → x.f3.length ≤ c3 → Kd.C wO W A4 x.f4.length x.f4 → x.f4.length ≤ c4 → Kd.C pz W A5 x.f5.length x.f5 → x.f5.length ≤ c5 → Calls Tryz.prog g (#[.agg #[.string x.f0,.bool x.f1,.int .i64 x.f2,.slice A3 x.f3.length c3,.slice A4 x.f4.length c4,.slice A5 x.f5.length c5]] ++ lb) W fun e w'=>e = .returned (.bool (p x)) ∧ Below w.heap.size w w') :
  Calls Tryz.prog 37 #[.slice A0 l.length c0,.func (.func g) #[] lb] w fun e w'=>e = .returned (.bool (l.any p)) ∧ Below w.heap.size w w':=by
 have h:=zy0 A0 c0 l w hr hl p g lb eg hp
 have e:=lM p l 0
 generalize Yv p l 0 = i at h e
 generalize l.any p = b at e ⊢
 subst e
 clear hp hr
 go_enter Tryz.func37,Tryz.ntmps37
 go_wp2_with (go_at_call 83;refine h.mono ?_;rintro e w1 ⟨rfl,hb⟩)
 go_ret
 exact ⟨rfl,hb⟩
end Go.Proofs.YtggifbbiiickmaaGreatDoor
namespace Go.Proofs.YtggifbbiiickmaaGreatDoor
open Go.RowKit Go.Proofs.zk.zA Go.Proofs.zk.yB Go.Proofs.zk.yA
set_option linter.unusedSimpArgs false
set_option linter.unusedVariables false
namespace RW
section
variable {P:Program} {ops:Array Oper} {Q:Exit → Act → World → Prop} {md:Region.Mode} {S:World → Prop} {ds:List Nat} {T:Bool × List (List Nat × List Nat)} {oi:Oper} {v:Value} {fuel:Nat} {l:Array Bool} {a a':Act} {w:World}
theorem rP (i:Nat) (N:Option Tmp) (HT:zx (vR md ops = T)) (h:qx P md ops Q S ds fuel (l.setIfInBounds i true) a' w)
  (hi:ops[i]? = some oi:=by exact rfl) (hN:oi.dst = N:=by exact rfl) (hc:zqf T l.toList (l.setIfInBounds i true).toList i = true:=by kernel_rfl) (hQ:∀ c a w,Q (.panic c) (a.put oi.dst v) w → Q (.panic c) a w:=by exact fun _ _ _ h=>h)
  (hg:Region.wanted oi (yielded ops a.tmps) = true:=by rfl) (hy:∀ w,(execOp a.eval oi).run P w = .ok (.value v) w:=by intro w';go_simp;with_reducible rfl) (ha:a.put N v = a':=by simp only [Act.put,List.setIfInBounds_toArray,List.set_cons_zero,List.set_cons_succ,uF,jZ];rfl) :
  qx P md ops Q S ds (fuel + 1) l a w:=ug _ hi hN (vE HT.out hc) hQ (Or.inl ⟨hg,hy⟩) ha h
theorem rU (i:Nat) (N:Option Tmp) (HT:zx (vR md ops = T)) (h:qx P md ops Q S ds fuel (l.setIfInBounds i true) a' w)
  (hi:ops[i]? = some oi:=by exact rfl) (hN:oi.dst = N:=by exact rfl) (hc:zqf T l.toList (l.setIfInBounds i true).toList i = true:=by kernel_rfl) (hQ:∀ c a w,Q (.panic c) (a.put oi.dst undef) w → Q (.panic c) a w:=by exact fun _ _ _ h=>h)
  (hg:Region.wanted oi (yielded ops a.tmps) = false:=by rfl) (ha:a.put N undef = a':=by simp only [Act.put,List.setIfInBounds_toArray,List.set_cons_zero,List.set_cons_succ,uF,jZ];rfl) :
  qx P md ops Q S ds (fuel + 1) l a w:=ug _ hi hN (vE HT.out hc) hQ (Or.inr ⟨hg,rfl⟩) ha h
theorem rT {B:List Nat} (i:Nat) (N:Option Tmp) (HT:zx (vR md ops = T)) (HW:zx (uV T.2 B = true)) (hS:S w) (h:qx P md ops Q S ds fuel (l.setIfInBounds i true) a' w)
  (hi:ops[i]? = some oi:=by exact rfl) (hN:oi.dst = N:=by exact rfl) (hc:zxf T B ds l.toList (l.setIfInBounds i true).toList i = true:=by kernel_rfl) (hQ:∀ c a w,Q (.panic c) (a.put oi.dst v) w → Q (.panic c) a w:=by exact fun _ _ _ h=>h)
  (hg:Region.wanted oi (yielded ops a.tmps) = true:=by rfl) (hy:∀ w,S w → (execOp a.eval oi).run P w = .ok (.value v) w:=by intro w' hs_;go_simp;with_reducible rfl) (ha:a.put N v = a':=by simp only [Act.put,List.setIfInBounds_toArray,List.set_cons_zero,List.set_cons_succ,uF,jZ];rfl) :
  qx P md ops Q S ds (fuel + 1) l a w:=VY _ hi hN (Ve HT.out HW.out hc) hQ (Or.inl ⟨hg,hy⟩) hS ha h
theorem rS {X:World} {B:List Nat} {n id:Nat} (HS:zx (∀ W,Below X.heap.size X W → S W)) (hT:vR .any ops = T) (hB:uV T.2 B = true) (hm:P.follows .mixedOrders = true) (hn:ops.size = n) (hl:Array.replicate n false = l)
  (h:∀ w,zx (Below X.heap.size X w) → zx (vR .any ops = T) → zx (uV T.2 B = true) → S w → qx P .any ops Q S [] n l a w):(Code.region id ops true).wp P Q a X :=
 jy _ hm hn hl (HS.out _ (Below.refl _ _).drew) fun hH=>h _ ⟨(Below.refl _ _).drew⟩ ⟨hT⟩ ⟨hB⟩ hH
theorem rSD {X:World} {B:List Nat} {n id:Nat} (ds:List Nat) (HS:zx (∀ W,Below X.heap.size X W → S W)) (hT:vR .any ops = T) (hB:uV T.2 B = true) (hm:P.follows .mixedOrders = true) (hn:ops.size = n) (hl:Array.replicate n false = l)
  (h:∀ w,zx (Below X.heap.size X w) → zx (vR .any ops = T) → zx (uV T.2 B = true) → S w → qx P .any ops Q S ds n l a w):(Code.region id ops true).wp P Q a X :=
 jy _ hm hn hl (HS.out _ (Below.refl _ _).drew) fun hH=>h _ ⟨(Below.refl _ _).drew⟩ ⟨hT⟩ ⟨hB⟩ hH
theorem rC {X:World} {f:FuncId} {fn:Func} {aps:Array Operand} {ts:Array TypeId} {args:Array Value} (i:Nat) (N:Option Tmp) (HT:zx (vR md ops = T)) (HS:zx (∀ W,Below X.heap.size X W → S W)) (HY:zx (Below X.heap.size X w)) (hf:P.funcs[f]? = some fn)
  (hcall:Calls P f args w fun e w'=>e = .returned v ∧ Below w.heap.size w w') (h:∀ w',zx (Below X.heap.size X w') → S w' → qx P md ops Q S ds fuel (l.setIfInBounds i true) a' w') (hname:(fn.name == "runtime.NumGoroutine") = false)
  (hi:ops[i]? = some oi:=by exact rfl) (hN:oi.dst = N:=by exact rfl) (hc:(Ph T.2 l.toList == [i] && l.toList.set i true == (l.setIfInBounds i true).toList) = true:=by kernel_rfl) (hd:i ∉ ds:=by decide) (hb:fn.body.isSome = true:=by exact rfl) (hw:Region.wanted oi (yielded ops a.tmps) = true:=by rfl)
  (hop:oi.op = .call { callee:=.value (.func f),args:=aps,argTypes:=ts }:=by exact rfl) (hargs:aps.map a.eval = args:=by (try simp only [List.map_toArray,List.map_cons,List.map_nil]);first | done | rfl) (ha:a.put N v = a':=by simp only [Act.put,List.setIfInBounds_toArray,List.set_cons_zero,List.set_cons_succ,uF,jZ];rfl) :
  qx P md ops Q S ds (fuel + 1) l a w:=by
 refine Km _ hi hN (pO HT.out hc) hd fun K hK=>?_
 refine je hf hname hb args hw hN hop hargs (hcall.mono ?_)
 rintro e w' ⟨rfl,hk⟩
 have h2:=HY.out.trans (hk.mono HY.out.size)
 refine ⟨_,rfl,hK.out _ _ (HS.out _ h2) fun hH=>?_⟩
 rw [ha]
 exact h _ ⟨h2⟩ hH
end
end RW
end Go.Proofs.YtggifbbiiickmaaGreatDoor
namespace Go.Proofs.YtggifbbiiickmaaGreatDoor
open Go.RowKit Go.Proofs.zk.zA Go.Proofs.zk.yB Go.Proofs.zk.yA Go.Proofs.YtggifbbiiickmaaGreatDoor.PX
set_option linter.unusedSimpArgs false
set_option linter.unusedVariables false
theorem bZ {x:qO} (h:jY x = true):x.f3.length ≤ 400 ∧ x.f4.length ≤ 50 ∧ x.f5.length ≤ 500:=zYC h
theorem zKr {l:List qO} {i:Int} (h0:0 ≤ i) (h1:i < (l.length:Int)):j5 l i ∈ l:=by
 unfold j5 zY
 rw [List.getD_eq_getElem?_getD,List.getElem?_eq_getElem (by omega),Option.getD_some]
 exact List.getElem_mem _
theorem gH {l:List qO} {i:Int} (hv:∀ x ∈ l,jY x = true) (h0:0 ≤ i) (h1:i < (l.length:Int)):jY (j5 l i) = true:=hv _ (zKr h0 h1)
theorem zkd (n:ByteArray):∀ (l:List qO) (i:Nat),X9 n l i = Yv (fun x=>x.f1 && PO x n) l i
 | [],_=>rfl
 | x :: r,i=>by
  unfold X9
  rw [mG,zkd n r]
theorem zy1 (n:ByteArray):∀ (l:List qO) (i:Nat),X9 n l i = -1 ∨ (0 ≤ X9 n l i ∧ X9 n l i < ((i + l.length:Nat):Int))
 | [],_=>Or.inl rfl
 | x :: r,i=>by
  unfold X9
  by_cases h:(x.f1 && PO x n) = true
  ·rw [if_pos h];right;simp only [List.length_cons];omega
  ·rw [if_neg h]
   rcases zy1 n r (i + 1) with h1 | h1
   ·exact Or.inl h1
   ·right;simp only [List.length_cons];omega
theorem zbd {l:List qO} {f:Int} (n:ByteArray) (h0:0 ≤ f) (h1:f < (l.length:Int)):kR l f n = -1 ∨ (0 ≤ kR l f n ∧ kR l f n < (l.length:Int)):=by
 unfold kR
 split
 ·exact Or.inr ⟨h0,h1⟩
 ·have:=zy1 n l 0
  simpa using this
set_option maxRecDepth 100000 in
set_option maxHeartbeats 4000000 in
theorem zbe (B:Nat) (n:ByteArray) (x:qO) (A3:Option Addr) (c3:Nat) (A4:Option Addr) (c4:Nat) (A5:Option Addr) (c5:Nat) (W:World) (hG:GW W) (hx:jY x = true) (hB:W.cell? ⟨B,0,none⟩ = some (.string n))
  (q3:Kd.C jh W A3 x.f3.length x.f3) (g3:x.f3.length ≤ c3) (q4:Kd.C wO W A4 x.f4.length x.f4) (g4:x.f4.length ≤ c4) (q5:Kd.C pz W A5 x.f5.length x.f5) (g5:x.f5.length ≤ c5) :
  Calls Tryz.prog 136 #[.agg #[.string x.f0,.bool x.f1,.int .i64 x.f2,.slice A3 x.f3.length c3,.slice A4 x.f4.length c4,.slice A5 x.f5.length c5],.pointer (some ⟨B,0,none⟩)] W fun e w'=>e = .returned (.bool (x.f1 && PO x n)) ∧ Below W.heap.size W w':=by
 have hl:=World.block_lt_of_cell? W _ hB
 have hb0:Below W.heap.size W (W.alloc (.cells #[.string x.f0,.bool x.f1,.int .i64 x.f2,.slice A3 x.f3.length c3,.slice A4 x.f4.length c4,.slice A5 x.f5.length c5] 60)):=(Below.refl _ W).alloc (Nat.le_refl _) _
 have hc:(W.alloc (.cells #[.string x.f0,.bool x.f1,.int .i64 x.f2,.slice A3 x.f3.length c3,.slice A4 x.f4.length c4,.slice A5 x.f5.length c5] 60)).cell? ⟨B,0,none⟩ = some (.string n):=(World.cell?_alloc_lt _ _ _ hl).trans hB
 have hz:=bZ hx
 have hh:=Vl.calls x.f0 x.f1 x.f2 A3 c3 x.f3 A4 c4 x.f4 A5 c5 x.f5 n (Yj x.f3 n) _ (Kd.zu q3 hb0) g3 (Kd.zu q4 hb0) g4 (Kd.zu q5 hb0) g5 (hG.under hb0) (by unfold Vl.f;rw [if_pos (by omega)])
 unfold PO
 generalize Yj x.f3 n = b at hh ⊢
 cases hs:x.f1 with
 | false =>
  rw [hs] at hc hb0
  clear hh hz hx q3 q4 q5
  go_enter Tryz.func136,Tryz.ntmps136
  go_wp2
  go_ret
  exact ⟨rfl,hb0⟩
 | true =>
  rw [hs] at hc hb0 hh
  clear hz hx q3 q4 q5
  go_enter Tryz.func136,Tryz.ntmps136
  go_wp2_with (go_at_call 135;refine hh.mono ?_;rintro e w2 ⟨rfl,hb2⟩)
  go_ret
  exact ⟨by cases b <;> rfl,hb0.trans (hb2.mono hb0.size)⟩
def home.T1:Bool × List (List Nat × List Nat):=(true,[([],[]),([0],[0]),([1],[1]),([2],[2]),([],[]),([4],[4]),([5],[5]),([6],[6]),([7],[7]),([3,8],[3,8]),([9],[9]),([],[]),([10,11],[10,11])])
def home.B1:List Nat:=[0,1,3,7,0,16,48,112,240,511,1023,0,4095]
theorem home.zhm:vR .any (opsOf Tryz.f105 1) = home.T1:=by kernel_rfl
theorem home.zcA:uV home.T1.2 home.B1 = true:=by kernel_rfl
set_option maxRecDepth 100000 in
set_option maxHeartbeats 8000000 in
theorem zy2 (w0:World) (g:Nat) (Af:Option Addr) (cf:Nat) (l:List qO) (f s:Int) (qZ yt:Bool) (vo vl:Value) (n:ByteArray) (w:World) (hG:GW w0) (hC:Kd.C Ye w0 Af l.length l) (hl:l.length ≤ 1000000000) (hf0:0 ≤ f) (hf1:f < (l.length:Int)) (hv:∀ x ∈ l,jY x = true) (hw:Below w0.heap.size w0 w)
  (hS:w.heap[g]? = some (.cells #[.slice Af l.length cf,.int .i64 f,.int .i64 s,.bool qZ,.bool yt,vo,vl] 90 (0,0))) :
  Calls Tryz.prog 105 #[.pointer (some ⟨g,0,none⟩),.string n] w fun e w'=>e = .returned (.int .i64 (kR l f n)) ∧ Below w.heap.size w w':=by
 obtain ⟨w1,hw1⟩:∃ w1,w.alloc (.cells #[.string n] 9) = w1:=⟨_,rfl⟩
 have hb1:Below w.heap.size w w1:=by rw [← hw1];exact (Below.refl _ w).alloc (Nat.le_refl _) _
 have hS1:=zU hS hb1
 have hN:w1.cell? ⟨w.heap.size,0,none⟩ = some (.string n):=by rw [← hw1];simp
 have hwb:Below w0.heap.size w0 w1:=hw.trans (hb1.mono hw.size)
 have hC1:=Kd.zu hC hwb
 have hG1:GW w1:=hG.under hwb
 obtain ⟨ad,A3,c3,A4,c4,A5,c5,e,x0,x1,x2,x3,x4,x5,g3,q3,g4,q4,g5,q5⟩:=wP hC1 f hf0 (by omega)
 subst e
 have hx:=gH hv hf0 hf1
 have hz:=bZ hx
 have hhome:kR l f n = if Yj (j5 l f).f3 n then f else Yv (fun x=>x.f1 && PO x n) l 0:=by unfold kR;rw [zkd];rfl
 have e:zY l f = j5 l f:=rfl
 rw [e] at x0 x1 x2 x3 x4 x5 g3 q3 g4 q4 g5 q5
 clear e
 generalize j5 l f = x at x0 x1 x2 x3 x4 x5 g3 q3 g4 q4 g5 q5 hx hz hhome
 have hh:∀ W,Below w1.heap.size w1 W → Calls Tryz.prog 135 #[.agg #[.string x.f0,.bool x.f1,.int .i64 x.f2,.slice A3 x.f3.length c3,.slice A4 x.f4.length c4,.slice A5 x.f5.length c5],.string n] W fun e w'=>e = .returned (.bool (Yj x.f3 n)) ∧ Below W.heap.size W w':=fun W hb =>
  Vl.calls x.f0 x.f1 x.f2 A3 c3 x.f3 A4 c4 x.f4 A5 c5 x.f5 n (Yj x.f3 n) _ (Kd.zu q3 hb) g3 (Kd.zu q4 hb) g4 (Kd.zu q5 hb) g5 (hG1.under hb) (by unfold Vl.f;rw [if_pos (by omega)])
 have HH:=zx.mk hh
 have hi:∀ W,Below w1.heap.size w1 W → Calls Tryz.prog 83 #[.slice (some ad) l.length cf,.func (.func 136) #[] #[.pointer (some ⟨w.heap.size,0,none⟩)]] W fun e w'=>e = .returned (.int .i64 (Yv (fun x=>x.f1 && PO x n) l 0)) ∧ Below W.heap.size W w':=fun W hb =>
  (zy0 (some ad) cf l W (Kd.zu hC1 hb) hl (fun x=>x.f1 && PO x n) 136 #[.pointer (some ⟨w.heap.size,0,none⟩)] (Xi Tryz.func136 (by kernel_rfl) rfl)
   (fun V y A3 c3 A4 c4 A5 c5 hm hV p3 g3 p4 g4 p5 g5=>by
    have hb2:=hb.trans (hV.mono hb.size)
    have hlt:=World.block_lt_of_cell? w1 _ hN
    exact (zbe w.heap.size n y A3 c3 A4 c4 A5 c5 V (hG1.under hb2) (hv y hm) ((hb2.cell (p:=⟨w.heap.size,0,none⟩) hlt).trans hN) p3 g3 p4 g4 p5 g5).mono fun e w' ⟨h1,h2⟩=>⟨h1,hV.trans (h2.mono hV.size)⟩))
 have HI:=zx.mk hi
 have hs0:w1.cell? ⟨g,0,none⟩ = some (.slice (some ad) l.length cf):=(zQ hS1 0).trans rfl
 have hs1:w1.cell? ⟨g,1,none⟩ = some (.int .i64 f):=(zQ hS1 1).trans rfl
 have HS:=zx.mk (fun (W:World) (h:Below w1.heap.size w1 W)=>(show W.cell? ⟨g,0,none⟩ = some (.slice (some ad) l.length cf) ∧ W.cell? ⟨g,1,none⟩ = some (.int .i64 f) ∧ W.cell? ⟨w.heap.size,0,none⟩ = some (.string n) ∧ W.cell? (ad.add (f.toNat * 6)) = some (.string x.f0) ∧ W.cell? ⟨(ad.add (f.toNat * 6)).block,(ad.add (f.toNat * 6)).off + 1,none⟩ = some (.bool x.f1) ∧ W.cell? ⟨(ad.add (f.toNat * 6)).block,(ad.add (f.toNat * 6)).off + 2,none⟩ = some (.int .i64 x.f2) ∧ W.cell? ⟨(ad.add (f.toNat * 6)).block,(ad.add (f.toNat * 6)).off + 3,none⟩ = some (.slice A3 x.f3.length c3) ∧ W.cell? ⟨(ad.add (f.toNat * 6)).block,(ad.add (f.toNat * 6)).off + 4,none⟩ = some (.slice A4 x.f4.length c4) ∧ W.cell? ⟨(ad.add (f.toNat * 6)).block,(ad.add (f.toNat * 6)).off + 5,none⟩ = some (.slice A5 x.f5.length c5) from
  ⟨(h.cell (World.block_lt_of_cell? w1 _ hs0)).trans hs0,(h.cell (World.block_lt_of_cell? w1 _ hs1)).trans hs1,(h.cell (World.block_lt_of_cell? w1 _ hN)).trans hN,(h.cell (World.block_lt_of_cell? w1 _ x0)).trans x0,(h.cell (World.block_lt_of_cell? w1 _ x1)).trans x1,(h.cell (World.block_lt_of_cell? w1 _ x2)).trans x2,(h.cell (World.block_lt_of_cell? w1 _ x3)).trans x3,(h.cell (World.block_lt_of_cell? w1 _ x4)).trans x4,(h.cell (World.block_lt_of_cell? w1 _ x5)).trans x5⟩))
 generalize hR:kR l f n = R at hhome
 have HR:=zx.mk hhome
 have HB1:=zx.mk hb1
 clear hhome hh hi hS hS1 hN hC hC1 hG hG1 hw hwb hs0 hs1 x0 x1 x2 x3 x4 x5 q3 q4 q5 hv hx hR hz hb1
 go_enter Tryz.func105,Tryz.ntmps105
 go_wp2_with fail
 clear hw1
 cases hb:Yj x.f3 n with
 | true =>
  rw [hb,if_pos rfl] at HR
  rw [hb] at HH
  refine RW.rS (n:=13) HS home.zhm home.zcA (by kernel_rfl) rfl rfl (fun w2 H0 T U h=>?_)
  refine RW.rP 0 (some 5) T ?_
  refine RW.rP 1 (some 6) T ?_
  refine RW.rP 2 (some 7) T ?_
  refine RW.rT 3 (some 8) T U h ?_
  refine RW.rP 4 (some 9) T ?_
  refine RW.rP 5 (some 10) T ?_
  refine RW.rP 6 (some 11) T ?_
  refine RW.rP 7 (some 12) T ?_
  refine RW.rT 8 (some 13) T U h ?_
  refine RW.rP 9 (some 14) T ?_
  refine RW.rT 10 (some 15) T U h ?_
  refine RW.rT 11 (some 16) T U h ?_
  clear h
  refine RW.rC 12 (some 17) T HS H0 Tryz.func135 (HH.out _ H0.out) (fun w3 H3 h=>?_) (by kernel_rfl)
  refine xP (qH T.out (by kernel_rfl)) ?_
  obtain ⟨h1,h2,h3,h4⟩:=h
  go_wp2_with fail
  go_ret
  exact ⟨by rw [HR.out];rfl,HB1.out.trans (H3.out.mono HB1.out.size)⟩
 | false =>
  rw [hb,if_neg Bool.false_ne_true] at HR
  rw [hb] at HH
  refine RW.rS (n:=13) HS home.zhm home.zcA (by kernel_rfl) rfl rfl (fun w2 H0 T U h=>?_)
  refine RW.rP 0 (some 5) T ?_
  refine RW.rP 1 (some 6) T ?_
  refine RW.rP 2 (some 7) T ?_
  refine RW.rT 3 (some 8) T U h ?_
  refine RW.rP 4 (some 9) T ?_
  refine RW.rP 5 (some 10) T ?_
  refine RW.rP 6 (some 11) T ?_
  refine RW.rP 7 (some 12) T ?_
  refine RW.rT 8 (some 13) T U h ?_
  refine RW.rP 9 (some 14) T ?_
  refine RW.rT 10 (some 15) T U h ?_
  refine RW.rT 11 (some 16) T U h ?_
  clear h
  refine RW.rC 12 (some 17) T HS H0 Tryz.func135 (HH.out _ H0.out) (fun w3 H3 h=>?_) (by kernel_rfl)
  refine xP (qH T.out (by kernel_rfl)) ?_
  obtain ⟨h1,h2,h3,h4⟩:=h
  clear h2 h4
  go_wp2_with fail
  refine (HI.out _ H3.out).mono ?_;rintro e w4 ⟨rfl,hb4⟩
  go_wp2_with fail
  go_ret
  exact ⟨by rw [HR.out];rfl,HB1.out.trans ((H3.out.trans (hb4.mono H3.out.size)).mono HB1.out.size)⟩
end Go.Proofs.YtggifbbiiickmaaGreatDoor
namespace Go.Proofs.YtggifbbiiickmaaGreatDoor
open Go.RowKit Go.Proofs.zk.zA Go.Proofs.zk.yB Go.Proofs.zk.yA Go.Proofs.YtggifbbiiickmaaGreatDoor.PX
set_option linter.unusedSimpArgs false
set_option linter.unusedVariables false
def jN (base B:Nat) (w w':World):Prop:=Below 0 w w' ∧ (∀ (k:Nat) (o:Obj),w.heap[k]? = some o → o.isCells = false → w'.heap[k]? = some o) ∧ ∀ k:Nat,k < base → k ≠ B → w'.heap[k]? = w.heap[k]?
theorem jN.refl (base B:Nat) (w:World):jN base B w w:=⟨Below.refl _ _,fun _ _ h _=>h,fun _ _ _=>rfl⟩
theorem jN.trans {base B:Nat} {a b c:World} (h:jN base B a b) (k:jN base B b c):jN base B a c :=
 ⟨h.1.trans k.1,fun i o hi ho=>k.2.1 i o (h.2.1 i o hi ho) ho,fun i hi hb=>(k.2.2 i hi hb).trans (h.2.2 i hi hb)⟩
theorem jN.below {base B:Nat} {a b:World} (h:Below a.heap.size a b) (hb:base ≤ a.heap.size):jN base B a b :=
 ⟨h.mono (Nat.zero_le _),fun k o hk _=>(h.block k (Array.getElem?_eq_some_iff.1 hk).1).trans hk,fun k hk _=>h.block k (by omega)⟩
theorem jN.set {base B:Nat} {w:World} {cs:Array Value} {t:TypeId} {z:Nat × Nat} (h:w.heap[B]? = some (.cells cs t z)) (j:Nat) (u:Value):jN base B w (w.setCell ⟨B,j,none⟩ u):=by
 refine ⟨(Below.refl _ _).setCell (p:=⟨B,j,none⟩) (Nat.zero_le _) u,fun k o hk ho=>?_,fun k _ hb=>Below.heap_setCell w ⟨B,j,none⟩ u k hb⟩
 by_cases e:k = B
 ·subst e;rw [h] at hk;cases hk;cases ho
 ·rw [Below.heap_setCell w ⟨B,j,none⟩ u k e];exact hk
theorem jN.grown {base B:Nat} {a b:World} {v:Value} {e:TypeId} {size n:Nat} {xs:List Value} (ho:a.ownsRow base e size v n xs) (h:a.grownBy b v.ownBlock) (hb:base ≤ a.heap.size):jN base B a b:=by
 refine ⟨⟨h.os,h.tape,h.output,h.size,fun k hk=>absurd hk (Nat.not_lt_zero _)⟩,fun k o hk hc=>?_,fun k hk _=>h.block k (by omega) (fun e=>?_)⟩
 ·have hlt:=(Array.getElem?_eq_some_iff.1 hk).1
  rw [h.block k hlt (fun e=>?_)]
  ·exact hk
  ·obtain ⟨cells,hcc⟩:=Pg ho k e.symm
   rw [hcc] at hk;cases hk;cases hc
 ·have:=Ki ho k e.symm
  omega
theorem zqc {base B n₀:Nat} {W W':World} (h:jN base B W W') (hn:n₀ ≤ B) (hn2:n₀ ≤ base):Below n₀ W W':=⟨h.1.os,h.1.tape,h.1.output,h.1.size,fun k hk=>h.2.2 k (by omega) (by omega)⟩
theorem zfc {W W':World} {row:Option Nat} {k:Nat} {cs:Array Value} {t:TypeId} (h:W.heap[k]? = some (.cells cs t (0,0))) (hg:W.grownBy W' row) (hr:∀ r,row = some r → ∃ o:Obj,W.heap[r]? = some o ∧ o.isCells = false):W'.heap[k]? = some (.cells cs t (0,0)) :=
 uO h hg (fun e=>by obtain ⟨o,ho,hn⟩:=hr k e.symm;rw [h] at ho;cases ho;cases hn)
theorem zXj {α:Type} {d:Kd α} {e base:Nat} {W W':World} {row:Option Nat} {v:Value} {xs:List α} (h:d.R e W base (fun _=>True) v xs) (hg:W.grownBy W' row) (hr:∀ r,row = some r → ∃ o:Obj,W.heap[r]? = some o ∧ o.isCells = false):d.R e W' base (fun _=>True) v xs :=
 Kd.uW (Kd.zzg (Kd.Z4 h) hg (fun k hk e=>by
  obtain ⟨_,_,_,q,hq,cells,hc⟩:=hk
  obtain ⟨o,ho,hn⟩:=hr k e.symm
  rw [hc] at ho;cases ho;cases hn)) (fun _ _=>trivial)
end Go.Proofs.YtggifbbiiickmaaGreatDoor
namespace Go.Proofs.YtggifbbiiickmaaGreatDoor
open Go.RowKit Go.Proofs.zk.zA Go.Proofs.zk.yB Go.Proofs.zk.yA Go.Proofs.YtggifbbiiickmaaGreatDoor.PX
set_option linter.unusedSimpArgs false
set_option linter.unusedVariables false
set_option maxRecDepth 100000 in
set_option maxHeartbeats 4000000 in
theorem zww (a:ByteArray) (b:Bool) (c:Int) (A3:Option Addr) (c3:Nat) (l3:List qo) (A4:Option Addr) (c4:Nat) (l4:List xY) (A5:Option Addr) (c5:Nat) (l5:List vk) (na nb:ByteArray) (s:Int) (w:World) (hG:GW w) (h3:Kd.C jh w A3 l3.length l3) (g3:l3.length ≤ c3) (h4:Kd.C wO w A4 l4.length l4) (g4:l4.length ≤ c4) (h5:Kd.C pz w A5 l5.length l5) (g5:l5.length ≤ c5) (z3:l3.length ≤ 1000000000) (z4:l4.length ≤ 1000000000) (z5:l5.length ≤ 1000000000) :
  Calls Tryz.prog 21 #[.agg #[.string a,.bool b,.int .i64 c,.slice A3 l3.length c3,.slice A4 l4.length c4,.slice A5 l5.length c5],.string na,.string nb,.int .i64 s] w fun e w'=>e = .returned (.tuple #[.int .i64 (lq (vL a c l3 l4 l5) l5 na nb s).1,.int .i64 (lq (vL a c l3 l4 l5) l5 na nb s).2]) ∧ Below w.heap.size w w':=by
 have hb0:Below w.heap.size w (w.alloc (.cells #[.string a,.bool b,.int .i64 c,.slice A3 l3.length c3,.slice A4 l4.length c4,.slice A5 l5.length c5] 60)):=(Below.refl _ w).alloc (Nat.le_refl _) _
 have hbf:=kF w (.cells #[.string a,.bool b,.int .i64 c,.slice A3 l3.length c3,.slice A4 l4.length c4,.slice A5 l5.length c5] 60)
 have hfair:=ZU.calls a b c A3 c3 l3 A4 c4 l4 A5 c5 l5 s (Qb s (vL a c l3 l4 l5)) (w.alloc (.cells #[.string a,.bool b,.int .i64 c,.slice A3 l3.length c3,.slice A4 l4.length c4,.slice A5 l5.length c5] 60)) (Kd.zu h3 hb0) g3 (Kd.zu h4 hb0) g4 (Kd.zu h5 hb0) g5 (hG.under hb0) (zYF a b c l3 l4 l5 s z3 z4 z5)
 have hval:lq (vL a c l3 l4 l5) l5 na nb s = (if Qb s (vL a c l3 l4 l5) = true then ((match l5.find? (fun x=>decide (x.f0 = na) && decide (x.f1 = nb)) with | some x=>flr s x.f2 | none=>0),0) else (0,1)):=rfl
 have hk:Qb s (vL a c l3 l4 l5) = true → (1 ≤ s ∧ s ≤ 1000) ∧ ∀ x ∈ l5,-500 ≤ x.f2 ∧ x.f2 ≤ 500:=fun h=>by
  obtain ⟨p,q,hv⟩:=zk5 h
  exact ⟨⟨p,q⟩,(zxA hv).2⟩
 generalize lq (vL a c l3 l4 l5) l5 na nb s = R at hval ⊢
 cases nL:Qb s (vL a c l3 l4 l5) with
 | false =>
  rw [nL,if_neg (by simp)] at hval
  rw [nL] at hfair
  subst hval
  clear h3 h4 h5 hk
  go_enter Tryz.func21,Tryz.ntmps21
  go_wp2_with fail
  refine hfair.mono ?_;rintro e w1 ⟨rfl,hb1⟩
  go_wp2
  go_ret2
  exact ⟨rfl,hb0.trans (hb1.mono hb0.size)⟩
 | true =>
 rw [nL,if_pos rfl] at hval
 rw [nL] at hfair
 obtain ⟨⟨s1,s2⟩,hkn⟩:=hk nL
 have Px:=zx.mk hval
 have HK:=zx.mk hkn
 have H5:=zx.mk h5
 clear h3 h4 h5 hk hval hkn
 go_enter Tryz.func21,Tryz.ntmps21
 go_wp2_with fail
 refine hfair.mono ?_;rintro e w1 ⟨rfl,hb1⟩
 have HB0:=zx.mk (hb0.trans (hb1.mono hb0.size))
 have hc5:w1.cell? ⟨w.heap.size,5,none⟩ = some (.slice A5 l5.length c5):=(zQ (zU hbf hb1) 5).trans rfl
 clear hbf hb1 hfair
 go_wp2_with fail
 clear hc5
 go_loopw [19] (fun y W=>∃ i:Nat,y = .int .i64 (i:Int) ∧ i ≤ l5.length ∧ zx (l5.find? (fun x=>decide (x.f0 = na) && decide (x.f1 = nb)) = (l5.drop i).find? (fun x=>decide (x.f0 = na) && decide (x.f1 = nb))) ∧ zx (Below w.heap.size w W)) (fun y _=>l5.length - (intOf y).toNat)
 case atStart=>exact ⟨0,rfl,Nat.zero_le _,⟨by rw [List.drop_zero]⟩,HB0⟩
 case round =>
  clear HB0
  obtain ⟨i,rfl,hi,HX,HB⟩:=hrel
  by_cases hlt:i < l5.length
  ·obtain ⟨ad,e,x0,x1,x2⟩:=bY (Kd.zu H5.out HB.out) (i:Int) (by omega) (by omega)
   cases e
   have e:xk l5 (i:Int) = l5[i]:=by simp [xk,List.getD_eq_getElem?_getD,hlt]
   rw [Int.toNat_natCast,e] at x0 x1 x2
   clear e
   have hx:=HX.out
   rw [List.drop_eq_getElem_cons hlt,List.find?_cons] at hx
   have hm:l5[i] ∈ l5:=List.getElem_mem hlt
   generalize l5[i] = x at x0 x1 x2 hx hm
   have q1:(i:Int) < (l5.length:Int):=by omega
   have q0:(0:Int) ≤ (i:Int):=by omega
   have q3:((i:Int)).toNat = i:=Int.toNat_natCast i
   have hbX:Below wr.heap.size wr (wr.alloc (.cells #[.string x.f0,.string x.f1,.int .i64 x.f2] 111)):=(Below.refl _ wr).alloc (Nat.le_refl _) _
   have hb2:=HB.out.trans (hbX.mono HB.out.size)
   by_cases t0:x.f0 = na
   case neg =>
    have d0:(x.f0.toList == na.toList) = false:=beq_eq_false_iff_ne.2 (fun e=>t0 (YA.1 e))
    rw [decide_eq_false t0,Bool.false_and] at hx
    have HX2:=zx.mk hx
    clear hx
    clear hm t0
    go_wp2
    go_roundw
    case rel=>exact ⟨i + 1,by first | rfl | (simp;done) | go_num,by omega,HX2,⟨hb2⟩⟩
    case measure=>simp [intOf];omega
   have d0:(x.f0.toList == na.toList) = true:=beq_iff_eq.2 (YA.2 t0)
   by_cases t1:x.f1 = nb
   case neg =>
    have d1:(x.f1.toList == nb.toList) = false:=beq_eq_false_iff_ne.2 (fun e=>t1 (YA.1 e))
    rw [decide_eq_false t1,Bool.and_false] at hx
    have HX2:=zx.mk hx
    clear hx t1
    clear hm t0
    go_wp2
    go_roundw
    case rel=>exact ⟨i + 1,by first | rfl | (simp;done) | go_num,by omega,HX2,⟨hb2⟩⟩
    case measure=>simp [intOf];omega
   case pos =>
    have d1:(x.f1.toList == nb.toList) = true:=beq_iff_eq.2 (YA.2 t1)
    rw [decide_eq_true t0,decide_eq_true t1] at hx
    simp only [Bool.and_true] at hx
    rw [hx] at Px
    have hR:=Px.out
    subst hR
    have hsc:=fun W=>wT.calls x.f2 s (flr s x.f2) W (zYE x.f2 s s1 s2 (by have:=HK.out x hm;omega) (by have:=HK.out x hm;omega))
    clear hx Px hm t0 t1
    go_wp2_with fail
    refine (hsc _).mono ?_;rintro e w3 ⟨rfl,⟨nd,rfl⟩⟩
    go_wp2
    go_ret2
    exact ⟨rfl,zP hb2 nd⟩
  ·obtain rfl:i = l5.length:=by omega
   have q1:decide ((l5.length:Int) < (l5.length:Int)) = false:=decide_eq_false (by omega)
   have hx:=HX.out
   rw [List.drop_eq_nil_of_le (Nat.le_refl _),List.find?_nil] at hx
   rw [hx] at Px
   have hR:=Px.out
   subst hR
   clear hx Px
   go_wp2
   go_ret2
   exact ⟨rfl,HB.out⟩
set_option maxRecDepth 100000 in
set_option maxHeartbeats 4000000 in
theorem zbf (a:ByteArray) (b:Bool) (c:Int) (A3:Option Addr) (c3:Nat) (l3:List qo) (A4:Option Addr) (c4:Nat) (l4:List xY) (A5:Option Addr) (c5:Nat) (l5:List vk) (na nb:ByteArray) (w:World) (hG:GW w) (h3:Kd.C jh w A3 l3.length l3) (g3:l3.length ≤ c3) (h4:Kd.C wO w A4 l4.length l4) (g4:l4.length ≤ c4) (h5:Kd.C pz w A5 l5.length l5) (g5:l5.length ≤ c5) (z3:l3.length ≤ 1000000000) (z4:l4.length ≤ 1000000000) (z5:l5.length ≤ 1000000000) :
  Calls Tryz.prog 45 #[.agg #[.string a,.bool b,.int .i64 c,.slice A3 l3.length c3,.slice A4 l4.length c4,.slice A5 l5.length c5],.string na,.string nb] w fun e w'=>e = .returned (.tuple #[.string (mK (vL a c l3 l4 l5) l4 na nb).1,.bool (mK (vL a c l3 l4 l5) l4 na nb).2]) ∧ Below w.heap.size w w':=by
 have hb0:Below w.heap.size w (w.alloc (.cells #[.string a,.bool b,.int .i64 c,.slice A3 l3.length c3,.slice A4 l4.length c4,.slice A5 l5.length c5] 60)):=(Below.refl _ w).alloc (Nat.le_refl _) _
 have hbf:=kF w (.cells #[.string a,.bool b,.int .i64 c,.slice A3 l3.length c3,.slice A4 l4.length c4,.slice A5 l5.length c5] 60)
 have hvalid:=p9.calls a b c A3 c3 l3 A4 c4 l4 A5 c5 l5 (vL a c l3 l4 l5) (w.alloc (.cells #[.string a,.bool b,.int .i64 c,.slice A3 l3.length c3,.slice A4 l4.length c4,.slice A5 l5.length c5] 60)) (Kd.zu h3 hb0) g3 (Kd.zu h4 hb0) g4 (Kd.zu h5 hb0) g5 (hG.under hb0) (by unfold p9.f;rw [if_pos ⟨z3,z4,z5⟩])
 have hval:mK (vL a c l3 l4 l5) l4 na nb = (if vL a c l3 l4 l5 = true then (match l4.find? (fun x=>decide (x.f0 = na) && decide (x.f1 = nb)) with | some x=>(x.f2,true) | none=>((⟨#[]⟩:ByteArray),false)) else ((⟨#[]⟩:ByteArray),false)):=rfl
 generalize mK (vL a c l3 l4 l5) l4 na nb = R at hval ⊢
 by_cases h0:l4.length = 0
 ·have e:l4 = []:=List.eq_nil_of_length_eq_zero h0
  have hR:R = ((⟨#[]⟩:ByteArray),false):=by rw [hval,e];split <;> rfl
  subst hR
  have d0:((l4.length:Int) == 0) = true:=beq_iff_eq.2 (by omega)
  have d1:decide ((l4.length:Int) = 0) = true:=decide_eq_true (by omega)
  clear h3 h4 h5 hval hvalid e h0
  go_enter Tryz.func45,Tryz.ntmps45
  go_wp2
  go_ret2
  exact ⟨rfl,hb0⟩
 have d0:((l4.length:Int) == 0) = false:=beq_eq_false_iff_ne.2 (by omega)
 have d1:decide ((l4.length:Int) = 0) = false:=decide_eq_false (by omega)
 clear h0
 cases nL:vL a c l3 l4 l5 with
 | false =>
  rw [nL,if_neg (by simp)] at hval
  rw [nL] at hvalid
  subst hval
  clear h3 h4 h5
  go_enter Tryz.func45,Tryz.ntmps45
  go_wp2_with fail
  refine hvalid.mono ?_;rintro e w1 ⟨rfl,hb1⟩
  go_wp2
  go_ret2
  exact ⟨rfl,hb0.trans (hb1.mono hb0.size)⟩
 | true =>
 rw [nL,if_pos rfl] at hval
 rw [nL] at hvalid
 have Px:=zx.mk hval
 have H4:=zx.mk h4
 clear h3 h4 h5 hval
 go_enter Tryz.func45,Tryz.ntmps45
 go_wp2_with fail
 refine hvalid.mono ?_;rintro e w1 ⟨rfl,hb1⟩
 have HB0:=zx.mk (hb0.trans (hb1.mono hb0.size))
 have hc4:w1.cell? ⟨w.heap.size,4,none⟩ = some (.slice A4 l4.length c4):=(zQ (zU hbf hb1) 4).trans rfl
 clear hbf hb1 hvalid
 go_wp2_with fail
 clear hc4 d0 d1
 go_loopw [22] (fun y W=>∃ i:Nat,y = .int .i64 (i:Int) ∧ i ≤ l4.length ∧ zx (l4.find? (fun x=>decide (x.f0 = na) && decide (x.f1 = nb)) = (l4.drop i).find? (fun x=>decide (x.f0 = na) && decide (x.f1 = nb))) ∧ zx (Below w.heap.size w W)) (fun y _=>l4.length - (intOf y).toNat)
 case atStart=>exact ⟨0,rfl,Nat.zero_le _,⟨by rw [List.drop_zero]⟩,HB0⟩
 case round =>
  clear HB0
  obtain ⟨i,rfl,hi,HX,HB⟩:=hrel
  by_cases hlt:i < l4.length
  ·obtain ⟨ad,e,x0,x1,x2⟩:=bK (Kd.zu H4.out HB.out) (i:Int) (by omega) (by omega)
   cases e
   have e:q9 l4 (i:Int) = l4[i]:=by simp [q9,List.getD_eq_getElem?_getD,hlt]
   rw [Int.toNat_natCast,e] at x0 x1 x2
   clear e
   have hx:=HX.out
   rw [List.drop_eq_getElem_cons hlt,List.find?_cons] at hx
   have hm:l4[i] ∈ l4:=List.getElem_mem hlt
   generalize l4[i] = x at x0 x1 x2 hx hm
   have q1:(i:Int) < (l4.length:Int):=by omega
   have q0:(0:Int) ≤ (i:Int):=by omega
   have q3:((i:Int)).toNat = i:=Int.toNat_natCast i
   have hbX:Below wr.heap.size wr (wr.alloc (.cells #[.string x.f0,.string x.f1,.string x.f2] 108)):=(Below.refl _ wr).alloc (Nat.le_refl _) _
   have hb2:=HB.out.trans (hbX.mono HB.out.size)
   by_cases t0:x.f0 = na
   case neg =>
    have d0:(x.f0.toList == na.toList) = false:=beq_eq_false_iff_ne.2 (fun e=>t0 (YA.1 e))
    rw [decide_eq_false t0,Bool.false_and] at hx
    have HX2:=zx.mk hx
    clear hx
    clear hm t0
    go_wp2
    go_roundw
    case rel=>exact ⟨i + 1,by first | rfl | (simp;done) | go_num,by omega,HX2,⟨hb2⟩⟩
    case measure=>simp [intOf];omega
   have d0:(x.f0.toList == na.toList) = true:=beq_iff_eq.2 (YA.2 t0)
   by_cases t1:x.f1 = nb
   case neg =>
    have d1:(x.f1.toList == nb.toList) = false:=beq_eq_false_iff_ne.2 (fun e=>t1 (YA.1 e))
    rw [decide_eq_false t1,Bool.and_false] at hx
    have HX2:=zx.mk hx
    clear hx t1
    clear hm t0
    go_wp2
    go_roundw
    case rel=>exact ⟨i + 1,by first | rfl | (simp;done) | go_num,by omega,HX2,⟨hb2⟩⟩
    case measure=>simp [intOf];omega
   case pos =>
    have d1:(x.f1.toList == nb.toList) = true:=beq_iff_eq.2 (YA.2 t1)
    rw [decide_eq_true t0,decide_eq_true t1] at hx
    simp only [Bool.and_true] at hx
    rw [hx] at Px
    have hR:=Px.out
    subst hR
    clear hx Px hm t0 t1
    go_wp2
    go_ret2
    exact ⟨rfl,hb2⟩
  ·obtain rfl:i = l4.length:=by omega
   have q1:decide ((l4.length:Int) < (l4.length:Int)) = false:=decide_eq_false (by omega)
   have hx:=HX.out
   rw [List.drop_eq_nil_of_le (Nat.le_refl _),List.find?_nil] at hx
   rw [hx] at Px
   have hR:=Px.out
   subst hR
   clear hx Px
   go_wp2
   go_ret2
   exact ⟨rfl,HB.out⟩
end Go.Proofs.YtggifbbiiickmaaGreatDoor
namespace Go.Proofs.YtggifbbiiickmaaGreatDoor
open Go.RowKit Go.Proofs.zk.zA Go.Proofs.zk.yB Go.Proofs.zk.yA Go.Proofs.YtggifbbiiickmaaGreatDoor.PX
set_option linter.unusedSimpArgs false
set_option linter.unusedVariables false
def mH (base g:Nat) (W:World) (Af:Option Addr) (cf:Nat) (l:List qO) (f s:Int) (qZ yt:Bool) (vo vl:Value) (st:List wV × List ByteArray):Prop :=
 W.heap[g]? = some (.cells #[.slice Af l.length cf,.int .i64 f,.int .i64 s,.bool qZ,.bool yt,vo,vl] 90 (0,0)) ∧ Kd.R (Kd.bare X8) 53 W base (fun _=>True) vo st.1 ∧ Kd.R Kd.string 9 W base (fun _=>True) vl st.2
def PW (base g:Nat) (W:World) (Af:Option Addr) (cf:Nat) (l:List qO) (f s:Int) (qZ yt:Bool) (st:List wV × List ByteArray):Prop:=∃ vo vl,mH base g W Af cf l f s qZ yt vo vl st
section
variable {base g:Nat} {W:World} {Af:Option Addr} {cf:Nat} {l:List qO} {f s:Int} {qZ yt:Bool} {vo vl:Value} {st:List wV × List ByteArray}
theorem mH.below {W':World} (h:mH base g W Af cf l f s qZ yt vo vl st) (hb:Below W.heap.size W W'):mH base g W' Af cf l f s qZ yt vo vl st:=⟨zU h.1 hb,Kd.qG h.2.1 hb,Kd.qG h.2.2 hb⟩
theorem zXv {α β:Type} {d:Kd α} {e:TypeId} {dx:Kd β} {ex:TypeId} {W W':World} {v vx:Value} {xs:List α} {ys:List β} (h:d.R e W base (fun _=>True) v xs) (hx:dx.R ex W base (fun _=>True) vx ys) (hg:W.grownBy W' vx.ownBlock) (hE:∀ q,q ∈ e :: d.E → q ≠ ex):d.R e W' base (fun _=>True) v xs:=by
 obtain ⟨inn,hown⟩:=Kd.iI hx
 exact Kd.uW (Kd.zzg (Kd.uW (Kd.Z4 h) (ok':=fun k=>some k ≠ vx.ownBlock) (fun k hk e=>by
  obtain ⟨_,_,_,p,hp,cs,hc⟩:=hk
  obtain ⟨cs',hc'⟩:=Pg hown k e.symm
  rw [hc] at hc'
  injection hc' with hc'
  injection hc' with _ hc'
  exact absurd hc' (hE p hp))) hg (fun k hk=>hk)) (ok':=fun _=>True) (fun _ _=>trivial)
theorem zhn (x:Int) (W:World) (b:Nat) (ok:Nat → Prop):(Kd.bare X8).M W b ok (lV x) [.int .i64 2,.int .i64 x,.int .i64 0,.int .i64 0,.string ⟨#[]⟩,.string ⟨#[]⟩,.slice none 0 0]:=bW _ _ (fun _=>False) (lV x) (Kd.jw _ _ _ _ _)
theorem zho (x f s:Int) (n:ByteArray) (W:World) (b:Nat) (ok:Nat → Prop):(Kd.bare X8).M W b ok (zqF x f s n) [.int .i64 0,.int .i64 x,.int .i64 f,.int .i64 s,.string n,.string ⟨#[]⟩,.slice none 0 0]:=bW _ _ (fun _=>False) (zqF x f s n) (Kd.jw _ _ _ _ _)
theorem zXk {W1 W2:World} {Ao:Option Addr} {co:Nat} {out:List wV} (h:mH base g W Af cf l f s qZ yt vo vl st) (hW:Below W.heap.size W W1) (hg:W1.grownBy W2 vo.ownBlock) (ho:Kd.R (Kd.bare X8) 53 W2 base (fun _=>True) (.slice Ao out.length co) out) (hb:base ≤ W.heap.size) :
  PW base g (W2.setCell ⟨g,5,none⟩ (.slice Ao out.length co)) Af cf l f s qZ yt (out,st.2) ∧ jN base g W (W2.setCell ⟨g,5,none⟩ (.slice Ao out.length co)) ∧ W2.cell? ⟨g,5,none⟩ = some vo ∧ W2.frozen? ⟨g,5,none⟩ = false ∧ W2.heap[g]? = some (.cells #[.slice Af l.length cf,.int .i64 f,.int .i64 s,.bool qZ,.bool yt,vo,vl] 90 (0,0)):=by
 obtain ⟨h0,hO,hL⟩:=h.below hW
 have hb1:=Nat.le_trans hb hW.size
 have B2:=uO h0 hg (Kd.Vz hO h0 (by decide))
 obtain ⟨inn,hown⟩:=Kd.iI hO
 have L2:=zXv hL hO hg (by decide)
 refine ⟨⟨_,vl,xD (cs':=#[.slice Af l.length cf,.int .i64 f,.int .i64 s,.bool qZ,.bool yt,.slice Ao out.length co,vl]) B2 5 (.slice Ao out.length co) rfl,Kd.QK ho B2 (by decide) 5 _,Kd.QK L2 B2 (by decide) 5 _⟩,
  ((jN.below (B:=g) hW hb).trans (jN.grown (B:=g) hown hg hb1)).trans (jN.set B2 5 _),(zQ B2 5).trans rfl,zy B2 5,B2⟩
theorem zbg {W1 W2:World} {Ao:Option Addr} {co:Nat} {lost:List ByteArray} (h:mH base g W Af cf l f s qZ yt vo vl st) (hW:Below W.heap.size W W1) (hg:W1.grownBy W2 vl.ownBlock) (ho:Kd.R Kd.string 9 W2 base (fun _=>True) (.slice Ao lost.length co) lost) (hb:base ≤ W.heap.size) :
  PW base g (W2.setCell ⟨g,6,none⟩ (.slice Ao lost.length co)) Af cf l f s qZ yt (st.1,lost) ∧ jN base g W (W2.setCell ⟨g,6,none⟩ (.slice Ao lost.length co)) ∧ W2.cell? ⟨g,6,none⟩ = some vl ∧ W2.frozen? ⟨g,6,none⟩ = false ∧ W2.heap[g]? = some (.cells #[.slice Af l.length cf,.int .i64 f,.int .i64 s,.bool qZ,.bool yt,vo,vl] 90 (0,0)):=by
 obtain ⟨h0,hO,hL⟩:=h.below hW
 have hb1:=Nat.le_trans hb hW.size
 have B2:=uO h0 hg (Kd.Vz hL h0 (by decide))
 obtain ⟨inn,hown⟩:=Kd.iI hL
 have L2:=zXv hO hL hg (by decide)
 refine ⟨⟨vo,_,xD (cs':=#[.slice Af l.length cf,.int .i64 f,.int .i64 s,.bool qZ,.bool yt,vo,.slice Ao lost.length co]) B2 6 (.slice Ao lost.length co) rfl,Kd.QK L2 B2 (by decide) 6 _,Kd.QK ho B2 (by decide) 6 _⟩,
  ((jN.below (B:=g) hW hb).trans (jN.grown (B:=g) hown hg hb1)).trans (jN.set B2 6 _),(zQ B2 6).trans rfl,zy B2 6,B2⟩
end
def put.T5:Bool × List (List Nat × List Nat):=(true,[([],[]),([0],[0]),([1],[1]),([2],[2]),([],[]),([3,4],[3,4]),([5],[5]),([],[]),([7],[7]),([8],[8]),([9],[9]),([],[]),([11],[11]),([10,12],[10,12]),([13],[13]),([14],[14]),([],[]),([],[]),([17],[17]),([18],[18]),([19],[19]),([20],[20]),([6,15,16,21],[6,15,16,21]),([22],[22]),([23],[23]),([23],[23]),([24,22,0,1,2,3,4,5,6,7,8,9,10,11,12,13,14,15,16,17,18,19,20,21,22,23,24],[24]),([25,26,0,1,2,3,4,5,6,7,8,9,10,11,12,13,14,15,16,17,18,19,20,21,22,23,24,25,26],[25])])
def put.B5:List Nat:=[0,1,3,7,0,31,63,0,128,384,896,0,2048,8064,16256,32640,0,0,131072,393216,917504,1966080,4194303,8388607,16777215,16777215,33554431,134217727]
theorem put.zyx:vR .any (opsOf Tryz.f46 5) = put.T5:=by kernel_rfl
theorem put.zVB:uV put.T5.2 put.B5 = true:=by kernel_rfl
def put.T8:Bool × List (List Nat × List Nat):=(true,[([],[]),([0],[0]),([1],[1]),([2],[2]),([],[]),([3,4],[3,4]),([5],[5]),([],[]),([],[]),([8],[8]),([9],[9]),([10],[10]),([11],[11]),([6,7,12],[6,7,12]),([13],[13]),([14],[14]),([14],[14]),([15,13,0,1,2,3,4,5,6,7,8,9,10,11,12,13,14,15],[15]),([16,17,0,1,2,3,4,5,6,7,8,9,10,11,12,13,14,15,16,17],[16])])
def put.B8:List Nat:=[0,1,3,7,0,31,63,0,0,256,768,1792,3840,8191,16383,32767,32767,65535,262143]
theorem put.znP:vR .any (opsOf Tryz.f46 8) = put.T8:=by kernel_rfl
theorem put.zlT:uV put.T8.2 put.B8 = true:=by kernel_rfl
def put.T9:Bool × List (List Nat × List Nat):=(true,[([],[]),([],[]),([1],[1]),([2],[2]),([3],[3]),([],[]),([],[]),([],[]),([7],[7]),([8],[8]),([9],[9]),([10],[10]),([],[]),([5,6,11,12],[5,6,11,12]),([13],[13]),([4,14],[4,14]),([0,0,1,2,3,4,5,6,7,8,9,10,11,12,13,14,15],[0]),([16,0,1,2,3,4,5,6,7,8,9,10,11,12,13,14,15],[16]),([17,15,15,0,1,2,3,4,5,6,7,8,9,10,11,12,13,14,15],[15,17])])
def put.B9:List Nat:=[0,0,2,6,14,0,0,0,128,384,896,1920,0,8160,16352,32766,65535,131071,262143]
theorem put.zar:vR .any (opsOf Tryz.f46 9) = put.T9:=by kernel_rfl
theorem put.zVC:uV put.T9.2 put.B9 = true:=by kernel_rfl
set_option maxRecDepth 100000 in
set_option maxHeartbeats 8000000 in
theorem zhp (w0:World) (base g:Nat) (Af:Option Addr) (cf:Nat) (l:List qO) (f s:Int) (qZ yt:Bool) (st:List wV × List ByteArray) (n:ByteArray) (w:World) (hG:GW w0) (hC:Kd.C Ye w0 Af l.length l) (hl:l.length ≤ 1000000000) (hf0:0 ≤ f) (hf1:f < (l.length:Int)) (hv:∀ x ∈ l,jY x = true) (hgb:g < base) (hb:base ≤ w.heap.size) (hg0:w0.heap.size ≤ g) (hw:Below w0.heap.size w0 w) (hlo:st.1.length ≤ 1000000) (hll:st.2.length ≤ 1000000) (vo vl:Value) (hS:mH base g w Af cf l f s qZ yt vo vl st) (ha:kR l f n < 0) :
  Calls Tryz.prog 46 #[.pointer (some ⟨g,0,none⟩),.string n] w fun e w'=>(∃ v,e = .returned v) ∧ PW base g w' Af cf l f s qZ yt (st.1,st.2 ++ [n]) ∧ jN base g w w':=by
 have hhome:=zy2 w0 g Af cf l f s qZ yt vo vl n w hG hC hl hf0 hf1 hv hw hS.1
 generalize kR l f n = a at hhome ha
 have d0:decide (a < 0) = true:=decide_eq_true ha
 have HS:=zx.mk hS
 clear hS hv hC hG hw
 go_enter Tryz.func46,Tryz.ntmps46
 go_wp2_with (first | (go_at_call 105;refine hhome.mono ?_;rintro e w1 ⟨rfl,hb1⟩;have S1:=HS.out.below hb1;have k6:w1.cell? ⟨g,6,none⟩ = some vl:=(zQ S1.1 6).trans rfl;have HS1:=zx.mk S1;have HB1:=zx.mk hb1;clear S1 hb1) | ((with_reducible refine pR (b:=.append) (xs:=#[.tmp 19,.tmp 21]) rfl ?_);at_builtin;refine Kd.Qy Kd.string (w0:=w1) base rfl (.tmp 19) (.tmp 21) 27 9 (.string ⟨#[]⟩) 16 rfl Tryz.underlying27 zzo rfl (by decide) (by omega) vl st.2 n [.string n] (fun _=>True) (fun _=>False) rfl rfl ?aP (fun _ hk=>hk.elim) ?aF ?aO ?aB ?aS ?aL ?_;(case aP=>exact rfl);(case aF=>exact fun _ _=>trivial);(case aO=>exact HS1.out.2.2);(case aB=>exact Below.refl _ _);(case aS=>exact Nat.le_trans hb HB1.out.size);(case aL=>omega);intro v1 w2 ho hbw hg hat;obtain ⟨Ao,co,rfl⟩:=Kd.xK ho;have hp:=zbg HS1.out (Below.refl _ _) hg ho (Nat.le_trans hb HB1.out.size);obtain ⟨p1,p2,k7,z7,B7⟩:=hp;have P1:=zx.mk p1;have P2:=zx.mk p2;clear p1 p2 B7 ho hbw hg hat k6;generalize hnn:(st.2 ++ [n]).length = nn at P1 P2 ⊢))
 refine bodyPost_ret (results_none rfl _ _ _) rfl ?_
 exact ⟨⟨_,rfl⟩,P1.out,(jN.below HB1.out hb).trans P2.out⟩
set_option maxRecDepth 100000 in
set_option maxHeartbeats 16000000 in
theorem zfd (w0:World) (base g:Nat) (Af:Option Addr) (cf:Nat) (l:List qO) (f s:Int) (qZ yt:Bool) (st:List wV × List ByteArray) (n:ByteArray) (w:World) (hG:GW w0) (hC:Kd.C Ye w0 Af l.length l) (hl:l.length ≤ 1000000000) (hf0:0 ≤ f) (hf1:f < (l.length:Int)) (hv:∀ x ∈ l,jY x = true) (hgb:g < base) (hb:base ≤ w.heap.size) (hg0:w0.heap.size ≤ g) (hw:Below w0.heap.size w0 w) (hlo:st.1.length ≤ 1000000) (hll:st.2.length ≤ 1000000) (vo vl:Value) (hS:mH base g w Af cf l f s qZ yt vo vl st) (ha:0 ≤ kR l f n) (hs0:1 ≤ s) (hs1:s ≤ 1000) :
  Calls Tryz.prog 46 #[.pointer (some ⟨g,0,none⟩),.string n] w fun e w'=>(∃ v,e = .returned v) ∧ PW base g w' Af cf l f s qZ yt (st.1 ++ Zn l s yt st.1 (kR l f n) n ++ [zqF (lJ (j5 l (kR l f n)) n s).1 (kR l f n) s n],st.2) ∧ jN base g w w':=by
 have hhome:=zy2 w0 g Af cf l f s qZ yt vo vl n w hG hC hl hf0 hf1 hv hw hS.1
 have hlt:=zbd n hf0 hf1
 generalize kR l f n = a at hhome ha hlt ⊢
 have ha1:a < (l.length:Int):=by omega
 have d0:decide (a < 0) = false:=decide_eq_false (by omega)
 clear hlt
 have hx:=gH hv ha ha1
 have hz:=bZ hx
 obtain ⟨ad,A3,c3,A4,c4,A5,c5,e,x0,x1,x2,x3,x4,x5,g3,q3,g4,q4,g5,q5⟩:=wP hC a ha (by omega)
 subst e
 have e:zY l a = j5 l a:=rfl
 rw [e] at x0 x1 x2 x3 x4 x5 g3 q3 g4 q4 g5 q5
 clear e
 have hnil:st.1 = [] → Zn l s yt st.1 a n = []:=fun h=>by unfold Zn;rw [h];rfl
 have hlast:∀ b,st.1.getLast? = some b → Zn l s yt st.1 a n = if yt && decide (b.f2 = a) then (if (Qc (j5 l a) b.f4 n s).1 = 0 then [] else [lV (Qc (j5 l a) b.f4 n s).1]) else []:=fun b h=>by unfold Zn;rw [h]
 generalize Zn l s yt st.1 a n = kb at hnil hlast ⊢
 generalize j5 l a = x at x0 x1 x2 x3 x4 x5 g3 q3 g4 q4 g5 q5 hx hz hlast ⊢
 obtain ⟨Ao,co,evo⟩:=Kd.xK hS.2.1
 subst evo
 obtain ⟨cb,hcb⟩:∃ cb:Bool,cb = (match st.1.getLast? with | none=>false | some b=>yt && decide (b.f2 = a)):=⟨_,rfl⟩
 have zcB:∀ (m:ByteArray) (W:World),Below w0.heap.size w0 W → Calls Tryz.prog 21 #[.agg #[.string x.f0,.bool x.f1,.int .i64 x.f2,.slice A3 x.f3.length c3,.slice A4 x.f4.length c4,.slice A5 x.f5.length c5],.string m,.string n,.int .i64 s] W fun e w'=>e = .returned (.tuple #[.int .i64 (Qc x m n s).1,.int .i64 (Qc x m n s).2]) ∧ Below W.heap.size W w':=fun m W h =>
  zww x.f0 x.f1 x.f2 A3 c3 x.f3 A4 c4 x.f4 A5 c5 x.f5 m n s W (hG.under h) (Kd.zu q3 h) g3 (Kd.zu q4 h) g4 (Kd.zu q5 h) g5 (by omega) (by omega) (by omega)
 have hwide:∀ (W:World),Below w0.heap.size w0 W → Calls Tryz.prog 22 #[.agg #[.string x.f0,.bool x.f1,.int .i64 x.f2,.slice A3 x.f3.length c3,.slice A4 x.f4.length c4,.slice A5 x.f5.length c5],.string n,.int .i64 s] W fun e w'=>e = .returned (.tuple #[.int .i64 (lJ x n s).1,.int .i64 (lJ x n s).2]) ∧ Below W.heap.size W w':=fun W h =>
  Kq.calls x.f0 x.f1 x.f2 A3 c3 x.f3 A4 c4 x.f4 A5 c5 x.f5 n s _ _ W (Kd.zu q3 h) g3 (Kd.zu q4 h) g4 (Kd.zu q5 h) g5 (hG.under h) (zgg x.f0 x.f1 x.f2 x.f3 x.f4 x.f5 n s (by omega) (by omega) (by omega))
 have zcC:∀ (W:World),Below w0.heap.size w0 W → W.cell? (ad.add (a.toNat * 6)) = some (.string x.f0) ∧ W.cell? ⟨(ad.add (a.toNat * 6)).block,(ad.add (a.toNat * 6)).off + 1,none⟩ = some (.bool x.f1) ∧ W.cell? ⟨(ad.add (a.toNat * 6)).block,(ad.add (a.toNat * 6)).off + 2,none⟩ = some (.int .i64 x.f2) ∧ W.cell? ⟨(ad.add (a.toNat * 6)).block,(ad.add (a.toNat * 6)).off + 3,none⟩ = some (.slice A3 x.f3.length c3) ∧ W.cell? ⟨(ad.add (a.toNat * 6)).block,(ad.add (a.toNat * 6)).off + 4,none⟩ = some (.slice A4 x.f4.length c4) ∧ W.cell? ⟨(ad.add (a.toNat * 6)).block,(ad.add (a.toNat * 6)).off + 5,none⟩ = some (.slice A5 x.f5.length c5):=fun W h=>⟨(h.cell (World.block_lt_of_cell? w0 _ x0)).trans x0,(h.cell (World.block_lt_of_cell? w0 _ x1)).trans x1,(h.cell (World.block_lt_of_cell? w0 _ x2)).trans x2,(h.cell (World.block_lt_of_cell? w0 _ x3)).trans x3,(h.cell (World.block_lt_of_cell? w0 _ x4)).trans x4,(h.cell (World.block_lt_of_cell? w0 _ x5)).trans x5⟩
 have HKN:=zx.mk zcB
 have HWD:=zx.mk hwide
 have HFT:=zx.mk zcC
 have HNL:=zx.mk hnil
 have HLS:=zx.mk hlast
 have HS:=zx.mk hS
 have HW:=zx.mk hw
 have HHO:=zx.mk hhome
 have HCB:=zx.mk hcb
 clear hcb zcB hwide zcC hnil hlast hS hw x0 x1 x2 x3 x4 x5 q3 q4 q5 g3 g4 g5 hx hz hv hC hG hhome
 go_enter Tryz.func46,Tryz.ntmps46
 go_upto_region 4 with (go_at_call 105;refine HHO.out.mono ?_;rintro e w1 ⟨rfl,hb1⟩;have S1:=HS.out.below hb1;have k5:w1.cell? ⟨g,5,none⟩ = some (.slice Ao st.1.length co):=(zQ S1.1 5).trans rfl;have k4:w1.cell? ⟨g,4,none⟩ = some (.bool yt):=(zQ S1.1 4).trans rfl;have HS1:=zx.mk S1;have HB1:=zx.mk hb1;clear hb1 S1)
 have HW1:=zx.mk (HW.out.trans (HB1.out.mono HW.out.size))
 have hb1:base ≤ w1.heap.size:=Nat.le_trans hb HB1.out.size
 go_cut [51] (fun s51 wx=>s51 = .bool cb ∧ w1 = wx)
 case first =>
  cases ZR:st.1.getLast? with
  | none =>
   have hn0:st.1 = []:=List.getLast?_eq_none_iff.1 ZR
   have hz0:st.1.length = 0:=by rw [hn0];rfl
   have hcb:=HCB.out
   rw [ZR] at hcb
   subst hcb
   have i0:decide (0 < (st.1.length:Int)) = false:=decide_eq_false (by omega)
   have i00:decide (0 < st.1.length) = false:=decide_eq_false (by omega)
   clear hz0 hn0 ZR
   go_wp2_with fail
   go_meet
   exact ⟨rfl,rfl⟩
  | some b =>
   have hpos:0 < st.1.length:=by
    rcases Nat.eq_zero_or_pos st.1.length with h | h
    ·rw [List.eq_nil_of_length_eq_zero h] at ZR;cases ZR
    ·exact h
   have hget:st.1[st.1.length - 1]? = some b:=by rw [← List.getLast?_eq_getElem?];exact ZR
   obtain ⟨_,gO,CO⟩:=Kd.xw HS1.out.2.1
   obtain ⟨bd,A6,c6,e,y0,y1,y2,y3,y4,y5,y6,_,_⟩:=Vy (show Kd.C X8 _ _ _ _ from CO) ((st.1.length:Int) - 1) (by omega) (by omega)
   subst e
   have e1:((st.1.length:Int) - 1).toNat = st.1.length - 1:=by omega
   have e2:yj st.1 ((st.1.length:Int) - 1) = b:=by unfold yj;rw [e1,List.getD_eq_getElem?_getD,hget];rfl
   rw [e2] at y2
   rw [e1] at y2
   have hcb:=HCB.out
   rw [ZR] at hcb
   dsimp only at hcb
   clear y0 y1 y3 y4 y5 y6 e2 CO gO hget ZR e1
   have i0:decide (0 < (st.1.length:Int)) = true:=decide_eq_true (by omega)
   have i1:(0:Int) ≤ (st.1.length:Int) - 1:=by omega
   have i11:(1:Int) ≤ (st.1.length:Int):=by omega
   have i2:(st.1.length:Int) - 1 < (st.1.length:Int):=by omega
   have i3:wrap64 ((st.1.length:Int) - 1) = (st.1.length:Int) - 1:=kQ (by omega) (by omega)
   have zbh:=zx.mk hcb
   clear hcb
   cases yt with
   | false =>
    clear y2
    go_wp2_with fail
    go_meet
    exact ⟨by rw [zbh.out];rfl,rfl⟩
   | true =>
    by_cases hba:b.f2 = a
    case neg =>
     have i4:(b.f2 == a) = false:=beq_eq_false_iff_ne.2 hba
     have i5:decide (b.f2 = a) = false:=decide_eq_false hba
     have HC2:=zx.mk (show cb = false by rw [zbh.out,i5];rfl)
     clear hba
     go_wp2_with fail
     go_meet
     exact ⟨by rw [HC2.out],rfl⟩
    case pos =>
     have i4:(b.f2 == a) = true:=beq_iff_eq.2 hba
     have i5:decide (b.f2 = a) = true:=decide_eq_true hba
     have HC2:=zx.mk (show cb = true by rw [zbh.out,i5];rfl)
     clear hba
     go_wp2_with fail
     go_meet
     exact ⟨by rw [HC2.out],rfl⟩
 case rest =>
 obtain ⟨rfl,rfl⟩:=hcut
 clear k5 k4
 go_upto_if 51 with (fail)
 go_cut [5] (fun _ wx=>zx (PW base g wx (some ad) cf l f s qZ yt (st.1 ++ kb,st.2)) ∧ zx (jN base g w wx))
 case first =>
  cases cb with
  | false =>
   have hkb:kb = []:=by
    have hcb:=HCB.out
    cases ZR:st.1.getLast? with
    | none=>exact HNL.out (List.getLast?_eq_none_iff.1 ZR)
    | some b =>
     rw [ZR] at hcb
     dsimp only at hcb
     rw [HLS.out b ZR,← hcb];rfl
   subst hkb
   go_wp2_with fail
   go_meet
   exact ⟨⟨_,vl,by rw [List.append_nil];exact HS1.out⟩,⟨jN.below HB1.out hb⟩⟩
  | true =>
   obtain ⟨b,ZR⟩:∃ b,st.1.getLast? = some b:=by
    have hcb:=HCB.out
    cases ZR:st.1.getLast? with
    | none=>rw [ZR] at hcb;cases hcb
    | some b=>exact ⟨b,rfl⟩
   have hcb:=HCB.out
   rw [ZR] at hcb
   dsimp only at hcb
   have hkb:kb = if (Qc x b.f4 n s).1 = 0 then [] else [lV (Qc x b.f4 n s).1]:=by rw [HLS.out b ZR,← hcb];rfl
   have hpos:0 < st.1.length:=by
    rcases Nat.eq_zero_or_pos st.1.length with h | h
    ·rw [List.eq_nil_of_length_eq_zero h] at ZR;cases ZR
    ·exact h
   have hget:st.1[st.1.length - 1]? = some b:=by rw [← List.getLast?_eq_getElem?];exact ZR
   obtain ⟨_,gO,CO⟩:=Kd.xw HS1.out.2.1
   obtain ⟨bd,A6,c6,e,y0,y1,y2,y3,y4,y5,y6,_,_⟩:=Vy (show Kd.C X8 _ _ _ _ from CO) ((st.1.length:Int) - 1) (by omega) (by omega)
   subst e
   have e1:((st.1.length:Int) - 1).toNat = st.1.length - 1:=by omega
   have e2:yj st.1 ((st.1.length:Int) - 1) = b:=by unfold yj;rw [e1,List.getD_eq_getElem?_getD,hget];rfl
   rw [e2] at y4
   rw [e1] at y4
   have i1:(0:Int) ≤ (st.1.length:Int) - 1:=by omega
   have i11:(1:Int) ≤ (st.1.length:Int):=by omega
   have i2:(st.1.length:Int) - 1 < (st.1.length:Int):=by omega
   have i3:wrap64 ((st.1.length:Int) - 1) = (st.1.length:Int) - 1:=kQ (by omega) (by omega)
   have zhr:=zx.mk (HKN.out b.f4)
   generalize Qc x b.f4 n s = kp at hkb zhr
   obtain ⟨by_,er⟩:=kp
   have HKB:=zx.mk hkb
   have HY4:=zx.mk y4
   clear hkb y0 y1 y2 y3 y4 y5 y6 e2 CO gO hget ZR e1 hcb
   go_wp2_with fail
   have ks0:w1.cell? ⟨g,0,none⟩ = some (.slice (some ad) l.length cf):=(zQ HS1.out.1 0).trans rfl
   have ks2:w1.cell? ⟨g,2,none⟩ = some (.int .i64 s):=(zQ HS1.out.1 2).trans rfl
   have ks5:w1.cell? ⟨g,5,none⟩ = some (.slice (some bd) st.1.length co):=(zQ HS1.out.1 5).trans rfl
   have kb4:=HY4.out
   have oZ:=zx.mk (fun (W:World) (h:Below w1.heap.size w1 W)=>(show W.cell? ⟨g,0,none⟩ = some (.slice (some ad) l.length cf) ∧ W.cell? ⟨g,2,none⟩ = some (.int .i64 s) ∧ W.cell? ⟨g,5,none⟩ = some (.slice (some bd) st.1.length co) ∧ W.cell? ⟨(bd.add ((st.1.length - 1) * 7)).block,(bd.add ((st.1.length - 1) * 7)).off + 4,none⟩ = some (.string b.f4) ∧ (W.cell? (ad.add (a.toNat * 6)) = some (.string x.f0) ∧ W.cell? ⟨(ad.add (a.toNat * 6)).block,(ad.add (a.toNat * 6)).off + 1,none⟩ = some (.bool x.f1) ∧ W.cell? ⟨(ad.add (a.toNat * 6)).block,(ad.add (a.toNat * 6)).off + 2,none⟩ = some (.int .i64 x.f2) ∧ W.cell? ⟨(ad.add (a.toNat * 6)).block,(ad.add (a.toNat * 6)).off + 3,none⟩ = some (.slice A3 x.f3.length c3) ∧ W.cell? ⟨(ad.add (a.toNat * 6)).block,(ad.add (a.toNat * 6)).off + 4,none⟩ = some (.slice A4 x.f4.length c4) ∧ W.cell? ⟨(ad.add (a.toNat * 6)).block,(ad.add (a.toNat * 6)).off + 5,none⟩ = some (.slice A5 x.f5.length c5)) from
    ⟨(h.cell (World.block_lt_of_cell? w1 _ ks0)).trans ks0,(h.cell (World.block_lt_of_cell? w1 _ ks2)).trans ks2,(h.cell (World.block_lt_of_cell? w1 _ ks5)).trans ks5,(h.cell (World.block_lt_of_cell? w1 _ kb4)).trans kb4,HFT.out W (HW1.out.trans (h.mono HW1.out.size))⟩))
   clear ks0 ks2 ks5 kb4
   refine RW.rS (n:=28) oZ put.zyx put.zVB (by kernel_rfl) rfl rfl (fun w3 H0 T U h=>?_)
   refine RW.rP 0 (some 53) T ?_
   refine RW.rP 1 (some 54) T ?_
   refine RW.rP 2 (some 55) T ?_
   refine RW.rT 3 (some 56) T U h ?_
   refine RW.rP 4 (some 57) T ?_
   refine RW.rP 5 (some 58) T ?_
   refine RW.rT 6 (some 59) T U h ?_
   refine RW.rP 7 (some 60) T ?_
   refine RW.rP 8 (some 61) T ?_
   refine RW.rP 9 (some 62) T ?_
   refine RW.rT 10 (some 63) T U h ?_
   refine RW.rP 11 (some 64) T ?_
   refine RW.rP 12 (some 65) T ?_
   refine RW.rP 13 (some 66) T ?_
   refine RW.rP 14 (some 67) T ?_
   refine RW.rT 15 (some 68) T U h ?_
   refine RW.rP 16 (some 69) T ?_
   refine RW.rP 17 (some 70) T ?_
   refine RW.rP 18 (some 71) T ?_
   refine RW.rP 19 (some 72) T ?_
   refine RW.rP 20 (some 73) T ?_
   refine RW.rT 21 (some 74) T U h ?_
   clear h
   refine RW.rC 22 (some 75) T oZ H0 Tryz.func21 (zhr.out _ (HW1.out.trans (H0.out.mono HW1.out.size))) (fun w4 H4 h=>?_) (by kernel_rfl)
   refine RW.rP 23 (some 52) T ?_
   refine RW.rP 24 (some 76) T ?_
   refine RW.rP 25 (some 77) T ?_
   refine RW.rP 26 (some 6) T ?_
   refine RW.rP 27 (some 7) T ?_
   refine xP (qH T.out (by kernel_rfl)) ?_
   clear h
   have S4:=HS1.out.below H4.out
   have hb4:=Nat.le_trans hb1 H4.out.size
   have LK4:=zx.mk ((jN.below (B:=g) HB1.out hb).trans (jN.below (B:=g) H4.out hb1))
   have HS4:=zx.mk S4
   have k5:w4.cell? ⟨g,5,none⟩ = some (.slice (some bd) st.1.length co):=(zQ S4.1 5).trans rfl
   clear S4
   by_cases h0:by_ = 0
   ·subst h0
    have hkb:kb = []:=by rw [HKB.out];rfl
    subst hkb
    go_wp2_with fail
    go_meet
    exact ⟨⟨_,vl,by rw [List.append_nil];exact HS4.out⟩,LK4⟩
   ·have hkb:kb = [lV by_]:=by rw [HKB.out];exact if_neg h0
    subst hkb
    have j0:(by_ != 0) = true:=by simpa using h0
    have j1:(!(by_ == 0)) = true:=by simpa using h0
    have j2:(by_ == 0) = false:=by simpa using h0
    clear h0
    go_wp2_with ((with_reducible refine pR (b:=.append) (xs:=#[.tmp 84,.tmp 87]) rfl ?_);at_builtin;refine Kd.Qy (Kd.bare X8) (w0:=w4) base rfl (.tmp 84) (.tmp 87) 34 53 (.agg #[.int .i64 0,.int .i64 0,.int .i64 0,.int .i64 0,.string ⟨#[]⟩,.string ⟨#[]⟩,.slice none 0 0]) 88 rfl Tryz.underlying34 ng rfl (by decide) (by omega) (.slice (some bd) st.1.length co) st.1 (lV by_) [.int .i64 2,.int .i64 by_,.int .i64 0,.int .i64 0,.string ⟨#[]⟩,.string ⟨#[]⟩,.slice none 0 0] (fun _=>True) (fun _=>False) rfl rfl ?aP (fun _ hk=>hk.elim) ?aF ?aO ?aB ?aS ?aL ?_;(case aP=>exact zhn _ _ _ _);(case aF=>exact fun _ _=>trivial);(case aO=>exact HS4.out.2.1);(case aB=>exact Below.refl _ _);(case aS=>exact hb4);(case aL=>omega);intro v1 w5 ho hbw hg hat;obtain ⟨Ao,co,rfl⟩:=Kd.xK ho;have hp:=zXk HS4.out (Below.refl _ _) hg ho hb4;obtain ⟨p1,p2,k7,z7,B7⟩:=hp;have P1:=zx.mk p1;have P2:=zx.mk p2;clear p1 p2 B7 ho hbw hg hat k5;generalize hnn:(st.1 ++ [lV by_]).length = nn at P1 P2 ⊢)
    go_meet
    exact ⟨P1,⟨LK4.out.trans P2.out⟩⟩
 case rest =>
  obtain ⟨HS2,HL2⟩:=hcut
  obtain ⟨vo2,vl2,S2⟩:=HS2.out
  have hkl:kb.length ≤ 1:=by
   cases ZR:st.1.getLast? with
   | none=>rw [HNL.out (List.getLast?_eq_none_iff.1 ZR)];exact Nat.zero_le _
   | some b =>
    rw [HLS.out b ZR]
    repeat' split
    all_goals first | exact Nat.zero_le _ | exact Nat.le_refl _
  have hw2:Below w0.heap.size w0 wc:=HW.out.trans (zqc HL2.out hg0 (by omega))
  have hb2:base ≤ wc.heap.size:=Nat.le_trans hb HL2.out.1.size
  have ks0:wc.cell? ⟨g,0,none⟩ = some (.slice (some ad) l.length cf):=(zQ S2.1 0).trans rfl
  have ks2:wc.cell? ⟨g,2,none⟩ = some (.int .i64 s):=(zQ S2.1 2).trans rfl
  have oZ:=zx.mk (fun (W:World) (h:Below wc.heap.size wc W)=>(show W.cell? ⟨g,0,none⟩ = some (.slice (some ad) l.length cf) ∧ W.cell? ⟨g,2,none⟩ = some (.int .i64 s) ∧ (W.cell? (ad.add (a.toNat * 6)) = some (.string x.f0) ∧ W.cell? ⟨(ad.add (a.toNat * 6)).block,(ad.add (a.toNat * 6)).off + 1,none⟩ = some (.bool x.f1) ∧ W.cell? ⟨(ad.add (a.toNat * 6)).block,(ad.add (a.toNat * 6)).off + 2,none⟩ = some (.int .i64 x.f2) ∧ W.cell? ⟨(ad.add (a.toNat * 6)).block,(ad.add (a.toNat * 6)).off + 3,none⟩ = some (.slice A3 x.f3.length c3) ∧ W.cell? ⟨(ad.add (a.toNat * 6)).block,(ad.add (a.toNat * 6)).off + 4,none⟩ = some (.slice A4 x.f4.length c4) ∧ W.cell? ⟨(ad.add (a.toNat * 6)).block,(ad.add (a.toNat * 6)).off + 5,none⟩ = some (.slice A5 x.f5.length c5)) from
   ⟨(h.cell (World.block_lt_of_cell? wc _ ks0)).trans ks0,(h.cell (World.block_lt_of_cell? wc _ ks2)).trans ks2,HFT.out W (hw2.trans (h.mono hw2.size))⟩))
  have HW2:=zx.mk hw2
  have HT2:=zx.mk S2
  clear hw2 S2 ks0 ks2 HS2
  obtain ⟨wd,hwd⟩:∃ wd,lJ x n s = wd:=⟨_,rfl⟩
  rw [hwd] at HWD
  have HWE:=zx.mk hwd
  clear hwd
  obtain ⟨wv,we⟩:=wd
  go_wp2_with fail
  refine RW.rS (n:=19) oZ put.znP put.zlT (by kernel_rfl) rfl rfl (fun w3 H0 T U h=>?_)
  refine RW.rP 0 (some 92) T ?_
  refine RW.rP 1 (some 93) T ?_
  refine RW.rP 2 (some 94) T ?_
  refine RW.rT 3 (some 95) T U h ?_
  refine RW.rP 4 (some 96) T ?_
  refine RW.rP 5 (some 97) T ?_
  refine RW.rT 6 (some 98) T U h ?_
  refine RW.rP 7 (some 99) T ?_
  refine RW.rP 8 (some 100) T ?_
  refine RW.rP 9 (some 101) T ?_
  refine RW.rP 10 (some 102) T ?_
  refine RW.rP 11 (some 103) T ?_
  refine RW.rT 12 (some 104) T U h ?_
  clear h
  refine RW.rC 13 (some 105) T oZ H0 Tryz.func22 (HWD.out _ (HW2.out.trans (H0.out.mono HW2.out.size))) (fun w4 H4 h=>?_) (by kernel_rfl)
  refine RW.rP 14 (some 91) T ?_
  refine RW.rP 15 (some 106) T ?_
  refine RW.rP 16 (some 107) T ?_
  refine RW.rP 17 (some 8) T ?_
  refine RW.rP 18 (some 9) T ?_
  refine xP (qH T.out (by kernel_rfl)) ?_
  clear h
  have S4:=HT2.out.below H4.out
  have hb4:=Nat.le_trans hb2 H4.out.size
  have LK4:=zx.mk (HL2.out.trans (jN.below (B:=g) H4.out hb2))
  have ks5:w4.cell? ⟨g,5,none⟩ = some vo2:=(zQ S4.1 5).trans rfl
  have ks2:w4.cell? ⟨g,2,none⟩ = some (.int .i64 s):=(zQ S4.1 2).trans rfl
  have HS9:=zx.mk (fun (W:World) (h:Below w4.heap.size w4 W)=>(show W.cell? ⟨g,5,none⟩ = some vo2 ∧ W.cell? ⟨g,2,none⟩ = some (.int .i64 s) from ⟨(h.cell (World.block_lt_of_cell? w4 _ ks5)).trans ks5,(h.cell (World.block_lt_of_cell? w4 _ ks2)).trans ks2⟩))
  have HS4:=zx.mk S4
  clear S4 ks5 ks2 T U
  go_wp2_with fail
  refine RW.rSD (n:=19) [18] HS9 put.zar put.zVC (by kernel_rfl) rfl rfl (fun w5 H5 T U h=>?_)
  refine RW.rP 0 (some 108) T ?_
  refine RW.rP 1 (some 109) T ?_
  refine RW.rP 2 (some 110) T ?_
  refine RW.rP 3 (some 111) T ?_
  refine RW.rT 4 (some 112) T U h ?_
  refine RW.rP 5 (some 113) T ?_
  refine RW.rP 6 (some 114) T ?_
  refine RW.rP 7 (some 115) T ?_
  refine RW.rP 8 (some 116) T ?_
  refine RW.rP 9 (some 117) T ?_
  refine RW.rP 10 (some 118) T ?_
  refine RW.rT 11 (some 119) T U h ?_
  refine RW.rP 12 (some 120) T ?_
  refine RW.rP 13 (some 121) T ?_
  have S5:=HS4.out.below H5.out
  have hb5:=Nat.le_trans hb4 H5.out.size
  clear h
  refine Km (i:=14) (N:=some 122) #[true,true,true,true,true,true,true,true,true,true,true,true,true,true,true,false,false,false,false] rfl rfl (pO T.out (by kernel_rfl)) (by decide) (fun K hK=>?_)
  refine zxd (w1:=?_) (v:=?_) (by rfl) rfl ?_ ?_
  rotate_left 2
  ·have h:=HS9.out _ H5.out
   go_simp
   constructor
   ·rfl
   ·rfl
  refine hK.out _ _ (HS9.out _ (H5.out.alloc H5.out.size _)) (fun h=>?_)
  clear hK K h
  refine J7 (a':=?_) ?_ ?_
  rotate_left
  ·show Act.put _ (some 122) _ = _
   simp only [Act.put,List.setIfInBounds_toArray,List.set_cons_zero,List.set_cons_succ]
   rfl
  refine Km (i:=15) (N:=some 123) #[true,true,true,true,true,true,true,true,true,true,true,true,true,true,true,true,false,false,false] rfl rfl (pO T.out (by kernel_rfl)) (by decide) (fun K hK=>?_)
  refine Kd.Zu (Kd.bare X8) (w0:=w5) base (by rfl) (.tmp 112) (.tmp 122) 34 53 (.agg #[.int .i64 0,.int .i64 0,.int .i64 0,.int .i64 0,.string ⟨#[]⟩,.string ⟨#[]⟩,.slice none 0 0]) 88 rfl Tryz.underlying34 ng rfl (by decide) (by omega) vo2 (st.1 ++ kb) (zqF wv a s n) [.int .i64 0,.int .i64 wv,.int .i64 a,.int .i64 s,.string n,.string ⟨#[]⟩,.slice none 0 0] (fun _=>True) (fun _=>False) rfl rfl ?aP (fun _ hk=>hk.elim) ?aF ?aO ?aB ?aS ?aL ?_
  (case aP=>exact zho _ _ _ _ _ _ _)
  (case aF=>exact fun _ _=>trivial)
  (case aO=>exact S5.2.1)
  (case aB=>exact Below.refl base w5)
  (case aS=>exact hb5)
  (case aL=>rw [List.length_append];omega)
  intro v1 w6 ho hbw hg hat
  obtain ⟨Ao,co,eo⟩:=Kd.xK ho
  subst eo
  obtain ⟨p1,p2,k6,z6,B6⟩:=zXk S5 (Below.refl _ _) hg ho hb5
  have S6:w6.cell? ⟨g,5,none⟩ = some vo2 ∧ w6.cell? ⟨g,2,none⟩ = some (.int .i64 s):=⟨k6,(zQ B6 2).trans rfl⟩
  have P1:=zx.mk p1
  have P2:=zx.mk ((LK4.out.trans (jN.below (B:=g) H5.out hb4)).trans p2)
  refine hK.out _ _ S6 (fun h=>?_)
  clear hK K h p1 p2 ho hbw hg hat B6 S5 S6
  generalize hnn:(st.1 ++ kb ++ [zqF wv a s n]).length = nn at P1 P2 ⊢
  refine J7 (a':=?_) ?_ ?_
  rotate_left
  ·show Act.put _ (some 123) _ = _
   simp only [Act.put,List.setIfInBounds_toArray,List.set_cons_zero,List.set_cons_succ]
   rfl
  refine RW.rP 16 (some 124) T ?_
  refine RW.rP 17 (some 125) T ?_
  refine zzi (i:=18) (N:=none) #[true,true,true,true,true,true,true,true,true,true,true,true,true,true,true,true,true,true,true] rfl rfl (pO T.out (by kernel_rfl)) (by decide) (fun K hK=>?_)
  refine iN (w1:=?_) (by rfl) rfl ?_ ?_
  rotate_left
  ·go_simp
   rfl
  refine hK.out _ _ ?_
  clear hK K
  refine xP (qH T.out (by kernel_rfl)) ?_
  clear k6 z6
  generalize w6.setCell ⟨g,5,none⟩ (.slice Ao nn co) = w7 at P1 P2 ⊢
  go_wp2_with fail
  go_end0
  refine ⟨⟨_,rfl⟩,?_,P2.out⟩
  rw [← List.append_assoc,HWE.out]
  exact P1.out
end Go.Proofs.YtggifbbiiickmaaGreatDoor
