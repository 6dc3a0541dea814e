/-
  Texts that lean on one another, laid in one file. No condition.
-/
import Derived.Test.YtggifbbiiickmaaGreatDoorGSH1
import Derived.IntWalk
import Derived.Outline
import Derived.Lib.Hide
import Derived.StillTailTactics
import Derived.StillTactics
import Derived.Deep.RegionHeld3
import Derived.Shelf.SlicesQ.IndexFunc
import Derived.Deep.QuietTactic
import Derived.BigQuiet
import Derived.RangeFuncRecord
import Derived.Laws.EntriesVeiled
import Derived.Sort.Walk0
namespace Go.Proofs.YtggifbbiiickmaaGreatDoor
open Go.RowKit Go.Proofs.zk.za Go.Proofs.zk.zR Go.Proofs.YtggifbbiiickmaaGreatDoor.PX
set_option linter.unusedSimpArgs false
set_option linter.unusedVariables false
def WJ:List UInt8 → Nat → Bool
 | [],_=>true
 | b :: r,i=>(wV b || (decide (i ≠ 0) && Yo b)) && WJ r (i + 1)
theorem zqi:∀ (l:List UInt8) (i:Nat),i ≠ 0 → WJ l i = l.all fun b=>wV b || Yo b
 | [],_,_=>rfl
 | b :: r,i,h=>by rw [WJ,zqi r (i + 1) (by omega),List.all_cons,decide_eq_true h,Bool.true_and]
theorem zkl (l:List UInt8):(WJ l 0 && (decide (1 ≤ l.length) && decide (l.length ≤ 10))) = YH l:=by
 unfold YH
 cases l with
 | nil=>rfl
 | cons b r =>
  rw [WJ,zqi r 1 (by omega),List.all_cons]
  simp only [List.head?_cons,Option.map_some,Option.getD_some,ne_eq,not_true_eq_false,decide_false,Bool.false_and,Bool.or_false]
  cases wV b <;> cases (r.all fun b=>wV b || Yo b) <;> cases decide (1 ≤ (b :: r).length) <;> cases decide ((b :: r).length ≤ 10) <;> cases Yo b <;> rfl
set_option maxRecDepth 100000 in
set_option maxHeartbeats 4000000 in
theorem zaS (s:ByteArray) (hs:s.size ≤ 140737488355328) (w:World):Calls Tryz.prog 137 #[.string s] w fun e w'=>e = .returned (.bool (YH s.data.toList)) ∧ yc w w':=by
 have hlen:s.data.toList.length = s.size:=Array.length_toList
 have h0:=zkl s.data.toList
 generalize YH s.data.toList = V at h0 ⊢
 have hbt:∀ (i:Nat) (h:i < s.data.toList.length),bt s (i:Int) = ((s.data.toList[i]).toNat:Int):=fun i h=>by
  have:=zy7 s.data.toList i h
  rwa [zVu] at this
 have HBT:=zx.mk hbt
 clear hbt
 generalize s.data.toList = l at h0 hlen HBT
 have HX:=zx.mk (lW s)
 go_enter Tryz.func137,Tryz.ntmps137
 go_wp2
 go_loopw [3] (fun y W=>∃ i:Nat,y = .int .i64 (i:Int) ∧ i ≤ s.size ∧ W = w ∧ zx ((WJ (l.drop i) i && (decide (1 ≤ l.length) && decide (l.length ≤ 10))) = V)) (fun y _=>s.size - (intOf y).toNat)
 case atStart=>exact ⟨0,rfl,Nat.zero_le _,rfl,⟨by rw [List.drop_zero];exact h0⟩⟩
 case round =>
  clear h0
  obtain ⟨i,rfl,hi,rfl,HV⟩:=hrel
  by_cases hlt:i < s.size
  ·have h1:i < l.length:=by omega
   have hn:=HBT.out i h1
   have hv:=HV.out
   rw [List.drop_eq_getElem_cons h1,WJ] at hv
   generalize l[i] = b at hn hv
   have hx:=HX.out (i:Int)
   have hx0:(0:Int) ≤ bt s (i:Int):=by omega
   rw [Int.toNat_natCast] at hx
   generalize bt s (i:Int) = n at hn hx hx0
   have p1:((i:Int) < (s.size:Int)) = True:=eq_true (by omega)
   have p0:((0:Int) ≤ (i:Int)) = True:=eq_true (by omega)
   have p3:i < s.size:=hlt
   have uP:=zx.mk hv
   have HN:=zx.mk hn
   clear hv HV HBT HX hn
   have hc:(97 ≤ n ∧ n ≤ 122) ∨ 122 < n ∨ (91 ≤ n ∧ n ≤ 96) ∨ (65 ≤ n ∧ n ≤ 90) ∨ (58 ≤ n ∧ n ≤ 64) ∨ (48 ≤ n ∧ n ≤ 57) ∨ n < 48:=by omega
   rcases hc with hc | hc | hc | hc | hc | hc | hc
   ·have d0:decide (97 ≤ n) = true:=decide_eq_true (by omega)
    have d1:decide (n ≤ 122) = true:=decide_eq_true (by omega)
    have d2:decide (65 ≤ n) = true:=decide_eq_true (by omega)
    have d3:decide (n ≤ 90) = false:=decide_eq_false (by omega)
    have d4:decide (n < 48) = false:=decide_eq_false (by omega)
    have d5:decide (57 < n) = true:=decide_eq_true (by omega)
    have e1:wV b = true:=by have:=HN.out;unfold wV;first | (rw [decide_eq_true (by omega:97 ≤ b.toNat),decide_eq_true (by omega:b.toNat ≤ 122)];rfl) | (rw [decide_eq_true (by omega:65 ≤ b.toNat),decide_eq_true (by omega:b.toNat ≤ 90),Bool.and_true,Bool.or_true])
    have hv2:=uP.out
    rw [e1,Bool.true_or,Bool.true_and] at hv2
    clear hc
    go_wp2
    go_roundw
    case rel=>exact ⟨i + 1,by first | rfl | (simp;done) | go_num,by omega,by first | rfl | trivial,⟨hv2⟩⟩
    case measure=>simp [intOf];omega
   ·have d0:decide (97 ≤ n) = true:=decide_eq_true (by omega)
    have d1:decide (n ≤ 122) = false:=decide_eq_false (by omega)
    have d2:decide (65 ≤ n) = true:=decide_eq_true (by omega)
    have d3:decide (n ≤ 90) = false:=decide_eq_false (by omega)
    have d4:decide (n < 48) = false:=decide_eq_false (by omega)
    have d5:decide (57 < n) = true:=decide_eq_true (by omega)
    have e1:wV b = false:=by have:=HN.out;unfold wV;simp only [Bool.or_eq_false_iff,Bool.and_eq_false_iff,decide_eq_false_iff_not];omega
    have e2:Yo b = false:=by have:=HN.out;unfold Yo;simp only [Bool.and_eq_false_iff,decide_eq_false_iff_not];omega
    by_cases hi0:i = 0
    ·have d9:decide ((i:Int) = 0) = true:=decide_eq_true (by omega)
     have d8:((i:Int) == 0) = true:=beq_iff_eq.2 (by omega)
     have hv2:false = V:=by rw [← uP.out,e1,decide_eq_false (by omega:¬ i ≠ 0)];rfl
     subst hv2
     clear hc
     try clear hi0
     try clear d9
     go_wp2
     go_ret
     exact ⟨rfl,yc.refl _⟩
    ·have d9:decide ((i:Int) = 0) = false:=decide_eq_false (by omega)
     have d8:((i:Int) == 0) = false:=beq_eq_false_iff_ne.2 (by omega)
     have hv2:false = V:=by rw [← uP.out,e1,e2,Bool.and_false];rfl
     subst hv2
     clear hc
     try clear hi0
     try clear d9
     go_wp2
     go_ret
     exact ⟨rfl,yc.refl _⟩
   ·have d0:decide (97 ≤ n) = false:=decide_eq_false (by omega)
    have d1:decide (n ≤ 122) = true:=decide_eq_true (by omega)
    have d2:decide (65 ≤ n) = true:=decide_eq_true (by omega)
    have d3:decide (n ≤ 90) = false:=decide_eq_false (by omega)
    have d4:decide (n < 48) = false:=decide_eq_false (by omega)
    have d5:decide (57 < n) = true:=decide_eq_true (by omega)
    have e1:wV b = false:=by have:=HN.out;unfold wV;simp only [Bool.or_eq_false_iff,Bool.and_eq_false_iff,decide_eq_false_iff_not];omega
    have e2:Yo b = false:=by have:=HN.out;unfold Yo;simp only [Bool.and_eq_false_iff,decide_eq_false_iff_not];omega
    by_cases hi0:i = 0
    ·have d9:decide ((i:Int) = 0) = true:=decide_eq_true (by omega)
     have d8:((i:Int) == 0) = true:=beq_iff_eq.2 (by omega)
     have hv2:false = V:=by rw [← uP.out,e1,decide_eq_false (by omega:¬ i ≠ 0)];rfl
     subst hv2
     clear hc
     try clear hi0
     try clear d9
     go_wp2
     go_ret
     exact ⟨rfl,yc.refl _⟩
    ·have d9:decide ((i:Int) = 0) = false:=decide_eq_false (by omega)
     have d8:((i:Int) == 0) = false:=beq_eq_false_iff_ne.2 (by omega)
     have hv2:false = V:=by rw [← uP.out,e1,e2,Bool.and_false];rfl
     subst hv2
     clear hc
     try clear hi0
     try clear d9
     go_wp2
     go_ret
     exact ⟨rfl,yc.refl _⟩
   ·have d0:decide (97 ≤ n) = false:=decide_eq_false (by omega)
    have d1:decide (n ≤ 122) = true:=decide_eq_true (by omega)
    have d2:decide (65 ≤ n) = true:=decide_eq_true (by omega)
    have d3:decide (n ≤ 90) = true:=decide_eq_true (by omega)
    have d4:decide (n < 48) = false:=decide_eq_false (by omega)
    have d5:decide (57 < n) = true:=decide_eq_true (by omega)
    have e1:wV b = true:=by have:=HN.out;unfold wV;first | (rw [decide_eq_true (by omega:97 ≤ b.toNat),decide_eq_true (by omega:b.toNat ≤ 122)];rfl) | (rw [decide_eq_true (by omega:65 ≤ b.toNat),decide_eq_true (by omega:b.toNat ≤ 90),Bool.and_true,Bool.or_true])
    have hv2:=uP.out
    rw [e1,Bool.true_or,Bool.true_and] at hv2
    clear hc
    go_wp2
    go_roundw
    case rel=>exact ⟨i + 1,by first | rfl | (simp;done) | go_num,by omega,by first | rfl | trivial,⟨hv2⟩⟩
    case measure=>simp [intOf];omega
   ·have d0:decide (97 ≤ n) = false:=decide_eq_false (by omega)
    have d1:decide (n ≤ 122) = true:=decide_eq_true (by omega)
    have d2:decide (65 ≤ n) = false:=decide_eq_false (by omega)
    have d3:decide (n ≤ 90) = true:=decide_eq_true (by omega)
    have d4:decide (n < 48) = false:=decide_eq_false (by omega)
    have d5:decide (57 < n) = true:=decide_eq_true (by omega)
    have e1:wV b = false:=by have:=HN.out;unfold wV;simp only [Bool.or_eq_false_iff,Bool.and_eq_false_iff,decide_eq_false_iff_not];omega
    have e2:Yo b = false:=by have:=HN.out;unfold Yo;simp only [Bool.and_eq_false_iff,decide_eq_false_iff_not];omega
    by_cases hi0:i = 0
    ·have d9:decide ((i:Int) = 0) = true:=decide_eq_true (by omega)
     have d8:((i:Int) == 0) = true:=beq_iff_eq.2 (by omega)
     have hv2:false = V:=by rw [← uP.out,e1,decide_eq_false (by omega:¬ i ≠ 0)];rfl
     subst hv2
     clear hc
     try clear hi0
     try clear d9
     go_wp2
     go_ret
     exact ⟨rfl,yc.refl _⟩
    ·have d9:decide ((i:Int) = 0) = false:=decide_eq_false (by omega)
     have d8:((i:Int) == 0) = false:=beq_eq_false_iff_ne.2 (by omega)
     have hv2:false = V:=by rw [← uP.out,e1,e2,Bool.and_false];rfl
     subst hv2
     clear hc
     try clear hi0
     try clear d9
     go_wp2
     go_ret
     exact ⟨rfl,yc.refl _⟩
   ·have d0:decide (97 ≤ n) = false:=decide_eq_false (by omega)
    have d1:decide (n ≤ 122) = true:=decide_eq_true (by omega)
    have d2:decide (65 ≤ n) = false:=decide_eq_false (by omega)
    have d3:decide (n ≤ 90) = true:=decide_eq_true (by omega)
    have d4:decide (n < 48) = false:=decide_eq_false (by omega)
    have d5:decide (57 < n) = false:=decide_eq_false (by omega)
    have e1:wV b = false:=by have:=HN.out;unfold wV;simp only [Bool.or_eq_false_iff,Bool.and_eq_false_iff,decide_eq_false_iff_not];omega
    have e2:Yo b = true:=by have:=HN.out;unfold Yo;rw [decide_eq_true (by omega:48 ≤ b.toNat),decide_eq_true (by omega:b.toNat ≤ 57)];rfl
    by_cases hi0:i = 0
    ·have d9:decide ((i:Int) = 0) = true:=decide_eq_true (by omega)
     have d8:((i:Int) == 0) = true:=beq_iff_eq.2 (by omega)
     have hv2:false = V:=by rw [← uP.out,e1,decide_eq_false (by omega:¬ i ≠ 0)];rfl
     subst hv2
     clear hc
     try clear hi0
     try clear d9
     go_wp2
     go_ret
     exact ⟨rfl,yc.refl _⟩
    ·have d9:decide ((i:Int) = 0) = false:=decide_eq_false (by omega)
     have d8:((i:Int) == 0) = false:=beq_eq_false_iff_ne.2 (by omega)
     have hv2:=uP.out
     rw [e1,e2,decide_eq_true (by omega:i ≠ 0),Bool.true_and,Bool.or_true,Bool.true_and] at hv2
     clear hc
     go_wp2
     go_roundw
     case rel=>exact ⟨i + 1,by first | rfl | (simp;done) | go_num,by omega,by first | rfl | trivial,⟨hv2⟩⟩
     case measure=>simp [intOf];omega
   ·have d0:decide (97 ≤ n) = false:=decide_eq_false (by omega)
    have d1:decide (n ≤ 122) = true:=decide_eq_true (by omega)
    have d2:decide (65 ≤ n) = false:=decide_eq_false (by omega)
    have d3:decide (n ≤ 90) = true:=decide_eq_true (by omega)
    have d4:decide (n < 48) = true:=decide_eq_true (by omega)
    have d5:decide (57 < n) = false:=decide_eq_false (by omega)
    have e1:wV b = false:=by have:=HN.out;unfold wV;simp only [Bool.or_eq_false_iff,Bool.and_eq_false_iff,decide_eq_false_iff_not];omega
    have e2:Yo b = false:=by have:=HN.out;unfold Yo;simp only [Bool.and_eq_false_iff,decide_eq_false_iff_not];omega
    by_cases hi0:i = 0
    ·have d9:decide ((i:Int) = 0) = true:=decide_eq_true (by omega)
     have d8:((i:Int) == 0) = true:=beq_iff_eq.2 (by omega)
     have hv2:false = V:=by rw [← uP.out,e1,decide_eq_false (by omega:¬ i ≠ 0)];rfl
     subst hv2
     clear hc
     try clear hi0
     try clear d9
     go_wp2
     go_ret
     exact ⟨rfl,yc.refl _⟩
    ·have d9:decide ((i:Int) = 0) = false:=decide_eq_false (by omega)
     have d8:((i:Int) == 0) = false:=beq_eq_false_iff_ne.2 (by omega)
     have hv2:false = V:=by rw [← uP.out,e1,e2,Bool.and_false];rfl
     subst hv2
     clear hc
     try clear hi0
     try clear d9
     go_wp2
     go_ret
     exact ⟨rfl,yc.refl _⟩
  ·obtain rfl:i = s.size:=by omega
   have hv:=HV.out
   rw [List.drop_eq_nil_of_le (by omega),WJ,Bool.true_and,hlen] at hv
   have q2:decide ((s.size:Int) < (s.size:Int)) = false:=decide_eq_false (by omega)
   by_cases g1:1 ≤ s.size
   ·have d1:decide ((1:Int) ≤ (s.size:Int)) = true:=decide_eq_true (by omega)
    have hv2:decide ((s.size:Int) ≤ 10) = V:=by rw [← hv,decide_eq_true g1,Bool.true_and];exact decide_eq_decide.2 (by omega)
    clear hv HV HBT HX
    go_wp2
    go_ret
    exact ⟨by first | (rw [← hv2];done) | (rw [hv2];done) | (simp [hv2];done),yc.refl _⟩
   ·have d1:decide ((1:Int) ≤ (s.size:Int)) = false:=decide_eq_false (by omega)
    have hv2:false = V:=by rw [← hv,decide_eq_false g1];rfl
    subst hv2
    clear hv HV HBT HX
    go_wp2
    go_ret
    exact ⟨rfl,yc.refl _⟩
end Go.Proofs.YtggifbbiiickmaaGreatDoor
namespace Go.Proofs.YtggifbbiiickmaaGreatDoor
open Go.RowKit Go.Proofs.zk.za Go.Proofs.zk.zR Go.Proofs.YtggifbbiiickmaaGreatDoor.PX
set_option linter.unusedSimpArgs false
set_option linter.unusedVariables false
theorem zfm (l:List UInt8) (hl:l.length ≤ 140737488355328):∀ d i,l.length - i = d → i ≤ l.length → Ev (fun k=>xq.l0 k (bar l) (i:Int)) ((l.drop i).all okB && (decide (1 ≤ l.length) && decide (l.length ≤ 10))):=by
 intro d
 induction d with
 | zero =>
  intro i hd hi
  have e:l.drop i = []:=List.drop_eq_nil_of_le (by omega)
  rw [e]
  refine Ev.step (fun k=>by rw [xq.l0,zzi]) (vw (by omega) ?_)
  by_cases h:1 ≤ l.length
  ·refine yB (by omega) (Xv ?_ (Ev.now _))
   rw [List.all_nil,decide_eq_true h,Bool.true_and,Bool.true_and]
   exact decide_eq_decide.2 (by omega)
  ·refine vw (by omega) (Xv ?_ (Ev.now _))
   rw [List.all_nil,decide_eq_false h];rfl
 | succ d ih =>
  intro i hd hi
  have h1:i < l.length:=by omega
  have q0:(0:Int) ≤ (i:Int):=by omega
  have q1:(i:Int) < (l.length:Int):=by omega
  have hw:wrap64 ((i:Int) + 1) = ((i + 1:Nat):Int):=(jA (by omega) (by omega)).trans (by omega)
  have hr:=ih (i + 1) (by omega) (by omega)
  have hb:=zy7 l i h1
  rw [List.drop_eq_getElem_cons h1,List.all_cons]
  refine Ev.step (fun k=>by rw [xq.l0,zzi,hb,hw]) (yB q1 (yB q0 ?_))
  clear hb hw
  generalize l[i] = b at *
  by_cases a1:b.toNat < 33
  ·refine yB (by omega) (Xv ?_ (Ev.now _))
   have:okB b = false:=by unfold okB;rw [decide_eq_false (by omega:¬ 33 ≤ b.toNat)];rfl
   rw [this];rfl
  ·refine vw (by omega) ?_
   by_cases a2:126 < b.toNat
   ·refine yB (by omega) (Xv ?_ (Ev.now _))
    have:okB b = false:=by unfold okB;rw [decide_eq_false (by omega:¬ b.toNat ≤ 126),Bool.and_false]
    rw [this];rfl
   ·refine vw (by omega) (Xv ?_ hr)
    have:okB b = true:=by unfold okB;rw [decide_eq_true (by omega:33 ≤ b.toNat),decide_eq_true (by omega:b.toNat ≤ 126)];rfl
    rw [this,Bool.true_and]
theorem zaT (l:List UInt8) (hl:l.length ≤ 140737488355328):Ev (fun k=>xq.f k (bar l)) (pW l):=by
 have h1:Ev (fun k=>xq.l0 k (bar l) 0) _:=zfm l hl _ 0 rfl (Nat.zero_le _)
 refine Ev.congr (fun k=>by rw [xq.f]) (Xv ?_ h1)
 rw [List.drop_zero]
 unfold pW
 rw [Bool.and_comm,Bool.and_assoc]
theorem zVF (s:ByteArray) (hs:s.size ≤ 140737488355328) (W:World):Calls Tryz.prog 138 #[.string s] W fun e w'=>e = .returned (.bool (pW s.data.toList)) ∧ yc W w':=by
 obtain ⟨k,hk⟩:=(zaT s.data.toList (by rw [Array.length_toList];exact hs)).rounds
 rw [zVu] at hk
 exact xq.calls k s _ W hk
end Go.Proofs.YtggifbbiiickmaaGreatDoor
namespace Go.Proofs.YtggifbbiiickmaaGreatDoor.PX
open Go.RowKit Go.Proofs.zk.za Go.Proofs.zk.zS Go.Proofs.zk.zR
attribute [local go_sem] qD qE xJ xV qc qd qF qG   -- for this text's walks alone
set_option linter.unusedVariables false
set_option linter.unusedSimpArgs false
def xK.l0:Nat → ByteArray → Int → ByteArray → Bool → Int → List (uF) → List (uU) → List (jJ) → Option (Bool)
 | 0,_,_,_,_,_,_,_,_=>none
 | k + 1,x1,x5,zaU,za0,za1,zxW,za2,za3=>if x5 < (zxW.length:Int) then (if 0 ≤ x5 then (if ((xQ zxW x5).f0).toList = x1.toList then (some true) else (xK.l0 k x1 (wrap64 (x5 + 1)) zaU za0 za1 zxW za2 za3)) else (none)) else (some false)
def xK.f (k:Nat) (zF:ByteArray) (zG:Bool) (zB:Int) (zn:List (uF)) (zN:List (uU)) (zO:List (jJ)) (a1:ByteArray):Option (Bool):=xK.l0 k a1 0 zF zG zB zn zN zO
set_option maxHeartbeats 8000000 in
set_option maxRecDepth 100000 in
theorem xK.calls (k:Nat) (zF:ByteArray) (zG:Bool) (zB:Int) (yM:Option Addr) (yN:Nat) (zn:List (uF)) (yP:Option Addr) (yR:Nat) (zN:List (uU)) (yS:Option Addr) (yT:Nat) (zO:List (jJ)) (a1:ByteArray) (r:Bool) (w:World) (jV:Kd.C Xj w yM zn.length zn) (kG:zn.length ≤ yN) (kH:Kd.C Xc w yP zN.length zN) (kI:zN.length ≤ yR) (kL:Kd.C QZ w yS zO.length zO) (kM:zO.length ≤ yT) (h:xK.f k zF zG zB zn zN zO a1 = some r) :
  Calls Tryz.prog 139 #[.agg #[.string zF,.bool zG,.int .i64 zB,.slice yM zn.length yN,.slice yP zN.length yR,.slice yS zO.length yT],.string a1] w fun e w'=>e = .returned (.bool r) ∧ Below w.heap.size w w':=by
 have lI:=Tryz.underlying101
 have jD:=zx.mk jV
 have wD:=zx.mk kG
 clear jV kG
 have wE:=zx.mk kH
 have wF:=zx.mk kI
 clear kH kI
 have wG:=zx.mk kL
 have wH:=zx.mk kM
 clear kL kM
 have HB:=zx.mk (Below.refl w.heap.size w)
 have H:(xK.l0 k a1 0 zF zG zB zn zN zO) = some r:=h
 clear h
 have H':=zx.mk H
 clear H
 go_enter Tryz.func139,Tryz.ntmps139
 go_wp2_with (first | ((with_reducible refine qQ (N:=2) rfl ?_);refine qC ?hg (N:=2) ?hd (cs:=#[.string zF,.bool zG,.int .i64 zB,.slice yM zn.length yN,.slice yP zN.length yR,.slice yS zO.length yT]) (t:=101) ?hr ?_;(case hd=>rfl);(case hg=>rfl);(case hr=>first | (go_simp;done) | (go_simp;rfl));intro wU hg w3 qo hb;have ze:=zx.mk (zu (zD HB.out) hb);have zi:=zx.mk (qo);have zo:=zx.mk ((by rw [hg];exact (zm (zD HB.out)):w.heap.size ≤ wU));have zT:=zx.mk ((by rw [hg];exact (zm (zD HB.out)):w.heap.size ≤ wU));clear HB;have HB:=ze;have uw:=zi;have ztD:=zo;have zWL:=zT;clear ze zi zo zT;clear hb qo hg))
 go_loopg [5] k (fun kq v5 w'=>∃ (zU:Int),v5 = .int .i64 zU ∧ zx (xK.l0 kq a1 zU zF zG zB zn zN zO = some r) ∧ zx (kq ≤ k) ∧ zx (w'.heap[wU]? = some (.cells #[.string zF,.bool zG,.int .i64 zB,(.slice yM zn.length yN),(.slice yP zN.length yR),(.slice yS zO.length yT)] 101 (0,0))) ∧ zx (Below w.heap.size w w'))
 case atStart=>exact ⟨(0),(by first | rfl | (simp;done) | (simp [*];done)),H',⟨Nat.le_refl _⟩,⟨qK uw.out⟩,⟨zD HB.out⟩⟩
 case round =>
  clear H'
  obtain ⟨zU,rfl,HA,wo,uw,HB⟩:=hrel
  cases gk with
  | zero=>exact absurd HA.out (by simp [xK.l0])
  | succ k1 =>
   have H:=HA.out
   clear HA
   simp only [xK.l0] at H
   by_cases c4:zU < (zn.length:Int)
   ·rw [if_pos c4] at H
    have QX:decide (zU < (zn.length:Int)) = true:=decide_eq_true c4
    clear c4
    by_cases c5:0 ≤ zU
    ·rw [if_pos c5] at H
     have wM:decide (0 ≤ zU) = true:=decide_eq_true c5
     clear c5
     by_cases c6:((xQ zn zU).f0).toList = a1.toList
     ·rw [if_pos c6] at H
      have kD:(((xQ zn zU).f0).toList == a1.toList) = true:=beq_iff_eq.mpr c6
      have gq:(((xQ zn zU).f0).toList != a1.toList) = false:=bne_eq_false_iff_eq.mpr c6
      clear c6
      obtain rfl:=Option.some.inj H
      have zkm:wr.cell? ⟨wU,0,none⟩ = some (.string zF):=zK uw 0
      have zVG:wr.cell? ⟨wU,1,none⟩ = some (.bool zG):=zK uw 1
      have zVH:wr.cell? ⟨wU,2,none⟩ = some (.int .i64 zB):=zK uw 2
      have zVI:wr.cell? ⟨wU,3,none⟩ = some (.slice yM zn.length yN):=zK uw 3
      have zVL:wr.cell? ⟨wU,4,none⟩ = some (.slice yP zN.length yR):=zK uw 4
      have zVM:wr.cell? ⟨wU,5,none⟩ = some (.slice yS zO.length yT):=zK uw 5
      have zkn:=zw uw.out 0
      have zVN:=zw uw.out 1
      have zVO:=zw uw.out 2
      have zVP:=zw uw.out 3
      have zVR:=zw uw.out 4
      have zVS:=zw uw.out 5
      have zzl:0 ≤ (zU:Int):=of_decide_eq_true yH
      have zzm:zU < (zn.length:Int):=of_decide_eq_true yH
      obtain ⟨zfn,e166,Jc,Jd⟩:=Jb jD.out zU zzl zzm
      cases e166
      replace Jc:=(HB.out.cell (World.block_lt_of_cell? w _ Jc)).trans Jc
      replace Jd:=(HB.out.cell (World.block_lt_of_cell? w _ Jd)).trans Jd
      replace zzl:=eq_true zzl
      replace zzm:=eq_true zzm
      go_wp2
      go_ret
      exact ⟨by first | rfl | (simp [zH,zI] <;> rfl) | (simp [*,zH,zI] <;> rfl),by repeat (first | (with_reducible first | exact HB.out | apply yJ | apply zC | apply yY | refine qm ?_ zWL.out) | exact HB.out)⟩
     ·rw [if_neg c6] at H
      have kD:(((xQ zn zU).f0).toList == a1.toList) = false:=beq_eq_false_iff_ne.mpr c6
      have gq:(((xQ zn zU).f0).toList != a1.toList) = true:=bne_iff_ne.mpr c6
      have H':=zx.mk H
      clear H
      have zko:wr.cell? ⟨wU,0,none⟩ = some (.string zF):=zK uw 0
      have zsY:wr.cell? ⟨wU,1,none⟩ = some (.bool zG):=zK uw 1
      have zsW:wr.cell? ⟨wU,2,none⟩ = some (.int .i64 zB):=zK uw 2
      have zsa:wr.cell? ⟨wU,3,none⟩ = some (.slice yM zn.length yN):=zK uw 3
      have zsb:wr.cell? ⟨wU,4,none⟩ = some (.slice yP zN.length yR):=zK uw 4
      have zsc:wr.cell? ⟨wU,5,none⟩ = some (.slice yS zO.length yT):=zK uw 5
      have zkp:=zw uw.out 0
      have zsd:=zw uw.out 1
      have zse:=zw uw.out 2
      have zsf:=zw uw.out 3
      have zsg:=zw uw.out 4
      have zsh:=zw uw.out 5
      have zzl:0 ≤ (zU:Int):=of_decide_eq_true yH
      have zzm:zU < (zn.length:Int):=of_decide_eq_true yH
      obtain ⟨zfn,e166,Jc,Jd⟩:=Jb jD.out zU zzl zzm
      cases e166
      replace Jc:=(HB.out.cell (World.block_lt_of_cell? w _ Jc)).trans Jc
      replace Jd:=(HB.out.cell (World.block_lt_of_cell? w _ Jd)).trans Jd
      replace zzl:=eq_true zzl
      replace zzm:=eq_true zzm
      go_wp2
      go_roundg k1
      case measure=>have:=wo.out;omega
      case rel=>exact ⟨(wrap64 (zU + 1)),(by first | rfl | (simp;done) | (simp [*];done)),H',⟨by have:=wo.out;omega⟩,⟨qK uw.out⟩,⟨zD HB.out⟩⟩
    ·rw [if_neg c5] at H
     exact absurd H (by simp)
   ·rw [if_neg c4] at H
    have QX:decide (zU < (zn.length:Int)) = false:=decide_eq_false c4
    clear c4
    obtain rfl:=Option.some.inj H
    have fO:wr.cell? ⟨wU,0,none⟩ = some (.string zF):=zK uw 0
    have fP:wr.cell? ⟨wU,1,none⟩ = some (.bool zG):=zK uw 1
    have fT:wr.cell? ⟨wU,2,none⟩ = some (.int .i64 zB):=zK uw 2
    have fU:wr.cell? ⟨wU,3,none⟩ = some (.slice yM zn.length yN):=zK uw 3
    have eZ:wr.cell? ⟨wU,4,none⟩ = some (.slice yP zN.length yR):=zK uw 4
    have eX:wr.cell? ⟨wU,5,none⟩ = some (.slice yS zO.length yT):=zK uw 5
    have eY:=zw uw.out 0
    have eB:=zw uw.out 1
    have eD:=zw uw.out 2
    have eF:=zw uw.out 3
    have eG:=zw uw.out 4
    have eH:=zw uw.out 5
    go_wp2
    go_ret
    exact ⟨by first | rfl | (simp [zH,zI] <;> rfl) | (simp [*,zH,zI] <;> rfl),by repeat (first | (with_reducible first | exact HB.out | apply yJ | apply zC | apply yY | refine qm ?_ zWL.out) | exact HB.out)⟩
end Go.Proofs.YtggifbbiiickmaaGreatDoor.PX
namespace Go.Proofs.YtggifbbiiickmaaGreatDoor.PX
open Go.RowKit Go.Proofs.zk.za Go.Proofs.zk.zS Go.Proofs.zk.zR
attribute [local go_sem] qD qE xJ xV qc qd qF qG   -- for this text's walks alone
set_option linter.unusedVariables false
set_option linter.unusedSimpArgs false
def Zo.f (a0:ByteArray) (a1:ByteArray) (a2:ByteArray) (a3:ByteArray):Option (Bool):=if (Op.bytesLess a0.toList a2.toList) = true then (some true) else (if a0.toList = a2.toList then (some (Op.bytesLess a1.toList a3.toList)) else (some false))
set_option maxHeartbeats 8000000 in
set_option maxRecDepth 100000 in
theorem Zo.calls (a0:ByteArray) (a1:ByteArray) (a2:ByteArray) (a3:ByteArray) (r:Bool) (w:World) (h:Zo.f a0 a1 a2 a3 = some r) :
  Calls Tryz.prog 140 #[.string a0,.string a1,.string a2,.string a3] w fun e w'=>e = .returned (.bool r) ∧ yc w w':=by
 have H:(if (Op.bytesLess a0.toList a2.toList) = true then (some true) else (if a0.toList = a2.toList then (some (Op.bytesLess a1.toList a3.toList)) else (some false))) = some r:=h
 clear h
 by_cases c5:(Op.bytesLess a0.toList a2.toList) = true
 ·rw [if_pos c5] at H
  have wM:(Op.bytesLess a0.toList a2.toList) = true:=c5
  have zh4:(!(Op.bytesLess a2.toList a0.toList || a2.toList == a0.toList)) = true:=(Pq _ _).trans (c5)
  have zh5:(a0.toList == a2.toList) = false:=zX1 (c5)
  have zh6:(a2.toList == a0.toList) = false:=zkh (c5)
  have zut:Op.bytesLess a2.toList a0.toList = false:=zxY (c5)
  clear c5
  obtain rfl:=Option.some.inj H
  go_enter Tryz.func140,Tryz.ntmps140
  go_wp2
  go_ret
  exact ⟨by first | rfl | (simp;done) | (simp [*];done),by repeat (first | exact yc.refl _ | apply yc.step)⟩
 ·rw [if_neg c5] at H
  have wM:(Op.bytesLess a0.toList a2.toList) = false:=by simpa using c5
  have zh4:(!(Op.bytesLess a2.toList a0.toList || a2.toList == a0.toList)) = false:=(Pq _ _).trans (by simpa using c5)
  try have zh5:(a0.toList == a2.toList) = true:=lH (x:=a0.toList) (y:=a2.toList) (by assumption) (by assumption)
  try have zh6:(a2.toList == a0.toList) = true:=lH (x:=a2.toList) (y:=a0.toList) (by assumption) (by assumption)
  clear c5
  by_cases c6:a0.toList = a2.toList
  ·rw [if_pos c6] at H
   have kD:(a0.toList == a2.toList) = true:=beq_iff_eq.mpr c6
   have gq:(a0.toList != a2.toList) = false:=bne_eq_false_iff_eq.mpr c6
   clear c6
   obtain rfl:=Option.some.inj H
   go_enter Tryz.func140,Tryz.ntmps140
   go_wp2
   go_ret
   exact ⟨by first | rfl | (simp;done) | (simp [*];done),by repeat (first | exact yc.refl _ | apply yc.step)⟩
  ·rw [if_neg c6] at H
   have kD:(a0.toList == a2.toList) = false:=beq_eq_false_iff_ne.mpr c6
   have gq:(a0.toList != a2.toList) = true:=bne_iff_ne.mpr c6
   obtain rfl:=Option.some.inj H
   go_enter Tryz.func140,Tryz.ntmps140
   go_wp2
   go_ret
   exact ⟨by first | rfl | (simp;done) | (simp [*];done),by repeat (first | exact yc.refl _ | apply yc.step)⟩
end Go.Proofs.YtggifbbiiickmaaGreatDoor.PX
namespace Go.Proofs.YtggifbbiiickmaaGreatDoor.PX
open Go.RowKit Go.Proofs.zk.za Go.Proofs.zk.zS Go.Proofs.zk.zR
attribute [local go_sem] qD qE xJ xV qc qd qF qG   -- for this text's walks alone
set_option linter.unusedVariables false
set_option linter.unusedSimpArgs false
def Xr.f  : Option ((List (qb))):=some (([(⟨(⟨#[102]⟩:ByteArray),(⟨#[102]⟩:ByteArray),(⟨#[102,102]⟩:ByteArray)⟩:qb),(⟨(⟨#[102]⟩:ByteArray),(⟨#[105]⟩:ByteArray),(⟨#[102,105]⟩:ByteArray)⟩:qb),(⟨(⟨#[102]⟩:ByteArray),(⟨#[108]⟩:ByteArray),(⟨#[102,108]⟩:ByteArray)⟩:qb)]:List (qb)))
set_option maxHeartbeats 8000000 in
set_option maxRecDepth 100000 in
theorem Xr.calls  (r:List (qb)) (w:World) (h:Xr.f  = some r) :
  Calls Tryz.prog 56 #[] w fun e w'=>∃ Q8:Value,e = .returned (Q8) ∧ Kd.R jX 108 w' w.heap.size (fun _=>True) Q8 r ∧ Below w.heap.size w w':=by
 have ztE:=Tryz.underlying108
 have HB:=zx.mk (Below.refl w.heap.size w)
 have H:(some (([(⟨(⟨#[102]⟩:ByteArray),(⟨#[102]⟩:ByteArray),(⟨#[102,102]⟩:ByteArray)⟩:qb),(⟨(⟨#[102]⟩:ByteArray),(⟨#[105]⟩:ByteArray),(⟨#[102,105]⟩:ByteArray)⟩:qb),(⟨(⟨#[102]⟩:ByteArray),(⟨#[108]⟩:ByteArray),(⟨#[102,108]⟩:ByteArray)⟩:qb)]:List (qb)))) = some r:=h
 clear h
 obtain ⟨zh7,zql⟩:∃ y_:List (qb),y_ = (([(⟨(⟨#[102]⟩:ByteArray),(⟨#[102]⟩:ByteArray),(⟨#[102,102]⟩:ByteArray)⟩:qb),(⟨(⟨#[102]⟩:ByteArray),(⟨#[105]⟩:ByteArray),(⟨#[102,105]⟩:ByteArray)⟩:qb),(⟨(⟨#[102]⟩:ByteArray),(⟨#[108]⟩:ByteArray),(⟨#[102,108]⟩:ByteArray)⟩:qb)]:List (qb))):=⟨_,rfl⟩
 replace H:(some zh7) = some r:=by first | (rw [zql];with_reducible exact H) | (have uh:=(Option.bind_some _ _).symm.trans H;rw [zql];with_reducible exact uh) | (have uh:=(Option.bind_some _ _).symm.trans H;with_reducible exact uh) | with_reducible exact H | (rw [zql];exact H) | exact H
 have zWM:=zx.mk zql
 clear zql
 obtain rfl:=Option.some.inj H
 go_enter Tryz.func56,Tryz.ntmps56
 go_wp2_with (first | ((with_reducible refine qQ (N:=4) rfl ?_);refine Kd.U8 jX _ 108 ?hg (N:=4) ?hd (xs:=([(⟨(⟨#[102]⟩:ByteArray),(⟨#[102]⟩:ByteArray),(⟨#[102,102]⟩:ByteArray)⟩:qb),(⟨(⟨#[102]⟩:ByteArray),(⟨#[105]⟩:ByteArray),(⟨#[102,105]⟩:ByteArray)⟩:qb),(⟨(⟨#[102]⟩:ByteArray),(⟨#[108]⟩:ByteArray),(⟨#[102,108]⟩:ByteArray)⟩:qb)]:List (qb))) (inner:=[.string (⟨#[102]⟩:ByteArray),.string (⟨#[102]⟩:ByteArray),.string (⟨#[102,102]⟩:ByteArray),.string (⟨#[102]⟩:ByteArray),.string (⟨#[105]⟩:ByteArray),.string (⟨#[102,105]⟩:ByteArray),.string (⟨#[102]⟩:ByteArray),.string (⟨#[108]⟩:ByteArray),.string (⟨#[102,108]⟩:ByteArray)]) (ok:=fun _=>True) (vR:=fun _=>True) ?hr ?hp (fun _ hk=>hk) trivial (Below.refl _ _) (Nat.le_refl _) (by simp) ?_;(case hd=>rfl);(case hg=>rfl);(case hr=>first | (go_simp;done) | (go_simp;rfl));(case hp=>exact (qY.c3 (show Kd.M jX _ _ _ (⟨(⟨#[102]⟩:ByteArray),(⟨#[102]⟩:ByteArray),(⟨#[102,102]⟩:ByteArray)⟩:qb) [.string (⟨#[102]⟩:ByteArray),.string (⟨#[102]⟩:ByteArray),.string (⟨#[102,102]⟩:ByteArray)] from (zzh _ _ _ (⟨(⟨#[102]⟩:ByteArray),(⟨#[102]⟩:ByteArray),(⟨#[102,102]⟩:ByteArray)⟩:qb) )) (qY.c3 (show Kd.M jX _ _ _ (⟨(⟨#[102]⟩:ByteArray),(⟨#[105]⟩:ByteArray),(⟨#[102,105]⟩:ByteArray)⟩:qb) [.string (⟨#[102]⟩:ByteArray),.string (⟨#[105]⟩:ByteArray),.string (⟨#[102,105]⟩:ByteArray)] from (zzh _ _ _ (⟨(⟨#[102]⟩:ByteArray),(⟨#[105]⟩:ByteArray),(⟨#[102,105]⟩:ByteArray)⟩:qb) )) (qY.c3 (show Kd.M jX _ _ _ (⟨(⟨#[102]⟩:ByteArray),(⟨#[108]⟩:ByteArray),(⟨#[102,108]⟩:ByteArray)⟩:qb) [.string (⟨#[102]⟩:ByteArray),.string (⟨#[108]⟩:ByteArray),.string (⟨#[102,108]⟩:ByteArray)] from (zzh _ _ _ (⟨(⟨#[102]⟩:ByteArray),(⟨#[108]⟩:ByteArray),(⟨#[102,108]⟩:ByteArray)⟩:qb) )) (qY.none _ _)))));intro zuu w1 ho2 hb bX Yp;clear bX Yp;(first | rw [← zWM.out] at ho2 | (simp only [Int.reduceToNat] at ho2;rw [← zWM.out] at ho2));have ze:=zx.mk (Kd.uT ho2 (zm (zD HB.out)));have zi:=zx.mk (zu (zD HB.out) hb);clear HB;have zfo:=ze;have HB:=zi;clear ze zi;clear hb ho2))
 go_ret
 exact ⟨_,by first | rfl | (simp [zH,zI] <;> rfl) | (simp [*,zH,zI] <;> rfl),by (with_reducible repeat (first | apply Kd.QT | apply Kd.QU | apply Kd.Zz));exact zfo.out,by repeat (first | (with_reducible first | exact HB.out | apply yJ | apply zC | apply yY) | exact HB.out)⟩
def cmp_isNaN_string.f (a0:ByteArray):Option (Bool):=some (a0.toList != a0.toList)
set_option maxHeartbeats 8000000 in
set_option maxRecDepth 100000 in
theorem cmp_isNaN_string.calls (a0:ByteArray) (r:Bool) (w:World) (h:cmp_isNaN_string.f a0 = some r) :
  Calls Tryz.prog 132 #[.string a0] w fun e w'=>e = .returned (.bool r) ∧ yc w w':=by
 have H:(some (a0.toList != a0.toList)) = some r:=h
 clear h
 obtain rfl:=Option.some.inj H
 go_enter Tryz.func132,Tryz.ntmps132
 go_wp2
 go_ret
 exact ⟨by first | rfl | (simp;done) | (simp [*];done),by repeat (first | exact yc.refl _ | apply yc.step)⟩
def uY.f (a0:ByteArray) (a1:ByteArray):Option (Int):=(cmp_isNaN_string.f a0).bind fun zzn=>((cmp_isNaN_string.f a1).bind fun QB=>(if zzn = true then (if QB = true then (some 0) else (some (-1))) else (if QB = true then (some 1) else (if (Op.bytesLess a0.toList a1.toList) = true then (some (-1)) else (if (Op.bytesLess a1.toList a0.toList) = true then (some 1) else (some 0))))))
set_option maxHeartbeats 8000000 in
set_option maxRecDepth 100000 in
theorem uY.calls (a0:ByteArray) (a1:ByteArray) (r:Int) (w:World) (h:uY.f a0 a1 = some r) :
  Calls Tryz.prog 91 #[.string a0,.string a1] w fun e w'=>e = .returned (.int .i64 r) ∧ yc w w':=by
 have H:((cmp_isNaN_string.f a0).bind fun zzn=>((cmp_isNaN_string.f a1).bind fun QB=>(if zzn = true then (if QB = true then (some 0) else (some (-1))) else (if QB = true then (some 1) else (if (Op.bytesLess a0.toList a1.toList) = true then (some (-1)) else (if (Op.bytesLess a1.toList a0.toList) = true then (some 1) else (some 0))))))) = some r:=h
 clear h
 replace H:=Option.bind_eq_some_iff.mp H
 obtain ⟨zzn,eO,H⟩:=H
 replace H:((cmp_isNaN_string.f a1).bind fun QB=>(if zzn = true then (if QB = true then (some 0) else (some (-1))) else (if QB = true then (some 1) else (if (Op.bytesLess a0.toList a1.toList) = true then (some (-1)) else (if (Op.bytesLess a1.toList a0.toList) = true then (some 1) else (some 0)))))) = some r:=H
 have A3:=zx.mk eO
 clear eO
 replace H:=Option.bind_eq_some_iff.mp H
 obtain ⟨QB,A40,H⟩:=H
 replace H:(if zzn = true then (if QB = true then (some 0) else (some (-1))) else (if QB = true then (some 1) else (if (Op.bytesLess a0.toList a1.toList) = true then (some (-1)) else (if (Op.bytesLess a1.toList a0.toList) = true then (some 1) else (some 0))))) = some r:=H
 have A4:=zx.mk A40
 clear A40
 by_cases c5:zzn = true
 ·subst c5
  have H1:(if QB = true then (some 0) else (some (-1))) = some r:=by rw [if_pos rfl] at H;exact H
  clear H
  have H:=H1
  clear H1
  by_cases c6:QB = true
  ·subst c6
   have H1:(some 0) = some r:=by rw [if_pos rfl] at H;exact H
   clear H
   have H:=H1
   clear H1
   obtain rfl:=Option.some.inj H
   go_enter Tryz.func91,Tryz.ntmps91
   go_wp2_with (first | ((with_reducible refine yx (f:=132) rfl ?_);refine uD (some 8) Tryz.func132 #[.string a0] ?_;(with_reducible refine (cmp_isNaN_string.calls a0 true _ A3.out).mono ?_);rintro e w' ⟨rfl,⟨nd,rfl⟩⟩;refine ⟨_,rfl,?_⟩) | ((with_reducible refine yx (f:=132) rfl ?_);refine uD (some 10) Tryz.func132 #[.string a1] ?_;(with_reducible refine (cmp_isNaN_string.calls a1 true _ A4.out).mono ?_);rintro e w' ⟨rfl,⟨nd,rfl⟩⟩;refine ⟨_,rfl,?_⟩))
   go_ret
   exact ⟨by first | rfl | (simp;done) | (simp [*];done),by repeat (first | exact yc.refl _ | apply yc.step)⟩
  ·replace c6:=Bool.eq_false_iff.mpr c6
   subst c6
   have H1:(some (-1)) = some r:=by rw [if_neg (show ¬ (false = true) by decide)] at H;exact H
   clear H
   have H:=H1
   clear H1
   obtain rfl:=Option.some.inj H
   go_enter Tryz.func91,Tryz.ntmps91
   go_wp2_with (first | ((with_reducible refine yx (f:=132) rfl ?_);refine uD (some 8) Tryz.func132 #[.string a0] ?_;(with_reducible refine (cmp_isNaN_string.calls a0 true _ A3.out).mono ?_);rintro e w' ⟨rfl,⟨nd,rfl⟩⟩;refine ⟨_,rfl,?_⟩) | ((with_reducible refine yx (f:=132) rfl ?_);refine uD (some 10) Tryz.func132 #[.string a1] ?_;(with_reducible refine (cmp_isNaN_string.calls a1 false _ A4.out).mono ?_);rintro e w' ⟨rfl,⟨nd,rfl⟩⟩;refine ⟨_,rfl,?_⟩))
   go_ret
   exact ⟨by first | rfl | (simp;done) | (simp [*];done),by repeat (first | exact yc.refl _ | apply yc.step)⟩
 ·replace c5:=Bool.eq_false_iff.mpr c5
  subst c5
  have H1:(if QB = true then (some 1) else (if (Op.bytesLess a0.toList a1.toList) = true then (some (-1)) else (if (Op.bytesLess a1.toList a0.toList) = true then (some 1) else (some 0)))) = some r:=by rw [if_neg (show ¬ (false = true) by decide)] at H;exact H
  clear H
  have H:=H1
  clear H1
  by_cases c7:QB = true
  ·subst c7
   have H1:(some 1) = some r:=by rw [if_pos rfl] at H;exact H
   clear H
   have H:=H1
   clear H1
   obtain rfl:=Option.some.inj H
   go_enter Tryz.func91,Tryz.ntmps91
   go_wp2_with (first | ((with_reducible refine yx (f:=132) rfl ?_);refine uD (some 8) Tryz.func132 #[.string a0] ?_;(with_reducible refine (cmp_isNaN_string.calls a0 false _ A3.out).mono ?_);rintro e w' ⟨rfl,⟨nd,rfl⟩⟩;refine ⟨_,rfl,?_⟩) | ((with_reducible refine yx (f:=132) rfl ?_);refine uD (some 10) Tryz.func132 #[.string a1] ?_;(with_reducible refine (cmp_isNaN_string.calls a1 true _ A4.out).mono ?_);rintro e w' ⟨rfl,⟨nd,rfl⟩⟩;refine ⟨_,rfl,?_⟩))
   go_ret
   exact ⟨by first | rfl | (simp;done) | (simp [*];done),by repeat (first | exact yc.refl _ | apply yc.step)⟩
  ·replace c7:=Bool.eq_false_iff.mpr c7
   subst c7
   have H1:(if (Op.bytesLess a0.toList a1.toList) = true then (some (-1)) else (if (Op.bytesLess a1.toList a0.toList) = true then (some 1) else (some 0))) = some r:=by rw [if_neg (show ¬ (false = true) by decide)] at H;exact H
   clear H
   have H:=H1
   clear H1
   by_cases c8:(Op.bytesLess a0.toList a1.toList) = true
   ·rw [if_pos c8] at H
    have fM:(Op.bytesLess a0.toList a1.toList) = true:=c8
    have zh8:(!(Op.bytesLess a1.toList a0.toList || a1.toList == a0.toList)) = true:=(Pq _ _).trans (c8)
    have zh9:(a0.toList == a1.toList) = false:=zX1 (c8)
    have ziz:(a1.toList == a0.toList) = false:=zkh (c8)
    have zuA:Op.bytesLess a1.toList a0.toList = false:=zxY (c8)
    clear c8
    obtain rfl:=Option.some.inj H
    go_enter Tryz.func91,Tryz.ntmps91
    go_wp2_with (first | ((with_reducible refine yx (f:=132) rfl ?_);refine uD (some 8) Tryz.func132 #[.string a0] ?_;(with_reducible refine (cmp_isNaN_string.calls a0 false _ A3.out).mono ?_);rintro e w' ⟨rfl,⟨nd,rfl⟩⟩;refine ⟨_,rfl,?_⟩) | ((with_reducible refine yx (f:=132) rfl ?_);refine uD (some 10) Tryz.func132 #[.string a1] ?_;(with_reducible refine (cmp_isNaN_string.calls a1 false _ A4.out).mono ?_);rintro e w' ⟨rfl,⟨nd,rfl⟩⟩;refine ⟨_,rfl,?_⟩))
    go_ret
    exact ⟨by first | rfl | (simp;done) | (simp [*];done),by repeat (first | exact yc.refl _ | apply yc.step)⟩
   ·rw [if_neg c8] at H
    have fM:(Op.bytesLess a0.toList a1.toList) = false:=by simpa using c8
    have zh8:(!(Op.bytesLess a1.toList a0.toList || a1.toList == a0.toList)) = false:=(Pq _ _).trans (by simpa using c8)
    try have zh9:(a0.toList == a1.toList) = true:=lH (x:=a0.toList) (y:=a1.toList) (by assumption) (by assumption)
    try have ziz:(a1.toList == a0.toList) = true:=lH (x:=a1.toList) (y:=a0.toList) (by assumption) (by assumption)
    clear c8
    by_cases c9:(Op.bytesLess a1.toList a0.toList) = true
    ·rw [if_pos c9] at H
     have zxa:(Op.bytesLess a1.toList a0.toList) = true:=c9
     have ziq:(!(Op.bytesLess a0.toList a1.toList || a0.toList == a1.toList)) = true:=(Pq _ _).trans (c9)
     have zix:(a1.toList == a0.toList) = false:=zX1 (c9)
     have zij:(a0.toList == a1.toList) = false:=zkh (c9)
     have zuB:Op.bytesLess a0.toList a1.toList = false:=zxY (c9)
     clear c9
     obtain rfl:=Option.some.inj H
     go_enter Tryz.func91,Tryz.ntmps91
     go_wp2_with (first | ((with_reducible refine yx (f:=132) rfl ?_);refine uD (some 8) Tryz.func132 #[.string a0] ?_;(with_reducible refine (cmp_isNaN_string.calls a0 false _ A3.out).mono ?_);rintro e w' ⟨rfl,⟨nd,rfl⟩⟩;refine ⟨_,rfl,?_⟩) | ((with_reducible refine yx (f:=132) rfl ?_);refine uD (some 10) Tryz.func132 #[.string a1] ?_;(with_reducible refine (cmp_isNaN_string.calls a1 false _ A4.out).mono ?_);rintro e w' ⟨rfl,⟨nd,rfl⟩⟩;refine ⟨_,rfl,?_⟩))
     go_ret
     exact ⟨by first | rfl | (simp;done) | (simp [*];done),by repeat (first | exact yc.refl _ | apply yc.step)⟩
    ·rw [if_neg c9] at H
     have zxa:(Op.bytesLess a1.toList a0.toList) = false:=by simpa using c9
     have ziq:(!(Op.bytesLess a0.toList a1.toList || a0.toList == a1.toList)) = false:=(Pq _ _).trans (by simpa using c9)
     try have zix:(a1.toList == a0.toList) = true:=lH (x:=a1.toList) (y:=a0.toList) (by assumption) (by assumption)
     try have zij:(a0.toList == a1.toList) = true:=lH (x:=a0.toList) (y:=a1.toList) (by assumption) (by assumption)
     clear c9
     obtain rfl:=Option.some.inj H
     go_enter Tryz.func91,Tryz.ntmps91
     go_wp2_with (first | ((with_reducible refine yx (f:=132) rfl ?_);refine uD (some 8) Tryz.func132 #[.string a0] ?_;(with_reducible refine (cmp_isNaN_string.calls a0 false _ A3.out).mono ?_);rintro e w' ⟨rfl,⟨nd,rfl⟩⟩;refine ⟨_,rfl,?_⟩) | ((with_reducible refine yx (f:=132) rfl ?_);refine uD (some 10) Tryz.func132 #[.string a1] ?_;(with_reducible refine (cmp_isNaN_string.calls a1 false _ A4.out).mono ?_);rintro e w' ⟨rfl,⟨nd,rfl⟩⟩;refine ⟨_,rfl,?_⟩))
     go_ret
     exact ⟨by first | rfl | (simp;done) | (simp [*];done),by repeat (first | exact yc.refl _ | apply yc.step)⟩
end Go.Proofs.YtggifbbiiickmaaGreatDoor.PX
namespace Go.Proofs.YtggifbbiiickmaaGreatDoor
open Go.RowKit Go.Shelf Go.Proofs.zk.za Go.Proofs.zk.zR Go.Proofs.YtggifbbiiickmaaGreatDoor.PX
def vG (a b:ByteArray):Int:=if Op.bytesLess a.toList b.toList = true then -1 else if Op.bytesLess b.toList a.toList = true then 1 else 0
theorem Q9 (a b:ByteArray):uY.f a b = some (vG a b):=by
 have e1:cmp_isNaN_string.f a = some false:=by unfold cmp_isNaN_string.f;simp
 have e2:cmp_isNaN_string.f b = some false:=by unfold cmp_isNaN_string.f;simp
 unfold uY.f vG
 rw [e1,e2]
 simp only [Option.bind_some,Bool.false_eq_true,if_false]
 by_cases h1:Op.bytesLess a.toList b.toList = true
 ·rw [if_pos h1,if_pos h1]
 ·rw [if_neg h1,if_neg h1]
  by_cases h2:Op.bytesLess b.toList a.toList = true
  ·rw [if_pos h2,if_pos h2]
  ·rw [if_neg h2,if_neg h2]
theorem zzY (a b:ByteArray) (w:World):Calls Tryz.prog 91 #[.string a,.string b] w fun e w'=>e = .returned (.int .i64 (vG a b)) ∧ Below w.heap.size w w' :=
 (uY.calls a b _ w (Q9 a b)).mono fun e w' ⟨h1,n,h2⟩=>⟨h1,by rw [h2];exact ⟨rfl,rfl,rfl,Nat.le_refl _,fun _ _=>rfl⟩⟩
def WV (l:List yG) (n:ByteArray) (i j:Nat):Nat :=
 if h:i < j then
  if vG (yU l (((i + j) / 2:Nat):Int)).f0 n < 0 then WV l n ((i + j) / 2 + 1) j else WV l n i ((i + j) / 2)
 else i
termination_by j - i
def Yr (l:List yG) (n:ByteArray):Int × Bool :=
 let i:=WV l n 0 l.length
 ((i:Int),decide (i < l.length) && decide (vG (yU l (i:Int)).f0 n = 0))
set_option maxRecDepth 100000 in
theorem zzW (a:ByteArray) (v:Int) (n:ByteArray) (w:World) :
  Calls Tryz.prog 119 #[.agg #[.string a,.int .i64 v],.string n] w fun e w'=>e = .returned (.int .i64 (vG a n)) ∧ Below w.heap.size w w':=by
 have hb0:Below w.heap.size w (w.alloc (.cells #[.string a,.int .i64 v] 105)):=(Below.refl _ w).alloc (Nat.le_refl _) _
 have hc:=zzY a n (w.alloc (.cells #[.string a,.int .i64 v] 105))
 generalize vG a n = r at hc ⊢
 go_enter Tryz.func119,Tryz.ntmps119
 go_wp2_with (go_at_call 91;refine hc.mono ?_;rintro e w2 ⟨rfl,hb2⟩)
 go_ret
 exact ⟨rfl,hb0.trans (hb2.mono (by simp))⟩
set_option maxRecDepth 100000 in
set_option maxHeartbeats 1000000 in
theorem zX6 (A0:Option Addr) (c0:Nat) (l:List yG) (n:ByteArray) (w:World) (hr:Kd.C vO w A0 l.length l) (hl:l.length ≤ 1000000000) :
  Calls Tryz.prog 118 #[.slice A0 l.length c0,.string n,.func (.func 119) #[] #[]] w fun e w'=>e = .returned (.tuple #[.int .i64 (Yr l n).1,.bool (Yr l n).2]) ∧ Below w.heap.size w w':=by
 have hfv:Yr l n = ((WV l n 0 l.length:Int),decide (WV l n 0 l.length < l.length) && decide (vG (yU l (WV l n 0 l.length:Int)).f0 n = 0)):=rfl
 generalize Yr l n = V at hfv ⊢
 have HFV:=Lib.hid hfv
 clear hfv
 go_enter Tryz.func118,Tryz.ntmps118
 go_wp2
 go_loopw [9,10] (fun x y wr=>∃ i j:Nat,x = .int .i64 i ∧ y = .int .i64 j ∧ i ≤ j ∧ j ≤ l.length ∧ Hid (WV l n i j = WV l n 0 l.length) ∧ Below w.heap.size w wr) (fun x y _=>((intOf y) - (intOf x)).toNat)
 case atStart=>exact ⟨0,l.length,rfl,rfl,Nat.zero_le _,Nat.le_refl _,Lib.hid rfl,Below.refl _ _⟩
 case round =>
  obtain ⟨i,j,rfl,rfl,hij,hj,HB,hb⟩:=hrel
  by_cases hlt:i < j
  ·have hm:(i + j) / 2 < l.length:=by omega
   have hst:=HB.out
   rw [WV,dif_pos hlt] at hst
   have hC:=Kd.zh hr hb
   obtain ⟨ad,e,h0,h1⟩:=JW hC (((i + j) / 2:Nat):Int) (by omega) (by omega)
   cases e
   rw [Int.toNat_natCast] at h0 h1
   generalize yU l (((i + j) / 2:Nat):Int) = g at h0 h1 hst
   have hcm:=zzW g.f0 g.f1 n wr
   generalize vG g.f0 n = r at hcm hst
   have HS:=Lib.hid hst
   have e1:IntKind.i64.wrap ((i:Int) + (j:Int)) = (i:Int) + (j:Int):=IntWalk.i64_in _ (by omega)
   clear hst HB hC hr
   by_cases hr0:r < 0
   ·have d1:decide (r < 0) = true:=decide_eq_true hr0
    rw [if_pos hr0] at HS
    clear hr0
    go_wp2_with fail
    refine hcm.mono ?_;rintro e w2 ⟨rfl,hb2⟩
    go_wp2
    go_roundw
    case rel=>exact ⟨(i + j) / 2 + 1,j,by go_num,rfl,by omega,hj,HS,hb.trans (hb2.mono hb.size)⟩
    case measure=>simp [intOf];omega
   ·have d1:decide (r < 0) = false:=decide_eq_false hr0
    rw [if_neg hr0] at HS
    clear hr0
    go_wp2_with fail
    refine hcm.mono ?_;rintro e w2 ⟨rfl,hb2⟩
    go_wp2
    go_roundw
    case rel=>exact ⟨i,(i + j) / 2,rfl,by go_num,by omega,by omega,HS,hb.trans (hb2.mono hb.size)⟩
    case measure=>simp [intOf];omega
  ·obtain rfl:i = j:=by omega
   have hst:=HB.out
   rw [WV,dif_neg (by omega)] at hst
   by_cases hi:i < l.length
   ·have hC:=Kd.zh hr hb
    obtain ⟨ad,e,h0,h1⟩:=JW hC (i:Int) (by omega) (by omega)
    cases e
    rw [Int.toNat_natCast] at h0 h1
    have hval:V = ((i:Int),decide (i < l.length) && decide (vG (yU l (i:Int)).f0 n = 0)):=by rw [HFV.out,← hst]
    rw [decide_eq_true hi,Bool.true_and] at hval
    generalize yU l (i:Int) = g at h0 h1 hval
    have hcm:=zzW g.f0 g.f1 n wr
    have hd:(vG g.f0 n == 0) = decide (vG g.f0 n = 0):=rfl
    generalize vG g.f0 n = r at hcm hd hval
    have HV:=Lib.hid hval
    have q2:(i:Int) < (l.length:Int):=by omega
    clear hst HB hC hr hval
    cases hz:decide (r = 0) with
    | true =>
     rw [hz] at hd HV
     clear hz
     go_wp2_with fail
     refine hcm.mono ?_;rintro e w2 ⟨rfl,hb2⟩
     go_wp2
     go_ret2
     exact ⟨by rw [HV.out];rfl,hb.trans (hb2.mono hb.size)⟩
    | false =>
     rw [hz] at hd HV
     clear hz
     go_wp2_with fail
     refine hcm.mono ?_;rintro e w2 ⟨rfl,hb2⟩
     go_wp2
     go_ret2
     exact ⟨by rw [HV.out];rfl,hb.trans (hb2.mono hb.size)⟩
   ·have q1:decide (i < l.length) = false:=decide_eq_false hi
    have hval:V = ((i:Int),false):=by rw [HFV.out,← hst,q1,Bool.false_and]
    have HV:=Lib.hid hval
    have q2:¬ (i:Int) < (l.length:Int):=by omega
    have q3:decide ((i:Int) < (l.length:Int)) = false:=decide_eq_false q2
    clear hst HB hr hval q1
    go_wp2
    go_ret2
    exact ⟨by rw [HV.out];rfl,hb⟩
def kY.f (_:ByteArray) (_:Bool) (_:Int) (zn:List yG) (_:List qb) (_:List qP) (a1:ByteArray):Option (Int × Bool):=if zn.length ≤ 1000000000 then some (Yr zn a1) else none
set_option maxRecDepth 100000 in
theorem kY.calls (zF:ByteArray) (zG:Bool) (zB:Int) (yM:Option Addr) (yN:Nat) (zn:List yG) (yP:Option Addr) (yR:Nat) (zN:List qb) (yS:Option Addr) (yT:Nat) (zO:List qP) (a1:ByteArray) (r1:Int) (r2:Bool) (w:World) (jV:Kd.C vO w yM zn.length zn) (_:zn.length ≤ yN) (_:Kd.C jX w yP zN.length zN) (_:zN.length ≤ yR) (_:Kd.C jg w yS zO.length zO) (_:zO.length ≤ yT) (_:GW w) (h:kY.f zF zG zB zn zN zO a1 = some (r1,r2)) :
  Calls Tryz.prog 64 #[.agg #[.string zF,.bool zG,.int .i64 zB,.slice yM zn.length yN,.slice yP zN.length yR,.slice yS zO.length yT],.string a1] w fun e w'=>e = .returned (.tuple #[.int .i64 r1,.bool r2]) ∧ Below w.heap.size w w':=by
 unfold kY.f at h
 split at h
 ·rename_i hl
  have he:=Option.some.inj h
  have hb0:Below w.heap.size w (w.alloc (.cells #[.string zF,.bool zG,.int .i64 zB,.slice yM zn.length yN,.slice yP zN.length yR,.slice yS zO.length yT] 60)):=(Below.refl _ w).alloc (Nat.le_refl _) _
  have hs:=zX6 yM yN zn a1 _ (Kd.zh jV hb0) hl
  rw [he] at hs
  clear he h hl jV
  go_enter Tryz.func64,Tryz.ntmps64
  go_wp2_with fail
  refine hs.mono ?_;rintro e w2 ⟨rfl,hb2⟩
  go_wp2
  go_ret2
  exact ⟨rfl,hb0.trans (hb2.mono (by simp))⟩
 ·cases h
end Go.Proofs.YtggifbbiiickmaaGreatDoor
namespace Go.Proofs.YtggifbbiiickmaaGreatDoor.PX
open Go.RowKit Go.Proofs.zk.za Go.Proofs.zk.zS Go.Proofs.zk.zR
attribute [local go_sem] qD qE xJ xV qc qd qF qG   -- for this text's walks alone
set_option linter.unusedVariables false
set_option linter.unusedSimpArgs false
def jK.l0:Nat → Int → List Int → Int → Int → Option (Int)
  | 0,_,_,_,_=>none
  | k + 1,x3,x6,x7,x8=>if x8 < x7 then (if 0 ≤ x8 then (if x8 < (x6.length:Int) then (if (rd x6 x8) = x3 then (jK.l0 k x3 x6 x7 (wrap64 (x8 + 1))) else (some (rd x6 x8))) else (none)) else (none)) else (some x3)
def jK.f (k:Nat) (l0:List Int):Option (Int):=jK.l0 k 0 l0 (l0.length:Int) 0
set_option maxHeartbeats 8000000 in
set_option maxRecDepth 100000 in
theorem jK.calls (k:Nat) (A0:Option Addr) (c0:Nat) (l0:List Int) (r:Int) (w:World) (hr0:Kd.C (Kd.int .i64) w A0 l0.length l0) (hc0:l0.length ≤ c0) (h:jK.f k l0 = some r) :
    Calls Tryz.prog 97 #[.slice A0 l0.length c0] w fun e w'=>e = .returned (.int .i64 r) ∧ yc w w':=by
  have jm:=zx.mk hr0
  have HC0:=zx.mk hc0
  clear hr0 hc0
  have H:(jK.l0 k 0 l0 (l0.length:Int) 0) = some r:=h
  clear h
  have H':=zx.mk H
  clear H
  go_enter Tryz.func97,Tryz.ntmps97
  go_wp2
  go_loopg [8] k (fun kq v8 w'=>∃ (uW:Int),v8 = .int .i64 uW ∧ zx (jK.l0 kq 0 l0 (l0.length:Int) uW = some r) ∧ zx (kq ≤ k) ∧ yc w w')
  case atStart=>exact ⟨(0),(by first | rfl | (simp;done) | (simp [*];done)),H',⟨Nat.le_refl _⟩,by repeat (first | exact yc.refl _ | apply yc.step)⟩
  case round =>
    clear H'
    obtain ⟨uW,rfl,HA,wo,⟨m1,rfl⟩⟩:=hrel
    cases gk with
    | zero=>exact absurd HA.out (by simp [jK.l0])
    | succ k1 =>
      have H:=HA.out
      clear HA
      simp only [jK.l0] at H
      by_cases c2:uW < (l0.length:Int)
      · rw [if_pos c2] at H
        have bQ:decide (uW < (l0.length:Int)) = true:=decide_eq_true c2
        clear c2
        by_cases c3:0 ≤ uW
        · rw [if_pos c3] at H
          have ZN:decide (0 ≤ uW) = true:=decide_eq_true c3
          clear c3
          by_cases c4:uW < (l0.length:Int)
          · rw [if_pos c4] at H
            have QX:decide (uW < (l0.length:Int)) = true:=decide_eq_true c4
            clear c4
            by_cases c5:(rd l0 uW) = 0
            · rw [if_pos c5] at H
              have wM:((rd l0 uW) == 0) = true:=beq_iff_eq.mpr c5
              have zX7:((rd l0 uW) != 0) = false:=bne_eq_false_iff_eq.mpr c5
              clear c5
              have H':=zx.mk H
              clear H
              have zzo:0 ≤ (uW:Int):=of_decide_eq_true yH
              have zzp:uW < (l0.length:Int):=of_decide_eq_true yH
              obtain ⟨zfp,zK5,za4⟩:=Kd.gD jm.out uW zzo zzp
              cases zK5
              replace zzo:=eq_true zzo
              replace zzp:=eq_true zzp
              go_wp2
              go_roundg k1
              case measure=>have:=wo.out;omega
              case rel=>exact ⟨(wrap64 (uW + 1)),(by first | rfl | (simp;done) | (simp [*];done)),H',⟨by have:=wo.out;omega⟩,by repeat (first | exact yc.refl _ | apply yc.step)⟩
            · rw [if_neg c5] at H
              have wM:((rd l0 uW) == 0) = false:=beq_eq_false_iff_ne.mpr c5
              have zX7:((rd l0 uW) != 0) = true:=bne_iff_ne.mpr c5
              obtain rfl:=Option.some.inj H
              have zzo:0 ≤ (uW:Int):=of_decide_eq_true yH
              have zzp:uW < (l0.length:Int):=of_decide_eq_true yH
              obtain ⟨zfp,zK5,za4⟩:=Kd.gD jm.out uW zzo zzp
              cases zK5
              replace zzo:=eq_true zzo
              replace zzp:=eq_true zzp
              go_wp2
              go_ret
              exact ⟨by first | rfl | (simp;done) | (simp [*];done),by repeat (first | exact yc.refl _ | apply yc.step)⟩
          · rw [if_neg c4] at H
            exact absurd H (by simp)
        · rw [if_neg c3] at H
          exact absurd H (by simp)
      · rw [if_neg c2] at H
        have bQ:decide (uW < (l0.length:Int)) = false:=decide_eq_false c2
        clear c2
        obtain rfl:=Option.some.inj H
        go_wp2
        go_ret
        exact ⟨by first | rfl | (simp;done) | (simp [*];done),by repeat (first | exact yc.refl _ | apply yc.step)⟩
end Go.Proofs.YtggifbbiiickmaaGreatDoor.PX
namespace Go.Proofs.YtggifbbiiickmaaGreatDoor
open Go.RowKit Go.Shelf Go.Proofs.zk.za Go.Proofs.zk.zR Go.Proofs.YtggifbbiiickmaaGreatDoor.PX
def Zj (c:Nat → Nat → Int) (n:Nat):Bool:=(List.range (n - 1)).all fun i=>decide (c i (i + 1) < 0)
theorem eP {c:Nat → Nat → Int} {n:Nat} (h:∀ i,i + 1 < n → c i (i + 1) < 0):Zj c n = true:=by
 unfold Zj
 rw [List.all_eq_true]
 intro i hi
 have:=List.mem_range.1 hi
 simpa using h i (by omega)
theorem tH {c:Nat → Nat → Int} {n i:Nat} (hi:i + 1 < n) (h:¬ c i (i + 1) < 0):Zj c n = false:=by
 unfold Zj
 rw [List.all_eq_false]
 exact ⟨i,List.mem_range.2 (by omega),by simpa using h⟩
def QC (x y:yG):Int:=vG x.f0 y.f0
def orV (a b:Int):Int:=if a = 0 then b else a
def cmpL (x y:qb):Int:=orV (vG x.f0 y.f0) (vG x.f1 y.f1)
def Wo (x y:qP):Int:=orV (vG x.f0 y.f0) (vG x.f1 y.f1)
set_option maxRecDepth 100000 in
theorem zK6 (x y:yG) (w:World) :
  Calls Tryz.prog 90 #[.agg #[.string x.f0,.int .i64 x.f1],.agg #[.string y.f0,.int .i64 y.f1]] w fun e w'=>e = .returned (.int .i64 (QC x y)) ∧ Below w.heap.size w w':=by
 unfold QC
 have hb0:Below w.heap.size w ((w.alloc (.cells #[.string x.f0,.int .i64 x.f1] 105)).alloc (.cells #[.string y.f0,.int .i64 y.f1] 105)):=((Below.refl _ w).alloc (Nat.le_refl _) _).alloc (by simp) _
 have hc:=zzY x.f0 y.f0 ((w.alloc (.cells #[.string x.f0,.int .i64 x.f1] 105)).alloc (.cells #[.string y.f0,.int .i64 y.f1] 105))
 generalize vG x.f0 y.f0 = r at hc ⊢
 go_enter Tryz.func90,Tryz.ntmps90
 go_wp2_with (go_at_call 91;refine hc.mono ?_;rintro e w2 ⟨rfl,hb2⟩)
 go_ret
 exact ⟨rfl,hb0.trans (hb2.mono (by simp;omega))⟩
def zfr (l:List yG) (w:World) (x:Value) (wr:World):Prop :=
 ∃ k:Nat,x = .int .i64 k ∧ 1 ≤ k ∧ k ≤ l.length + 1 ∧ (∀ i,i + 1 < k → i + 1 < l.length → QC (yU l (i:Int)) (yU l ((i + 1:Nat):Int)) < 0) ∧ Below w.heap.size w wr
set_option maxRecDepth 100000 in
set_option maxHeartbeats 1000000 in
theorem zK7 (A0:Option Addr) (c0:Nat) (l:List yG) (w:World) (hr:Kd.C vO w A0 l.length l) (hl:l.length ≤ 1000000000) :
  Calls Tryz.prog 89 #[.slice A0 l.length c0,.func (.func 90) #[] #[]] w fun e w'=>e = .returned (.bool (Zj (fun i j=>QC (yU l (i:Int)) (yU l (j:Int))) l.length)) ∧ Below w.heap.size w w':=by
 generalize hV:Zj (fun i j=>QC (yU l (i:Int)) (yU l (j:Int))) l.length = V
 have HV:=Lib.hid hV
 clear hV
 go_enter Tryz.func89,Tryz.ntmps89
 go_wp2
 go_loopw [5] (fun x wr=>zfr l w x wr) (fun x _=>l.length + 1 - (intOf x).toNat)
 case atStart=>exact ⟨1,rfl,by omega,by omega,(fun i h=>by omega),Below.refl _ _⟩
 case round =>
  obtain ⟨k,rfl,hk1,hk,hA,hb⟩:=hrel
  have HA:=Lib.hid hA
  clear hA
  by_cases hlt:k < l.length
  ·obtain ⟨m,rfl⟩:∃ m,k = m + 1:=⟨k - 1,by omega⟩
   have hC:=Kd.zh hr hb
   obtain ⟨ad,e,HH0⟩:=JW hC (m:Int) (by omega) (by omega)
   obtain ⟨ad2,e2,HH1⟩:=JW hC ((m + 1:Nat):Int) (by omega) (by omega)
   cases e
   cases e2
   obtain ⟨h0,h1⟩:=HH0
   obtain ⟨h2,h3⟩:=HH1
   rw [Int.toNat_natCast] at h0 h1 h2 h3
   have hstep:∀ i,i + 1 = m + 1 → QC (yU l (i:Int)) (yU l ((i + 1:Nat):Int)) = QC (yU l (m:Int)) (yU l ((m + 1:Nat):Int)):=fun i hi=>by obtain rfl:i = m:=(by omega);rfl
   have hbad:¬ QC (yU l (m:Int)) (yU l ((m + 1:Nat):Int)) < 0 → V = false:=fun h=>by rw [← HV.out];exact tH (i:=m) (by omega) h
   have hcm:=fun W=>zK6 (yU l (m:Int)) (yU l ((m + 1:Nat):Int)) W
   generalize yU l (m:Int) = x at h0 h1 hstep hcm hbad
   generalize yU l ((m + 1:Nat):Int) = y at h2 h3 hstep hcm hbad
   generalize QC x y = r at hcm hstep hbad
   have HS:=Lib.hid hstep
   have HB:=Lib.hid hbad
   have e1:IntKind.i64.wrap (((m:Int) + 1) - 1) = (m:Int):=by rw [Int.add_sub_cancel];exact IntWalk.i64_in _ (by omega)
   have q1:(m:Int) < (l.length:Int):=by omega
   have q2:(m:Int) + 1 < (l.length:Int):=by omega
   have q3:((m:Int) + 1).toNat = m + 1:=by omega
   have q4:(0:Int) ≤ (m:Int) + 1:=by omega
   clear hC hr hstep hbad
   have e0:IntKind.i64.wrap (m:Int) = (m:Int):=IntWalk.i64_in _ (by omega)
   have q5:(0:Int) ≤ (m:Int):=by omega
   by_cases hr0:r < 0
   ·have d1:decide (0 ≤ r) = false:=by simp;omega
    have HR:=Lib.hid hr0
    clear hr0
    go_wp2_with fail
    go_region_held3 (fun W=>W.cell? (ad.add (m * 2)) = some (.string x.f0) ∧ W.cell? ⟨(ad.add (m * 2)).block,(ad.add (m * 2)).off + 1,none⟩ = some (.int .i64 x.f1) ∧ W.cell? (ad.add ((m + 1) * 2)) = some (.string y.f0) ∧ W.cell? ⟨(ad.add ((m + 1) * 2)).block,(ad.add ((m + 1) * 2)).off + 1,none⟩ = some (.int .i64 y.f1)) (first | go_keep | exact ⟨(hb2.cell (World.block_lt_of_cell? wr _ h0)).trans h0,(hb2.cell (World.block_lt_of_cell? wr _ h1)).trans h1,(hb2.cell (World.block_lt_of_cell? wr _ h2)).trans h2,(hb2.cell (World.block_lt_of_cell? wr _ h3)).trans h3⟩) ((go_at_call 90;refine (hcm _).mono ?_;rintro e w2 ⟨rfl,hb2⟩))
    clear e0 e1
    have hb3:Below w.heap.size w w2:=(hb.drew).trans (hb2.mono hb.size)
    clear hb2
    go_wp2
    refine ⟨⟨m + 1 + 1,by go_num,by omega,by omega,(fun i h1 h2=>?_),hb3⟩,by simp [intOf];omega⟩
    by_cases e:i + 1 = m + 1
    ·rw [HS.out i e];exact HR.out
    ·exact HA.out i (by omega) h2
   ·have d1:decide (0 ≤ r) = true:=by simp;omega
    have hv:V = false:=HB.out hr0
    have uP:=Lib.hid hv
    clear hr0 hv
    go_wp2_with fail
    go_region_held3 (fun W=>W.cell? (ad.add (m * 2)) = some (.string x.f0) ∧ W.cell? ⟨(ad.add (m * 2)).block,(ad.add (m * 2)).off + 1,none⟩ = some (.int .i64 x.f1) ∧ W.cell? (ad.add ((m + 1) * 2)) = some (.string y.f0) ∧ W.cell? ⟨(ad.add ((m + 1) * 2)).block,(ad.add ((m + 1) * 2)).off + 1,none⟩ = some (.int .i64 y.f1)) (first | go_keep | exact ⟨(hb2.cell (World.block_lt_of_cell? wr _ h0)).trans h0,(hb2.cell (World.block_lt_of_cell? wr _ h1)).trans h1,(hb2.cell (World.block_lt_of_cell? wr _ h2)).trans h2,(hb2.cell (World.block_lt_of_cell? wr _ h3)).trans h3⟩) ((go_at_call 90;refine (hcm _).mono ?_;rintro e w2 ⟨rfl,hb2⟩))
    clear e0 e1
    have hb3:Below w.heap.size w w2:=(hb.drew).trans (hb2.mono hb.size)
    clear hb2
    go_wp2
    go_ret
    exact ⟨by rw [uP.out];rfl,hb3⟩
  ·have hv:V = true:=by rw [← HV.out];exact eP (fun i hi=>HA.out i (by omega) hi)
   have uP:=Lib.hid hv
   have q1:decide ((k:Int) < (l.length:Int)) = false:=decide_eq_false (by omega)
   clear hv hr
   go_wp2
   go_ret
   exact ⟨by rw [uP.out];rfl,hb⟩
theorem zX8 {w w':World} (h:yc w w'):Below w.heap.size w w':=by
 obtain ⟨n,rfl⟩:=h
 exact ⟨rfl,rfl,rfl,Nat.le_refl _,fun _ _=>rfl⟩
theorem zdD (a b:Int):Ev (fun k=>jK.f k [a,b]) (orV a b):=by
 unfold jK.f orV
 have e1:wrap64 (0 + 1) = 1:=by rw [jA (by omega) (by omega)];rfl
 have e2:wrap64 (1 + 1) = 2:=by rw [jA (by omega) (by omega)];rfl
 have hl:(([a,b]:List Int).length:Int) = 2:=rfl
 refine Ev.step (fun k=>by rw [jK.l0]) ?_
 rw [hl]
 refine yB (by omega) (yB (by omega) (yB (by omega) ?_))
 rw [show rd [a,b] 0 = a from rfl,e1]
 by_cases h1:a = 0
 ·refine yB h1 ?_
  rw [if_pos h1]
  refine Ev.step (fun k=>by rw [jK.l0]) ?_
  rw [hl]
  refine yB (by omega) (yB (by omega) (yB (by omega) ?_))
  rw [show rd [a,b] 1 = b from rfl,e2]
  by_cases h2:b = 0
  ·refine yB h2 ?_
   rw [h2]
   refine Ev.step (fun k=>by rw [jK.l0]) ?_
   exact vw (by omega) (Ev.now _)
  ·exact vw h2 (Ev.now _)
 ·refine vw h1 ?_
  rw [if_neg h1];exact Ev.now _
theorem zK8 (B:Nat) (a b:Int) (w:World) (h0:w.cell? ⟨B,0,none⟩ = some (.int .i64 a)) (h1:w.cell? ⟨B,1,none⟩ = some (.int .i64 b)):Kd.C (Kd.int .i64) w (some ⟨B,0,none⟩) 2 [a,b]:=by
 have hs:(Kd.int .i64).sz = 1:=rfl
 refine ⟨rfl,by decide,fun _=>⟨_,rfl,fun j p hj=>?_⟩⟩
 rcases j with _ | _ | j
 ·cases hj
  exact ⟨[.int .i64 a],rfl,rfl,fun i u hi=>by rcases i with _ | i;cases hi;simpa [Addr.add_lit] using h0;simp at hi⟩
 ·cases hj
  exact ⟨[.int .i64 b],rfl,rfl,fun i u hi=>by rcases i with _ | i;cases hi;simpa [Addr.add_lit,hs] using h1;simp at hi⟩
 ·simp at hj
theorem zVT (a b:Int) (B:Nat) (w:World) (h0:w.cell? ⟨B,0,none⟩ = some (.int .i64 a)) (h1:w.cell? ⟨B,1,none⟩ = some (.int .i64 b)) :
  Calls Tryz.prog 97 #[.slice (some ⟨B,0,none⟩) 2 2] w fun e w'=>e = .returned (.int .i64 (orV a b)) ∧ Below w.heap.size w w':=by
 obtain ⟨k,hk⟩:=(zdD a b).rounds
 exact (jK.calls k (some ⟨B,0,none⟩) 2 [a,b] _ w (zK8 B a b w h0 h1) (Nat.le_refl _) hk).mono fun e w' h=>⟨h.1,zX8 h.2⟩
theorem ziv (W:World) (a b:Value) (t:TypeId):(W.alloc (.cells #[a,b] t)).cell? ⟨W.heap.size,0,none⟩ = some a:=by simp
theorem zdE (W:World) (a b:Value) (t:TypeId):(W.alloc (.cells #[a,b] t)).cell? ⟨W.heap.size,1,none⟩ = some b:=by simp
theorem zdF (W:World) (n:Nat) (a b:Value) (t:TypeId):((W.drewN n).alloc (.cells #[a,b] t)).cell? ⟨W.heap.size,0,none⟩ = some a:=ziv (W.drewN n) a b t
theorem zdG (W:World) (n:Nat) (a b:Value) (t:TypeId):((W.drewN n).alloc (.cells #[a,b] t)).cell? ⟨W.heap.size,1,none⟩ = some b:=zdE (W.drewN n) a b t
theorem Vz {W w2:World} {n:Nat} {o:Obj} {B i:Nat} {v:Value} (h:Below ((W.drewN n).alloc o).heap.size ((W.drewN n).alloc o) w2) (hc:W.cell? ⟨B,i,none⟩ = some v):w2.cell? ⟨B,i,none⟩ = some v:=by
 have hb:Below W.heap.size W ((W.drewN n).alloc o):=Below.trans (⟨rfl,rfl,rfl,Nat.le_refl _,fun _ _=>rfl⟩:Below W.heap.size W (W.drewN n)) ((Below.refl _ (W.drewN n)).alloc (Nat.le_refl _) o)
 have hl:=World.block_lt_of_cell? W _ hc
 exact (h.cell (p:=⟨B,i,none⟩) (Nat.lt_of_lt_of_le hl hb.size)).trans ((hb.cell (p:=⟨B,i,none⟩) hl).trans hc)
theorem zvN {W w2:World} {n:Nat} {o:Obj} (h:Below ((W.drewN n).alloc o).heap.size ((W.drewN n).alloc o) w2):Below W.heap.size W w2:=by
 have hb:Below W.heap.size W ((W.drewN n).alloc o):=Below.trans (⟨rfl,rfl,rfl,Nat.le_refl _,fun _ _=>rfl⟩:Below W.heap.size W (W.drewN n)) ((Below.refl _ (W.drewN n)).alloc (Nat.le_refl _) o)
 exact hb.trans (h.mono hb.size)
set_option maxRecDepth 100000 in
set_option maxHeartbeats 1000000 in
theorem zK9 (x y:qb) (w:World) :
  Calls Tryz.prog 96 #[.agg #[.string x.f0,.string x.f1,.string x.f2],.agg #[.string y.f0,.string y.f1,.string y.f2]] w fun e w'=>e = .returned (.int .i64 (cmpL x y)) ∧ Below w.heap.size w w':=by
 unfold cmpL
 have hb0:Below w.heap.size w ((w.alloc (.cells #[.string x.f0,.string x.f1,.string x.f2] 108)).alloc (.cells #[.string y.f0,.string y.f1,.string y.f2] 108)):=((Below.refl _ w).alloc (Nat.le_refl _) _).alloc (by simp) _
 have hz:((w.alloc (.cells #[.string x.f0,.string x.f1,.string x.f2] 108)).alloc (.cells #[.string y.f0,.string y.f1,.string y.f2] 108)).heap.size = w.heap.size + 2:=by simp
 have c0:((w.alloc (.cells #[.string x.f0,.string x.f1,.string x.f2] 108)).alloc (.cells #[.string y.f0,.string y.f1,.string y.f2] 108)).cell? ⟨w.heap.size,0,none⟩ = some (.string x.f0):=by simp
 have c1:((w.alloc (.cells #[.string x.f0,.string x.f1,.string x.f2] 108)).alloc (.cells #[.string y.f0,.string y.f1,.string y.f2] 108)).cell? ⟨w.heap.size,1,none⟩ = some (.string x.f1):=by simp
 have c2:((w.alloc (.cells #[.string x.f0,.string x.f1,.string x.f2] 108)).alloc (.cells #[.string y.f0,.string y.f1,.string y.f2] 108)).cell? ⟨w.heap.size + 1,0,none⟩ = some (.string y.f0):=by simp
 have c3:((w.alloc (.cells #[.string x.f0,.string x.f1,.string x.f2] 108)).alloc (.cells #[.string y.f0,.string y.f1,.string y.f2] 108)).cell? ⟨w.heap.size + 1,1,none⟩ = some (.string y.f1):=by simp
 have hc1:=fun W=>uY.calls x.f0 y.f0 _ W (Q9 x.f0 y.f0)
 have hc2:=fun W=>uY.calls x.f1 y.f1 _ W (Q9 x.f1 y.f1)
 generalize vG x.f0 y.f0 = r1 at hc1 ⊢
 generalize vG x.f1 y.f1 = r2 at hc2 ⊢
 have hor:=fun B W h0 h1=>zVT r1 r2 B W h0 h1
 generalize orV r1 r2 = R at hor ⊢
 go_enter Tryz.func96,Tryz.ntmps96
 go_wp2_with fail
 generalize ((w.alloc (.cells #[.string x.f0,.string x.f1,.string x.f2] 108)).alloc (.cells #[.string y.f0,.string y.f1,.string y.f2] 108)) = W0 at hb0 hz c0 c1 c2 c3 ⊢
 have hz1:=Nat.le_of_eq hz
 have hz2:=Nat.le_of_eq hz.symm
 clear hz
 go_region_held3 (fun W=>W.cell? ⟨w.heap.size,0,none⟩ = some (.string x.f0) ∧ W.cell? ⟨w.heap.size,1,none⟩ = some (.string x.f1) ∧ W.cell? ⟨w.heap.size + 1,0,none⟩ = some (.string y.f0) ∧ W.cell? ⟨w.heap.size + 1,1,none⟩ = some (.string y.f1))
  (first | go_keep | exact ⟨Vz hb2 c0,Vz hb2 c1,Vz hb2 c2,Vz hb2 c3⟩)
  (first | (go_at_call 91;((with_reducible refine (hc1 _).mono ?_);rintro e w2 ⟨rfl,nd,rfl⟩)) | (go_at_call 91;((with_reducible refine (hc2 _).mono ?_);rintro e w2 ⟨rfl,nd,rfl⟩)) | (go_at_call 97;((refine (hor _ _ (zdF _ _ _ _ _) (zdG _ _ _ _ _)).mono ?_);rintro e w2 ⟨rfl,hb2⟩)))
 all_goals
  have hb3:=hb0.trans ((zvN hb2).mono hb0.size)
  clear hb2 c0 c1 c2 c3
  go_wp2
  go_ret
  exact ⟨rfl,hb3⟩
set_option maxRecDepth 100000 in
set_option maxHeartbeats 1000000 in
theorem zYz (x y:qP) (w:World) :
  Calls Tryz.prog 101 #[.agg #[.string x.f0,.string x.f1,.int .i64 x.f2],.agg #[.string y.f0,.string y.f1,.int .i64 y.f2]] w fun e w'=>e = .returned (.int .i64 (Wo x y)) ∧ Below w.heap.size w w':=by
 unfold Wo
 have hb0:Below w.heap.size w ((w.alloc (.cells #[.string x.f0,.string x.f1,.int .i64 x.f2] 111)).alloc (.cells #[.string y.f0,.string y.f1,.int .i64 y.f2] 111)):=((Below.refl _ w).alloc (Nat.le_refl _) _).alloc (by simp) _
 have hz:((w.alloc (.cells #[.string x.f0,.string x.f1,.int .i64 x.f2] 111)).alloc (.cells #[.string y.f0,.string y.f1,.int .i64 y.f2] 111)).heap.size = w.heap.size + 2:=by simp
 have c0:((w.alloc (.cells #[.string x.f0,.string x.f1,.int .i64 x.f2] 111)).alloc (.cells #[.string y.f0,.string y.f1,.int .i64 y.f2] 111)).cell? ⟨w.heap.size,0,none⟩ = some (.string x.f0):=by simp
 have c1:((w.alloc (.cells #[.string x.f0,.string x.f1,.int .i64 x.f2] 111)).alloc (.cells #[.string y.f0,.string y.f1,.int .i64 y.f2] 111)).cell? ⟨w.heap.size,1,none⟩ = some (.string x.f1):=by simp
 have c2:((w.alloc (.cells #[.string x.f0,.string x.f1,.int .i64 x.f2] 111)).alloc (.cells #[.string y.f0,.string y.f1,.int .i64 y.f2] 111)).cell? ⟨w.heap.size + 1,0,none⟩ = some (.string y.f0):=by simp
 have c3:((w.alloc (.cells #[.string x.f0,.string x.f1,.int .i64 x.f2] 111)).alloc (.cells #[.string y.f0,.string y.f1,.int .i64 y.f2] 111)).cell? ⟨w.heap.size + 1,1,none⟩ = some (.string y.f1):=by simp
 have hc1:=fun W=>uY.calls x.f0 y.f0 _ W (Q9 x.f0 y.f0)
 have hc2:=fun W=>uY.calls x.f1 y.f1 _ W (Q9 x.f1 y.f1)
 generalize vG x.f0 y.f0 = r1 at hc1 ⊢
 generalize vG x.f1 y.f1 = r2 at hc2 ⊢
 have hor:=fun B W h0 h1=>zVT r1 r2 B W h0 h1
 generalize orV r1 r2 = R at hor ⊢
 go_enter Tryz.func101,Tryz.ntmps101
 go_wp2_with fail
 generalize ((w.alloc (.cells #[.string x.f0,.string x.f1,.int .i64 x.f2] 111)).alloc (.cells #[.string y.f0,.string y.f1,.int .i64 y.f2] 111)) = W0 at hb0 hz c0 c1 c2 c3 ⊢
 have hz1:=Nat.le_of_eq hz
 have hz2:=Nat.le_of_eq hz.symm
 clear hz
 go_region_held3 (fun W=>W.cell? ⟨w.heap.size,0,none⟩ = some (.string x.f0) ∧ W.cell? ⟨w.heap.size,1,none⟩ = some (.string x.f1) ∧ W.cell? ⟨w.heap.size + 1,0,none⟩ = some (.string y.f0) ∧ W.cell? ⟨w.heap.size + 1,1,none⟩ = some (.string y.f1))
  (first | go_keep | exact ⟨Vz hb2 c0,Vz hb2 c1,Vz hb2 c2,Vz hb2 c3⟩)
  (first | (go_at_call 91;((with_reducible refine (hc1 _).mono ?_);rintro e w2 ⟨rfl,nd,rfl⟩)) | (go_at_call 91;((with_reducible refine (hc2 _).mono ?_);rintro e w2 ⟨rfl,nd,rfl⟩)) | (go_at_call 97;((refine (hor _ _ (zdF _ _ _ _ _) (zdG _ _ _ _ _)).mono ?_);rintro e w2 ⟨rfl,hb2⟩)))
 all_goals
  have hb3:=hb0.trans ((zvN hb2).mono hb0.size)
  clear hb2 c0 c1 c2 c3
  go_wp2
  go_ret
  exact ⟨rfl,hb3⟩
def zfs (l:List qb) (w:World) (x:Value) (wr:World):Prop :=
 ∃ k:Nat,x = .int .i64 k ∧ 1 ≤ k ∧ k ≤ l.length + 1 ∧ (∀ i,i + 1 < k → i + 1 < l.length → cmpL (qx l (i:Int)) (qx l ((i + 1:Nat):Int)) < 0) ∧ Below w.heap.size w wr
set_option maxRecDepth 100000 in
set_option maxHeartbeats 1000000 in
theorem zYq (A0:Option Addr) (c0:Nat) (l:List qb) (w:World) (hr:Kd.C jX w A0 l.length l) (hl:l.length ≤ 1000000000) :
  Calls Tryz.prog 95 #[.slice A0 l.length c0,.func (.func 96) #[] #[]] w fun e w'=>e = .returned (.bool (Zj (fun i j=>cmpL (qx l (i:Int)) (qx l (j:Int))) l.length)) ∧ Below w.heap.size w w':=by
 generalize hV:Zj (fun i j=>cmpL (qx l (i:Int)) (qx l (j:Int))) l.length = V
 have HV:=Lib.hid hV
 clear hV
 go_enter Tryz.func95,Tryz.ntmps95
 go_wp2
 go_loopw [5] (fun x wr=>zfs l w x wr) (fun x _=>l.length + 1 - (intOf x).toNat)
 case atStart=>exact ⟨1,rfl,by omega,by omega,(fun i h=>by omega),Below.refl _ _⟩
 case round =>
  obtain ⟨k,rfl,hk1,hk,hA,hb⟩:=hrel
  have HA:=Lib.hid hA
  clear hA
  by_cases hlt:k < l.length
  ·obtain ⟨m,rfl⟩:∃ m,k = m + 1:=⟨k - 1,by omega⟩
   have hC:=Kd.zh hr hb
   obtain ⟨ad,e,HH0⟩:=WU hC (m:Int) (by omega) (by omega)
   obtain ⟨ad2,e2,HH1⟩:=WU hC ((m + 1:Nat):Int) (by omega) (by omega)
   cases e
   cases e2
   obtain ⟨h0,h1,h2⟩:=HH0
   obtain ⟨h3,h4,h5⟩:=HH1
   rw [Int.toNat_natCast] at h0 h1 h2 h3 h4 h5
   have hstep:∀ i,i + 1 = m + 1 → cmpL (qx l (i:Int)) (qx l ((i + 1:Nat):Int)) = cmpL (qx l (m:Int)) (qx l ((m + 1:Nat):Int)):=fun i hi=>by obtain rfl:i = m:=(by omega);rfl
   have hbad:¬ cmpL (qx l (m:Int)) (qx l ((m + 1:Nat):Int)) < 0 → V = false:=fun h=>by rw [← HV.out];exact tH (i:=m) (by omega) h
   have hcm:=fun W=>zK9 (qx l (m:Int)) (qx l ((m + 1:Nat):Int)) W
   generalize qx l (m:Int) = x at h0 h1 h2 hstep hcm hbad
   generalize qx l ((m + 1:Nat):Int) = y at h3 h4 h5 hstep hcm hbad
   generalize cmpL x y = r at hcm hstep hbad
   have HS:=Lib.hid hstep
   have HB:=Lib.hid hbad
   have e1:IntKind.i64.wrap (((m:Int) + 1) - 1) = (m:Int):=by rw [Int.add_sub_cancel];exact IntWalk.i64_in _ (by omega)
   have q1:(m:Int) < (l.length:Int):=by omega
   have q2:(m:Int) + 1 < (l.length:Int):=by omega
   have q3:((m:Int) + 1).toNat = m + 1:=by omega
   have q4:(0:Int) ≤ (m:Int) + 1:=by omega
   clear hC hr hstep hbad
   have e0:IntKind.i64.wrap (m:Int) = (m:Int):=IntWalk.i64_in _ (by omega)
   have q5:(0:Int) ≤ (m:Int):=by omega
   by_cases hr0:r < 0
   ·have d1:decide (0 ≤ r) = false:=by simp;omega
    have HR:=Lib.hid hr0
    clear hr0
    go_wp2_with fail
    go_region_held3 (fun W=>W.cell? (ad.add (m * 3)) = some (.string x.f0) ∧ W.cell? ⟨(ad.add (m * 3)).block,(ad.add (m * 3)).off + 1,none⟩ = some (.string x.f1) ∧ W.cell? ⟨(ad.add (m * 3)).block,(ad.add (m * 3)).off + 2,none⟩ = some (.string x.f2) ∧ W.cell? (ad.add ((m + 1) * 3)) = some (.string y.f0) ∧ W.cell? ⟨(ad.add ((m + 1) * 3)).block,(ad.add ((m + 1) * 3)).off + 1,none⟩ = some (.string y.f1) ∧ W.cell? ⟨(ad.add ((m + 1) * 3)).block,(ad.add ((m + 1) * 3)).off + 2,none⟩ = some (.string y.f2)) (first | go_keep | exact ⟨(hb2.cell (World.block_lt_of_cell? wr _ h0)).trans h0,(hb2.cell (World.block_lt_of_cell? wr _ h1)).trans h1,(hb2.cell (World.block_lt_of_cell? wr _ h2)).trans h2,(hb2.cell (World.block_lt_of_cell? wr _ h3)).trans h3,(hb2.cell (World.block_lt_of_cell? wr _ h4)).trans h4,(hb2.cell (World.block_lt_of_cell? wr _ h5)).trans h5⟩) ((go_at_call 96;refine (hcm _).mono ?_;rintro e w2 ⟨rfl,hb2⟩))
    clear e0 e1
    have hb3:Below w.heap.size w w2:=(hb.drew).trans (hb2.mono hb.size)
    clear hb2
    go_wp2
    refine ⟨⟨m + 1 + 1,by go_num,by omega,by omega,(fun i h1 h2=>?_),hb3⟩,by simp [intOf];omega⟩
    by_cases e:i + 1 = m + 1
    ·rw [HS.out i e];exact HR.out
    ·exact HA.out i (by omega) h2
   ·have d1:decide (0 ≤ r) = true:=by simp;omega
    have hv:V = false:=HB.out hr0
    have uP:=Lib.hid hv
    clear hr0 hv
    go_wp2_with fail
    go_region_held3 (fun W=>W.cell? (ad.add (m * 3)) = some (.string x.f0) ∧ W.cell? ⟨(ad.add (m * 3)).block,(ad.add (m * 3)).off + 1,none⟩ = some (.string x.f1) ∧ W.cell? ⟨(ad.add (m * 3)).block,(ad.add (m * 3)).off + 2,none⟩ = some (.string x.f2) ∧ W.cell? (ad.add ((m + 1) * 3)) = some (.string y.f0) ∧ W.cell? ⟨(ad.add ((m + 1) * 3)).block,(ad.add ((m + 1) * 3)).off + 1,none⟩ = some (.string y.f1) ∧ W.cell? ⟨(ad.add ((m + 1) * 3)).block,(ad.add ((m + 1) * 3)).off + 2,none⟩ = some (.string y.f2)) (first | go_keep | exact ⟨(hb2.cell (World.block_lt_of_cell? wr _ h0)).trans h0,(hb2.cell (World.block_lt_of_cell? wr _ h1)).trans h1,(hb2.cell (World.block_lt_of_cell? wr _ h2)).trans h2,(hb2.cell (World.block_lt_of_cell? wr _ h3)).trans h3,(hb2.cell (World.block_lt_of_cell? wr _ h4)).trans h4,(hb2.cell (World.block_lt_of_cell? wr _ h5)).trans h5⟩) ((go_at_call 96;refine (hcm _).mono ?_;rintro e w2 ⟨rfl,hb2⟩))
    clear e0 e1
    have hb3:Below w.heap.size w w2:=(hb.drew).trans (hb2.mono hb.size)
    clear hb2
    go_wp2
    go_ret
    exact ⟨by rw [uP.out];rfl,hb3⟩
  ·have hv:V = true:=by rw [← HV.out];exact eP (fun i hi=>HA.out i (by omega) hi)
   have uP:=Lib.hid hv
   have q1:decide ((k:Int) < (l.length:Int)) = false:=decide_eq_false (by omega)
   clear hv hr
   go_wp2
   go_ret
   exact ⟨by rw [uP.out];rfl,hb⟩
def zft (l:List qP) (w:World) (x:Value) (wr:World):Prop :=
 ∃ k:Nat,x = .int .i64 k ∧ 1 ≤ k ∧ k ≤ l.length + 1 ∧ (∀ i,i + 1 < k → i + 1 < l.length → Wo (qw l (i:Int)) (qw l ((i + 1:Nat):Int)) < 0) ∧ Below w.heap.size w wr
set_option maxRecDepth 100000 in
set_option maxHeartbeats 1000000 in
theorem zYx (A0:Option Addr) (c0:Nat) (l:List qP) (w:World) (hr:Kd.C jg w A0 l.length l) (hl:l.length ≤ 1000000000) :
  Calls Tryz.prog 100 #[.slice A0 l.length c0,.func (.func 101) #[] #[]] w fun e w'=>e = .returned (.bool (Zj (fun i j=>Wo (qw l (i:Int)) (qw l (j:Int))) l.length)) ∧ Below w.heap.size w w':=by
 generalize hV:Zj (fun i j=>Wo (qw l (i:Int)) (qw l (j:Int))) l.length = V
 have HV:=Lib.hid hV
 clear hV
 go_enter Tryz.func100,Tryz.ntmps100
 go_wp2
 go_loopw [5] (fun x wr=>zft l w x wr) (fun x _=>l.length + 1 - (intOf x).toNat)
 case atStart=>exact ⟨1,rfl,by omega,by omega,(fun i h=>by omega),Below.refl _ _⟩
 case round =>
  obtain ⟨k,rfl,hk1,hk,hA,hb⟩:=hrel
  have HA:=Lib.hid hA
  clear hA
  by_cases hlt:k < l.length
  ·obtain ⟨m,rfl⟩:∃ m,k = m + 1:=⟨k - 1,by omega⟩
   have hC:=Kd.zh hr hb
   obtain ⟨ad,e,HH0⟩:=Pz hC (m:Int) (by omega) (by omega)
   obtain ⟨ad2,e2,HH1⟩:=Pz hC ((m + 1:Nat):Int) (by omega) (by omega)
   cases e
   cases e2
   obtain ⟨h0,h1,h2⟩:=HH0
   obtain ⟨h3,h4,h5⟩:=HH1
   rw [Int.toNat_natCast] at h0 h1 h2 h3 h4 h5
   have hstep:∀ i,i + 1 = m + 1 → Wo (qw l (i:Int)) (qw l ((i + 1:Nat):Int)) = Wo (qw l (m:Int)) (qw l ((m + 1:Nat):Int)):=fun i hi=>by obtain rfl:i = m:=(by omega);rfl
   have hbad:¬ Wo (qw l (m:Int)) (qw l ((m + 1:Nat):Int)) < 0 → V = false:=fun h=>by rw [← HV.out];exact tH (i:=m) (by omega) h
   have hcm:=fun W=>zYz (qw l (m:Int)) (qw l ((m + 1:Nat):Int)) W
   generalize qw l (m:Int) = x at h0 h1 h2 hstep hcm hbad
   generalize qw l ((m + 1:Nat):Int) = y at h3 h4 h5 hstep hcm hbad
   generalize Wo x y = r at hcm hstep hbad
   have HS:=Lib.hid hstep
   have HB:=Lib.hid hbad
   have e1:IntKind.i64.wrap (((m:Int) + 1) - 1) = (m:Int):=by rw [Int.add_sub_cancel];exact IntWalk.i64_in _ (by omega)
   have q1:(m:Int) < (l.length:Int):=by omega
   have q2:(m:Int) + 1 < (l.length:Int):=by omega
   have q3:((m:Int) + 1).toNat = m + 1:=by omega
   have q4:(0:Int) ≤ (m:Int) + 1:=by omega
   clear hC hr hstep hbad
   have e0:IntKind.i64.wrap (m:Int) = (m:Int):=IntWalk.i64_in _ (by omega)
   have q5:(0:Int) ≤ (m:Int):=by omega
   by_cases hr0:r < 0
   ·have d1:decide (0 ≤ r) = false:=by simp;omega
    have HR:=Lib.hid hr0
    clear hr0
    go_wp2_with fail
    go_region_held3 (fun W=>W.cell? (ad.add (m * 3)) = some (.string x.f0) ∧ W.cell? ⟨(ad.add (m * 3)).block,(ad.add (m * 3)).off + 1,none⟩ = some (.string x.f1) ∧ W.cell? ⟨(ad.add (m * 3)).block,(ad.add (m * 3)).off + 2,none⟩ = some (.int .i64 x.f2) ∧ W.cell? (ad.add ((m + 1) * 3)) = some (.string y.f0) ∧ W.cell? ⟨(ad.add ((m + 1) * 3)).block,(ad.add ((m + 1) * 3)).off + 1,none⟩ = some (.string y.f1) ∧ W.cell? ⟨(ad.add ((m + 1) * 3)).block,(ad.add ((m + 1) * 3)).off + 2,none⟩ = some (.int .i64 y.f2)) (first | go_keep | exact ⟨(hb2.cell (World.block_lt_of_cell? wr _ h0)).trans h0,(hb2.cell (World.block_lt_of_cell? wr _ h1)).trans h1,(hb2.cell (World.block_lt_of_cell? wr _ h2)).trans h2,(hb2.cell (World.block_lt_of_cell? wr _ h3)).trans h3,(hb2.cell (World.block_lt_of_cell? wr _ h4)).trans h4,(hb2.cell (World.block_lt_of_cell? wr _ h5)).trans h5⟩) ((go_at_call 101;refine (hcm _).mono ?_;rintro e w2 ⟨rfl,hb2⟩))
    clear e0 e1
    have hb3:Below w.heap.size w w2:=(hb.drew).trans (hb2.mono hb.size)
    clear hb2
    go_wp2
    refine ⟨⟨m + 1 + 1,by go_num,by omega,by omega,(fun i h1 h2=>?_),hb3⟩,by simp [intOf];omega⟩
    by_cases e:i + 1 = m + 1
    ·rw [HS.out i e];exact HR.out
    ·exact HA.out i (by omega) h2
   ·have d1:decide (0 ≤ r) = true:=by simp;omega
    have hv:V = false:=HB.out hr0
    have uP:=Lib.hid hv
    clear hr0 hv
    go_wp2_with fail
    go_region_held3 (fun W=>W.cell? (ad.add (m * 3)) = some (.string x.f0) ∧ W.cell? ⟨(ad.add (m * 3)).block,(ad.add (m * 3)).off + 1,none⟩ = some (.string x.f1) ∧ W.cell? ⟨(ad.add (m * 3)).block,(ad.add (m * 3)).off + 2,none⟩ = some (.int .i64 x.f2) ∧ W.cell? (ad.add ((m + 1) * 3)) = some (.string y.f0) ∧ W.cell? ⟨(ad.add ((m + 1) * 3)).block,(ad.add ((m + 1) * 3)).off + 1,none⟩ = some (.string y.f1) ∧ W.cell? ⟨(ad.add ((m + 1) * 3)).block,(ad.add ((m + 1) * 3)).off + 2,none⟩ = some (.int .i64 y.f2)) (first | go_keep | exact ⟨(hb2.cell (World.block_lt_of_cell? wr _ h0)).trans h0,(hb2.cell (World.block_lt_of_cell? wr _ h1)).trans h1,(hb2.cell (World.block_lt_of_cell? wr _ h2)).trans h2,(hb2.cell (World.block_lt_of_cell? wr _ h3)).trans h3,(hb2.cell (World.block_lt_of_cell? wr _ h4)).trans h4,(hb2.cell (World.block_lt_of_cell? wr _ h5)).trans h5⟩) ((go_at_call 101;refine (hcm _).mono ?_;rintro e w2 ⟨rfl,hb2⟩))
    clear e0 e1
    have hb3:Below w.heap.size w w2:=(hb.drew).trans (hb2.mono hb.size)
    clear hb2
    go_wp2
    go_ret
    exact ⟨by rw [uP.out];rfl,hb3⟩
  ·have hv:V = true:=by rw [← HV.out];exact eP (fun i hi=>HA.out i (by omega) hi)
   have uP:=Lib.hid hv
   have q1:decide ((k:Int) < (l.length:Int)) = false:=decide_eq_false (by omega)
   clear hv hr
   go_wp2
   go_ret
   exact ⟨by rw [uP.out];rfl,hb⟩
end Go.Proofs.YtggifbbiiickmaaGreatDoor
namespace Go.Proofs.YtggifbbiiickmaaGreatDoor.PX
open Go.RowKit Go.Proofs.zk.za Go.Proofs.zk.zS Go.Proofs.zk.zR
attribute [local go_sem] qD qE xJ xV qc qd qF qG   -- for this text's walks alone
set_option linter.unusedVariables false
set_option linter.unusedSimpArgs false
def kS.l0:Nat → List ByteArray → Int → Int → ByteArray → Bool → Int → List (yG) → List (qb) → List (qP) → Option (Bool)
 | 0,_,_,_,_,_,_,_,_,_=>none
 | k + 1,x9,x10,x11,zy8,zy9,zwz,zwq,zwx,zwj=>if x11 < x10 then (if 0 ≤ x11 then (if x11 < (x9.length:Int) then ((kY.f zy8 zy9 zwz zwq zwx zwj (Qt ByteArray.empty x9 x11)).bind fun zfu=>(if zfu.2 = true then (kS.l0 k x9 x10 (wrap64 (x11 + 1)) zy8 zy9 zwz zwq zwx zwj) else (some false))) else (none)) else (none)) else (some true)
def kS.f (k:Nat) (zF:ByteArray) (zG:Bool) (zB:Int) (zn:List (yG)) (zN:List (qb)) (zO:List (qP)) (l1:List ByteArray):Option (Bool):=kS.l0 k l1 (l1.length:Int) 0 zF zG zB zn zN zO
set_option maxHeartbeats 8000000 in
set_option maxRecDepth 100000 in
theorem kS.calls (k:Nat) (zF:ByteArray) (zG:Bool) (zB:Int) (yM:Option Addr) (yN:Nat) (zn:List (yG)) (yP:Option Addr) (yR:Nat) (zN:List (qb)) (yS:Option Addr) (yT:Nat) (zO:List (qP)) (A1:Option Addr) (c1:Nat) (l1:List ByteArray) (r:Bool) (w:World) (jV:Kd.C vO w yM zn.length zn) (kG:zn.length ≤ yN) (kH:Kd.C jX w yP zN.length zN) (kI:zN.length ≤ yR) (kL:Kd.C jg w yS zO.length zO) (kM:zO.length ≤ yT) (hr1:Kd.C Kd.string w A1 l1.length l1) (hc1:l1.length ≤ c1) (hG:GW w) (h:kS.f k zF zG zB zn zN zO l1 = some r) :
  Calls Tryz.prog 94 #[.agg #[.string zF,.bool zG,.int .i64 zB,.slice yM zn.length yN,.slice yP zN.length yR,.slice yS zO.length yT],.slice A1 l1.length c1] w fun e w'=>e = .returned (.bool r) ∧ Below w.heap.size w w':=by
 have zYj:=Tryz.underlying60
 have HG:=zx.mk hG
 clear hG
 have jD:=zx.mk jV
 have wD:=zx.mk kG
 clear jV kG
 have wE:=zx.mk kH
 have wF:=zx.mk kI
 clear kH kI
 have wG:=zx.mk kL
 have wH:=zx.mk kM
 clear kL kM
 have HR1:=zx.mk hr1
 have HC1:=zx.mk hc1
 clear hr1 hc1
 have HB:=zx.mk (Below.refl w.heap.size w)
 have H:(kS.l0 k l1 (l1.length:Int) 0 zF zG zB zn zN zO) = some r:=h
 clear h
 have H':=zx.mk H
 clear H
 go_enter Tryz.func94,Tryz.ntmps94
 go_wp2_with (first | ((with_reducible refine qQ (N:=2) rfl ?_);refine qC ?hg (N:=2) ?hd (cs:=#[.string zF,.bool zG,.int .i64 zB,.slice yM zn.length yN,.slice yP zN.length yR,.slice yS zO.length yT]) (t:=60) ?hr ?_;(case hd=>rfl);(case hg=>rfl);(case hr=>first | (go_simp;done) | (go_simp;rfl));intro Zp hg w3 qo hb;have ze:=zx.mk (zu (zD HB.out) hb);have zi:=zx.mk (qo);have zo:=zx.mk ((by rw [hg];exact (zm (zD HB.out)):w.heap.size ≤ Zp));have zT:=zx.mk ((by rw [hg];exact (zm (zD HB.out)):w.heap.size ≤ Zp));clear HB;have HB:=ze;have uR:=zi;have ztF:=zo;have zWN:=zT;clear ze zi zo zT;clear hb qo hg))
 go_loopg [11] k (fun kq v11 w'=>∃ (wK:Int),v11 = .int .i64 wK ∧ zx (kS.l0 kq l1 (l1.length:Int) wK zF zG zB zn zN zO = some r) ∧ zx (kq ≤ k) ∧ zx (w'.heap[Zp]? = some (.cells #[.string zF,.bool zG,.int .i64 zB,(.slice yM zn.length yN),(.slice yP zN.length yR),(.slice yS zO.length yT)] 60 (0,0))) ∧ zx (Below w.heap.size w w'))
 case atStart=>exact ⟨(0),(by first | rfl | (simp;done) | (simp [*];done)),H',⟨Nat.le_refl _⟩,⟨qK uR.out⟩,⟨zD HB.out⟩⟩
 case round =>
  clear H'
  try clear c1
  obtain ⟨wK,rfl,HA,wo,uR,HB⟩:=hrel
  cases gk with
  | zero=>exact absurd HA.out (by simp [kS.l0])
  | succ k1 =>
   have H:=HA.out
   clear HA
   simp only [kS.l0] at H
   by_cases c4:wK < (l1.length:Int)
   ·rw [if_pos c4] at H
    have QX:decide (wK < (l1.length:Int)) = true:=decide_eq_true c4
    clear c4
    by_cases c5:0 ≤ wK
    ·rw [if_pos c5] at H
     have wM:decide (0 ≤ wK) = true:=decide_eq_true c5
     clear c5
     by_cases c6:wK < (l1.length:Int)
     ·rw [if_pos c6] at H
      have kD:decide (wK < (l1.length:Int)) = true:=decide_eq_true c6
      clear c6
      replace H:=Option.bind_eq_some_iff.mp H
      obtain ⟨⟨zdH,zdI⟩,eT,H⟩:=H
      replace H:(if zdI = true then (kS.l0 k1 l1 (l1.length:Int) (wrap64 (wK + 1)) zF zG zB zn zN zO) else (some false)) = some r:=H
      have A7:=zx.mk eT
      clear eT
      by_cases c8:zdI = true
      ·subst c8
       have H1:(kS.l0 k1 l1 (l1.length:Int) (wrap64 (wK + 1)) zF zG zB zn zN zO) = some r:=by rw [if_pos rfl] at H;exact H
       clear H
       have H:=H1
       clear H1
       have H':=zx.mk H
       clear H
       have zzr:0 ≤ (wK:Int):=of_decide_eq_true yH
       have zzs:wK < (l1.length:Int):=of_decide_eq_true yH
       obtain ⟨zfA,zYv,Je⟩:=Kd.WZ HR1.out wK zzr zzs
       cases zYv
       replace Je:=(HB.out.cell (World.block_lt_of_cell? w _ Je)).trans Je
       replace zzr:=eq_true zzr
       replace zzs:=eq_true zzs
       have fO:wr.cell? ⟨Zp,0,none⟩ = some (.string zF):=zK uR 0
       have fP:wr.cell? ⟨Zp,1,none⟩ = some (.bool zG):=zK uR 1
       have fT:wr.cell? ⟨Zp,2,none⟩ = some (.int .i64 zB):=zK uR 2
       have fU:wr.cell? ⟨Zp,3,none⟩ = some (.slice yM zn.length yN):=zK uR 3
       have eZ:wr.cell? ⟨Zp,4,none⟩ = some (.slice yP zN.length yR):=zK uR 4
       have eX:wr.cell? ⟨Zp,5,none⟩ = some (.slice yS zO.length yT):=zK uR 5
       have eY:=zw uR.out 0
       have eB:=zw uR.out 1
       have eD:=zw uR.out 2
       have eF:=zw uR.out 3
       have eG:=zw uR.out 4
       have eH:=zw uR.out 5
       go_wp2_with (first | ((with_reducible refine yx (f:=64) rfl ?_);refine uD (some 18) Tryz.func64 #[.agg #[.string zF,.bool zG,.int .i64 zB,.slice yM zn.length yN,.slice yP zN.length yR,.slice yS zO.length yT],.string (Qt ByteArray.empty l1 wK)] ?_;(with_reducible refine (kY.calls zF zG zB _ _ zn _ _ zN _ _ zO (Qt ByteArray.empty l1 wK) zdH true _ ?yh ?yD ?qX ?qJ ?qR ?xg ?jO A7.out).mono ?_);(case yh=>exact qM (Kd.zh jD.out HB.out));(case yD=>exact wD.out);(case qX=>exact qM (Kd.zh wE.out HB.out));(case qJ=>exact wF.out);(case qR=>exact qM (Kd.zh wG.out HB.out));(case xg=>exact wH.out);(case jO=>exact GW.under HG.out (zD HB.out));rintro e YI ⟨rfl,hb⟩;refine ⟨_,rfl,?_⟩;have ze:=zx.mk (zM (g:=Zp) (o:=.cells #[.string zF,.bool zG,.int .i64 zB,.slice yM zn.length yN,.slice yP zN.length yR,.slice yS zO.length yT] 60 (0,0)) (qK uR.out) hb);have zi:=zx.mk (zu (zD HB.out) hb);clear uR;clear HB;have uR:=ze;have HB:=zi;clear ze zi;(try clear hb);(try clear hi)))
       go_roundg k1
       case measure=>have:=wo.out;omega
       case rel=>exact ⟨(wrap64 (wK + 1)),(by first | rfl | (simp;done) | (simp [*];done)),H',⟨by have:=wo.out;omega⟩,⟨qK uR.out⟩,⟨zD HB.out⟩⟩
      ·replace c8:=Bool.eq_false_iff.mpr c8
       subst c8
       have H1:(some false) = some r:=by rw [if_neg (show ¬ (false = true) by decide)] at H;exact H
       clear H
       have H:=H1
       clear H1
       obtain rfl:=Option.some.inj H
       have zzr:0 ≤ (wK:Int):=of_decide_eq_true yH
       have zzs:wK < (l1.length:Int):=of_decide_eq_true yH
       obtain ⟨zfA,zYv,Je⟩:=Kd.WZ HR1.out wK zzr zzs
       cases zYv
       replace Je:=(HB.out.cell (World.block_lt_of_cell? w _ Je)).trans Je
       replace zzr:=eq_true zzr
       replace zzs:=eq_true zzs
       have gN:wr.cell? ⟨Zp,0,none⟩ = some (.string zF):=zK uR 0
       have zxb:wr.cell? ⟨Zp,1,none⟩ = some (.bool zG):=zK uR 1
       have zxc:wr.cell? ⟨Zp,2,none⟩ = some (.int .i64 zB):=zK uR 2
       have zxd:wr.cell? ⟨Zp,3,none⟩ = some (.slice yM zn.length yN):=zK uR 3
       have zxe:wr.cell? ⟨Zp,4,none⟩ = some (.slice yP zN.length yR):=zK uR 4
       have zxf:wr.cell? ⟨Zp,5,none⟩ = some (.slice yS zO.length yT):=zK uR 5
       have gP:=zw uR.out 0
       have zxg:=zw uR.out 1
       have zxh:=zw uR.out 2
       have zxi:=zw uR.out 3
       have zxl:=zw uR.out 4
       have zxm:=zw uR.out 5
       go_wp2_with (first | ((with_reducible refine yx (f:=64) rfl ?_);refine uD (some 18) Tryz.func64 #[.agg #[.string zF,.bool zG,.int .i64 zB,.slice yM zn.length yN,.slice yP zN.length yR,.slice yS zO.length yT],.string (Qt ByteArray.empty l1 wK)] ?_;(with_reducible refine (kY.calls zF zG zB _ _ zn _ _ zN _ _ zO (Qt ByteArray.empty l1 wK) zdH false _ ?yh ?yD ?qX ?qJ ?qR ?xg ?jO A7.out).mono ?_);(case yh=>exact qM (Kd.zh jD.out HB.out));(case yD=>exact wD.out);(case qX=>exact qM (Kd.zh wE.out HB.out));(case qJ=>exact wF.out);(case qR=>exact qM (Kd.zh wG.out HB.out));(case xg=>exact wH.out);(case jO=>exact GW.under HG.out (zD HB.out));rintro e dK ⟨rfl,hb⟩;refine ⟨_,rfl,?_⟩;have ze:=zx.mk (zM (g:=Zp) (o:=.cells #[.string zF,.bool zG,.int .i64 zB,.slice yM zn.length yN,.slice yP zN.length yR,.slice yS zO.length yT] 60 (0,0)) (qK uR.out) hb);have zi:=zx.mk (zu (zD HB.out) hb);clear uR;clear HB;have uR:=ze;have HB:=zi;clear ze zi;(try clear hb);(try clear hi)))
       go_ret
       exact ⟨by first | rfl | (simp [zH,zI] <;> rfl) | (simp [*,zH,zI] <;> rfl),by repeat (first | (with_reducible first | exact HB.out | apply yJ | apply zC | apply yY | refine qm ?_ zWN.out) | exact HB.out)⟩
     ·rw [if_neg c6] at H
      exact absurd H (by simp)
    ·rw [if_neg c5] at H
     exact absurd H (by simp)
   ·rw [if_neg c4] at H
    have QX:decide (wK < (l1.length:Int)) = false:=decide_eq_false c4
    clear c4
    obtain rfl:=Option.some.inj H
    go_wp2
    go_ret
    exact ⟨by first | rfl | (simp [zH,zI] <;> rfl) | (simp [*,zH,zI] <;> rfl),by repeat (first | (with_reducible first | exact HB.out | apply yJ | apply zC | apply yY | refine qm ?_ zWN.out) | exact HB.out)⟩
end Go.Proofs.YtggifbbiiickmaaGreatDoor.PX
namespace Go.Proofs.YtggifbbiiickmaaGreatDoor
open Go.RowKit Go.Shelf Go.Proofs.zk.za Go.Proofs.zk.zR Go.Proofs.YtggifbbiiickmaaGreatDoor.PX
instance:Inhabited yG:=⟨z105⟩
instance:Inhabited qb:=⟨zKO⟩
instance:Inhabited qP:=⟨zKP⟩
def pU (x:yG):List Value:=[.string x.f0,.int .i64 x.f1]
def zkr (x:qb):List Value:=[.string x.f0,.string x.f1,.string x.f2]
def zks (x:qP):List Value:=[.string x.f0,.string x.f1,.int .i64 x.f2]
theorem zzt {α:Type} [Inhabited α] (d:Kd α) (enc:α → List Value) (hopen:∀ (w:World) (x:α) (c:List Value),d.K w x c → c = enc x) (hne:∀ x,enc x ≠ []) {w:World} {A:Option Addr} {l:List α} (h:Kd.C d w A l.length l) (h0:l ≠ []) :
  ∃ b off,A = some ⟨b,off,none⟩ ∧ b < w.heap.size ∧ ∀ j,j < l.length → ∀ i v,(enc l[j]!)[i]? = some v → w.cell? ⟨b,off + j * d.sz + i,none⟩ = some v:=by
 have hl:0 < l.length:=List.length_pos_iff.2 h0
 obtain ⟨_,_,h3⟩:=h
 obtain ⟨ad,rfl,hc⟩:=h3 hl
 obtain ⟨b,off,spot⟩:=ad
 have hcell:∀ j,j < l.length → ∀ i v,(enc l[j]!)[i]? = some v → w.cell? ((⟨b,off,spot⟩:Addr).add (j * d.sz + i)) = some v:=by
  intro j hj i v hv
  obtain ⟨c,_,hK,hcc⟩:=hc j l[j] (List.getElem?_eq_getElem hj)
  have e:=hopen w _ c hK
  rw [getElem!_pos l j hj,← e] at hv
  exact hcc i v hv
 obtain ⟨v,hv⟩:∃ v,(enc l[0]!)[0]? = some v:=by
  cases he:enc l[0]! with
  | nil=>exact absurd he (hne _)
  | cons v r=>exact ⟨v,rfl⟩
 have hc0:=hcell 0 hl 0 v hv
 have hspot:spot = none:=by simpa [Addr.add] using World.cell?_spot hc0
 subst hspot
 refine ⟨b,off,rfl,?_,fun j hj i v hv=>?_⟩
 ·have:=World.block_lt_of_cell? w _ hc0
  simpa [Addr.add] using this
 ·have:=hcell j hj i v hv
  rwa [Addr.add_lit,← Nat.add_assoc] at this
set_option maxRecDepth 100000 in
theorem zVU (A0:Option Addr) (c0:Nat) (fv:Value) (w:World):Calls Tryz.prog 130 #[.slice A0 0 c0,fv] w fun e w'=>e = .returned (.int .i64 (-1)) ∧ Below w.heap.size w w':=by
 go_enter Tryz.func130,Tryz.ntmps130
 go_wp2
 go_loop [8] (fun i=>i = .int .i64 0) (fun _=>0)
 case atStart=>rfl
 case round =>
  obtain rfl:=hrel
  go_wp2
  go_ret
  exact ⟨rfl,Below.refl _ _⟩
set_option maxRecDepth 100000 in
theorem zkt (A0:Option Addr) (c0:Nat) (l:List yG) (w:World) (hr:Kd.C vO w A0 l.length l) (hl:l.length ≤ 1000000000) (p:yG → Bool) (g:Nat) (lb:Array Value) (eg:∀ args w,(callFunc g args).run Tryz.prog w = .ok (.enter g args) w)
  (hp:PredBelow Tryz.prog g lb (fun x=>.agg (pU x).toArray) p w) :
  Calls Tryz.prog 86 #[.slice A0 l.length c0,.func (.func g) #[] lb] w fun e w'=>e = .returned (.bool (l.any p)) ∧ Below w.heap.size w w':=by
 by_cases h0:l = []
 ·subst h0
  have h:=zVU A0 c0 (.func (.func g) #[] lb) w
  go_enter Tryz.func86,Tryz.ntmps86
  go_wp2_with (go_at_call 130;refine h.mono ?_;rintro e w1 ⟨rfl,hb⟩)
  go_ret
  exact ⟨rfl,hb⟩
 ·obtain ⟨b,off,rfl,hb,hc⟩:=zzt vO pU (fun w x c h=>zvH h) (fun x=>by simp [pU]) hr h0
  have:=AnyQ.slices_ContainsFunc Tryz.hasG 2 Tryz.isAgg105 Tryz.sizeOf105 pU (fun _=>rfl) p g lb eg b off l.length c0 l w hp (Nat.le_refl _) (by omega) hb hc
  rw [List.take_length] at this
  exact this
set_option maxRecDepth 100000 in
theorem zV0 (A0:Option Addr) (c0:Nat) (fv:Value) (w:World):Calls Tryz.prog 133 #[.slice A0 0 c0,fv] w fun e w'=>e = .returned (.int .i64 (-1)) ∧ Below w.heap.size w w':=by
 go_enter Tryz.func133,Tryz.ntmps133
 go_wp2
 go_loop [8] (fun i=>i = .int .i64 0) (fun _=>0)
 case atStart=>rfl
 case round =>
  obtain rfl:=hrel
  go_wp2
  go_ret
  exact ⟨rfl,Below.refl _ _⟩
set_option maxRecDepth 100000 in
theorem zYk (A0:Option Addr) (c0:Nat) (l:List qb) (w:World) (hr:Kd.C jX w A0 l.length l) (hl:l.length ≤ 1000000000) (p:qb → Bool) (g:Nat) (lb:Array Value) (eg:∀ args w,(callFunc g args).run Tryz.prog w = .ok (.enter g args) w)
  (hp:PredBelow Tryz.prog g lb (fun x=>.agg (zkr x).toArray) p w) :
  Calls Tryz.prog 92 #[.slice A0 l.length c0,.func (.func g) #[] lb] w fun e w'=>e = .returned (.bool (l.any p)) ∧ Below w.heap.size w w':=by
 by_cases h0:l = []
 ·subst h0
  have h:=zV0 A0 c0 (.func (.func g) #[] lb) w
  go_enter Tryz.func92,Tryz.ntmps92
  go_wp2_with (go_at_call 133;refine h.mono ?_;rintro e w1 ⟨rfl,hb⟩)
  go_ret
  exact ⟨rfl,hb⟩
 ·obtain ⟨b,off,rfl,hb,hc⟩:=zzt jX zkr (fun w x c h=>zvI h) (fun x=>by simp [zkr]) hr h0
  have:=AnyQ.slices_ContainsFunc Tryz.hasL 3 Tryz.isAgg108 Tryz.sizeOf108 zkr (fun _=>rfl) p g lb eg b off l.length c0 l w hp (Nat.le_refl _) (by omega) hb hc
  rw [List.take_length] at this
  exact this
set_option maxRecDepth 100000 in
theorem zV1 (A0:Option Addr) (c0:Nat) (fv:Value) (w:World):Calls Tryz.prog 134 #[.slice A0 0 c0,fv] w fun e w'=>e = .returned (.int .i64 (-1)) ∧ Below w.heap.size w w':=by
 go_enter Tryz.func134,Tryz.ntmps134
 go_wp2
 go_loop [8] (fun i=>i = .int .i64 0) (fun _=>0)
 case atStart=>rfl
 case round =>
  obtain rfl:=hrel
  go_wp2
  go_ret
  exact ⟨rfl,Below.refl _ _⟩
set_option maxRecDepth 100000 in
theorem zYy (A0:Option Addr) (c0:Nat) (l:List qP) (w:World) (hr:Kd.C jg w A0 l.length l) (hl:l.length ≤ 1000000000) (p:qP → Bool) (g:Nat) (lb:Array Value) (eg:∀ args w,(callFunc g args).run Tryz.prog w = .ok (.enter g args) w)
  (hp:PredBelow Tryz.prog g lb (fun x=>.agg (zks x).toArray) p w) :
  Calls Tryz.prog 99 #[.slice A0 l.length c0,.func (.func g) #[] lb] w fun e w'=>e = .returned (.bool (l.any p)) ∧ Below w.heap.size w w':=by
 by_cases h0:l = []
 ·subst h0
  have h:=zV1 A0 c0 (.func (.func g) #[] lb) w
  go_enter Tryz.func99,Tryz.ntmps99
  go_wp2_with (go_at_call 134;refine h.mono ?_;rintro e w1 ⟨rfl,hb⟩)
  go_ret
  exact ⟨rfl,hb⟩
 ·obtain ⟨b,off,rfl,hb,hc⟩:=zzt jg zks (fun w x c h=>zvL h) (fun x=>by simp [zks]) hr h0
  have:=AnyQ.slices_ContainsFunc Tryz.hasK 3 Tryz.isAgg111 Tryz.sizeOf111 zks (fun _=>rfl) p g lb eg b off l.length c0 l w hp (Nat.le_refl _) (by omega) hb hc
  rw [List.take_length] at this
  exact this
def Qo (n:Int):Bool:=decide (n < 0) || decide (3000 < n)
set_option maxRecDepth 100000 in
theorem zku (n:Int) (w:World):Calls Tryz.prog 84 #[.int .i64 n] w fun e w'=>e = .returned (.bool (Qo n)) ∧ w' = w:=by
 unfold Qo
 by_cases h1:n < 0
 ·have d1:decide (n < 0) = true:=decide_eq_true h1
  rw [d1];clear h1
  go_enter Tryz.func84,Tryz.ntmps84
  go_wp2
  go_ret
  exact ⟨rfl,rfl⟩
 ·have d1:decide (n < 0) = false:=decide_eq_false h1
  rw [d1];clear h1
  cases hd:decide (3000 < n) with
  | true =>
   go_enter Tryz.func84,Tryz.ntmps84
   go_wp2
   go_ret
   exact ⟨rfl,rfl⟩
  | false =>
   go_enter Tryz.func84,Tryz.ntmps84
   go_wp2
   go_ret
   exact ⟨rfl,rfl⟩
def gy (x:yG):Bool:=!pW x.f0.data.toList || Qo x.f1
set_option maxRecDepth 100000 in
theorem zYw (B:Nat) (w:World) (hB:w.cell? ⟨B,0,none⟩ = some (.func (.func 84) #[] #[])) :
  PredBelow Tryz.prog 87 #[.pointer (some ⟨B,0,none⟩)] (fun x=>.agg (pU x).toArray) gy w:=fun W x hb=>by
 have hl:=World.block_lt_of_cell? w _ hB
 have hc:W.cell? ⟨B,0,none⟩ = some (.func (.func 84) #[] #[]):=(hb.cell hl).trans hB
 have hlW:B < W.heap.size:=Nat.lt_of_lt_of_le hl hb.size
 show Calls Tryz.prog 87 #[.agg #[.string x.f0,.int .i64 x.f1],.pointer (some ⟨B,0,none⟩)] W _
 have hb0:Below w.heap.size w (W.alloc (.cells #[.string x.f0,.int .i64 x.f1] 105)):=hb.alloc hb.size _
 have hbW:Below W.heap.size W (W.alloc (.cells #[.string x.f0,.int .i64 x.f1] 105)):=(Below.refl _ W).alloc (Nat.le_refl _) _
 have hn:=zVB x.f0 (W.alloc (.cells #[.string x.f0,.int .i64 x.f1] 105))
 have hw:=fun W=>zku x.f1 W
 have hv:gy x = (!pW x.f0.data.toList || Qo x.f1):=rfl
 rw [hv]
 clear hv hb
 generalize pW x.f0.data.toList = b1 at hn ⊢
 generalize Qo x.f1 = b2 at hw ⊢
 cases b1 with
 | false =>
  go_enter Tryz.func87,Tryz.ntmps87
  go_wp2_with (go_at_call 88;refine hn.mono ?_;rintro e w1 ⟨rfl,hb1⟩)
  go_ret
  exact ⟨rfl,hb0.trans (hb1.mono hb0.size)⟩
 | true =>
  go_enter Tryz.func87,Tryz.ntmps87
  go_wp2_with (first | (go_at_call 88;refine hn.mono ?_;rintro e w1 ⟨rfl,hb1⟩;have hc1:=(hb1.cell (p:=⟨B,0,none⟩) (by simp;omega)).trans ((hbW.cell (p:=⟨B,0,none⟩) hlW).trans hc);have k1:=(hb1.cell (p:=⟨W.heap.size,1,none⟩) (by simp)).trans (zdE W (.string x.f0) (.int .i64 x.f1) _)) | (go_at_call 84;refine (hw _).mono ?_;rintro e w2 ⟨rfl,rfl⟩))
  go_ret
  exact ⟨by first | rfl | (cases b2 <;> rfl),hb0.trans (hb1.mono hb0.size)⟩
def tL (l:List yG) (ns:List ByteArray):Bool:=ns.all fun n=>(Yr l n).2
theorem zfB (a:ByteArray) (b:Bool) (c:Int) (l3:List yG) (l4:List qb) (l5:List qP) (h3:l3.length ≤ 1000000000) (ns:List ByteArray) (hn:ns.length ≤ 1000):∀ (d i:Nat),i + d = ns.length →
  Ev (fun k=>kS.l0 k ns (ns.length:Int) (i:Int) a b c l3 l4 l5) (tL l3 (ns.drop i)):=by
 intro d
 induction d with
 | zero =>
  intro i h
  rw [List.drop_eq_nil_of_le (by omega)]
  refine Ev.step (fun k=>by rw [kS.l0]) ?_
  exact vw (by omega) (Ev.now _)
 | succ d ih =>
  intro i h
  have hi:i < ns.length:=by omega
  have e2:wrap64 ((i:Int) + 1) = ((i + 1:Nat):Int):=by rw [jA (by omega) (by omega)];rfl
  have hg:Qt ByteArray.empty ns (i:Int) = ns[i]:=by rw [zK2,List.getD_eq_getElem?_getD,List.getElem?_eq_getElem hi];rfl
  have hd:ns.drop i = ns[i] :: ns.drop (i + 1):=List.drop_eq_getElem_cons hi
  refine Ev.step (fun k=>by rw [kS.l0]) ?_
  refine yB (by omega) (yB (by omega) (yB (by omega) ?_))
  rw [hg,e2]
  refine WI (y:=Yr l3 ns[i]) (by unfold kY.f;rw [if_pos h3]) ?_
  rw [hd]
  show Ev _ ((Yr l3 ns[i]).2 && tL l3 (ns.drop (i + 1)))
  cases hb:(Yr l3 ns[i]).2 with
  | true=>exact yB rfl (ih (i + 1) (by omega))
  | false=>exact vw (by simp) (Ev.now _)
theorem zwv (a:ByteArray) (b:Bool) (c:Int) (A3:Option Addr) (c3:Nat) (l3:List yG) (A4:Option Addr) (c4:Nat) (l4:List qb) (A5:Option Addr) (c5:Nat) (l5:List qP) (A:Option Addr) (cn:Nat) (ns:List ByteArray) (w:World)
  (h3:Kd.C vO w A3 l3.length l3) (g3:l3.length ≤ c3) (h4:Kd.C jX w A4 l4.length l4) (g4:l4.length ≤ c4) (h5:Kd.C jg w A5 l5.length l5) (g5:l5.length ≤ c5) (hn:Kd.C Kd.string w A ns.length ns) (gn:ns.length ≤ cn) (hG:GW w) (hl3:l3.length ≤ 1000000000) (hln:ns.length ≤ 1000) :
  Calls Tryz.prog 94 #[.agg #[.string a,.bool b,.int .i64 c,.slice A3 l3.length c3,.slice A4 l4.length c4,.slice A5 l5.length c5],.slice A ns.length cn] w fun e w'=>e = .returned (.bool (tL l3 ns)) ∧ Below w.heap.size w w':=by
 obtain ⟨k,hk⟩:=(zfB a b c l3 l4 l5 hl3 ns hln ns.length 0 (by omega)).rounds
 exact kS.calls k a b c A3 c3 l3 A4 c4 l4 A5 c5 l5 A cn ns _ w h3 g3 h4 g4 h5 g5 hn gn hG hk
structure YL (w:World) (B:Nat) (a:ByteArray) (b:Bool) (c:Int) (A3:Option Addr) (c3:Nat) (l3:List yG) (A4:Option Addr) (c4:Nat) (l4:List qb) (A5:Option Addr) (c5:Nat) (l5:List qP):Prop where
 blk:w.heap[B]? = some (.cells #[.string a,.bool b,.int .i64 c,.slice A3 l3.length c3,.slice A4 l4.length c4,.slice A5 l5.length c5] 60 (0,0))
 h3:Kd.C vO w A3 l3.length l3
 h4:Kd.C jX w A4 l4.length l4
 h5:Kd.C jg w A5 l5.length l5
 gw:GW w
theorem YL.below {w w':World} {B:Nat} {a:ByteArray} {b:Bool} {c:Int} {A3:Option Addr} {c3:Nat} {l3:List yG} {A4:Option Addr} {c4:Nat} {l4:List qb} {A5:Option Addr} {c5:Nat} {l5:List qP}
  (h:YL w B a b c A3 c3 l3 A4 c4 l4 A5 c5 l5) (hb:Below w.heap.size w w'):YL w' B a b c A3 c3 l3 A4 c4 l4 A5 c5 l5 :=
 ⟨(hb.block B (Array.getElem?_eq_some_iff.1 h.blk).1).trans h.blk,Kd.zh h.h3 hb,Kd.zh h.h4 hb,Kd.zh h.h5 hb,h.gw.under hb⟩
theorem ql {w:World} {B:Nat} {cs:Array Value} {t:TypeId} (h:w.heap[B]? = some (.cells cs t (0,0))) (i:Nat) (v:Value) (hv:cs[i]? = some v):w.cell? ⟨B,i,none⟩ = some v:=by
 simp only [World.cell?,h]
 exact hv
end Go.Proofs.YtggifbbiiickmaaGreatDoor
namespace Go.Proofs.YtggifbbiiickmaaGreatDoor
open Go.RowKit Go.Proofs.zk.za Go.Proofs.zk.zS Go.Proofs.zk.zR Go.Proofs.YtggifbbiiickmaaGreatDoor.PX
set_option linter.unusedSimpArgs false
set_option linter.unusedVariables false
def jY (l:List uF) (n:ByteArray):Bool:=l.any fun x=>x.f0.toList == n.toList
def Qh (a b c d:ByteArray):Bool:=Op.bytesLess a.toList c.toList || (a.toList == c.toList && Op.bytesLess b.toList d.toList)
def wI (n:Int):Bool:=decide (n < 0) || decide (3000 < n)
def QD (l:List uF) (i:Nat):Bool:=pW (xQ l (i:Int)).f0.data.toList && (!wI (xQ l (i:Int)).f1 && (decide (i = 0) || Op.bytesLess (xQ l ((i:Int) - 1)).f0.toList (xQ l (i:Int)).f0.toList))
def QJ (l3:List uF) (l:List uU) (i:Nat):Bool:=jY l3 (vB l (i:Int)).f0 && (jY l3 (vB l (i:Int)).f1 && (jY l3 (vB l (i:Int)).f2 && (decide (i = 0) || Qh (vB l ((i:Int) - 1)).f0 (vB l ((i:Int) - 1)).f1 (vB l (i:Int)).f0 (vB l (i:Int)).f1)))
def QV (l3:List uF) (l:List jJ) (i:Nat):Bool:=jY l3 (xD l (i:Int)).f0 && (jY l3 (xD l (i:Int)).f1 && (!decide ((xD l (i:Int)).f2 = 0) && (!decide ((xD l (i:Int)).f2 < -500) && (!decide (500 < (xD l (i:Int)).f2) && (decide (i = 0) || Qh (xD l ((i:Int) - 1)).f0 (xD l ((i:Int) - 1)).f1 (xD l (i:Int)).f0 (xD l (i:Int)).f1)))))
def Px (a:ByteArray) (c:Int) (l3:List uF) (l4:List uU) (l5:List jJ):Bool :=
 (YH a.data.toList && (!wI c && (decide (l3.length ≤ 400) && (decide (l4.length ≤ 50) && decide (l5.length ≤ 500))))) && ((List.range l3.length).all (QD l3) && ((List.range l4.length).all (QJ l3 l4) && (List.range l5.length).all (QV l3 l5)))
theorem zzu {f:Nat → Bool} {n:Nat} (h:∀ i,i < n → f i = true):(List.range n).all f = true:=List.all_eq_true.2 fun i hi=>h i (List.mem_range.1 hi)
theorem vT {f:Nat → Bool} {n i:Nat} (hi:i < n) (h:f i = false):(List.range n).all f = false:=by
 cases e:(List.range n).all f with
 | false=>rfl
 | true=>exact absurd (List.all_eq_true.1 e i (List.mem_range.2 hi)) (by rw [h];simp)
theorem hasL (a:ByteArray) (b:Bool) (c:Int) (l:List uF) (l4:List uU) (l5:List jJ) (n:ByteArray) (hl:l.length ≤ 1000000000):∀ d i,l.length - i = d → i ≤ l.length → Ev (fun k=>xK.l0 k n (i:Int) a b c l l4 l5) (jY (l.drop i) n):=by
 intro d
 induction d with
 | zero =>
  intro i hd hi
  rw [List.drop_eq_nil_of_le (by omega)]
  refine Xv (r:=false) rfl (Ev.step (fun k=>by rw [xK.l0]) (vw (by omega) (Ev.now _)))
 | succ d ih =>
  intro i hd hi
  have h1:i < l.length:=by omega
  have q0:(0:Int) ≤ (i:Int):=by omega
  have q1:(i:Int) < (l.length:Int):=by omega
  have hw:wrap64 ((i:Int) + 1) = ((i + 1:Nat):Int):=(jA (by omega) (by omega)).trans (by omega)
  have hr:=ih (i + 1) (by omega) (by omega)
  have e:xQ l (i:Int) = l[i]:=by simp [xQ,List.getD_eq_getElem?_getD,h1]
  rw [List.drop_eq_getElem_cons h1]
  unfold jY
  rw [List.any_cons]
  refine Ev.step (fun k=>by rw [xK.l0,hw,e]) (yB q1 (yB q0 ?_))
  by_cases hx:l[i].f0.toList = n.toList
  ·refine yB hx (Xv ?_ (Ev.now _))
   rw [beq_iff_eq.2 hx,Bool.true_or]
  ·refine vw hx (Xv ?_ hr)
   rw [beq_eq_false_iff_ne.2 hx,Bool.false_or];rfl
theorem zv9 (a:ByteArray) (b:Bool) (c:Int) (A3:Option Addr) (c3:Nat) (l3:List uF) (A4:Option Addr) (c4:Nat) (l4:List uU) (A5:Option Addr) (c5:Nat) (l5:List jJ) (n:ByteArray) (w:World) (h3:Kd.C Xj w A3 l3.length l3) (g3:l3.length ≤ c3) (h4:Kd.C Xc w A4 l4.length l4) (g4:l4.length ≤ c4) (h5:Kd.C QZ w A5 l5.length l5) (g5:l5.length ≤ c5) (hl3:l3.length ≤ 1000000000) :
  Calls Tryz.prog 139 #[.agg #[.string a,.bool b,.int .i64 c,.slice A3 l3.length c3,.slice A4 l4.length c4,.slice A5 l5.length c5],.string n] w fun e w'=>e = .returned (.bool (jY l3 n)) ∧ Below w.heap.size w w':=by
 have h1:Ev (fun k=>xK.l0 k n 0 a b c l3 l4 l5) _:=hasL a b c l3 l4 l5 n hl3 _ 0 rfl (Nat.zero_le _)
 have h2:Ev (fun k=>xK.f k a b c l3 l4 l5 n) (jY l3 n):=Ev.congr (fun k=>by rw [xK.f]) h1
 obtain ⟨k,hk⟩:=h2.rounds
 exact xK.calls k a b c A3 c3 l3 A4 c4 l4 A5 c5 l5 n _ w h3 g3 h4 g4 h5 g5 hk
theorem zwk (a b c d:ByteArray) (w:World):Calls Tryz.prog 140 #[.string a,.string b,.string c,.string d] w fun e w'=>e = .returned (.bool (Qh a b c d)) ∧ yc w w':=by
 refine Zo.calls a b c d _ w ?_
 unfold Zo.f Qh
 by_cases h1:Op.bytesLess a.toList c.toList = true
 ·rw [if_pos h1,h1,Bool.true_or]
 ·rw [if_neg h1]
  by_cases h2:a.toList = c.toList
  ·rw [if_pos h2,(by simpa using h1:Op.bytesLess a.toList c.toList = false),beq_iff_eq.2 h2,Bool.false_or,Bool.true_and]
  ·rw [if_neg h2,(by simpa using h1:Op.bytesLess a.toList c.toList = false),beq_eq_false_iff_ne.2 h2,Bool.false_or,Bool.false_and]
theorem jl {w w':World} (h:yc w w'):Below w.heap.size w w':=by
 obtain ⟨⟨n,rfl⟩⟩:=h
 exact zC (Below.refl _ _) n
end Go.Proofs.YtggifbbiiickmaaGreatDoor
namespace Go.Proofs.YtggifbbiiickmaaGreatDoor
open Go.RowKit Go.Proofs.zk.za Go.Proofs.zk.zS Go.Proofs.zk.zR Go.Proofs.YtggifbbiiickmaaGreatDoor.PX
set_option linter.unusedSimpArgs false
set_option linter.unusedVariables false
section
variable {P:Program} {ops:Array Oper} {Q:Exit → Act → World → Prop} {md:Region.Mode} {S:World → Prop} {ds:List Nat} {T:Bool × List (List Nat × List Nat)} {oi:Oper} {v:Value} {fuel:Nat} {l:Array Bool} {a a':Act} {w:World}
theorem rP (i:Nat) (N:Option Tmp) (HT:zx (vZ md ops = T)) (h:yA P md ops Q S ds fuel (l.setIfInBounds i true) a' w)
    (hi:ops[i]? = some oi:=by exact rfl) (hN:oi.dst = N:=by exact rfl) (hc:zze T l.toList (l.setIfInBounds i true).toList i = true:=by kernel_rfl) (hQ:∀ c a w,Q (.panic c) (a.put oi.dst v) w → Q (.panic c) a w:=by exact fun _ _ _ h=>h)
    (hg:Region.wanted oi (yielded ops a.tmps) = true:=by rfl) (hy:∀ w,(execOp a.eval oi).run P w = .ok (.value v) w:=by intro w';go_simp;with_reducible rfl) (ha:a.put N v = a':=by simp only [Act.put,List.setIfInBounds_toArray,List.set_cons_zero,List.set_cons_succ,vv,vk];rfl) :
    yA P md ops Q S ds (fuel + 1) l a w:=vX _ hi hN (xW HT.out hc) hQ (Or.inl ⟨hg,hy⟩) ha h
theorem rU (i:Nat) (N:Option Tmp) (HT:zx (vZ md ops = T)) (h:yA P md ops Q S ds fuel (l.setIfInBounds i true) a' w)
    (hi:ops[i]? = some oi:=by exact rfl) (hN:oi.dst = N:=by exact rfl) (hc:zze T l.toList (l.setIfInBounds i true).toList i = true:=by kernel_rfl) (hQ:∀ c a w,Q (.panic c) (a.put oi.dst undef) w → Q (.panic c) a w:=by exact fun _ _ _ h=>h)
    (hg:Region.wanted oi (yielded ops a.tmps) = false:=by rfl) (ha:a.put N undef = a':=by simp only [Act.put,List.setIfInBounds_toArray,List.set_cons_zero,List.set_cons_succ,vv,vk];rfl) :
    yA P md ops Q S ds (fuel + 1) l a w:=vX _ hi hN (xW HT.out hc) hQ (Or.inr ⟨hg,rfl⟩) ha h
theorem rT {B:List Nat} (i:Nat) (N:Option Tmp) (HT:zx (vZ md ops = T)) (HW:zx (vW T.2 B = true)) (hS:S w) (h:yA P md ops Q S ds fuel (l.setIfInBounds i true) a' w)
    (hi:ops[i]? = some oi:=by exact rfl) (hN:oi.dst = N:=by exact rfl) (hc:zqY T B ds l.toList (l.setIfInBounds i true).toList i = true:=by kernel_rfl) (hQ:∀ c a w,Q (.panic c) (a.put oi.dst v) w → Q (.panic c) a w:=by exact fun _ _ _ h=>h)
    (hg:Region.wanted oi (yielded ops a.tmps) = true:=by rfl) (hy:∀ w,S w → (execOp a.eval oi).run P w = .ok (.value v) w:=by intro w' hs_;go_simp;with_reducible rfl) (ha:a.put N v = a':=by simp only [Act.put,List.setIfInBounds_toArray,List.set_cons_zero,List.set_cons_succ,vv,vk];rfl) :
    yA P md ops Q S ds (fuel + 1) l a w:=Xi _ hi hN (QA HT.out HW.out hc) hQ (Or.inl ⟨hg,hy⟩) hS ha h
theorem rS {X:World} {B:List Nat} {n id:Nat} (HS:zx (∀ W,Below X.heap.size X W → S W)) (hT:vZ .any ops = T) (hB:vW T.2 B = true) (hm:P.follows .mixedOrders = true) (hn:ops.size = n) (hl:Array.replicate n false = l)
    (h:∀ w,zx (Below X.heap.size X w) → zx (vZ .any ops = T) → zx (vW T.2 B = true) → S w → yA P .any ops Q S [] n l a w):(Code.region id ops true).wp P Q a X :=
  Zq _ hm hn hl (HS.out _ (Below.refl _ _).drew) fun hH=>h _ ⟨(Below.refl _ _).drew⟩ ⟨hT⟩ ⟨hB⟩ hH
theorem rC {X:World} {f:FuncId} {fn:Func} {aps:Array Operand} {ts:Array TypeId} {args:Array Value} (i:Nat) (N:Option Tmp) (HT:zx (vZ md ops = T)) (HS:zx (∀ W,Below X.heap.size X W → S W)) (HY:zx (Below X.heap.size X w)) (hf:P.funcs[f]? = some fn)
    (hcall:Calls P f args w fun e w'=>e = .returned v ∧ Below w.heap.size w w') (h:∀ w',zx (Below X.heap.size X w') → S w' → yA P md ops Q S ds fuel (l.setIfInBounds i true) a' w') (hname:(fn.name == "runtime.NumGoroutine") = false)
    (hi:ops[i]? = some oi:=by exact rfl) (hN:oi.dst = N:=by exact rfl) (hc:(WQ T.2 l.toList == [i] && l.toList.set i true == (l.setIfInBounds i true).toList) = true:=by kernel_rfl) (hd:i ∉ ds:=by decide) (hb:fn.body.isSome = true:=by exact rfl) (hw:Region.wanted oi (yielded ops a.tmps) = true:=by rfl)
    (hop:oi.op = .call { callee:=.value (.func f),args:=aps,argTypes:=ts }:=by exact rfl) (hargs:aps.map a.eval = args:=by (try simp only [List.map_toArray,List.map_cons,List.map_nil]);first | done | rfl) (ha:a.put N v = a':=by simp only [Act.put,List.setIfInBounds_toArray,List.set_cons_zero,List.set_cons_succ,vv,vk];rfl) :
    yA P md ops Q S ds (fuel + 1) l a w:=by
  refine Xb _ hi hN (jF HT.out hc) hd fun K hK=>?_
  refine tK hf hname hb args hw hN hop hargs (hcall.mono ?_)
  rintro e w' ⟨rfl,hk⟩
  have h2:=HY.out.trans (hk.mono HY.out.size)
  refine ⟨_,rfl,hK.out _ _ (HS.out _ h2) fun hH=>?_⟩
  rw [ha]
  exact h _ ⟨h2⟩ hH
end
def rval.T13:Bool × List (List Nat × List Nat):=(true,[([],[]),([],[]),([1],[1]),([0,2],[0,2]),([3],[3]),([4,3],[4]),([5],[5]),([5],[5]),([7,5],[5,7]),([6,8,5,5],[5,6,8]),([9,5],[5,9]),([5,10],[5,10]),([11,9],[11]),([12],[12]),([12],[12]),([14,12],[12,14]),([13,15,12,12],[12,13,15]),([16,12],[12,16]),([12,17],[12,17]),([18,16],[18]),([19],[19]),([20,19],[19,20]),([21,19,19],[19,21]),([22],[22]),([23,22],[22,23]),([22],[22]),([25,22],[22,25]),([24,26,22],[22,24,26]),([27,22],[22,27]),([28,22],[22,28]),([22],[22]),([30,22],[22,30]),([22],[22]),([32,22],[22,32]),([31,33,22],[22,31,33]),([34,22],[22,34]),([35,22],[22,35]),([22],[22]),([37,22],[22,37]),([22],[22]),([39,22],[22,39]),([29,36,38,40,22,22],[22,29,36,38,40]),([41,22],[22,41]),([22,42,19],[19,22,42]),([19,43],[19,43])])
def rval.B13:List Nat:=[0,0,2,7,15,31,63,63,191,511,1023,2047,4095,8191,8191,24575,65535,131071,262143,524287,1048575,2097151,4194303,8388607,16777215,8388607,41943039,134217727,268435455,536870911,8388607,1082130431,8388607,4303355903,16114515967,33294385151,67654123519,8388607,137447342079,8388607,549764202495,2199023255551,4398046511103,8796093022207,17592186044415]
theorem rval.Xy:vZ .any (opsOf Tryz.f106 13) = rval.T13:=by kernel_rfl
theorem rval.Zr:vW rval.T13.2 rval.B13 = true:=by kernel_rfl
def rval.T19:Bool × List (List Nat × List Nat):=(true,[([],[]),([],[]),([1],[1]),([0,2],[0,2]),([3],[3]),([4,3],[4]),([5],[5]),([5],[5]),([7,5],[5,7]),([6,8,5,5],[5,6,8]),([9,5],[5,9]),([5,10],[5,10]),([11,9],[11]),([12],[12]),([13,12],[12,13]),([14,12],[12,14]),([12,15],[12,15]),([16,12],[16]),([17],[17]),([18,17],[17,18]),([19,17],[17,19]),([17,20],[17,20]),([21,17],[21]),([22],[22]),([23,22],[22,23]),([24,22],[22,24]),([22,25],[22,25]),([26,22],[26]),([27],[27]),([28,27],[27,28]),([29,27,27],[27,29]),([30],[30]),([31,30],[30,31]),([30],[30]),([33,30],[30,33]),([32,34,30],[30,32,34]),([35,30],[30,35]),([36,30],[30,36]),([30],[30]),([38,30],[30,38]),([30],[30]),([40,30],[30,40]),([39,41,30],[30,39,41]),([42,30],[30,42]),([43,30],[30,43]),([30],[30]),([45,30],[30,45]),([30],[30]),([47,30],[30,47]),([37,44,46,48,30,30],[30,37,44,46,48]),([49,30],[30,49]),([30,50,27],[27,30,50]),([27,51],[27,51])])
def rval.B19:List Nat:=[0,0,2,7,15,31,63,63,191,511,1023,2047,4095,8191,16383,32767,65535,131071,262143,524287,1048575,2097151,4194303,8388607,16777215,33554431,67108863,134217727,268435455,536870911,1073741823,2147483647,4294967295,2147483647,10737418239,34359738367,68719476735,137438953471,2147483647,277025390591,2147483647,1101659111423,4125316087807,8523362598911,17319455621119,2147483647,35186519572479,2147483647,140739635838975,562949953421311,1125899906842623,2251799813685247,4503599627370495]
theorem rval.Yt:vZ .any (opsOf Tryz.f106 19) = rval.T19:=by kernel_rfl
theorem rval.ZV:vW rval.T19.2 rval.B19 = true:=by kernel_rfl
set_option maxRecDepth 100000 in
set_option maxHeartbeats 16000000 in
theorem zX9 (a:ByteArray) (b:Bool) (c:Int) (A3:Option Addr) (c3:Nat) (l3:List uF) (A4:Option Addr) (c4:Nat) (l4:List uU) (A5:Option Addr) (c5:Nat) (l5:List jJ) (w:World) (h3:Kd.C Xj w A3 l3.length l3) (g3:l3.length ≤ c3) (h4:Kd.C Xc w A4 l4.length l4) (g4:l4.length ≤ c4) (h5:Kd.C QZ w A5 l5.length l5) (g5:l5.length ≤ c5) (hl3:l3.length ≤ 1000000000) (hl4:l4.length ≤ 1000000000) (hl5:l5.length ≤ 1000000000) (ha:a.size ≤ 140737488355328) (hz:∀ x ∈ l3,x.f0.size ≤ 140737488355328) :
    Calls Tryz.prog 106 #[.agg #[.string a,.bool b,.int .i64 c,.slice A3 l3.length c3,.slice A4 l4.length c4,.slice A5 l5.length c5]] w fun e w'=>e = .returned (.bool (Px a c l3 l4 l5)) ∧ Below w.heap.size w w':=by
  have hV0:Px a c l3 l4 l5 = ((YH a.data.toList && (!wI c && (decide (l3.length ≤ 400) && (decide (l4.length ≤ 50) && decide (l5.length ≤ 500))))) && ((List.range l3.length).all (QD l3) && ((List.range l4.length).all (QJ l3 l4) && (List.range l5.length).all (QV l3 l5)))):=rfl
  generalize Px a c l3 l4 l5 = V at hV0 ⊢
  have HV:=zx.mk hV0
  clear hV0
  have hbf:(w.alloc (.cells #[.string a,.bool b,.int .i64 c,.slice A3 l3.length c3,.slice A4 l4.length c4,.slice A5 l5.length c5] 101)).heap[w.heap.size]? = some (.cells #[.string a,.bool b,.int .i64 c,.slice A3 l3.length c3,.slice A4 l4.length c4,.slice A5 l5.length c5] 101 (0,0)):=uo _ _
  have hb0:Below w.heap.size w (w.alloc (.cells #[.string a,.bool b,.int .i64 c,.slice A3 l3.length c3,.slice A4 l4.length c4,.slice A5 l5.length c5] 101)):=(Below.refl _ w).alloc (Nat.le_refl _) _
  have HF:=zx.mk (fun (W:World) (h:Below (w.alloc (.cells #[.string a,.bool b,.int .i64 c,.slice A3 l3.length c3,.slice A4 l4.length c4,.slice A5 l5.length c5] 101)).heap.size (w.alloc (.cells #[.string a,.bool b,.int .i64 c,.slice A3 l3.length c3,.slice A4 l4.length c4,.slice A5 l5.length c5] 101)) W)=>zM hbf h)
  have HW:=zx.mk (fun (W:World) (h:Below (w.alloc (.cells #[.string a,.bool b,.int .i64 c,.slice A3 l3.length c3,.slice A4 l4.length c4,.slice A5 l5.length c5] 101)).heap.size (w.alloc (.cells #[.string a,.bool b,.int .i64 c,.slice A3 l3.length c3,.slice A4 l4.length c4,.slice A5 l5.length c5] 101)) W)=>hb0.trans (h.mono hb0.size))
  have H3:=zx.mk h3;have H4:=zx.mk h4;have H5:=zx.mk h5;have G3:=zx.mk g3;have G4:=zx.mk g4;have G5:=zx.mk g5
  have HZ:=zx.mk hz
  clear h3 h4 h5 g3 g4 g5 hbf hb0 hz
  have hfn:=zx.mk (fun W=>zaS a ha W)
  cases hf:YH a.data.toList with
  | false =>
    have hv:V = false:=by rw [HV.out,hf];rfl
    subst hv
    rw [hf] at hfn
    go_enter Tryz.func106,Tryz.ntmps106
    go_wp2_with (go_at_call 137;refine (hfn.out _).mono ?_;rintro e w1 ⟨rfl,hd1⟩)
    go_ret
    exact ⟨rfl,HW.out _ (jl hd1)⟩
  | true =>
  rw [hf] at hfn
  by_cases hbad:c < 0 ∨ 3000 < c ∨ 400 < l3.length ∨ 50 < l4.length ∨ 500 < l5.length
  · have hv:V = false:=by
      rw [HV.out]
      unfold wI
      rcases hbad with h | h | h | h | h
      · simp [h]
      · simp [h]
      · simp [show ¬ l3.length ≤ 400 by omega]
      · simp [show ¬ l4.length ≤ 50 by omega]
      · simp [show ¬ l5.length ≤ 500 by omega]
    subst hv
    by_cases b1:c < 0
    case' neg =>
      by_cases b2:3000 < c
      case' neg =>
        by_cases b3:400 < l3.length
        case' neg =>
          by_cases b4:50 < l4.length
          case' neg=>have b5:500 < l5.length:=by omega
    all_goals
      clear hbad HV HZ
      go_enter Tryz.func106,Tryz.ntmps106
      go_wp2_with (go_at_call 137;refine (hfn.out _).mono ?_;rintro e w1 ⟨rfl,hd1⟩;have hc2:=(zX (HF.out _ (jl hd1)) 2).trans rfl;have hc3:=(zX (HF.out _ (jl hd1)) 3).trans rfl;have hc4:=(zX (HF.out _ (jl hd1)) 4).trans rfl;have hc5:=(zX (HF.out _ (jl hd1)) 5).trans rfl)
      go_ret
      exact ⟨rfl,HW.out _ (jl hd1)⟩
  · have hc0:0 ≤ c ∧ c ≤ 3000:=by omega
    have hn:l3.length ≤ 400 ∧ l4.length ≤ 50 ∧ l5.length ≤ 500:=by omega
    have uP:zx (V = ((List.range l3.length).all (QD l3) && ((List.range l4.length).all (QJ l3 l4) && (List.range l5.length).all (QV l3 l5)))):=⟨by
      rw [HV.out,hf]
      unfold wI
      rw [decide_eq_false (by omega:¬ c < 0),decide_eq_false (by omega:¬ 3000 < c),decide_eq_true hn.1,decide_eq_true hn.2.1,decide_eq_true hn.2.2]
      rfl⟩
    obtain ⟨b1,b2⟩:=hc0
    obtain ⟨b3,b4,b5⟩:=hn
    clear HV hbad
    go_enter Tryz.func106,Tryz.ntmps106
    go_wp2_with (go_at_call 137;refine (hfn.out _).mono ?_;rintro e w1 ⟨rfl,hd1⟩;have hc2:=(zX (HF.out _ (jl hd1)) 2).trans rfl;have hc3:=(zX (HF.out _ (jl hd1)) 3).trans rfl;have hc4:=(zX (HF.out _ (jl hd1)) 4).trans rfl;have hc5:=(zX (HF.out _ (jl hd1)) 5).trans rfl)
    clear hfn
    go_loopw [3] (fun y W=>∃ i:Nat,y = .int .i64 (i:Int) ∧ i ≤ l3.length ∧ zx (Below (w.alloc (.cells #[.string a,.bool b,.int .i64 c,.slice A3 l3.length c3,.slice A4 l4.length c4,.slice A5 l5.length c5] 101)).heap.size (w.alloc (.cells #[.string a,.bool b,.int .i64 c,.slice A3 l3.length c3,.slice A4 l4.length c4,.slice A5 l5.length c5] 101)) W) ∧ zx (∀ j,j < i → QD l3 j = true)) (fun y _=>l3.length - (intOf y).toNat)
    case atStart=>exact ⟨0,rfl,Nat.zero_le _,⟨jl hd1⟩,⟨fun _ h=>absurd h (Nat.not_lt_zero _)⟩⟩
    case round =>
      clear hc2 hc3 hc4 hc5 hd1
      obtain ⟨i,rfl,hi,HB3,fK⟩:=hrel
      have hcf:=(zX (HF.out _ HB3.out) 3).trans rfl
      by_cases hlt:i < l3.length
      · have hC:=Kd.zh H3.out (HW.out _ HB3.out)
        have hbX:Below wr.heap.size wr (wr.alloc (.cells #[] 0)):=(Below.refl _ wr).alloc (Nat.le_refl _) _
        clear hbX
        obtain ⟨ad,e,x0,x1⟩:=Jb hC (i:Int) (by omega) (by omega)
        have hA:=e
        rw [Int.toNat_natCast] at x0 x1
        have hlA:w.heap.size < wr.heap.size:=pQ (HF.out _ HB3.out)
        rcases Nat.eq_zero_or_pos i with hi0 | hi0
        · subst hi0
          simp only [Nat.zero_mul,Addr.add_zero'] at x0 x1
          have hok:QD l3 0 = (pW (xQ l3 ((0:Nat):Int)).f0.data.toList && (!wI (xQ l3 ((0:Nat):Int)).f1 && true)):=by
            unfold QD
            rw [decide_eq_true rfl,Bool.true_or]
          have hzx:(xQ l3 ((0:Nat):Int)) ∈ l3:=by
            have e9:xQ l3 ((0:Nat):Int) = l3[0]:=by simp only [xQ,Int.toNat_natCast,List.getD_eq_getElem?_getD,List.getElem?_eq_getElem hlt,Option.getD_some]
            rw [e9];exact List.getElem_mem hlt
          generalize xQ l3 ((0:Nat):Int) = x at x0 x1 hok hzx
          have hnq:=fun W=>(zVF x.f0 (HZ.out x hzx) W).mono fun e w' h=>And.intro h.1 h.2.out
          have q1:(0:Int) < (l3.length:Int):=by omega
          have q6:decide ((0:Int) < (l3.length:Int)) = true:=decide_eq_true q1
          rw [hA] at hcf
          clear hzx
          go_wp2_with fail
          have hbX:Below wr.heap.size wr (wr.alloc (.cells #[.string x.f0,.int .i64 x.f1] 106)):=(Below.refl _ wr).alloc (Nat.le_refl _) _
          have qp:=zx.mk (HB3.out.trans (hbX.mono HB3.out.size))
          have hbk:=uo wr (.cells #[.string x.f0,.int .i64 x.f1] 106)
          have hX0:(wr.alloc (.cells #[.string x.f0,.int .i64 x.f1] 106)).cell? ⟨wr.heap.size,0,none⟩ = some (.string x.f0):=(zX hbk 0).trans rfl
          have hX1:(wr.alloc (.cells #[.string x.f0,.int .i64 x.f1] 106)).cell? ⟨wr.heap.size,1,none⟩ = some (.int .i64 x.f1):=(zX hbk 1).trans rfl
          clear hbk hbX x0 x1  hC hcf
          generalize wr.heap.size = g4 at hX0 hlA hX1 ⊢
          generalize (wr.alloc (.cells #[.string x.f0,.int .i64 x.f1] 106)) = X at qp hX0 hX1  ⊢
          cases hnm:pW x.f0.data.toList with
          | false =>
            simp only [hnm] at hnq
            have hv:V = false:=by
              rw [uP.out,vT (i:=0) hlt (by rw [hok,hnm];simp)]
              rfl
            subst hv
            go_quiet ((go_at_call 138;exact Calls.quiet_of (hnq _)))
            go_wp2
            go_ret
            exact ⟨rfl,HW.out _ (zC qp.out nq)⟩
          | true =>
            simp only [hnm] at hnq
            by_cases d1:x.f1 < 0
            · have dd1:decide (x.f1 < 0) = true:=decide_eq_true d1
              have hv:V = false:=by
                rw [uP.out,vT (i:=0) hlt (by rw [hok,hnm,(by unfold wI;rw [dd1];rfl:wI x.f1 = true)];simp)]
                rfl
              subst hv
              go_quiet ((go_at_call 138;exact Calls.quiet_of (hnq _)))
              go_wp2
              go_ret
              exact ⟨rfl,HW.out _ (zC qp.out nq)⟩
            have dd1:decide (x.f1 < 0) = false:=decide_eq_false d1
            by_cases d2:3000 < x.f1
            · have dd2:decide (3000 < x.f1) = true:=decide_eq_true d2
              have hv:V = false:=by
                rw [uP.out,vT (i:=0) hlt (by rw [hok,hnm,(by unfold wI;rw [dd2,Bool.or_true]:wI x.f1 = true)];simp)]
                rfl
              subst hv
              go_quiet ((go_at_call 138;exact Calls.quiet_of (hnq _)))
              go_wp2
              go_ret
              exact ⟨rfl,HW.out _ (zC qp.out nq)⟩
            have dd2:decide (3000 < x.f1) = false:=decide_eq_false d2
            have hwd:wI x.f1 = false:=by unfold wI;rw [dd1,dd2];rfl
            have hok2:QD l3 0 = true:=by rw [hok,hnm,hwd];rfl
            go_quiet ((go_at_call 138;exact Calls.quiet_of (hnq _)))
            have jH:=zC qp.out nq
            go_wp2
            go_roundw
            case rel=>exact ⟨0 + 1,by first | rfl | (simp;done) | go_num,by omega,⟨jH⟩,⟨fun j hj=>(Nat.lt_succ_iff_lt_or_eq.1 hj).elim (fK.out j) (fun e=>by rw [e];exact hok2)⟩⟩
            case measure=>simp [intOf];omega
        · obtain ⟨m,rfl⟩:∃ m,i = m + 1:=⟨i - 1,by omega⟩
          obtain ⟨ad2,e2,y0,y1⟩:=Jb hC (m:Int) (by omega) (by omega)
          have e3:ad = ad2:=by rw [hA] at e2;injection e2 with e2
          subst e3
          rw [Int.toNat_natCast] at y0 y1
          have hpr:(((m + 1:Nat):Int) - 1) = (m:Int):=by omega
          have hok:QD l3 (m + 1) = (pW (xQ l3 (((m + 1):Nat):Int)).f0.data.toList && (!wI (xQ l3 (((m + 1):Nat):Int)).f1 && Op.bytesLess (xQ l3 (m:Int)).f0.toList (xQ l3 (((m + 1):Nat):Int)).f0.toList)):=by
            unfold QD
            rw [decide_eq_false (by omega:¬ m + 1 = 0),Bool.false_or,hpr]
          have hzx:(xQ l3 (((m + 1):Nat):Int)) ∈ l3:=by
            have e9:xQ l3 (((m + 1):Nat):Int) = l3[(m + 1)]:=by simp only [xQ,Int.toNat_natCast,List.getD_eq_getElem?_getD,List.getElem?_eq_getElem hlt,Option.getD_some]
            rw [e9];exact List.getElem_mem hlt
          generalize xQ l3 (((m + 1):Nat):Int) = x at x0 x1 hok hzx
          generalize xQ l3 (m:Int) = p at y0 y1 hok
          have hnq:=fun W=>(zVF x.f0 (HZ.out x hzx) W).mono fun e w' h=>And.intro h.1 h.2.out
          have e1:IntKind.i64.wrap (((m:Int) + 1) - 1) = (m:Int):=by rw [Int.add_sub_cancel];exact IntWalk.i64_in _ (by omega)
          have q1:(m:Int) < (l3.length:Int):=by omega
          have q2:(m:Int) + 1 < (l3.length:Int):=by omega
          have q3:((m:Int) + 1).toNat = m + 1:=by omega
          have q4:(0:Int) ≤ (m:Int) + 1:=by omega
          have e0:IntKind.i64.wrap (m:Int) = (m:Int):=IntWalk.i64_in _ (by omega)
          have q5:(0:Int) ≤ (m:Int):=by omega
          have q7:decide (0 < (m:Int) + 1) = true:=decide_eq_true (by omega)
          have q8:decide ((m:Int) + 1 < (l3.length:Int)) = true:=decide_eq_true q2
          rw [hA] at hcf
          clear hzx
          go_wp2_with fail
          have hbX:Below wr.heap.size wr (wr.alloc (.cells #[.string x.f0,.int .i64 x.f1] 106)):=(Below.refl _ wr).alloc (Nat.le_refl _) _
          have qp:=zx.mk (HB3.out.trans (hbX.mono HB3.out.size))
          have hbk:=uo wr (.cells #[.string x.f0,.int .i64 x.f1] 106)
          have hX0:(wr.alloc (.cells #[.string x.f0,.int .i64 x.f1] 106)).cell? ⟨wr.heap.size,0,none⟩ = some (.string x.f0):=(zX hbk 0).trans rfl
          have hX1:(wr.alloc (.cells #[.string x.f0,.int .i64 x.f1] 106)).cell? ⟨wr.heap.size,1,none⟩ = some (.int .i64 x.f1):=(zX hbk 1).trans rfl
          have WK:(wr.alloc (.cells #[.string x.f0,.int .i64 x.f1] 106)).cell? ⟨w.heap.size,3,none⟩ = some (.slice (some ad) l3.length c3):=(zX (HF.out _ qp.out) 3).trans (by rw [hA];rfl)
          have hP0:=(hbX.cell (World.block_lt_of_cell? wr _ y0)).trans y0
          clear hbk hbX x0 x1 y0 y1 hC hcf
          generalize wr.heap.size = g4 at hX0 hlA hX1 ⊢
          generalize (wr.alloc (.cells #[.string x.f0,.int .i64 x.f1] 106)) = X at qp hX0 hX1 WK hP0  ⊢
          cases hnm:pW x.f0.data.toList with
          | false =>
            simp only [hnm] at hnq
            have hv:V = false:=by
              rw [uP.out,vT (i:=(m + 1)) hlt (by rw [hok,hnm];simp)]
              rfl
            subst hv
            go_quiet ((go_at_call 138;exact Calls.quiet_of (hnq _)))
            go_wp2
            go_ret
            exact ⟨rfl,HW.out _ (zC qp.out nq)⟩
          | true =>
            simp only [hnm] at hnq
            by_cases d1:x.f1 < 0
            · have dd1:decide (x.f1 < 0) = true:=decide_eq_true d1
              have hv:V = false:=by
                rw [uP.out,vT (i:=(m + 1)) hlt (by rw [hok,hnm,(by unfold wI;rw [dd1];rfl:wI x.f1 = true)];simp)]
                rfl
              subst hv
              go_quiet ((go_at_call 138;exact Calls.quiet_of (hnq _)))
              go_wp2
              go_ret
              exact ⟨rfl,HW.out _ (zC qp.out nq)⟩
            have dd1:decide (x.f1 < 0) = false:=decide_eq_false d1
            by_cases d2:3000 < x.f1
            · have dd2:decide (3000 < x.f1) = true:=decide_eq_true d2
              have hv:V = false:=by
                rw [uP.out,vT (i:=(m + 1)) hlt (by rw [hok,hnm,(by unfold wI;rw [dd2,Bool.or_true]:wI x.f1 = true)];simp)]
                rfl
              subst hv
              go_quiet ((go_at_call 138;exact Calls.quiet_of (hnq _)))
              go_wp2
              go_ret
              exact ⟨rfl,HW.out _ (zC qp.out nq)⟩
            have dd2:decide (3000 < x.f1) = false:=decide_eq_false d2
            have hwd:wI x.f1 = false:=by unfold wI;rw [dd1,dd2];rfl
            cases hls:Op.bytesLess p.f0.toList x.f0.toList with
            | false =>
              have hv:V = false:=by
                rw [uP.out,vT (i:=(m + 1)) hlt (by rw [hok,hnm,hwd,hls];simp)]
                rfl
              subst hv
              go_quiet ((go_at_call 138;exact Calls.quiet_of (hnq _)))
              go_wp2
              go_ret
              exact ⟨rfl,HW.out _ (zC qp.out nq)⟩
            | true =>
              have hok2:QD l3 (m + 1) = true:=by rw [hok,hnm,hwd,hls];rfl
              go_quiet ((go_at_call 138;exact Calls.quiet_of (hnq _)))
              have jH:=zC qp.out nq
              clear e0 e1
              go_wp2
              go_roundw
              case rel=>exact ⟨m + 1 + 1,by first | rfl | (simp;done) | go_num,by omega,⟨jH⟩,⟨fun j hj=>(Nat.lt_succ_iff_lt_or_eq.1 hj).elim (fK.out j) (fun e=>by rw [e];exact hok2)⟩⟩
              case measure=>simp [intOf];omega
      · obtain rfl:i = l3.length:=by omega
        have q2:decide ((l3.length:Int) < (l3.length:Int)) = false:=decide_eq_false (by omega)
        have q1:¬ (l3.length:Int) < (l3.length:Int):=by omega
        have uP:zx (V = ((List.range l4.length).all (QJ l3 l4) && (List.range l5.length).all (QV l3 l5))):=⟨by rw [uP.out,zzu fK.out,Bool.true_and]⟩
        go_wp2
        go_loopw [5] (fun y W=>∃ i:Nat,y = .int .i64 (i:Int) ∧ i ≤ l4.length ∧ zx (Below (w.alloc (.cells #[.string a,.bool b,.int .i64 c,.slice A3 l3.length c3,.slice A4 l4.length c4,.slice A5 l5.length c5] 101)).heap.size (w.alloc (.cells #[.string a,.bool b,.int .i64 c,.slice A3 l3.length c3,.slice A4 l4.length c4,.slice A5 l5.length c5] 101)) W) ∧ zx (∀ j,j < i → QJ l3 l4 j = true)) (fun y _=>l4.length - (intOf y).toNat)
        case atStart=>exact ⟨0,rfl,Nat.zero_le _,HB3,⟨fun _ h=>absurd h (Nat.not_lt_zero _)⟩⟩
        case round =>
          skip
          obtain ⟨i,rfl,hi,JJ,HK4⟩:=hrel
          have hcf:=(zX (HF.out _ JJ.out) 4).trans rfl
          by_cases hlt:i < l4.length
          · have hC:=Kd.zh H4.out (HW.out _ JJ.out)
            have hbX:Below wr.heap.size wr (wr.alloc (.cells #[] 0)):=(Below.refl _ wr).alloc (Nat.le_refl _) _
            clear hbX
            obtain ⟨ad,e,x0,x1,x2⟩:=zy5 hC (i:Int) (by omega) (by omega)
            have hA:=e
            rw [Int.toNat_natCast] at x0 x1 x2
            have hlA:w.heap.size < wr.heap.size:=pQ (HF.out _ JJ.out)
            rcases Nat.eq_zero_or_pos i with hi0 | hi0
            · subst hi0
              simp only [Nat.zero_mul,Addr.add_zero'] at x0 x1 x2
              have hok:QJ l3 l4 0 = (jY l3 (vB l4 ((0:Nat):Int)).f0 && (jY l3 (vB l4 ((0:Nat):Int)).f1 && (jY l3 (vB l4 ((0:Nat):Int)).f2 && true))):=by
                unfold QJ
                rw [decide_eq_true rfl,Bool.true_or]
              have hzx:(vB l4 ((0:Nat):Int)) ∈ l4:=by
                have e9:vB l4 ((0:Nat):Int) = l4[0]:=by simp only [vB,Int.toNat_natCast,List.getD_eq_getElem?_getD,List.getElem?_eq_getElem hlt,Option.getD_some]
                rw [e9];exact List.getElem_mem hlt
              generalize vB l4 ((0:Nat):Int) = x at x0 x1 x2 hok hzx
              have q1:(0:Int) < (l4.length:Int):=by omega
              have q6:decide ((0:Int) < (l4.length:Int)) = true:=decide_eq_true q1
              rw [hA] at hcf
              clear hzx
              go_wp2_with fail
              have hbX:Below wr.heap.size wr (wr.alloc (.cells #[.string x.f0,.string x.f1,.string x.f2] 109)):=(Below.refl _ wr).alloc (Nat.le_refl _) _
              have qp:=zx.mk (JJ.out.trans (hbX.mono JJ.out.size))
              have hbk:=uo wr (.cells #[.string x.f0,.string x.f1,.string x.f2] 109)
              have hX0:(wr.alloc (.cells #[.string x.f0,.string x.f1,.string x.f2] 109)).cell? ⟨wr.heap.size,0,none⟩ = some (.string x.f0):=(zX hbk 0).trans rfl
              have hX1:(wr.alloc (.cells #[.string x.f0,.string x.f1,.string x.f2] 109)).cell? ⟨wr.heap.size,1,none⟩ = some (.string x.f1):=(zX hbk 1).trans rfl
              have hX2:(wr.alloc (.cells #[.string x.f0,.string x.f1,.string x.f2] 109)).cell? ⟨wr.heap.size,2,none⟩ = some (.string x.f2):=(zX hbk 2).trans rfl
              have bJ:(wr.alloc (.cells #[.string x.f0,.string x.f1,.string x.f2] 109)).cell? ⟨w.heap.size,0,none⟩ = some (.string a):=(zX (HF.out _ qp.out) 0).trans rfl
              have hF1:(wr.alloc (.cells #[.string x.f0,.string x.f1,.string x.f2] 109)).cell? ⟨w.heap.size,1,none⟩ = some (.bool b):=(zX (HF.out _ qp.out) 1).trans rfl
              have hF2:(wr.alloc (.cells #[.string x.f0,.string x.f1,.string x.f2] 109)).cell? ⟨w.heap.size,2,none⟩ = some (.int .i64 c):=(zX (HF.out _ qp.out) 2).trans rfl
              have WK:(wr.alloc (.cells #[.string x.f0,.string x.f1,.string x.f2] 109)).cell? ⟨w.heap.size,3,none⟩ = some (.slice A3 l3.length c3):=(zX (HF.out _ qp.out) 3).trans rfl
              have bV:(wr.alloc (.cells #[.string x.f0,.string x.f1,.string x.f2] 109)).cell? ⟨w.heap.size,4,none⟩ = some (.slice (some ad) l4.length c4):=(zX (HF.out _ qp.out) 4).trans (by rw [hA];rfl)
              have bK:(wr.alloc (.cells #[.string x.f0,.string x.f1,.string x.f2] 109)).cell? ⟨w.heap.size,5,none⟩ = some (.slice A5 l5.length c5):=(zX (HF.out _ qp.out) 5).trans rfl
              have hq:=fun (W:World) (n:ByteArray) (h:Below (wr.alloc (.cells #[.string x.f0,.string x.f1,.string x.f2] 109)).heap.size (wr.alloc (.cells #[.string x.f0,.string x.f1,.string x.f2] 109)) W)=>zv9 a b c A3 c3 l3 A4 c4 l4 A5 c5 l5 n W (Kd.zh H3.out ((HW.out _ qp.out).trans (h.mono (HW.out _ qp.out).size))) G3.out (Kd.zh H4.out ((HW.out _ qp.out).trans (h.mono (HW.out _ qp.out).size))) G4.out (Kd.zh H5.out ((HW.out _ qp.out).trans (h.mono (HW.out _ qp.out).size))) G5.out hl3
              rw [hA] at hq
              clear hbk hbX x0 x1 x2  hC hcf
              generalize wr.heap.size = g4 at hX0 hlA hX1 hX2 ⊢
              generalize (wr.alloc (.cells #[.string x.f0,.string x.f1,.string x.f2] 109)) = X at qp hX0 hX1 hX2 bJ hF1 hF2 WK bV bK hq ⊢
              have HS:=zx.mk (fun (W:World) (h:Below X.heap.size X W)=>(show W.cell? ⟨g4,0,none⟩ = some (.string x.f0) ∧ W.cell? ⟨g4,1,none⟩ = some (.string x.f1) ∧ W.cell? ⟨g4,2,none⟩ = some (.string x.f2) ∧ W.cell? ⟨w.heap.size,0,none⟩ = some (.string a) ∧ W.cell? ⟨w.heap.size,1,none⟩ = some (.bool b) ∧ W.cell? ⟨w.heap.size,2,none⟩ = some (.int .i64 c) ∧ W.cell? ⟨w.heap.size,3,none⟩ = some (.slice A3 l3.length c3) ∧ W.cell? ⟨w.heap.size,4,none⟩ = some (.slice (some ad) l4.length c4) ∧ W.cell? ⟨w.heap.size,5,none⟩ = some (.slice A5 l5.length c5) from ⟨(h.cell (World.block_lt_of_cell? X _ hX0)).trans hX0,(h.cell (World.block_lt_of_cell? X _ hX1)).trans hX1,(h.cell (World.block_lt_of_cell? X _ hX2)).trans hX2,(h.cell (World.block_lt_of_cell? X _ bJ)).trans bJ,(h.cell (World.block_lt_of_cell? X _ hF1)).trans hF1,(h.cell (World.block_lt_of_cell? X _ hF2)).trans hF2,(h.cell (World.block_lt_of_cell? X _ WK)).trans WK,(h.cell (World.block_lt_of_cell? X _ bV)).trans bV,(h.cell (World.block_lt_of_cell? X _ bK)).trans bK⟩))
              cases r0:jY l3 x.f0 with
              | false =>
                have h0:=fun (W:World) (h:Below X.heap.size X W)=>hq W x.f0 h
                simp only [r0] at h0
                as_aux_lemma =>
                 have hv:V = false:=by
                   rw [uP.out,vT (i:=0) hlt (by rw [hok,r0];simp)]
                   simp
                 subst hv
                 refine rS (n:=45) HS rval.Xy rval.Zr (by kernel_rfl) rfl rfl (fun w0 H0 T U h=>?_)
                 refine rP 1 (some 96) T ?_;refine rT 0 (some 95) T U h ?_;refine rT 2 (some 97) T U h ?_
                 clear h;refine rC 3 (some 98) T HS H0 Tryz.func139 (h0 _ H0.out) (fun w1 H1 h=>?_) (by kernel_rfl)
                 refine rP 4 (some 99) T ?_;refine rP 5 (some 100) T ?_;refine rU 6 (some 101) T ?_;refine rU 7 (some 102) T ?_;refine rU 8 (some 103) T ?_;refine rU 9 (some 104) T ?_;refine rU 10 (some 105) T ?_;refine rP 11 (some 106) T ?_;refine rP 12 (some 107) T ?_;refine rU 13 (some 108) T ?_;refine rU 14 (some 109) T ?_;refine rU 15 (some 110) T ?_;refine rU 16 (some 111) T ?_;refine rU 17 (some 112) T ?_;refine rP 18 (some 113) T ?_;refine rP 19 (some 114) T ?_;refine rU 20 (some 115) T ?_;refine rU 21 (some 116) T ?_;refine rU 22 (some 117) T ?_;refine rU 23 (some 118) T ?_;refine rU 24 (some 119) T ?_;refine rU 25 (some 120) T ?_;refine rU 26 (some 121) T ?_;refine rU 27 (some 122) T ?_;refine rU 28 (some 123) T ?_;refine rU 29 (some 124) T ?_;refine rU 30 (some 125) T ?_;refine rU 31 (some 126) T ?_;refine rU 32 (some 127) T ?_;refine rU 33 (some 128) T ?_;refine rU 34 (some 129) T ?_;refine rU 35 (some 130) T ?_;refine rU 36 (some 131) T ?_;refine rU 37 (some 132) T ?_;refine rU 38 (some 133) T ?_;refine rU 39 (some 134) T ?_;refine rU 40 (some 135) T ?_;refine rU 41 (some 136) T ?_;refine rU 42 (some 137) T ?_;refine rU 43 (some 138) T ?_;refine rP 44 (some 139) T ?_
                 refine xE (qW T.out (by kernel_rfl)) ?_;have jH:=qp.out.trans (H1.out.mono qp.out.size);clear h;try go_wp2
                 go_ret
                 exact ⟨rfl,HW.out _ jH⟩
              | true =>
              have h0:=fun (W:World) (h:Below X.heap.size X W)=>hq W x.f0 h
              simp only [r0] at h0
              cases r1:jY l3 x.f1 with
              | false =>
                have h1:=fun (W:World) (h:Below X.heap.size X W)=>hq W x.f1 h
                simp only [r1] at h1
                as_aux_lemma =>
                 have hv:V = false:=by
                   rw [uP.out,vT (i:=0) hlt (by rw [hok,r0,r1];simp)]
                   simp
                 subst hv
                 refine rS (n:=45) HS rval.Xy rval.Zr (by kernel_rfl) rfl rfl (fun w0 H0 T U h=>?_)
                 refine rP 1 (some 96) T ?_;refine rT 0 (some 95) T U h ?_;refine rT 2 (some 97) T U h ?_
                 clear h;refine rC 3 (some 98) T HS H0 Tryz.func139 (h0 _ H0.out) (fun w1 H1 h=>?_) (by kernel_rfl)
                 refine rP 4 (some 99) T ?_;refine rP 5 (some 100) T ?_;refine rP 7 (some 102) T ?_;refine rT 6 (some 101) T U h ?_;refine rT 8 (some 103) T U h ?_
                 clear h;refine rC 9 (some 104) T HS H1 Tryz.func139 (h1 _ H1.out) (fun w2 H2 h=>?_) (by kernel_rfl)
                 refine rP 10 (some 105) T ?_;refine rP 11 (some 106) T ?_;refine rP 12 (some 107) T ?_;refine rU 13 (some 108) T ?_;refine rU 14 (some 109) T ?_;refine rU 15 (some 110) T ?_;refine rU 16 (some 111) T ?_;refine rU 17 (some 112) T ?_;refine rP 18 (some 113) T ?_;refine rP 19 (some 114) T ?_;refine rU 20 (some 115) T ?_;refine rU 21 (some 116) T ?_;refine rU 22 (some 117) T ?_;refine rU 23 (some 118) T ?_;refine rU 24 (some 119) T ?_;refine rU 25 (some 120) T ?_;refine rU 26 (some 121) T ?_;refine rU 27 (some 122) T ?_;refine rU 28 (some 123) T ?_;refine rU 29 (some 124) T ?_;refine rU 30 (some 125) T ?_;refine rU 31 (some 126) T ?_;refine rU 32 (some 127) T ?_;refine rU 33 (some 128) T ?_;refine rU 34 (some 129) T ?_;refine rU 35 (some 130) T ?_;refine rU 36 (some 131) T ?_;refine rU 37 (some 132) T ?_;refine rU 38 (some 133) T ?_;refine rU 39 (some 134) T ?_;refine rU 40 (some 135) T ?_;refine rU 41 (some 136) T ?_;refine rU 42 (some 137) T ?_;refine rU 43 (some 138) T ?_;refine rP 44 (some 139) T ?_
                 refine xE (qW T.out (by kernel_rfl)) ?_;have jH:=qp.out.trans (H2.out.mono qp.out.size);clear h;try go_wp2
                 go_ret
                 exact ⟨rfl,HW.out _ jH⟩
              | true =>
              have h1:=fun (W:World) (h:Below X.heap.size X W)=>hq W x.f1 h
              simp only [r1] at h1
              cases r2:jY l3 x.f2 with
              | false =>
                have h2:=fun (W:World) (h:Below X.heap.size X W)=>hq W x.f2 h
                simp only [r2] at h2
                as_aux_lemma =>
                 have hv:V = false:=by
                   rw [uP.out,vT (i:=0) hlt (by rw [hok,r0,r1,r2];simp)]
                   simp
                 subst hv
                 refine rS (n:=45) HS rval.Xy rval.Zr (by kernel_rfl) rfl rfl (fun w0 H0 T U h=>?_)
                 refine rP 1 (some 96) T ?_;refine rT 0 (some 95) T U h ?_;refine rT 2 (some 97) T U h ?_
                 clear h;refine rC 3 (some 98) T HS H0 Tryz.func139 (h0 _ H0.out) (fun w1 H1 h=>?_) (by kernel_rfl)
                 refine rP 4 (some 99) T ?_;refine rP 5 (some 100) T ?_;refine rP 7 (some 102) T ?_;refine rT 6 (some 101) T U h ?_;refine rT 8 (some 103) T U h ?_
                 clear h;refine rC 9 (some 104) T HS H1 Tryz.func139 (h1 _ H1.out) (fun w2 H2 h=>?_) (by kernel_rfl)
                 refine rP 10 (some 105) T ?_;refine rP 11 (some 106) T ?_;refine rP 12 (some 107) T ?_;refine rP 14 (some 109) T ?_;refine rT 13 (some 108) T U h ?_;refine rT 15 (some 110) T U h ?_
                 clear h;refine rC 16 (some 111) T HS H2 Tryz.func139 (h2 _ H2.out) (fun w3 H3 h=>?_) (by kernel_rfl)
                 refine rP 17 (some 112) T ?_;refine rP 18 (some 113) T ?_;refine rP 19 (some 114) T ?_;refine rU 20 (some 115) T ?_;refine rU 21 (some 116) T ?_;refine rU 22 (some 117) T ?_;refine rU 23 (some 118) T ?_;refine rU 24 (some 119) T ?_;refine rU 25 (some 120) T ?_;refine rU 26 (some 121) T ?_;refine rU 27 (some 122) T ?_;refine rU 28 (some 123) T ?_;refine rU 29 (some 124) T ?_;refine rU 30 (some 125) T ?_;refine rU 31 (some 126) T ?_;refine rU 32 (some 127) T ?_;refine rU 33 (some 128) T ?_;refine rU 34 (some 129) T ?_;refine rU 35 (some 130) T ?_;refine rU 36 (some 131) T ?_;refine rU 37 (some 132) T ?_;refine rU 38 (some 133) T ?_;refine rU 39 (some 134) T ?_;refine rU 40 (some 135) T ?_;refine rU 41 (some 136) T ?_;refine rU 42 (some 137) T ?_;refine rU 43 (some 138) T ?_;refine rP 44 (some 139) T ?_
                 refine xE (qW T.out (by kernel_rfl)) ?_;have jH:=qp.out.trans (H3.out.mono qp.out.size);clear h;try go_wp2
                 go_ret
                 exact ⟨rfl,HW.out _ jH⟩
              | true =>
              have h2:=fun (W:World) (h:Below X.heap.size X W)=>hq W x.f2 h
              simp only [r2] at h2
              as_aux_lemma =>
              have hok2:QJ l3 l4 0 = true:=by rw [hok,r0,r1,r2];rfl
              refine rS (n:=45) HS rval.Xy rval.Zr (by kernel_rfl) rfl rfl (fun w0 H0 T U h=>?_)
              refine rP 1 (some 96) T ?_;refine rT 0 (some 95) T U h ?_;refine rT 2 (some 97) T U h ?_
              clear h;refine rC 3 (some 98) T HS H0 Tryz.func139 (h0 _ H0.out) (fun w1 H1 h=>?_) (by kernel_rfl)
              refine rP 4 (some 99) T ?_;refine rP 5 (some 100) T ?_;refine rP 7 (some 102) T ?_;refine rT 6 (some 101) T U h ?_;refine rT 8 (some 103) T U h ?_
              clear h;refine rC 9 (some 104) T HS H1 Tryz.func139 (h1 _ H1.out) (fun w2 H2 h=>?_) (by kernel_rfl)
              refine rP 10 (some 105) T ?_;refine rP 11 (some 106) T ?_;refine rP 12 (some 107) T ?_;refine rP 14 (some 109) T ?_;refine rT 13 (some 108) T U h ?_;refine rT 15 (some 110) T U h ?_
              clear h;refine rC 16 (some 111) T HS H2 Tryz.func139 (h2 _ H2.out) (fun w3 H3 h=>?_) (by kernel_rfl)
              refine rP 17 (some 112) T ?_;refine rP 18 (some 113) T ?_;refine rP 19 (some 114) T ?_;refine rP 20 (some 115) T ?_;refine rP 21 (some 116) T ?_;refine rP 22 (some 117) T ?_;refine rU 23 (some 118) T ?_;refine rU 24 (some 119) T ?_;refine rU 25 (some 120) T ?_;refine rU 26 (some 121) T ?_;refine rU 27 (some 122) T ?_;refine rU 28 (some 123) T ?_;refine rU 29 (some 124) T ?_;refine rU 30 (some 125) T ?_;refine rU 31 (some 126) T ?_;refine rU 32 (some 127) T ?_;refine rU 33 (some 128) T ?_;refine rU 34 (some 129) T ?_;refine rU 35 (some 130) T ?_;refine rU 36 (some 131) T ?_;refine rU 37 (some 132) T ?_;refine rU 38 (some 133) T ?_;refine rU 39 (some 134) T ?_;refine rU 40 (some 135) T ?_;refine rU 41 (some 136) T ?_;refine rU 42 (some 137) T ?_;refine rP 43 (some 138) T ?_;refine rP 44 (some 139) T ?_
              refine xE (qW T.out (by kernel_rfl)) ?_;have jH:=qp.out.trans (H3.out.mono qp.out.size);clear h;try go_wp2
              go_roundw
              case rel=>exact ⟨0 + 1,by first | rfl | (simp;done) | go_num,by omega,⟨jH⟩,⟨fun j hj=>(Nat.lt_succ_iff_lt_or_eq.1 hj).elim (HK4.out j) (fun e=>by rw [e];exact hok2)⟩⟩
              case measure=>simp [intOf];omega
            · obtain ⟨m,rfl⟩:∃ m,i = m + 1:=⟨i - 1,by omega⟩
              obtain ⟨ad2,e2,y0,y1,y2⟩:=zy5 hC (m:Int) (by omega) (by omega)
              have e3:ad = ad2:=by rw [hA] at e2;injection e2 with e2
              subst e3
              rw [Int.toNat_natCast] at y0 y1 y2
              have hpr:(((m + 1:Nat):Int) - 1) = (m:Int):=by omega
              have hok:QJ l3 l4 (m + 1) = (jY l3 (vB l4 (((m + 1):Nat):Int)).f0 && (jY l3 (vB l4 (((m + 1):Nat):Int)).f1 && (jY l3 (vB l4 (((m + 1):Nat):Int)).f2 && Qh (vB l4 (m:Int)).f0 (vB l4 (m:Int)).f1 (vB l4 (((m + 1):Nat):Int)).f0 (vB l4 (((m + 1):Nat):Int)).f1))):=by
                unfold QJ
                rw [decide_eq_false (by omega:¬ m + 1 = 0),Bool.false_or,hpr]
              have hzx:(vB l4 (((m + 1):Nat):Int)) ∈ l4:=by
                have e9:vB l4 (((m + 1):Nat):Int) = l4[(m + 1)]:=by simp only [vB,Int.toNat_natCast,List.getD_eq_getElem?_getD,List.getElem?_eq_getElem hlt,Option.getD_some]
                rw [e9];exact List.getElem_mem hlt
              generalize vB l4 (((m + 1):Nat):Int) = x at x0 x1 x2 hok hzx
              generalize vB l4 (m:Int) = p at y0 y1 y2 hok
              have e1:IntKind.i64.wrap (((m:Int) + 1) - 1) = (m:Int):=by rw [Int.add_sub_cancel];exact IntWalk.i64_in _ (by omega)
              have q1:(m:Int) < (l4.length:Int):=by omega
              have q2:(m:Int) + 1 < (l4.length:Int):=by omega
              have q3:((m:Int) + 1).toNat = m + 1:=by omega
              have q4:(0:Int) ≤ (m:Int) + 1:=by omega
              have e0:IntKind.i64.wrap (m:Int) = (m:Int):=IntWalk.i64_in _ (by omega)
              have q5:(0:Int) ≤ (m:Int):=by omega
              have q7:decide (0 < (m:Int) + 1) = true:=decide_eq_true (by omega)
              have q8:decide ((m:Int) + 1 < (l4.length:Int)) = true:=decide_eq_true q2
              rw [hA] at hcf
              clear hzx
              go_wp2_with fail
              have hbX:Below wr.heap.size wr (wr.alloc (.cells #[.string x.f0,.string x.f1,.string x.f2] 109)):=(Below.refl _ wr).alloc (Nat.le_refl _) _
              have qp:=zx.mk (JJ.out.trans (hbX.mono JJ.out.size))
              have hbk:=uo wr (.cells #[.string x.f0,.string x.f1,.string x.f2] 109)
              have hX0:(wr.alloc (.cells #[.string x.f0,.string x.f1,.string x.f2] 109)).cell? ⟨wr.heap.size,0,none⟩ = some (.string x.f0):=(zX hbk 0).trans rfl
              have hX1:(wr.alloc (.cells #[.string x.f0,.string x.f1,.string x.f2] 109)).cell? ⟨wr.heap.size,1,none⟩ = some (.string x.f1):=(zX hbk 1).trans rfl
              have hX2:(wr.alloc (.cells #[.string x.f0,.string x.f1,.string x.f2] 109)).cell? ⟨wr.heap.size,2,none⟩ = some (.string x.f2):=(zX hbk 2).trans rfl
              have bJ:(wr.alloc (.cells #[.string x.f0,.string x.f1,.string x.f2] 109)).cell? ⟨w.heap.size,0,none⟩ = some (.string a):=(zX (HF.out _ qp.out) 0).trans rfl
              have hF1:(wr.alloc (.cells #[.string x.f0,.string x.f1,.string x.f2] 109)).cell? ⟨w.heap.size,1,none⟩ = some (.bool b):=(zX (HF.out _ qp.out) 1).trans rfl
              have hF2:(wr.alloc (.cells #[.string x.f0,.string x.f1,.string x.f2] 109)).cell? ⟨w.heap.size,2,none⟩ = some (.int .i64 c):=(zX (HF.out _ qp.out) 2).trans rfl
              have WK:(wr.alloc (.cells #[.string x.f0,.string x.f1,.string x.f2] 109)).cell? ⟨w.heap.size,3,none⟩ = some (.slice A3 l3.length c3):=(zX (HF.out _ qp.out) 3).trans rfl
              have bV:(wr.alloc (.cells #[.string x.f0,.string x.f1,.string x.f2] 109)).cell? ⟨w.heap.size,4,none⟩ = some (.slice (some ad) l4.length c4):=(zX (HF.out _ qp.out) 4).trans (by rw [hA];rfl)
              have bK:(wr.alloc (.cells #[.string x.f0,.string x.f1,.string x.f2] 109)).cell? ⟨w.heap.size,5,none⟩ = some (.slice A5 l5.length c5):=(zX (HF.out _ qp.out) 5).trans rfl
              have hP0:=(hbX.cell (World.block_lt_of_cell? wr _ y0)).trans y0
              have hP1:=(hbX.cell (World.block_lt_of_cell? wr _ y1)).trans y1
              have hq:=fun (W:World) (n:ByteArray) (h:Below (wr.alloc (.cells #[.string x.f0,.string x.f1,.string x.f2] 109)).heap.size (wr.alloc (.cells #[.string x.f0,.string x.f1,.string x.f2] 109)) W)=>zv9 a b c A3 c3 l3 A4 c4 l4 A5 c5 l5 n W (Kd.zh H3.out ((HW.out _ qp.out).trans (h.mono (HW.out _ qp.out).size))) G3.out (Kd.zh H4.out ((HW.out _ qp.out).trans (h.mono (HW.out _ qp.out).size))) G4.out (Kd.zh H5.out ((HW.out _ qp.out).trans (h.mono (HW.out _ qp.out).size))) G5.out hl3
              rw [hA] at hq
              clear hbk hbX x0 x1 x2 y0 y1 y2 hC hcf
              generalize wr.heap.size = g4 at hX0 hlA hX1 hX2 ⊢
              generalize (wr.alloc (.cells #[.string x.f0,.string x.f1,.string x.f2] 109)) = X at qp hX0 hX1 hX2 bJ hF1 hF2 WK bV bK hP0 hP1 hq ⊢
              have HS:=zx.mk (fun (W:World) (h:Below X.heap.size X W)=>(show W.cell? ⟨g4,0,none⟩ = some (.string x.f0) ∧ W.cell? ⟨g4,1,none⟩ = some (.string x.f1) ∧ W.cell? ⟨g4,2,none⟩ = some (.string x.f2) ∧ W.cell? ⟨w.heap.size,0,none⟩ = some (.string a) ∧ W.cell? ⟨w.heap.size,1,none⟩ = some (.bool b) ∧ W.cell? ⟨w.heap.size,2,none⟩ = some (.int .i64 c) ∧ W.cell? ⟨w.heap.size,3,none⟩ = some (.slice A3 l3.length c3) ∧ W.cell? ⟨w.heap.size,4,none⟩ = some (.slice (some ad) l4.length c4) ∧ W.cell? ⟨w.heap.size,5,none⟩ = some (.slice A5 l5.length c5) ∧ W.cell? (ad.add (m * 3)) = some (.string p.f0) ∧ W.cell? ⟨(ad.add (m * 3)).block,(ad.add (m * 3)).off + 1,none⟩ = some (.string p.f1) from ⟨(h.cell (World.block_lt_of_cell? X _ hX0)).trans hX0,(h.cell (World.block_lt_of_cell? X _ hX1)).trans hX1,(h.cell (World.block_lt_of_cell? X _ hX2)).trans hX2,(h.cell (World.block_lt_of_cell? X _ bJ)).trans bJ,(h.cell (World.block_lt_of_cell? X _ hF1)).trans hF1,(h.cell (World.block_lt_of_cell? X _ hF2)).trans hF2,(h.cell (World.block_lt_of_cell? X _ WK)).trans WK,(h.cell (World.block_lt_of_cell? X _ bV)).trans bV,(h.cell (World.block_lt_of_cell? X _ bK)).trans bK,(h.cell (World.block_lt_of_cell? X _ hP0)).trans hP0,(h.cell (World.block_lt_of_cell? X _ hP1)).trans hP1⟩))
              cases r0:jY l3 x.f0 with
              | false =>
                have h0:=fun (W:World) (h:Below X.heap.size X W)=>hq W x.f0 h
                simp only [r0] at h0
                as_aux_lemma =>
                 have hv:V = false:=by
                   rw [uP.out,vT (i:=(m + 1)) hlt (by rw [hok,r0];simp)]
                   simp
                 subst hv
                 refine rS (n:=45) HS rval.Xy rval.Zr (by kernel_rfl) rfl rfl (fun w0 H0 T U h=>?_)
                 refine rP 1 (some 96) T ?_;refine rT 0 (some 95) T U h ?_;refine rT 2 (some 97) T U h ?_
                 clear h;refine rC 3 (some 98) T HS H0 Tryz.func139 (h0 _ H0.out) (fun w1 H1 h=>?_) (by kernel_rfl)
                 refine rP 4 (some 99) T ?_;refine rP 5 (some 100) T ?_;refine rU 6 (some 101) T ?_;refine rU 7 (some 102) T ?_;refine rU 8 (some 103) T ?_;refine rU 9 (some 104) T ?_;refine rU 10 (some 105) T ?_;refine rP 11 (some 106) T ?_;refine rP 12 (some 107) T ?_;refine rU 13 (some 108) T ?_;refine rU 14 (some 109) T ?_;refine rU 15 (some 110) T ?_;refine rU 16 (some 111) T ?_;refine rU 17 (some 112) T ?_;refine rP 18 (some 113) T ?_;refine rP 19 (some 114) T ?_;refine rU 20 (some 115) T ?_;refine rU 21 (some 116) T ?_;refine rU 22 (some 117) T ?_;refine rU 23 (some 118) T ?_;refine rU 24 (some 119) T ?_;refine rU 25 (some 120) T ?_;refine rU 26 (some 121) T ?_;refine rU 27 (some 122) T ?_;refine rU 28 (some 123) T ?_;refine rU 29 (some 124) T ?_;refine rU 30 (some 125) T ?_;refine rU 31 (some 126) T ?_;refine rU 32 (some 127) T ?_;refine rU 33 (some 128) T ?_;refine rU 34 (some 129) T ?_;refine rU 35 (some 130) T ?_;refine rU 36 (some 131) T ?_;refine rU 37 (some 132) T ?_;refine rU 38 (some 133) T ?_;refine rU 39 (some 134) T ?_;refine rU 40 (some 135) T ?_;refine rU 41 (some 136) T ?_;refine rU 42 (some 137) T ?_;refine rU 43 (some 138) T ?_;refine rP 44 (some 139) T ?_
                 refine xE (qW T.out (by kernel_rfl)) ?_;have jH:=qp.out.trans (H1.out.mono qp.out.size);clear h;try go_wp2
                 go_ret
                 exact ⟨rfl,HW.out _ jH⟩
              | true =>
              have h0:=fun (W:World) (h:Below X.heap.size X W)=>hq W x.f0 h
              simp only [r0] at h0
              cases r1:jY l3 x.f1 with
              | false =>
                have h1:=fun (W:World) (h:Below X.heap.size X W)=>hq W x.f1 h
                simp only [r1] at h1
                as_aux_lemma =>
                 have hv:V = false:=by
                   rw [uP.out,vT (i:=(m + 1)) hlt (by rw [hok,r0,r1];simp)]
                   simp
                 subst hv
                 refine rS (n:=45) HS rval.Xy rval.Zr (by kernel_rfl) rfl rfl (fun w0 H0 T U h=>?_)
                 refine rP 1 (some 96) T ?_;refine rT 0 (some 95) T U h ?_;refine rT 2 (some 97) T U h ?_
                 clear h;refine rC 3 (some 98) T HS H0 Tryz.func139 (h0 _ H0.out) (fun w1 H1 h=>?_) (by kernel_rfl)
                 refine rP 4 (some 99) T ?_;refine rP 5 (some 100) T ?_;refine rP 7 (some 102) T ?_;refine rT 6 (some 101) T U h ?_;refine rT 8 (some 103) T U h ?_
                 clear h;refine rC 9 (some 104) T HS H1 Tryz.func139 (h1 _ H1.out) (fun w2 H2 h=>?_) (by kernel_rfl)
                 refine rP 10 (some 105) T ?_;refine rP 11 (some 106) T ?_;refine rP 12 (some 107) T ?_;refine rU 13 (some 108) T ?_;refine rU 14 (some 109) T ?_;refine rU 15 (some 110) T ?_;refine rU 16 (some 111) T ?_;refine rU 17 (some 112) T ?_;refine rP 18 (some 113) T ?_;refine rP 19 (some 114) T ?_;refine rU 20 (some 115) T ?_;refine rU 21 (some 116) T ?_;refine rU 22 (some 117) T ?_;refine rU 23 (some 118) T ?_;refine rU 24 (some 119) T ?_;refine rU 25 (some 120) T ?_;refine rU 26 (some 121) T ?_;refine rU 27 (some 122) T ?_;refine rU 28 (some 123) T ?_;refine rU 29 (some 124) T ?_;refine rU 30 (some 125) T ?_;refine rU 31 (some 126) T ?_;refine rU 32 (some 127) T ?_;refine rU 33 (some 128) T ?_;refine rU 34 (some 129) T ?_;refine rU 35 (some 130) T ?_;refine rU 36 (some 131) T ?_;refine rU 37 (some 132) T ?_;refine rU 38 (some 133) T ?_;refine rU 39 (some 134) T ?_;refine rU 40 (some 135) T ?_;refine rU 41 (some 136) T ?_;refine rU 42 (some 137) T ?_;refine rU 43 (some 138) T ?_;refine rP 44 (some 139) T ?_
                 refine xE (qW T.out (by kernel_rfl)) ?_;have jH:=qp.out.trans (H2.out.mono qp.out.size);clear h;try go_wp2
                 go_ret
                 exact ⟨rfl,HW.out _ jH⟩
              | true =>
              have h1:=fun (W:World) (h:Below X.heap.size X W)=>hq W x.f1 h
              simp only [r1] at h1
              cases r2:jY l3 x.f2 with
              | false =>
                have h2:=fun (W:World) (h:Below X.heap.size X W)=>hq W x.f2 h
                simp only [r2] at h2
                as_aux_lemma =>
                 have hv:V = false:=by
                   rw [uP.out,vT (i:=(m + 1)) hlt (by rw [hok,r0,r1,r2];simp)]
                   simp
                 subst hv
                 refine rS (n:=45) HS rval.Xy rval.Zr (by kernel_rfl) rfl rfl (fun w0 H0 T U h=>?_)
                 refine rP 1 (some 96) T ?_;refine rT 0 (some 95) T U h ?_;refine rT 2 (some 97) T U h ?_
                 clear h;refine rC 3 (some 98) T HS H0 Tryz.func139 (h0 _ H0.out) (fun w1 H1 h=>?_) (by kernel_rfl)
                 refine rP 4 (some 99) T ?_;refine rP 5 (some 100) T ?_;refine rP 7 (some 102) T ?_;refine rT 6 (some 101) T U h ?_;refine rT 8 (some 103) T U h ?_
                 clear h;refine rC 9 (some 104) T HS H1 Tryz.func139 (h1 _ H1.out) (fun w2 H2 h=>?_) (by kernel_rfl)
                 refine rP 10 (some 105) T ?_;refine rP 11 (some 106) T ?_;refine rP 12 (some 107) T ?_;refine rP 14 (some 109) T ?_;refine rT 13 (some 108) T U h ?_;refine rT 15 (some 110) T U h ?_
                 clear h;refine rC 16 (some 111) T HS H2 Tryz.func139 (h2 _ H2.out) (fun w3 H3 h=>?_) (by kernel_rfl)
                 refine rP 17 (some 112) T ?_;refine rP 18 (some 113) T ?_;refine rP 19 (some 114) T ?_;refine rU 20 (some 115) T ?_;refine rU 21 (some 116) T ?_;refine rU 22 (some 117) T ?_;refine rU 23 (some 118) T ?_;refine rU 24 (some 119) T ?_;refine rU 25 (some 120) T ?_;refine rU 26 (some 121) T ?_;refine rU 27 (some 122) T ?_;refine rU 28 (some 123) T ?_;refine rU 29 (some 124) T ?_;refine rU 30 (some 125) T ?_;refine rU 31 (some 126) T ?_;refine rU 32 (some 127) T ?_;refine rU 33 (some 128) T ?_;refine rU 34 (some 129) T ?_;refine rU 35 (some 130) T ?_;refine rU 36 (some 131) T ?_;refine rU 37 (some 132) T ?_;refine rU 38 (some 133) T ?_;refine rU 39 (some 134) T ?_;refine rU 40 (some 135) T ?_;refine rU 41 (some 136) T ?_;refine rU 42 (some 137) T ?_;refine rU 43 (some 138) T ?_;refine rP 44 (some 139) T ?_
                 refine xE (qW T.out (by kernel_rfl)) ?_;have jH:=qp.out.trans (H3.out.mono qp.out.size);clear h;try go_wp2
                 go_ret
                 exact ⟨rfl,HW.out _ jH⟩
              | true =>
              have h2:=fun (W:World) (h:Below X.heap.size X W)=>hq W x.f2 h
              simp only [r2] at h2
              have hah:=fun W=>(zwk p.f0 p.f1 x.f0 x.f1 W).mono fun e w' k=>And.intro k.1 (jl k.2)
              cases ra:Qh p.f0 p.f1 x.f0 x.f1 with
              | false =>
                simp only [ra] at hah
                as_aux_lemma =>
                 have hv:V = false:=by
                   rw [uP.out,vT (i:=(m + 1)) hlt (by rw [hok,r0,r1,r2,ra];simp)]
                   simp
                 subst hv
                 refine rS (n:=45) HS rval.Xy rval.Zr (by kernel_rfl) rfl rfl (fun w0 H0 T U h=>?_)
                 refine rP 1 (some 96) T ?_;refine rT 0 (some 95) T U h ?_;refine rT 2 (some 97) T U h ?_
                 clear h;refine rC 3 (some 98) T HS H0 Tryz.func139 (h0 _ H0.out) (fun w1 H1 h=>?_) (by kernel_rfl)
                 refine rP 4 (some 99) T ?_;refine rP 5 (some 100) T ?_;refine rP 7 (some 102) T ?_;refine rT 6 (some 101) T U h ?_;refine rT 8 (some 103) T U h ?_
                 clear h;refine rC 9 (some 104) T HS H1 Tryz.func139 (h1 _ H1.out) (fun w2 H2 h=>?_) (by kernel_rfl)
                 refine rP 10 (some 105) T ?_;refine rP 11 (some 106) T ?_;refine rP 12 (some 107) T ?_;refine rP 14 (some 109) T ?_;refine rT 13 (some 108) T U h ?_;refine rT 15 (some 110) T U h ?_
                 clear h;refine rC 16 (some 111) T HS H2 Tryz.func139 (h2 _ H2.out) (fun w3 H3 h=>?_) (by kernel_rfl)
                 refine rP 17 (some 112) T ?_;refine rP 18 (some 113) T ?_;refine rP 19 (some 114) T ?_;refine rP 20 (some 115) T ?_;refine rP 21 (some 116) T ?_;refine rP 22 (some 117) T ?_;refine rP 23 (some 118) T ?_;refine rP 25 (some 120) T ?_;refine rP 26 (some 121) T ?_;refine rP 30 (some 125) T ?_;refine rP 32 (some 127) T ?_;refine rP 33 (some 128) T ?_;refine rP 37 (some 132) T ?_;refine rP 39 (some 134) T ?_;refine rT 24 (some 119) T U h ?_;refine rP 27 (some 122) T ?_;refine rP 28 (some 123) T ?_;refine rT 29 (some 124) T U h ?_;refine rT 31 (some 126) T U h ?_;refine rP 34 (some 129) T ?_;refine rP 35 (some 130) T ?_;refine rT 36 (some 131) T U h ?_;refine rT 38 (some 133) T U h ?_;refine rT 40 (some 135) T U h ?_
                 clear h;refine rC 41 (some 136) T HS H3 Tryz.func140 (hah _) (fun w4 H4 h=>?_) (by kernel_rfl)
                 refine rP 42 (some 137) T ?_;refine rP 43 (some 138) T ?_;refine rP 44 (some 139) T ?_
                 refine xE (qW T.out (by kernel_rfl)) ?_;have jH:=qp.out.trans (H4.out.mono qp.out.size);clear h;try go_wp2
                 go_ret
                 exact ⟨rfl,HW.out _ jH⟩
              | true =>
              simp only [ra] at hah
              as_aux_lemma =>
              have hok2:QJ l3 l4 (m + 1) = true:=by rw [hok,r0,r1,r2,ra];rfl
              refine rS (n:=45) HS rval.Xy rval.Zr (by kernel_rfl) rfl rfl (fun w0 H0 T U h=>?_)
              refine rP 1 (some 96) T ?_;refine rT 0 (some 95) T U h ?_;refine rT 2 (some 97) T U h ?_
              clear h;refine rC 3 (some 98) T HS H0 Tryz.func139 (h0 _ H0.out) (fun w1 H1 h=>?_) (by kernel_rfl)
              refine rP 4 (some 99) T ?_;refine rP 5 (some 100) T ?_;refine rP 7 (some 102) T ?_;refine rT 6 (some 101) T U h ?_;refine rT 8 (some 103) T U h ?_
              clear h;refine rC 9 (some 104) T HS H1 Tryz.func139 (h1 _ H1.out) (fun w2 H2 h=>?_) (by kernel_rfl)
              refine rP 10 (some 105) T ?_;refine rP 11 (some 106) T ?_;refine rP 12 (some 107) T ?_;refine rP 14 (some 109) T ?_;refine rT 13 (some 108) T U h ?_;refine rT 15 (some 110) T U h ?_
              clear h;refine rC 16 (some 111) T HS H2 Tryz.func139 (h2 _ H2.out) (fun w3 H3 h=>?_) (by kernel_rfl)
              refine rP 17 (some 112) T ?_;refine rP 18 (some 113) T ?_;refine rP 19 (some 114) T ?_;refine rP 20 (some 115) T ?_;refine rP 21 (some 116) T ?_;refine rP 22 (some 117) T ?_;refine rP 23 (some 118) T ?_;refine rP 25 (some 120) T ?_;refine rP 26 (some 121) T ?_;refine rP 30 (some 125) T ?_;refine rP 32 (some 127) T ?_;refine rP 33 (some 128) T ?_;refine rP 37 (some 132) T ?_;refine rP 39 (some 134) T ?_;refine rT 24 (some 119) T U h ?_;refine rP 27 (some 122) T ?_;refine rP 28 (some 123) T ?_;refine rT 29 (some 124) T U h ?_;refine rT 31 (some 126) T U h ?_;refine rP 34 (some 129) T ?_;refine rP 35 (some 130) T ?_;refine rT 36 (some 131) T U h ?_;refine rT 38 (some 133) T U h ?_;refine rT 40 (some 135) T U h ?_
              clear h;refine rC 41 (some 136) T HS H3 Tryz.func140 (hah _) (fun w4 H4 h=>?_) (by kernel_rfl)
              refine rP 42 (some 137) T ?_;refine rP 43 (some 138) T ?_;refine rP 44 (some 139) T ?_
              refine xE (qW T.out (by kernel_rfl)) ?_;have jH:=qp.out.trans (H4.out.mono qp.out.size);clear h;try go_wp2
              go_roundw
              case rel=>exact ⟨m + 1 + 1,by first | rfl | (simp;done) | go_num,by omega,⟨jH⟩,⟨fun j hj=>(Nat.lt_succ_iff_lt_or_eq.1 hj).elim (HK4.out j) (fun e=>by rw [e];exact hok2)⟩⟩
              case measure=>simp [intOf];omega
          · obtain rfl:i = l4.length:=by omega
            have q2:decide ((l4.length:Int) < (l4.length:Int)) = false:=decide_eq_false (by omega)
            have q1:¬ (l4.length:Int) < (l4.length:Int):=by omega
            have uP:zx (V = ((List.range l5.length).all (QV l3 l5))):=⟨by rw [uP.out,zzu HK4.out,Bool.true_and]⟩
            go_wp2
            go_loopw [7] (fun y W=>∃ i:Nat,y = .int .i64 (i:Int) ∧ i ≤ l5.length ∧ zx (Below (w.alloc (.cells #[.string a,.bool b,.int .i64 c,.slice A3 l3.length c3,.slice A4 l4.length c4,.slice A5 l5.length c5] 101)).heap.size (w.alloc (.cells #[.string a,.bool b,.int .i64 c,.slice A3 l3.length c3,.slice A4 l4.length c4,.slice A5 l5.length c5] 101)) W) ∧ zx (∀ j,j < i → QV l3 l5 j = true)) (fun y _=>l5.length - (intOf y).toNat)
            case atStart=>exact ⟨0,rfl,Nat.zero_le _,JJ,⟨fun _ h=>absurd h (Nat.not_lt_zero _)⟩⟩
            case round =>
              skip
              obtain ⟨i,rfl,hi,Wu,HK5⟩:=hrel
              have hcf:=(zX (HF.out _ Wu.out) 5).trans rfl
              by_cases hlt:i < l5.length
              · have hC:=Kd.zh H5.out (HW.out _ Wu.out)
                have hbX:Below wr.heap.size wr (wr.alloc (.cells #[] 0)):=(Below.refl _ wr).alloc (Nat.le_refl _) _
                clear hbX
                obtain ⟨ad,e,x0,x1,x2⟩:=zy6 hC (i:Int) (by omega) (by omega)
                have hA:=e
                rw [Int.toNat_natCast] at x0 x1 x2
                have hlA:w.heap.size < wr.heap.size:=pQ (HF.out _ Wu.out)
                rcases Nat.eq_zero_or_pos i with hi0 | hi0
                · subst hi0
                  simp only [Nat.zero_mul,Addr.add_zero'] at x0 x1 x2
                  have hok:QV l3 l5 0 = (jY l3 (xD l5 ((0:Nat):Int)).f0 && (jY l3 (xD l5 ((0:Nat):Int)).f1 && (!decide ((xD l5 ((0:Nat):Int)).f2 = 0) && (!decide ((xD l5 ((0:Nat):Int)).f2 < -500) && (!decide (500 < (xD l5 ((0:Nat):Int)).f2) && true))))):=by
                    unfold QV
                    rw [decide_eq_true rfl,Bool.true_or]
                  have hzx:(xD l5 ((0:Nat):Int)) ∈ l5:=by
                    have e9:xD l5 ((0:Nat):Int) = l5[0]:=by simp only [xD,Int.toNat_natCast,List.getD_eq_getElem?_getD,List.getElem?_eq_getElem hlt,Option.getD_some]
                    rw [e9];exact List.getElem_mem hlt
                  generalize xD l5 ((0:Nat):Int) = x at x0 x1 x2 hok hzx
                  have q1:(0:Int) < (l5.length:Int):=by omega
                  have q6:decide ((0:Int) < (l5.length:Int)) = true:=decide_eq_true q1
                  rw [hA] at hcf
                  clear hzx
                  go_wp2_with fail
                  have hbX:Below wr.heap.size wr (wr.alloc (.cells #[.string x.f0,.string x.f1,.int .i64 x.f2] 112)):=(Below.refl _ wr).alloc (Nat.le_refl _) _
                  have qp:=zx.mk (Wu.out.trans (hbX.mono Wu.out.size))
                  have hbk:=uo wr (.cells #[.string x.f0,.string x.f1,.int .i64 x.f2] 112)
                  have hX0:(wr.alloc (.cells #[.string x.f0,.string x.f1,.int .i64 x.f2] 112)).cell? ⟨wr.heap.size,0,none⟩ = some (.string x.f0):=(zX hbk 0).trans rfl
                  have hX1:(wr.alloc (.cells #[.string x.f0,.string x.f1,.int .i64 x.f2] 112)).cell? ⟨wr.heap.size,1,none⟩ = some (.string x.f1):=(zX hbk 1).trans rfl
                  have hX2:(wr.alloc (.cells #[.string x.f0,.string x.f1,.int .i64 x.f2] 112)).cell? ⟨wr.heap.size,2,none⟩ = some (.int .i64 x.f2):=(zX hbk 2).trans rfl
                  have bJ:(wr.alloc (.cells #[.string x.f0,.string x.f1,.int .i64 x.f2] 112)).cell? ⟨w.heap.size,0,none⟩ = some (.string a):=(zX (HF.out _ qp.out) 0).trans rfl
                  have hF1:(wr.alloc (.cells #[.string x.f0,.string x.f1,.int .i64 x.f2] 112)).cell? ⟨w.heap.size,1,none⟩ = some (.bool b):=(zX (HF.out _ qp.out) 1).trans rfl
                  have hF2:(wr.alloc (.cells #[.string x.f0,.string x.f1,.int .i64 x.f2] 112)).cell? ⟨w.heap.size,2,none⟩ = some (.int .i64 c):=(zX (HF.out _ qp.out) 2).trans rfl
                  have WK:(wr.alloc (.cells #[.string x.f0,.string x.f1,.int .i64 x.f2] 112)).cell? ⟨w.heap.size,3,none⟩ = some (.slice A3 l3.length c3):=(zX (HF.out _ qp.out) 3).trans rfl
                  have bV:(wr.alloc (.cells #[.string x.f0,.string x.f1,.int .i64 x.f2] 112)).cell? ⟨w.heap.size,4,none⟩ = some (.slice A4 l4.length c4):=(zX (HF.out _ qp.out) 4).trans rfl
                  have bK:(wr.alloc (.cells #[.string x.f0,.string x.f1,.int .i64 x.f2] 112)).cell? ⟨w.heap.size,5,none⟩ = some (.slice (some ad) l5.length c5):=(zX (HF.out _ qp.out) 5).trans (by rw [hA];rfl)
                  have hq:=fun (W:World) (n:ByteArray) (h:Below (wr.alloc (.cells #[.string x.f0,.string x.f1,.int .i64 x.f2] 112)).heap.size (wr.alloc (.cells #[.string x.f0,.string x.f1,.int .i64 x.f2] 112)) W)=>zv9 a b c A3 c3 l3 A4 c4 l4 A5 c5 l5 n W (Kd.zh H3.out ((HW.out _ qp.out).trans (h.mono (HW.out _ qp.out).size))) G3.out (Kd.zh H4.out ((HW.out _ qp.out).trans (h.mono (HW.out _ qp.out).size))) G4.out (Kd.zh H5.out ((HW.out _ qp.out).trans (h.mono (HW.out _ qp.out).size))) G5.out hl3
                  rw [hA] at hq
                  clear hbk hbX x0 x1 x2  hC hcf
                  generalize wr.heap.size = g4 at hX0 hlA hX1 hX2 ⊢
                  generalize (wr.alloc (.cells #[.string x.f0,.string x.f1,.int .i64 x.f2] 112)) = X at qp hX0 hX1 hX2 bJ hF1 hF2 WK bV bK hq ⊢
                  have HS:=zx.mk (fun (W:World) (h:Below X.heap.size X W)=>(show W.cell? ⟨g4,0,none⟩ = some (.string x.f0) ∧ W.cell? ⟨g4,1,none⟩ = some (.string x.f1) ∧ W.cell? ⟨g4,2,none⟩ = some (.int .i64 x.f2) ∧ W.cell? ⟨w.heap.size,0,none⟩ = some (.string a) ∧ W.cell? ⟨w.heap.size,1,none⟩ = some (.bool b) ∧ W.cell? ⟨w.heap.size,2,none⟩ = some (.int .i64 c) ∧ W.cell? ⟨w.heap.size,3,none⟩ = some (.slice A3 l3.length c3) ∧ W.cell? ⟨w.heap.size,4,none⟩ = some (.slice A4 l4.length c4) ∧ W.cell? ⟨w.heap.size,5,none⟩ = some (.slice (some ad) l5.length c5) from ⟨(h.cell (World.block_lt_of_cell? X _ hX0)).trans hX0,(h.cell (World.block_lt_of_cell? X _ hX1)).trans hX1,(h.cell (World.block_lt_of_cell? X _ hX2)).trans hX2,(h.cell (World.block_lt_of_cell? X _ bJ)).trans bJ,(h.cell (World.block_lt_of_cell? X _ hF1)).trans hF1,(h.cell (World.block_lt_of_cell? X _ hF2)).trans hF2,(h.cell (World.block_lt_of_cell? X _ WK)).trans WK,(h.cell (World.block_lt_of_cell? X _ bV)).trans bV,(h.cell (World.block_lt_of_cell? X _ bK)).trans bK⟩))
                  cases r0:jY l3 x.f0 with
                  | false =>
                    have h0:=fun (W:World) (h:Below X.heap.size X W)=>hq W x.f0 h
                    simp only [r0] at h0
                    as_aux_lemma =>
                     have hv:V = false:=by
                       rw [uP.out,vT (i:=0) hlt (by rw [hok,r0];simp)]
                       done
                     subst hv
                     refine rS (n:=53) HS rval.Yt rval.ZV (by kernel_rfl) rfl rfl (fun w0 H0 T U h=>?_)
                     refine rP 1 (some 153) T ?_;refine rT 0 (some 152) T U h ?_;refine rT 2 (some 154) T U h ?_
                     clear h;refine rC 3 (some 155) T HS H0 Tryz.func139 (h0 _ H0.out) (fun w1 H1 h=>?_) (by kernel_rfl)
                     refine rP 4 (some 156) T ?_;refine rP 5 (some 157) T ?_;refine rU 6 (some 158) T ?_;refine rU 7 (some 159) T ?_;refine rU 8 (some 160) T ?_;refine rU 9 (some 161) T ?_;refine rU 10 (some 162) T ?_;refine rP 11 (some 163) T ?_;refine rP 12 (some 164) T ?_;refine rU 13 (some 165) T ?_;refine rU 14 (some 166) T ?_;refine rU 15 (some 167) T ?_;refine rP 16 (some 168) T ?_;refine rP 17 (some 169) T ?_;refine rU 18 (some 170) T ?_;refine rU 19 (some 171) T ?_;refine rU 20 (some 172) T ?_;refine rP 21 (some 173) T ?_;refine rP 22 (some 174) T ?_;refine rU 23 (some 175) T ?_;refine rU 24 (some 176) T ?_;refine rU 25 (some 177) T ?_;refine rP 26 (some 178) T ?_;refine rP 27 (some 179) T ?_;refine rU 28 (some 180) T ?_;refine rU 29 (some 181) T ?_;refine rU 30 (some 182) T ?_;refine rU 31 (some 183) T ?_;refine rU 32 (some 184) T ?_;refine rU 33 (some 185) T ?_;refine rU 34 (some 186) T ?_;refine rU 35 (some 187) T ?_;refine rU 36 (some 188) T ?_;refine rU 37 (some 189) T ?_;refine rU 38 (some 190) T ?_;refine rU 39 (some 191) T ?_;refine rU 40 (some 192) T ?_;refine rU 41 (some 193) T ?_;refine rU 42 (some 194) T ?_;refine rU 43 (some 195) T ?_;refine rU 44 (some 196) T ?_;refine rU 45 (some 197) T ?_;refine rU 46 (some 198) T ?_;refine rU 47 (some 199) T ?_;refine rU 48 (some 200) T ?_;refine rU 49 (some 201) T ?_;refine rU 50 (some 202) T ?_;refine rU 51 (some 203) T ?_;refine rP 52 (some 204) T ?_
                     refine xE (qW T.out (by kernel_rfl)) ?_;have jH:=qp.out.trans (H1.out.mono qp.out.size);clear h;try go_wp2
                     go_ret
                     exact ⟨rfl,HW.out _ jH⟩
                  | true =>
                  have h0:=fun (W:World) (h:Below X.heap.size X W)=>hq W x.f0 h
                  simp only [r0] at h0
                  cases r1:jY l3 x.f1 with
                  | false =>
                    have h1:=fun (W:World) (h:Below X.heap.size X W)=>hq W x.f1 h
                    simp only [r1] at h1
                    as_aux_lemma =>
                     have hv:V = false:=by
                       rw [uP.out,vT (i:=0) hlt (by rw [hok,r0,r1];simp)]
                       done
                     subst hv
                     refine rS (n:=53) HS rval.Yt rval.ZV (by kernel_rfl) rfl rfl (fun w0 H0 T U h=>?_)
                     refine rP 1 (some 153) T ?_;refine rT 0 (some 152) T U h ?_;refine rT 2 (some 154) T U h ?_
                     clear h;refine rC 3 (some 155) T HS H0 Tryz.func139 (h0 _ H0.out) (fun w1 H1 h=>?_) (by kernel_rfl)
                     refine rP 4 (some 156) T ?_;refine rP 5 (some 157) T ?_;refine rP 7 (some 159) T ?_;refine rT 6 (some 158) T U h ?_;refine rT 8 (some 160) T U h ?_
                     clear h;refine rC 9 (some 161) T HS H1 Tryz.func139 (h1 _ H1.out) (fun w2 H2 h=>?_) (by kernel_rfl)
                     refine rP 10 (some 162) T ?_;refine rP 11 (some 163) T ?_;refine rP 12 (some 164) T ?_;refine rU 13 (some 165) T ?_;refine rU 14 (some 166) T ?_;refine rU 15 (some 167) T ?_;refine rP 16 (some 168) T ?_;refine rP 17 (some 169) T ?_;refine rU 18 (some 170) T ?_;refine rU 19 (some 171) T ?_;refine rU 20 (some 172) T ?_;refine rP 21 (some 173) T ?_;refine rP 22 (some 174) T ?_;refine rU 23 (some 175) T ?_;refine rU 24 (some 176) T ?_;refine rU 25 (some 177) T ?_;refine rP 26 (some 178) T ?_;refine rP 27 (some 179) T ?_;refine rU 28 (some 180) T ?_;refine rU 29 (some 181) T ?_;refine rU 30 (some 182) T ?_;refine rU 31 (some 183) T ?_;refine rU 32 (some 184) T ?_;refine rU 33 (some 185) T ?_;refine rU 34 (some 186) T ?_;refine rU 35 (some 187) T ?_;refine rU 36 (some 188) T ?_;refine rU 37 (some 189) T ?_;refine rU 38 (some 190) T ?_;refine rU 39 (some 191) T ?_;refine rU 40 (some 192) T ?_;refine rU 41 (some 193) T ?_;refine rU 42 (some 194) T ?_;refine rU 43 (some 195) T ?_;refine rU 44 (some 196) T ?_;refine rU 45 (some 197) T ?_;refine rU 46 (some 198) T ?_;refine rU 47 (some 199) T ?_;refine rU 48 (some 200) T ?_;refine rU 49 (some 201) T ?_;refine rU 50 (some 202) T ?_;refine rU 51 (some 203) T ?_;refine rP 52 (some 204) T ?_
                     refine xE (qW T.out (by kernel_rfl)) ?_;have jH:=qp.out.trans (H2.out.mono qp.out.size);clear h;try go_wp2
                     go_ret
                     exact ⟨rfl,HW.out _ jH⟩
                  | true =>
                  have h1:=fun (W:World) (h:Below X.heap.size X W)=>hq W x.f1 h
                  simp only [r1] at h1
                  by_cases tz:x.f2 = 0
                  · have dz:decide (x.f2 = 0) = true:=decide_eq_true tz
                    have dz2:(x.f2 == 0) = true:=beq_iff_eq.2 tz
                    as_aux_lemma =>
                     have hv:V = false:=by
                       rw [uP.out,vT (i:=0) hlt (by rw [hok,r0,r1,dz];simp)]
                       done
                     subst hv
                     refine rS (n:=53) HS rval.Yt rval.ZV (by kernel_rfl) rfl rfl (fun w0 H0 T U h=>?_)
                     refine rP 1 (some 153) T ?_;refine rT 0 (some 152) T U h ?_;refine rT 2 (some 154) T U h ?_
                     clear h;refine rC 3 (some 155) T HS H0 Tryz.func139 (h0 _ H0.out) (fun w1 H1 h=>?_) (by kernel_rfl)
                     refine rP 4 (some 156) T ?_;refine rP 5 (some 157) T ?_;refine rP 7 (some 159) T ?_;refine rT 6 (some 158) T U h ?_;refine rT 8 (some 160) T U h ?_
                     clear h;refine rC 9 (some 161) T HS H1 Tryz.func139 (h1 _ H1.out) (fun w2 H2 h=>?_) (by kernel_rfl)
                     refine rP 10 (some 162) T ?_;refine rP 11 (some 163) T ?_;refine rP 12 (some 164) T ?_;refine rP 13 (some 165) T ?_;refine rT 14 (some 166) T U h ?_;refine rP 15 (some 167) T ?_;refine rP 16 (some 168) T ?_;refine rP 17 (some 169) T ?_;refine rU 18 (some 170) T ?_;refine rU 19 (some 171) T ?_;refine rU 20 (some 172) T ?_;refine rP 21 (some 173) T ?_;refine rP 22 (some 174) T ?_;refine rU 23 (some 175) T ?_;refine rU 24 (some 176) T ?_;refine rU 25 (some 177) T ?_;refine rP 26 (some 178) T ?_;refine rP 27 (some 179) T ?_;refine rU 28 (some 180) T ?_;refine rU 29 (some 181) T ?_;refine rU 30 (some 182) T ?_;refine rU 31 (some 183) T ?_;refine rU 32 (some 184) T ?_;refine rU 33 (some 185) T ?_;refine rU 34 (some 186) T ?_;refine rU 35 (some 187) T ?_;refine rU 36 (some 188) T ?_;refine rU 37 (some 189) T ?_;refine rU 38 (some 190) T ?_;refine rU 39 (some 191) T ?_;refine rU 40 (some 192) T ?_;refine rU 41 (some 193) T ?_;refine rU 42 (some 194) T ?_;refine rU 43 (some 195) T ?_;refine rU 44 (some 196) T ?_;refine rU 45 (some 197) T ?_;refine rU 46 (some 198) T ?_;refine rU 47 (some 199) T ?_;refine rU 48 (some 200) T ?_;refine rU 49 (some 201) T ?_;refine rU 50 (some 202) T ?_;refine rU 51 (some 203) T ?_;refine rP 52 (some 204) T ?_
                     refine xE (qW T.out (by kernel_rfl)) ?_;have jH:=qp.out.trans (H2.out.mono qp.out.size);clear h;try go_wp2
                     go_ret
                     exact ⟨rfl,HW.out _ jH⟩
                  have dz:decide (x.f2 = 0) = false:=decide_eq_false tz
                  have dz2:(x.f2 == 0) = false:=beq_eq_false_iff_ne.2 tz
                  by_cases tlt:x.f2 < -500
                  · have dlt:decide (x.f2 < -500) = true:=decide_eq_true tlt
                    skip
                    as_aux_lemma =>
                     have hv:V = false:=by
                       rw [uP.out,vT (i:=0) hlt (by rw [hok,r0,r1,dz,dlt];simp)]
                       done
                     subst hv
                     refine rS (n:=53) HS rval.Yt rval.ZV (by kernel_rfl) rfl rfl (fun w0 H0 T U h=>?_)
                     refine rP 1 (some 153) T ?_;refine rT 0 (some 152) T U h ?_;refine rT 2 (some 154) T U h ?_
                     clear h;refine rC 3 (some 155) T HS H0 Tryz.func139 (h0 _ H0.out) (fun w1 H1 h=>?_) (by kernel_rfl)
                     refine rP 4 (some 156) T ?_;refine rP 5 (some 157) T ?_;refine rP 7 (some 159) T ?_;refine rT 6 (some 158) T U h ?_;refine rT 8 (some 160) T U h ?_
                     clear h;refine rC 9 (some 161) T HS H1 Tryz.func139 (h1 _ H1.out) (fun w2 H2 h=>?_) (by kernel_rfl)
                     refine rP 10 (some 162) T ?_;refine rP 11 (some 163) T ?_;refine rP 12 (some 164) T ?_;refine rP 13 (some 165) T ?_;refine rT 14 (some 166) T U h ?_;refine rP 15 (some 167) T ?_;refine rP 16 (some 168) T ?_;refine rP 17 (some 169) T ?_;refine rP 18 (some 170) T ?_;refine rT 19 (some 171) T U h ?_;refine rP 20 (some 172) T ?_;refine rP 21 (some 173) T ?_;refine rP 22 (some 174) T ?_;refine rU 23 (some 175) T ?_;refine rU 24 (some 176) T ?_;refine rU 25 (some 177) T ?_;refine rP 26 (some 178) T ?_;refine rP 27 (some 179) T ?_;refine rU 28 (some 180) T ?_;refine rU 29 (some 181) T ?_;refine rU 30 (some 182) T ?_;refine rU 31 (some 183) T ?_;refine rU 32 (some 184) T ?_;refine rU 33 (some 185) T ?_;refine rU 34 (some 186) T ?_;refine rU 35 (some 187) T ?_;refine rU 36 (some 188) T ?_;refine rU 37 (some 189) T ?_;refine rU 38 (some 190) T ?_;refine rU 39 (some 191) T ?_;refine rU 40 (some 192) T ?_;refine rU 41 (some 193) T ?_;refine rU 42 (some 194) T ?_;refine rU 43 (some 195) T ?_;refine rU 44 (some 196) T ?_;refine rU 45 (some 197) T ?_;refine rU 46 (some 198) T ?_;refine rU 47 (some 199) T ?_;refine rU 48 (some 200) T ?_;refine rU 49 (some 201) T ?_;refine rU 50 (some 202) T ?_;refine rU 51 (some 203) T ?_;refine rP 52 (some 204) T ?_
                     refine xE (qW T.out (by kernel_rfl)) ?_;have jH:=qp.out.trans (H2.out.mono qp.out.size);clear h;try go_wp2
                     go_ret
                     exact ⟨rfl,HW.out _ jH⟩
                  have dlt:decide (x.f2 < -500) = false:=decide_eq_false tlt
                  skip
                  by_cases tgt:500 < x.f2
                  · have dgt:decide (500 < x.f2) = true:=decide_eq_true tgt
                    skip
                    as_aux_lemma =>
                     have hv:V = false:=by
                       rw [uP.out,vT (i:=0) hlt (by rw [hok,r0,r1,dz,dlt,dgt];simp)]
                       done
                     subst hv
                     refine rS (n:=53) HS rval.Yt rval.ZV (by kernel_rfl) rfl rfl (fun w0 H0 T U h=>?_)
                     refine rP 1 (some 153) T ?_;refine rT 0 (some 152) T U h ?_;refine rT 2 (some 154) T U h ?_
                     clear h;refine rC 3 (some 155) T HS H0 Tryz.func139 (h0 _ H0.out) (fun w1 H1 h=>?_) (by kernel_rfl)
                     refine rP 4 (some 156) T ?_;refine rP 5 (some 157) T ?_;refine rP 7 (some 159) T ?_;refine rT 6 (some 158) T U h ?_;refine rT 8 (some 160) T U h ?_
                     clear h;refine rC 9 (some 161) T HS H1 Tryz.func139 (h1 _ H1.out) (fun w2 H2 h=>?_) (by kernel_rfl)
                     refine rP 10 (some 162) T ?_;refine rP 11 (some 163) T ?_;refine rP 12 (some 164) T ?_;refine rP 13 (some 165) T ?_;refine rT 14 (some 166) T U h ?_;refine rP 15 (some 167) T ?_;refine rP 16 (some 168) T ?_;refine rP 17 (some 169) T ?_;refine rP 18 (some 170) T ?_;refine rT 19 (some 171) T U h ?_;refine rP 20 (some 172) T ?_;refine rP 21 (some 173) T ?_;refine rP 22 (some 174) T ?_;refine rP 23 (some 175) T ?_;refine rT 24 (some 176) T U h ?_;refine rP 25 (some 177) T ?_;refine rP 26 (some 178) T ?_;refine rP 27 (some 179) T ?_;refine rU 28 (some 180) T ?_;refine rU 29 (some 181) T ?_;refine rU 30 (some 182) T ?_;refine rU 31 (some 183) T ?_;refine rU 32 (some 184) T ?_;refine rU 33 (some 185) T ?_;refine rU 34 (some 186) T ?_;refine rU 35 (some 187) T ?_;refine rU 36 (some 188) T ?_;refine rU 37 (some 189) T ?_;refine rU 38 (some 190) T ?_;refine rU 39 (some 191) T ?_;refine rU 40 (some 192) T ?_;refine rU 41 (some 193) T ?_;refine rU 42 (some 194) T ?_;refine rU 43 (some 195) T ?_;refine rU 44 (some 196) T ?_;refine rU 45 (some 197) T ?_;refine rU 46 (some 198) T ?_;refine rU 47 (some 199) T ?_;refine rU 48 (some 200) T ?_;refine rU 49 (some 201) T ?_;refine rU 50 (some 202) T ?_;refine rU 51 (some 203) T ?_;refine rP 52 (some 204) T ?_
                     refine xE (qW T.out (by kernel_rfl)) ?_;have jH:=qp.out.trans (H2.out.mono qp.out.size);clear h;try go_wp2
                     go_ret
                     exact ⟨rfl,HW.out _ jH⟩
                  have dgt:decide (500 < x.f2) = false:=decide_eq_false tgt
                  skip
                  as_aux_lemma =>
                  have hok2:QV l3 l5 0 = true:=by rw [hok,r0,r1,dz,dlt,dgt];rfl
                  refine rS (n:=53) HS rval.Yt rval.ZV (by kernel_rfl) rfl rfl (fun w0 H0 T U h=>?_)
                  refine rP 1 (some 153) T ?_;refine rT 0 (some 152) T U h ?_;refine rT 2 (some 154) T U h ?_
                  clear h;refine rC 3 (some 155) T HS H0 Tryz.func139 (h0 _ H0.out) (fun w1 H1 h=>?_) (by kernel_rfl)
                  refine rP 4 (some 156) T ?_;refine rP 5 (some 157) T ?_;refine rP 7 (some 159) T ?_;refine rT 6 (some 158) T U h ?_;refine rT 8 (some 160) T U h ?_
                  clear h;refine rC 9 (some 161) T HS H1 Tryz.func139 (h1 _ H1.out) (fun w2 H2 h=>?_) (by kernel_rfl)
                  refine rP 10 (some 162) T ?_;refine rP 11 (some 163) T ?_;refine rP 12 (some 164) T ?_;refine rP 13 (some 165) T ?_;refine rT 14 (some 166) T U h ?_;refine rP 15 (some 167) T ?_;refine rP 16 (some 168) T ?_;refine rP 17 (some 169) T ?_;refine rP 18 (some 170) T ?_;refine rT 19 (some 171) T U h ?_;refine rP 20 (some 172) T ?_;refine rP 21 (some 173) T ?_;refine rP 22 (some 174) T ?_;refine rP 23 (some 175) T ?_;refine rT 24 (some 176) T U h ?_;refine rP 25 (some 177) T ?_;refine rP 26 (some 178) T ?_;refine rP 27 (some 179) T ?_;refine rP 28 (some 180) T ?_;refine rP 29 (some 181) T ?_;refine rP 30 (some 182) T ?_;refine rU 31 (some 183) T ?_;refine rU 32 (some 184) T ?_;refine rU 33 (some 185) T ?_;refine rU 34 (some 186) T ?_;refine rU 35 (some 187) T ?_;refine rU 36 (some 188) T ?_;refine rU 37 (some 189) T ?_;refine rU 38 (some 190) T ?_;refine rU 39 (some 191) T ?_;refine rU 40 (some 192) T ?_;refine rU 41 (some 193) T ?_;refine rU 42 (some 194) T ?_;refine rU 43 (some 195) T ?_;refine rU 44 (some 196) T ?_;refine rU 45 (some 197) T ?_;refine rU 46 (some 198) T ?_;refine rU 47 (some 199) T ?_;refine rU 48 (some 200) T ?_;refine rU 49 (some 201) T ?_;refine rU 50 (some 202) T ?_;refine rP 51 (some 203) T ?_;refine rP 52 (some 204) T ?_
                  refine xE (qW T.out (by kernel_rfl)) ?_;have jH:=qp.out.trans (H2.out.mono qp.out.size);clear h;try go_wp2
                  go_roundw
                  case rel=>exact ⟨0 + 1,by first | rfl | (simp;done) | go_num,by omega,⟨jH⟩,⟨fun j hj=>(Nat.lt_succ_iff_lt_or_eq.1 hj).elim (HK5.out j) (fun e=>by rw [e];exact hok2)⟩⟩
                  case measure=>simp [intOf];omega
                · obtain ⟨m,rfl⟩:∃ m,i = m + 1:=⟨i - 1,by omega⟩
                  obtain ⟨ad2,e2,y0,y1,y2⟩:=zy6 hC (m:Int) (by omega) (by omega)
                  have e3:ad = ad2:=by rw [hA] at e2;injection e2 with e2
                  subst e3
                  rw [Int.toNat_natCast] at y0 y1 y2
                  have hpr:(((m + 1:Nat):Int) - 1) = (m:Int):=by omega
                  have hok:QV l3 l5 (m + 1) = (jY l3 (xD l5 (((m + 1):Nat):Int)).f0 && (jY l3 (xD l5 (((m + 1):Nat):Int)).f1 && (!decide ((xD l5 (((m + 1):Nat):Int)).f2 = 0) && (!decide ((xD l5 (((m + 1):Nat):Int)).f2 < -500) && (!decide (500 < (xD l5 (((m + 1):Nat):Int)).f2) && Qh (xD l5 (m:Int)).f0 (xD l5 (m:Int)).f1 (xD l5 (((m + 1):Nat):Int)).f0 (xD l5 (((m + 1):Nat):Int)).f1))))):=by
                    unfold QV
                    rw [decide_eq_false (by omega:¬ m + 1 = 0),Bool.false_or,hpr]
                  have hzx:(xD l5 (((m + 1):Nat):Int)) ∈ l5:=by
                    have e9:xD l5 (((m + 1):Nat):Int) = l5[(m + 1)]:=by simp only [xD,Int.toNat_natCast,List.getD_eq_getElem?_getD,List.getElem?_eq_getElem hlt,Option.getD_some]
                    rw [e9];exact List.getElem_mem hlt
                  generalize xD l5 (((m + 1):Nat):Int) = x at x0 x1 x2 hok hzx
                  generalize xD l5 (m:Int) = p at y0 y1 y2 hok
                  have e1:IntKind.i64.wrap (((m:Int) + 1) - 1) = (m:Int):=by rw [Int.add_sub_cancel];exact IntWalk.i64_in _ (by omega)
                  have q1:(m:Int) < (l5.length:Int):=by omega
                  have q2:(m:Int) + 1 < (l5.length:Int):=by omega
                  have q3:((m:Int) + 1).toNat = m + 1:=by omega
                  have q4:(0:Int) ≤ (m:Int) + 1:=by omega
                  have e0:IntKind.i64.wrap (m:Int) = (m:Int):=IntWalk.i64_in _ (by omega)
                  have q5:(0:Int) ≤ (m:Int):=by omega
                  have q7:decide (0 < (m:Int) + 1) = true:=decide_eq_true (by omega)
                  have q8:decide ((m:Int) + 1 < (l5.length:Int)) = true:=decide_eq_true q2
                  rw [hA] at hcf
                  clear hzx
                  go_wp2_with fail
                  have hbX:Below wr.heap.size wr (wr.alloc (.cells #[.string x.f0,.string x.f1,.int .i64 x.f2] 112)):=(Below.refl _ wr).alloc (Nat.le_refl _) _
                  have qp:=zx.mk (Wu.out.trans (hbX.mono Wu.out.size))
                  have hbk:=uo wr (.cells #[.string x.f0,.string x.f1,.int .i64 x.f2] 112)
                  have hX0:(wr.alloc (.cells #[.string x.f0,.string x.f1,.int .i64 x.f2] 112)).cell? ⟨wr.heap.size,0,none⟩ = some (.string x.f0):=(zX hbk 0).trans rfl
                  have hX1:(wr.alloc (.cells #[.string x.f0,.string x.f1,.int .i64 x.f2] 112)).cell? ⟨wr.heap.size,1,none⟩ = some (.string x.f1):=(zX hbk 1).trans rfl
                  have hX2:(wr.alloc (.cells #[.string x.f0,.string x.f1,.int .i64 x.f2] 112)).cell? ⟨wr.heap.size,2,none⟩ = some (.int .i64 x.f2):=(zX hbk 2).trans rfl
                  have bJ:(wr.alloc (.cells #[.string x.f0,.string x.f1,.int .i64 x.f2] 112)).cell? ⟨w.heap.size,0,none⟩ = some (.string a):=(zX (HF.out _ qp.out) 0).trans rfl
                  have hF1:(wr.alloc (.cells #[.string x.f0,.string x.f1,.int .i64 x.f2] 112)).cell? ⟨w.heap.size,1,none⟩ = some (.bool b):=(zX (HF.out _ qp.out) 1).trans rfl
                  have hF2:(wr.alloc (.cells #[.string x.f0,.string x.f1,.int .i64 x.f2] 112)).cell? ⟨w.heap.size,2,none⟩ = some (.int .i64 c):=(zX (HF.out _ qp.out) 2).trans rfl
                  have WK:(wr.alloc (.cells #[.string x.f0,.string x.f1,.int .i64 x.f2] 112)).cell? ⟨w.heap.size,3,none⟩ = some (.slice A3 l3.length c3):=(zX (HF.out _ qp.out) 3).trans rfl
                  have bV:(wr.alloc (.cells #[.string x.f0,.string x.f1,.int .i64 x.f2] 112)).cell? ⟨w.heap.size,4,none⟩ = some (.slice A4 l4.length c4):=(zX (HF.out _ qp.out) 4).trans rfl
                  have bK:(wr.alloc (.cells #[.string x.f0,.string x.f1,.int .i64 x.f2] 112)).cell? ⟨w.heap.size,5,none⟩ = some (.slice (some ad) l5.length c5):=(zX (HF.out _ qp.out) 5).trans (by rw [hA];rfl)
                  have hP0:=(hbX.cell (World.block_lt_of_cell? wr _ y0)).trans y0
                  have hP1:=(hbX.cell (World.block_lt_of_cell? wr _ y1)).trans y1
                  have hq:=fun (W:World) (n:ByteArray) (h:Below (wr.alloc (.cells #[.string x.f0,.string x.f1,.int .i64 x.f2] 112)).heap.size (wr.alloc (.cells #[.string x.f0,.string x.f1,.int .i64 x.f2] 112)) W)=>zv9 a b c A3 c3 l3 A4 c4 l4 A5 c5 l5 n W (Kd.zh H3.out ((HW.out _ qp.out).trans (h.mono (HW.out _ qp.out).size))) G3.out (Kd.zh H4.out ((HW.out _ qp.out).trans (h.mono (HW.out _ qp.out).size))) G4.out (Kd.zh H5.out ((HW.out _ qp.out).trans (h.mono (HW.out _ qp.out).size))) G5.out hl3
                  rw [hA] at hq
                  clear hbk hbX x0 x1 x2 y0 y1 y2 hC hcf
                  generalize wr.heap.size = g4 at hX0 hlA hX1 hX2 ⊢
                  generalize (wr.alloc (.cells #[.string x.f0,.string x.f1,.int .i64 x.f2] 112)) = X at qp hX0 hX1 hX2 bJ hF1 hF2 WK bV bK hP0 hP1 hq ⊢
                  have HS:=zx.mk (fun (W:World) (h:Below X.heap.size X W)=>(show W.cell? ⟨g4,0,none⟩ = some (.string x.f0) ∧ W.cell? ⟨g4,1,none⟩ = some (.string x.f1) ∧ W.cell? ⟨g4,2,none⟩ = some (.int .i64 x.f2) ∧ W.cell? ⟨w.heap.size,0,none⟩ = some (.string a) ∧ W.cell? ⟨w.heap.size,1,none⟩ = some (.bool b) ∧ W.cell? ⟨w.heap.size,2,none⟩ = some (.int .i64 c) ∧ W.cell? ⟨w.heap.size,3,none⟩ = some (.slice A3 l3.length c3) ∧ W.cell? ⟨w.heap.size,4,none⟩ = some (.slice A4 l4.length c4) ∧ W.cell? ⟨w.heap.size,5,none⟩ = some (.slice (some ad) l5.length c5) ∧ W.cell? (ad.add (m * 3)) = some (.string p.f0) ∧ W.cell? ⟨(ad.add (m * 3)).block,(ad.add (m * 3)).off + 1,none⟩ = some (.string p.f1) from ⟨(h.cell (World.block_lt_of_cell? X _ hX0)).trans hX0,(h.cell (World.block_lt_of_cell? X _ hX1)).trans hX1,(h.cell (World.block_lt_of_cell? X _ hX2)).trans hX2,(h.cell (World.block_lt_of_cell? X _ bJ)).trans bJ,(h.cell (World.block_lt_of_cell? X _ hF1)).trans hF1,(h.cell (World.block_lt_of_cell? X _ hF2)).trans hF2,(h.cell (World.block_lt_of_cell? X _ WK)).trans WK,(h.cell (World.block_lt_of_cell? X _ bV)).trans bV,(h.cell (World.block_lt_of_cell? X _ bK)).trans bK,(h.cell (World.block_lt_of_cell? X _ hP0)).trans hP0,(h.cell (World.block_lt_of_cell? X _ hP1)).trans hP1⟩))
                  cases r0:jY l3 x.f0 with
                  | false =>
                    have h0:=fun (W:World) (h:Below X.heap.size X W)=>hq W x.f0 h
                    simp only [r0] at h0
                    as_aux_lemma =>
                     have hv:V = false:=by
                       rw [uP.out,vT (i:=(m + 1)) hlt (by rw [hok,r0];simp)]
                       done
                     subst hv
                     refine rS (n:=53) HS rval.Yt rval.ZV (by kernel_rfl) rfl rfl (fun w0 H0 T U h=>?_)
                     refine rP 1 (some 153) T ?_;refine rT 0 (some 152) T U h ?_;refine rT 2 (some 154) T U h ?_
                     clear h;refine rC 3 (some 155) T HS H0 Tryz.func139 (h0 _ H0.out) (fun w1 H1 h=>?_) (by kernel_rfl)
                     refine rP 4 (some 156) T ?_;refine rP 5 (some 157) T ?_;refine rU 6 (some 158) T ?_;refine rU 7 (some 159) T ?_;refine rU 8 (some 160) T ?_;refine rU 9 (some 161) T ?_;refine rU 10 (some 162) T ?_;refine rP 11 (some 163) T ?_;refine rP 12 (some 164) T ?_;refine rU 13 (some 165) T ?_;refine rU 14 (some 166) T ?_;refine rU 15 (some 167) T ?_;refine rP 16 (some 168) T ?_;refine rP 17 (some 169) T ?_;refine rU 18 (some 170) T ?_;refine rU 19 (some 171) T ?_;refine rU 20 (some 172) T ?_;refine rP 21 (some 173) T ?_;refine rP 22 (some 174) T ?_;refine rU 23 (some 175) T ?_;refine rU 24 (some 176) T ?_;refine rU 25 (some 177) T ?_;refine rP 26 (some 178) T ?_;refine rP 27 (some 179) T ?_;refine rU 28 (some 180) T ?_;refine rU 29 (some 181) T ?_;refine rU 30 (some 182) T ?_;refine rU 31 (some 183) T ?_;refine rU 32 (some 184) T ?_;refine rU 33 (some 185) T ?_;refine rU 34 (some 186) T ?_;refine rU 35 (some 187) T ?_;refine rU 36 (some 188) T ?_;refine rU 37 (some 189) T ?_;refine rU 38 (some 190) T ?_;refine rU 39 (some 191) T ?_;refine rU 40 (some 192) T ?_;refine rU 41 (some 193) T ?_;refine rU 42 (some 194) T ?_;refine rU 43 (some 195) T ?_;refine rU 44 (some 196) T ?_;refine rU 45 (some 197) T ?_;refine rU 46 (some 198) T ?_;refine rU 47 (some 199) T ?_;refine rU 48 (some 200) T ?_;refine rU 49 (some 201) T ?_;refine rU 50 (some 202) T ?_;refine rU 51 (some 203) T ?_;refine rP 52 (some 204) T ?_
                     refine xE (qW T.out (by kernel_rfl)) ?_;have jH:=qp.out.trans (H1.out.mono qp.out.size);clear h;try go_wp2
                     go_ret
                     exact ⟨rfl,HW.out _ jH⟩
                  | true =>
                  have h0:=fun (W:World) (h:Below X.heap.size X W)=>hq W x.f0 h
                  simp only [r0] at h0
                  cases r1:jY l3 x.f1 with
                  | false =>
                    have h1:=fun (W:World) (h:Below X.heap.size X W)=>hq W x.f1 h
                    simp only [r1] at h1
                    as_aux_lemma =>
                     have hv:V = false:=by
                       rw [uP.out,vT (i:=(m + 1)) hlt (by rw [hok,r0,r1];simp)]
                       done
                     subst hv
                     refine rS (n:=53) HS rval.Yt rval.ZV (by kernel_rfl) rfl rfl (fun w0 H0 T U h=>?_)
                     refine rP 1 (some 153) T ?_;refine rT 0 (some 152) T U h ?_;refine rT 2 (some 154) T U h ?_
                     clear h;refine rC 3 (some 155) T HS H0 Tryz.func139 (h0 _ H0.out) (fun w1 H1 h=>?_) (by kernel_rfl)
                     refine rP 4 (some 156) T ?_;refine rP 5 (some 157) T ?_;refine rP 7 (some 159) T ?_;refine rT 6 (some 158) T U h ?_;refine rT 8 (some 160) T U h ?_
                     clear h;refine rC 9 (some 161) T HS H1 Tryz.func139 (h1 _ H1.out) (fun w2 H2 h=>?_) (by kernel_rfl)
                     refine rP 10 (some 162) T ?_;refine rP 11 (some 163) T ?_;refine rP 12 (some 164) T ?_;refine rU 13 (some 165) T ?_;refine rU 14 (some 166) T ?_;refine rU 15 (some 167) T ?_;refine rP 16 (some 168) T ?_;refine rP 17 (some 169) T ?_;refine rU 18 (some 170) T ?_;refine rU 19 (some 171) T ?_;refine rU 20 (some 172) T ?_;refine rP 21 (some 173) T ?_;refine rP 22 (some 174) T ?_;refine rU 23 (some 175) T ?_;refine rU 24 (some 176) T ?_;refine rU 25 (some 177) T ?_;refine rP 26 (some 178) T ?_;refine rP 27 (some 179) T ?_;refine rU 28 (some 180) T ?_;refine rU 29 (some 181) T ?_;refine rU 30 (some 182) T ?_;refine rU 31 (some 183) T ?_;refine rU 32 (some 184) T ?_;refine rU 33 (some 185) T ?_;refine rU 34 (some 186) T ?_;refine rU 35 (some 187) T ?_;refine rU 36 (some 188) T ?_;refine rU 37 (some 189) T ?_;refine rU 38 (some 190) T ?_;refine rU 39 (some 191) T ?_;refine rU 40 (some 192) T ?_;refine rU 41 (some 193) T ?_;refine rU 42 (some 194) T ?_;refine rU 43 (some 195) T ?_;refine rU 44 (some 196) T ?_;refine rU 45 (some 197) T ?_;refine rU 46 (some 198) T ?_;refine rU 47 (some 199) T ?_;refine rU 48 (some 200) T ?_;refine rU 49 (some 201) T ?_;refine rU 50 (some 202) T ?_;refine rU 51 (some 203) T ?_;refine rP 52 (some 204) T ?_
                     refine xE (qW T.out (by kernel_rfl)) ?_;have jH:=qp.out.trans (H2.out.mono qp.out.size);clear h;try go_wp2
                     go_ret
                     exact ⟨rfl,HW.out _ jH⟩
                  | true =>
                  have h1:=fun (W:World) (h:Below X.heap.size X W)=>hq W x.f1 h
                  simp only [r1] at h1
                  by_cases tz:x.f2 = 0
                  · have dz:decide (x.f2 = 0) = true:=decide_eq_true tz
                    have dz2:(x.f2 == 0) = true:=beq_iff_eq.2 tz
                    as_aux_lemma =>
                     have hv:V = false:=by
                       rw [uP.out,vT (i:=(m + 1)) hlt (by rw [hok,r0,r1,dz];simp)]
                       done
                     subst hv
                     refine rS (n:=53) HS rval.Yt rval.ZV (by kernel_rfl) rfl rfl (fun w0 H0 T U h=>?_)
                     refine rP 1 (some 153) T ?_;refine rT 0 (some 152) T U h ?_;refine rT 2 (some 154) T U h ?_
                     clear h;refine rC 3 (some 155) T HS H0 Tryz.func139 (h0 _ H0.out) (fun w1 H1 h=>?_) (by kernel_rfl)
                     refine rP 4 (some 156) T ?_;refine rP 5 (some 157) T ?_;refine rP 7 (some 159) T ?_;refine rT 6 (some 158) T U h ?_;refine rT 8 (some 160) T U h ?_
                     clear h;refine rC 9 (some 161) T HS H1 Tryz.func139 (h1 _ H1.out) (fun w2 H2 h=>?_) (by kernel_rfl)
                     refine rP 10 (some 162) T ?_;refine rP 11 (some 163) T ?_;refine rP 12 (some 164) T ?_;refine rP 13 (some 165) T ?_;refine rT 14 (some 166) T U h ?_;refine rP 15 (some 167) T ?_;refine rP 16 (some 168) T ?_;refine rP 17 (some 169) T ?_;refine rU 18 (some 170) T ?_;refine rU 19 (some 171) T ?_;refine rU 20 (some 172) T ?_;refine rP 21 (some 173) T ?_;refine rP 22 (some 174) T ?_;refine rU 23 (some 175) T ?_;refine rU 24 (some 176) T ?_;refine rU 25 (some 177) T ?_;refine rP 26 (some 178) T ?_;refine rP 27 (some 179) T ?_;refine rU 28 (some 180) T ?_;refine rU 29 (some 181) T ?_;refine rU 30 (some 182) T ?_;refine rU 31 (some 183) T ?_;refine rU 32 (some 184) T ?_;refine rU 33 (some 185) T ?_;refine rU 34 (some 186) T ?_;refine rU 35 (some 187) T ?_;refine rU 36 (some 188) T ?_;refine rU 37 (some 189) T ?_;refine rU 38 (some 190) T ?_;refine rU 39 (some 191) T ?_;refine rU 40 (some 192) T ?_;refine rU 41 (some 193) T ?_;refine rU 42 (some 194) T ?_;refine rU 43 (some 195) T ?_;refine rU 44 (some 196) T ?_;refine rU 45 (some 197) T ?_;refine rU 46 (some 198) T ?_;refine rU 47 (some 199) T ?_;refine rU 48 (some 200) T ?_;refine rU 49 (some 201) T ?_;refine rU 50 (some 202) T ?_;refine rU 51 (some 203) T ?_;refine rP 52 (some 204) T ?_
                     refine xE (qW T.out (by kernel_rfl)) ?_;have jH:=qp.out.trans (H2.out.mono qp.out.size);clear h;try go_wp2
                     go_ret
                     exact ⟨rfl,HW.out _ jH⟩
                  have dz:decide (x.f2 = 0) = false:=decide_eq_false tz
                  have dz2:(x.f2 == 0) = false:=beq_eq_false_iff_ne.2 tz
                  by_cases tlt:x.f2 < -500
                  · have dlt:decide (x.f2 < -500) = true:=decide_eq_true tlt
                    skip
                    as_aux_lemma =>
                     have hv:V = false:=by
                       rw [uP.out,vT (i:=(m + 1)) hlt (by rw [hok,r0,r1,dz,dlt];simp)]
                       done
                     subst hv
                     refine rS (n:=53) HS rval.Yt rval.ZV (by kernel_rfl) rfl rfl (fun w0 H0 T U h=>?_)
                     refine rP 1 (some 153) T ?_;refine rT 0 (some 152) T U h ?_;refine rT 2 (some 154) T U h ?_
                     clear h;refine rC 3 (some 155) T HS H0 Tryz.func139 (h0 _ H0.out) (fun w1 H1 h=>?_) (by kernel_rfl)
                     refine rP 4 (some 156) T ?_;refine rP 5 (some 157) T ?_;refine rP 7 (some 159) T ?_;refine rT 6 (some 158) T U h ?_;refine rT 8 (some 160) T U h ?_
                     clear h;refine rC 9 (some 161) T HS H1 Tryz.func139 (h1 _ H1.out) (fun w2 H2 h=>?_) (by kernel_rfl)
                     refine rP 10 (some 162) T ?_;refine rP 11 (some 163) T ?_;refine rP 12 (some 164) T ?_;refine rP 13 (some 165) T ?_;refine rT 14 (some 166) T U h ?_;refine rP 15 (some 167) T ?_;refine rP 16 (some 168) T ?_;refine rP 17 (some 169) T ?_;refine rP 18 (some 170) T ?_;refine rT 19 (some 171) T U h ?_;refine rP 20 (some 172) T ?_;refine rP 21 (some 173) T ?_;refine rP 22 (some 174) T ?_;refine rU 23 (some 175) T ?_;refine rU 24 (some 176) T ?_;refine rU 25 (some 177) T ?_;refine rP 26 (some 178) T ?_;refine rP 27 (some 179) T ?_;refine rU 28 (some 180) T ?_;refine rU 29 (some 181) T ?_;refine rU 30 (some 182) T ?_;refine rU 31 (some 183) T ?_;refine rU 32 (some 184) T ?_;refine rU 33 (some 185) T ?_;refine rU 34 (some 186) T ?_;refine rU 35 (some 187) T ?_;refine rU 36 (some 188) T ?_;refine rU 37 (some 189) T ?_;refine rU 38 (some 190) T ?_;refine rU 39 (some 191) T ?_;refine rU 40 (some 192) T ?_;refine rU 41 (some 193) T ?_;refine rU 42 (some 194) T ?_;refine rU 43 (some 195) T ?_;refine rU 44 (some 196) T ?_;refine rU 45 (some 197) T ?_;refine rU 46 (some 198) T ?_;refine rU 47 (some 199) T ?_;refine rU 48 (some 200) T ?_;refine rU 49 (some 201) T ?_;refine rU 50 (some 202) T ?_;refine rU 51 (some 203) T ?_;refine rP 52 (some 204) T ?_
                     refine xE (qW T.out (by kernel_rfl)) ?_;have jH:=qp.out.trans (H2.out.mono qp.out.size);clear h;try go_wp2
                     go_ret
                     exact ⟨rfl,HW.out _ jH⟩
                  have dlt:decide (x.f2 < -500) = false:=decide_eq_false tlt
                  skip
                  by_cases tgt:500 < x.f2
                  · have dgt:decide (500 < x.f2) = true:=decide_eq_true tgt
                    skip
                    as_aux_lemma =>
                     have hv:V = false:=by
                       rw [uP.out,vT (i:=(m + 1)) hlt (by rw [hok,r0,r1,dz,dlt,dgt];simp)]
                       done
                     subst hv
                     refine rS (n:=53) HS rval.Yt rval.ZV (by kernel_rfl) rfl rfl (fun w0 H0 T U h=>?_)
                     refine rP 1 (some 153) T ?_;refine rT 0 (some 152) T U h ?_;refine rT 2 (some 154) T U h ?_
                     clear h;refine rC 3 (some 155) T HS H0 Tryz.func139 (h0 _ H0.out) (fun w1 H1 h=>?_) (by kernel_rfl)
                     refine rP 4 (some 156) T ?_;refine rP 5 (some 157) T ?_;refine rP 7 (some 159) T ?_;refine rT 6 (some 158) T U h ?_;refine rT 8 (some 160) T U h ?_
                     clear h;refine rC 9 (some 161) T HS H1 Tryz.func139 (h1 _ H1.out) (fun w2 H2 h=>?_) (by kernel_rfl)
                     refine rP 10 (some 162) T ?_;refine rP 11 (some 163) T ?_;refine rP 12 (some 164) T ?_;refine rP 13 (some 165) T ?_;refine rT 14 (some 166) T U h ?_;refine rP 15 (some 167) T ?_;refine rP 16 (some 168) T ?_;refine rP 17 (some 169) T ?_;refine rP 18 (some 170) T ?_;refine rT 19 (some 171) T U h ?_;refine rP 20 (some 172) T ?_;refine rP 21 (some 173) T ?_;refine rP 22 (some 174) T ?_;refine rP 23 (some 175) T ?_;refine rT 24 (some 176) T U h ?_;refine rP 25 (some 177) T ?_;refine rP 26 (some 178) T ?_;refine rP 27 (some 179) T ?_;refine rU 28 (some 180) T ?_;refine rU 29 (some 181) T ?_;refine rU 30 (some 182) T ?_;refine rU 31 (some 183) T ?_;refine rU 32 (some 184) T ?_;refine rU 33 (some 185) T ?_;refine rU 34 (some 186) T ?_;refine rU 35 (some 187) T ?_;refine rU 36 (some 188) T ?_;refine rU 37 (some 189) T ?_;refine rU 38 (some 190) T ?_;refine rU 39 (some 191) T ?_;refine rU 40 (some 192) T ?_;refine rU 41 (some 193) T ?_;refine rU 42 (some 194) T ?_;refine rU 43 (some 195) T ?_;refine rU 44 (some 196) T ?_;refine rU 45 (some 197) T ?_;refine rU 46 (some 198) T ?_;refine rU 47 (some 199) T ?_;refine rU 48 (some 200) T ?_;refine rU 49 (some 201) T ?_;refine rU 50 (some 202) T ?_;refine rU 51 (some 203) T ?_;refine rP 52 (some 204) T ?_
                     refine xE (qW T.out (by kernel_rfl)) ?_;have jH:=qp.out.trans (H2.out.mono qp.out.size);clear h;try go_wp2
                     go_ret
                     exact ⟨rfl,HW.out _ jH⟩
                  have dgt:decide (500 < x.f2) = false:=decide_eq_false tgt
                  skip
                  have hah:=fun W=>(zwk p.f0 p.f1 x.f0 x.f1 W).mono fun e w' k=>And.intro k.1 (jl k.2)
                  cases ra:Qh p.f0 p.f1 x.f0 x.f1 with
                  | false =>
                    simp only [ra] at hah
                    as_aux_lemma =>
                     have hv:V = false:=by
                       rw [uP.out,vT (i:=(m + 1)) hlt (by rw [hok,r0,r1,dz,dlt,dgt,ra];simp)]
                       done
                     subst hv
                     refine rS (n:=53) HS rval.Yt rval.ZV (by kernel_rfl) rfl rfl (fun w0 H0 T U h=>?_)
                     refine rP 1 (some 153) T ?_;refine rT 0 (some 152) T U h ?_;refine rT 2 (some 154) T U h ?_
                     clear h;refine rC 3 (some 155) T HS H0 Tryz.func139 (h0 _ H0.out) (fun w1 H1 h=>?_) (by kernel_rfl)
                     refine rP 4 (some 156) T ?_;refine rP 5 (some 157) T ?_;refine rP 7 (some 159) T ?_;refine rT 6 (some 158) T U h ?_;refine rT 8 (some 160) T U h ?_
                     clear h;refine rC 9 (some 161) T HS H1 Tryz.func139 (h1 _ H1.out) (fun w2 H2 h=>?_) (by kernel_rfl)
                     refine rP 10 (some 162) T ?_;refine rP 11 (some 163) T ?_;refine rP 12 (some 164) T ?_;refine rP 13 (some 165) T ?_;refine rT 14 (some 166) T U h ?_;refine rP 15 (some 167) T ?_;refine rP 16 (some 168) T ?_;refine rP 17 (some 169) T ?_;refine rP 18 (some 170) T ?_;refine rT 19 (some 171) T U h ?_;refine rP 20 (some 172) T ?_;refine rP 21 (some 173) T ?_;refine rP 22 (some 174) T ?_;refine rP 23 (some 175) T ?_;refine rT 24 (some 176) T U h ?_;refine rP 25 (some 177) T ?_;refine rP 26 (some 178) T ?_;refine rP 27 (some 179) T ?_;refine rP 28 (some 180) T ?_;refine rP 29 (some 181) T ?_;refine rP 30 (some 182) T ?_;refine rP 31 (some 183) T ?_;refine rP 33 (some 185) T ?_;refine rP 34 (some 186) T ?_;refine rP 38 (some 190) T ?_;refine rP 40 (some 192) T ?_;refine rP 41 (some 193) T ?_;refine rP 45 (some 197) T ?_;refine rP 47 (some 199) T ?_;refine rT 32 (some 184) T U h ?_;refine rP 35 (some 187) T ?_;refine rP 36 (some 188) T ?_;refine rT 37 (some 189) T U h ?_;refine rT 39 (some 191) T U h ?_;refine rP 42 (some 194) T ?_;refine rP 43 (some 195) T ?_;refine rT 44 (some 196) T U h ?_;refine rT 46 (some 198) T U h ?_;refine rT 48 (some 200) T U h ?_
                     clear h;refine rC 49 (some 201) T HS H2 Tryz.func140 (hah _) (fun w3 H3 h=>?_) (by kernel_rfl)
                     refine rP 50 (some 202) T ?_;refine rP 51 (some 203) T ?_;refine rP 52 (some 204) T ?_
                     refine xE (qW T.out (by kernel_rfl)) ?_;have jH:=qp.out.trans (H3.out.mono qp.out.size);clear h;try go_wp2
                     go_ret
                     exact ⟨rfl,HW.out _ jH⟩
                  | true =>
                  simp only [ra] at hah
                  as_aux_lemma =>
                  have hok2:QV l3 l5 (m + 1) = true:=by rw [hok,r0,r1,dz,dlt,dgt,ra];rfl
                  refine rS (n:=53) HS rval.Yt rval.ZV (by kernel_rfl) rfl rfl (fun w0 H0 T U h=>?_)
                  refine rP 1 (some 153) T ?_;refine rT 0 (some 152) T U h ?_;refine rT 2 (some 154) T U h ?_
                  clear h;refine rC 3 (some 155) T HS H0 Tryz.func139 (h0 _ H0.out) (fun w1 H1 h=>?_) (by kernel_rfl)
                  refine rP 4 (some 156) T ?_;refine rP 5 (some 157) T ?_;refine rP 7 (some 159) T ?_;refine rT 6 (some 158) T U h ?_;refine rT 8 (some 160) T U h ?_
                  clear h;refine rC 9 (some 161) T HS H1 Tryz.func139 (h1 _ H1.out) (fun w2 H2 h=>?_) (by kernel_rfl)
                  refine rP 10 (some 162) T ?_;refine rP 11 (some 163) T ?_;refine rP 12 (some 164) T ?_;refine rP 13 (some 165) T ?_;refine rT 14 (some 166) T U h ?_;refine rP 15 (some 167) T ?_;refine rP 16 (some 168) T ?_;refine rP 17 (some 169) T ?_;refine rP 18 (some 170) T ?_;refine rT 19 (some 171) T U h ?_;refine rP 20 (some 172) T ?_;refine rP 21 (some 173) T ?_;refine rP 22 (some 174) T ?_;refine rP 23 (some 175) T ?_;refine rT 24 (some 176) T U h ?_;refine rP 25 (some 177) T ?_;refine rP 26 (some 178) T ?_;refine rP 27 (some 179) T ?_;refine rP 28 (some 180) T ?_;refine rP 29 (some 181) T ?_;refine rP 30 (some 182) T ?_;refine rP 31 (some 183) T ?_;refine rP 33 (some 185) T ?_;refine rP 34 (some 186) T ?_;refine rP 38 (some 190) T ?_;refine rP 40 (some 192) T ?_;refine rP 41 (some 193) T ?_;refine rP 45 (some 197) T ?_;refine rP 47 (some 199) T ?_;refine rT 32 (some 184) T U h ?_;refine rP 35 (some 187) T ?_;refine rP 36 (some 188) T ?_;refine rT 37 (some 189) T U h ?_;refine rT 39 (some 191) T U h ?_;refine rP 42 (some 194) T ?_;refine rP 43 (some 195) T ?_;refine rT 44 (some 196) T U h ?_;refine rT 46 (some 198) T U h ?_;refine rT 48 (some 200) T U h ?_
                  clear h;refine rC 49 (some 201) T HS H2 Tryz.func140 (hah _) (fun w3 H3 h=>?_) (by kernel_rfl)
                  refine rP 50 (some 202) T ?_;refine rP 51 (some 203) T ?_;refine rP 52 (some 204) T ?_
                  refine xE (qW T.out (by kernel_rfl)) ?_;have jH:=qp.out.trans (H3.out.mono qp.out.size);clear h;try go_wp2
                  go_roundw
                  case rel=>exact ⟨m + 1 + 1,by first | rfl | (simp;done) | go_num,by omega,⟨jH⟩,⟨fun j hj=>(Nat.lt_succ_iff_lt_or_eq.1 hj).elim (HK5.out j) (fun e=>by rw [e];exact hok2)⟩⟩
                  case measure=>simp [intOf];omega
              · obtain rfl:i = l5.length:=by omega
                have q2:decide ((l5.length:Int) < (l5.length:Int)) = false:=decide_eq_false (by omega)
                have q1:¬ (l5.length:Int) < (l5.length:Int):=by omega
                have uP:zx (V = true):=⟨by rw [uP.out,zzu HK5.out]⟩
                go_wp2
                go_ret
                exact ⟨by rw [uP.out];rfl,HW.out _ Wu.out⟩
def xw.f (a:ByteArray) (_:Bool) (c:Int) (l3:List uF) (l4:List uU) (l5:List jJ):Option Bool :=
  if l3.length ≤ 1000000000 ∧ l4.length ≤ 1000000000 ∧ l5.length ≤ 1000000000 ∧ a.size ≤ 140737488355328 ∧ (l3.all fun x=>decide (x.f0.size ≤ 140737488355328)) = true then some (Px a c l3 l4 l5) else none
theorem xw.calls (a:ByteArray) (b:Bool) (c:Int) (A3:Option Addr) (c3:Nat) (l3:List uF) (A4:Option Addr) (c4:Nat) (l4:List uU) (A5:Option Addr) (c5:Nat) (l5:List jJ) (r:Bool) (w:World) (h3:Kd.C Xj w A3 l3.length l3) (g3:l3.length ≤ c3) (h4:Kd.C Xc w A4 l4.length l4) (g4:l4.length ≤ c4) (h5:Kd.C QZ w A5 l5.length l5) (g5:l5.length ≤ c5) (h:xw.f a b c l3 l4 l5 = some r) :
    Calls Tryz.prog 106 #[.agg #[.string a,.bool b,.int .i64 c,.slice A3 l3.length c3,.slice A4 l4.length c4,.slice A5 l5.length c5]] w fun e w'=>e = .returned (.bool r) ∧ Below w.heap.size w w':=by
  unfold xw.f at h
  split at h
  · rename_i hl
    obtain rfl:=Option.some.inj h
    exact zX9 a b c A3 c3 l3 A4 c4 l4 A5 c5 l5 w h3 g3 h4 g4 h5 g5 hl.1 hl.2.1 hl.2.2.1 hl.2.2.2.1 (fun x hx=>of_decide_eq_true (List.all_eq_true.1 hl.2.2.2.2 x hx))
  · cases h
end Go.Proofs.YtggifbbiiickmaaGreatDoor
namespace Go.Proofs.YtggifbbiiickmaaGreatDoor
open Go.RowKit Go.Shelf Go.Proofs.zk.za Go.Proofs.zk.zR Go.Proofs.YtggifbbiiickmaaGreatDoor.PX
set_option linter.unusedSimpArgs false
set_option linter.unusedVariables false
theorem zwy {w:World} {g:Nat} {ns:List ByteArray} {t:TypeId} (h:w.heap[g]? = some (.cells (ns.map Value.string).toArray t (0,0))) (hn:ns.length ≤ 1000):Kd.C Kd.string w (some ⟨g,0,none⟩) ns.length ns:=by
 refine ⟨rfl,by omega,fun _=>⟨_,rfl,fun j p hj=>⟨[.string p],rfl,rfl,fun i u hi=>?_⟩⟩⟩
 rcases i with _ | i
 ·cases hi
  have hs:Kd.string.sz = 1:=rfl
  rw [Addr.add_lit,hs]
  refine ql h _ _ ?_
  simp [hj]
 ·simp at hi
def tN (l3:List yG) (x:qb):Bool:=!tL l3 [x.f0,x.f1,x.f2]
def gZ (l3:List yG) (x:qP):Bool:=decide (x.f2 = 0) || (decide (x.f2 < -500) || (decide (500 < x.f2) || !tL l3 [x.f0,x.f1]))
set_option maxRecDepth 100000 in
set_option maxHeartbeats 1000000 in
theorem zYZ (B:Nat) (a:ByteArray) (b:Bool) (c:Int) (A3:Option Addr) (c3:Nat) (l3:List yG) (A4:Option Addr) (c4:Nat) (l4:List qb) (A5:Option Addr) (c5:Nat) (l5:List qP) (g3:l3.length ≤ c3) (g4:l4.length ≤ c4) (g5:l5.length ≤ c5) (hl3:l3.length ≤ 1000000000) (w:World) (hF:YL w B a b c A3 c3 l3 A4 c4 l4 A5 c5 l5) :
  PredBelow Tryz.prog 93 #[.pointer (some ⟨B,0,none⟩)] (fun x=>.agg (zkr x).toArray) (tN l3) w:=fun W x hb=>by
 have hl:=(Array.getElem?_eq_some_iff.1 hF.blk).1
 have Vq:=hF.below hb
 have hlW:B < W.heap.size:=Nat.lt_of_lt_of_le hl hb.size
 show Calls Tryz.prog 93 #[.agg #[.string x.f0,.string x.f1,.string x.f2],.pointer (some ⟨B,0,none⟩)] W _
 have hbW:Below W.heap.size W ((W.alloc (.cells #[.string x.f0,.string x.f1,.string x.f2] 108)).alloc (.cells #[.string x.f0,.string x.f1,.string x.f2] 9)):=((Below.refl _ W).alloc (Nat.le_refl _) _).alloc (by simp) _
 have hF2:=Vq.below hbW
 have hblk:((W.alloc (.cells #[.string x.f0,.string x.f1,.string x.f2] 108)).alloc (.cells #[.string x.f0,.string x.f1,.string x.f2] 9)).heap[W.heap.size + 1]? = some (.cells (([x.f0,x.f1,x.f2].map Value.string).toArray) 9 (0,0)):=by
  have:=World.alloc_heap_new (W.alloc (.cells #[.string x.f0,.string x.f1,.string x.f2] 108)) (.cells #[.string x.f0,.string x.f1,.string x.f2] 9)
  rwa [World.size_alloc] at this
 have ha:=zwv a b c A3 c3 l3 A4 c4 l4 A5 c5 l5 _ 3 [x.f0,x.f1,x.f2] _ hF2.h3 g3 hF2.h4 g4 hF2.h5 g5 (zwy hblk (by simp)) (by simp) hF2.gw hl3 (by simp)
 have k0:=ql Vq.blk 0 _ rfl
 have k1:=ql Vq.blk 1 _ rfl
 have k2:=ql Vq.blk 2 _ rfl
 have k3:=ql Vq.blk 3 _ rfl
 have k4:=ql Vq.blk 4 _ rfl
 have k5:=ql Vq.blk 5 _ rfl
 have hend:=hb.trans (hbW.mono hb.size)
 unfold tN
 generalize tL l3 [x.f0,x.f1,x.f2] = r at ha ⊢
 clear hF Vq hF2 hblk hb g3 g4 g5
 go_enter Tryz.func93,Tryz.ntmps93
 go_wp2_with (go_at_call 94;refine ha.mono ?_;rintro e w1 ⟨rfl,hb1⟩)
 go_ret
 exact ⟨rfl,hend.trans (hb1.mono hend.size)⟩
set_option maxRecDepth 100000 in
set_option maxHeartbeats 1000000 in
theorem zYQ (B:Nat) (a:ByteArray) (b:Bool) (c:Int) (A3:Option Addr) (c3:Nat) (l3:List yG) (A4:Option Addr) (c4:Nat) (l4:List qb) (A5:Option Addr) (c5:Nat) (l5:List qP) (g3:l3.length ≤ c3) (g4:l4.length ≤ c4) (g5:l5.length ≤ c5) (hl3:l3.length ≤ 1000000000) (w:World) (hF:YL w B a b c A3 c3 l3 A4 c4 l4 A5 c5 l5) :
  PredBelow Tryz.prog 98 #[.pointer (some ⟨B,0,none⟩)] (fun x=>.agg (zks x).toArray) (gZ l3) w:=fun W x hb=>by
 have hl:=(Array.getElem?_eq_some_iff.1 hF.blk).1
 have Vq:=hF.below hb
 have hlW:B < W.heap.size:=Nat.lt_of_lt_of_le hl hb.size
 show Calls Tryz.prog 98 #[.agg #[.string x.f0,.string x.f1,.int .i64 x.f2],.pointer (some ⟨B,0,none⟩)] W _
 have hb1:Below w.heap.size w (W.alloc (.cells #[.string x.f0,.string x.f1,.int .i64 x.f2] 111)):=hb.alloc hb.size _
 unfold gZ
 by_cases q0:x.f2 = 0
 ·have d0:(x.f2 == 0) = true:=beq_iff_eq.2 q0
  rw [decide_eq_true q0]
  clear q0 hF Vq
  go_enter Tryz.func98,Tryz.ntmps98
  go_wp2
  go_ret
  exact ⟨rfl,hb1⟩
 ·have d0:(x.f2 == 0) = false:=beq_eq_false_iff_ne.2 q0
  rw [decide_eq_false q0,Bool.false_or]
  clear q0
  by_cases q1:x.f2 < -500
  ·have d1:decide (x.f2 < -500) = true:=decide_eq_true q1
   rw [d1]
   clear q1 hF Vq
   go_enter Tryz.func98,Tryz.ntmps98
   go_wp2
   go_ret
   exact ⟨rfl,hb1⟩
  ·have d1:decide (x.f2 < -500) = false:=decide_eq_false q1
   rw [d1,Bool.false_or]
   clear q1
   by_cases q2:500 < x.f2
   ·have d2:decide (500 < x.f2) = true:=decide_eq_true q2
    rw [d2]
    clear q2 hF Vq
    go_enter Tryz.func98,Tryz.ntmps98
    go_wp2
    go_ret
    exact ⟨rfl,hb1⟩
   ·have d2:decide (500 < x.f2) = false:=decide_eq_false q2
    rw [d2,Bool.false_or]
    clear q2
    have hbW:Below W.heap.size W ((W.alloc (.cells #[.string x.f0,.string x.f1,.int .i64 x.f2] 111)).alloc (.cells #[.string x.f0,.string x.f1] 9)):=((Below.refl _ W).alloc (Nat.le_refl _) _).alloc (by simp) _
    have hF2:=Vq.below hbW
    have hblk:((W.alloc (.cells #[.string x.f0,.string x.f1,.int .i64 x.f2] 111)).alloc (.cells #[.string x.f0,.string x.f1] 9)).heap[W.heap.size + 1]? = some (.cells (([x.f0,x.f1].map Value.string).toArray) 9 (0,0)):=by
     have:=World.alloc_heap_new (W.alloc (.cells #[.string x.f0,.string x.f1,.int .i64 x.f2] 111)) (.cells #[.string x.f0,.string x.f1] 9)
     rwa [World.size_alloc] at this
    have ha:=zwv a b c A3 c3 l3 A4 c4 l4 A5 c5 l5 _ 2 [x.f0,x.f1] _ hF2.h3 g3 hF2.h4 g4 hF2.h5 g5 (zwy hblk (by simp)) (by simp) hF2.gw hl3 (by simp)
    have k0:=ql Vq.blk 0 _ rfl
    have k1:=ql Vq.blk 1 _ rfl
    have k2:=ql Vq.blk 2 _ rfl
    have k3:=ql Vq.blk 3 _ rfl
    have k4:=ql Vq.blk 4 _ rfl
    have k5:=ql Vq.blk 5 _ rfl
    have hend:=hb.trans (hbW.mono hb.size)
    generalize tL l3 [x.f0,x.f1] = r at ha ⊢
    clear hF Vq hF2 hblk hb g3 g4 g5
    go_enter Tryz.func98,Tryz.ntmps98
    go_wp2_with (go_at_call 94;refine ha.mono ?_;rintro e w1 ⟨rfl,hb1⟩)
    go_ret
    exact ⟨rfl,hend.trans (hb1.mono hend.size)⟩
def xH (a:ByteArray) (c:Int) (l3:List yG) (l4:List qb) (l5:List qP):Bool :=
 if (!YH a.data.toList || (Qo c || (decide (400 < l3.length) || (decide (50 < l4.length) || decide (500 < l5.length))))) = true then false
 else if (l3.any gy || !Zj (fun i j=>QC (yU l3 (i:Int)) (yU l3 (j:Int))) l3.length) = true then false
 else if (l4.any (tN l3) || !Zj (fun i j=>cmpL (qx l4 (i:Int)) (qx l4 (j:Int))) l4.length) = true then false
 else !l5.any (gZ l3) && Zj (fun i j=>Wo (qw l5 (i:Int)) (qw l5 (j:Int))) l5.length
set_option maxRecDepth 100000 in
set_option maxHeartbeats 4000000 in
theorem zV2 (a:ByteArray) (b:Bool) (c:Int) (A3:Option Addr) (c3:Nat) (l3:List yG) (A4:Option Addr) (c4:Nat) (l4:List qb) (A5:Option Addr) (c5:Nat) (l5:List qP) (g3:l3.length ≤ c3) (g4:l4.length ≤ c4) (g5:l5.length ≤ c5) (hl3:l3.length ≤ 1000000000) (hl4:l4.length ≤ 1000000000) (hl5:l5.length ≤ 1000000000) (w:World) (h3:Kd.C vO w A3 l3.length l3) (h4:Kd.C jX w A4 l4.length l4) (h5:Kd.C jg w A5 l5.length l5) (hG:GW w) :
  Calls Tryz.prog 39 #[.agg #[.string a,.bool b,.int .i64 c,.slice A3 l3.length c3,.slice A4 l4.length c4,.slice A5 l5.length c5]] w fun e w'=>e = .returned (.bool (xH a c l3 l4 l5)) ∧ Below w.heap.size w w':=by
 have hw1:Below w.heap.size w ((w.alloc (.cells #[.string a,.bool b,.int .i64 c,.slice A3 l3.length c3,.slice A4 l4.length c4,.slice A5 l5.length c5] 60)).alloc (.cells #[.func (.func 84) #[] #[]] 138)):=((Below.refl _ w).alloc (Nat.le_refl _) _).alloc (by simp) _
 have hblk:((w.alloc (.cells #[.string a,.bool b,.int .i64 c,.slice A3 l3.length c3,.slice A4 l4.length c4,.slice A5 l5.length c5] 60)).alloc (.cells #[.func (.func 84) #[] #[]] 138)).heap[w.heap.size]? = some (.cells #[.string a,.bool b,.int .i64 c,.slice A3 l3.length c3,.slice A4 l4.length c4,.slice A5 l5.length c5] 60 (0,0)) :=
  (Below.heap_alloc _ _ _ (by simp)).trans (World.alloc_heap_new w _)
 have gT:((w.alloc (.cells #[.string a,.bool b,.int .i64 c,.slice A3 l3.length c3,.slice A4 l4.length c4,.slice A5 l5.length c5] 60)).alloc (.cells #[.func (.func 84) #[] #[]] 138)).heap[w.heap.size + 1]? = some (.cells #[.func (.func 84) #[] #[]] 138 (0,0)):=by
  have:=World.alloc_heap_new (w.alloc (.cells #[.string a,.bool b,.int .i64 c,.slice A3 l3.length c3,.slice A4 l4.length c4,.slice A5 l5.length c5] 60)) (.cells #[.func (.func 84) #[] #[]] 138)
  rwa [World.size_alloc] at this
 have hF:YL ((w.alloc (.cells #[.string a,.bool b,.int .i64 c,.slice A3 l3.length c3,.slice A4 l4.length c4,.slice A5 l5.length c5] 60)).alloc (.cells #[.func (.func 84) #[] #[]] 138)) w.heap.size a b c A3 c3 l3 A4 c4 l4 A5 c5 l5:=⟨hblk,Kd.zh h3 hw1,Kd.zh h4 hw1,Kd.zh h5 hw1,hG.under hw1⟩
 have hfn:=zv4 a ((w.alloc (.cells #[.string a,.bool b,.int .i64 c,.slice A3 l3.length c3,.slice A4 l4.length c4,.slice A5 l5.length c5] 60)).alloc (.cells #[.func (.func 84) #[] #[]] 138))
 have hwd:=fun W=>zku c W
 have hhG:=fun W (hF:YL W w.heap.size a b c A3 c3 l3 A4 c4 l4 A5 c5 l5) (hB:W.cell? ⟨w.heap.size + 1,0,none⟩ = some (.func (.func 84) #[] #[]))=>zkt A3 c3 l3 W hF.h3 hl3 gy 87 #[.pointer (some ⟨w.heap.size + 1,0,none⟩)] (enters_of Tryz.func87 (by kernel_rfl) rfl) (zYw _ W hB)
 have haG:=fun W (hF:YL W w.heap.size a b c A3 c3 l3 A4 c4 l4 A5 c5 l5)=>zK7 A3 c3 l3 W hF.h3 hl3
 have hhL:=fun W (hF:YL W w.heap.size a b c A3 c3 l3 A4 c4 l4 A5 c5 l5)=>zYk A4 c4 l4 W hF.h4 hl4 (tN l3) 93 #[.pointer (some ⟨w.heap.size,0,none⟩)] (enters_of Tryz.func93 (by kernel_rfl) rfl) (zYZ _ a b c A3 c3 l3 A4 c4 l4 A5 c5 l5 g3 g4 g5 hl3 W hF)
 have haL:=fun W (hF:YL W w.heap.size a b c A3 c3 l3 A4 c4 l4 A5 c5 l5)=>zYq A4 c4 l4 W hF.h4 hl4
 have hhK:=fun W (hF:YL W w.heap.size a b c A3 c3 l3 A4 c4 l4 A5 c5 l5)=>zYy A5 c5 l5 W hF.h5 hl5 (gZ l3) 98 #[.pointer (some ⟨w.heap.size,0,none⟩)] (enters_of Tryz.func98 (by kernel_rfl) rfl) (zYQ _ a b c A3 c3 l3 A4 c4 l4 A5 c5 l5 g3 g4 g5 hl3 W hF)
 have haK:=fun W (hF:YL W w.heap.size a b c A3 c3 l3 A4 c4 l4 A5 c5 l5)=>zYx A5 c5 l5 W hF.h5 hl5
 generalize hR:xH a c l3 l4 l5 = R
 have HR:=Lib.hid hR
 unfold xH at hR
 generalize YH a.data.toList = b1 at hfn hR
 generalize Qo c = b2 at hwd hR
 generalize l3.any gy = b6 at hhG hR
 generalize Zj (fun i j=>QC (yU l3 (i:Int)) (yU l3 (j:Int))) l3.length = b7 at haG hR
 generalize l4.any (tN l3) = b8 at hhL hR
 generalize Zj (fun i j=>cmpL (qx l4 (i:Int)) (qx l4 (j:Int))) l4.length = b9 at haL hR
 generalize l5.any (gZ l3) = b10 at hhK hR
 generalize Zj (fun i j=>Wo (qw l5 (i:Int)) (qw l5 (j:Int))) l5.length = b11 at haK hR
 clear g3 g4 g5 h3 h4 h5 hG HR
 go_enter Tryz.func39,Tryz.ntmps39
 have HF0:=Lib.hid hF
 have K0:=Lib.hid (ql gT 0 _ rfl)
 have HW0:=Lib.hid hw1
 have c0:=ql hblk 0 _ rfl
 have c2:=ql hblk 2 _ rfl
 have dY:=ql hblk 3 _ rfl
 have dW:=ql hblk 4 _ rfl
 have dh:=ql hblk 5 _ rfl
 clear hF hblk gT hw1
 go_wp2_with fail
 generalize ((w.alloc (.cells #[.string a,.bool b,.int .i64 c,.slice A3 l3.length c3,.slice A4 l4.length c4,.slice A5 l5.length c5] 60)).alloc (.cells #[.func (.func 84) #[] #[]] 138)) = W0 at hfn HF0 K0 HW0 c0 c2 dY dW dh ⊢
 refine hfn.mono ?_;rintro e W1 ⟨rfl,hb1⟩
 clear hfn c0 c2 dY dW dh
 have HF1:=Lib.hid (HF0.out.below hb1)
 have K1:=Lib.hid ((hb1.cell (World.block_lt_of_cell? _ _ K0.out)).trans K0.out)
 have HW1:=Lib.hid (HW0.out.trans (hb1.mono HW0.out.size))
 clear hb1
 have c2:=ql HF1.out.blk 2 _ rfl
 have dY:=ql HF1.out.blk 3 _ rfl
 have dW:=ql HF1.out.blk 4 _ rfl
 have dh:=ql HF1.out.blk 5 _ rfl
 have cb:=K1.out
 cases b1 with
 | false =>
  obtain rfl:false = R:=by simpa using hR
  clear hR
  go_wp2_with fail
  go_ret
  exact ⟨rfl,HW1.out⟩
 | true =>
  go_wp2_with fail
  refine (hwd _).mono ?_;rintro e W1x ⟨rfl,hx⟩;subst hx
  cases b2 with
  | false =>
   by_cases q3:400 < l3.length
   ·have dq3:decide ((400:Int) < (l3.length:Int)) = true:=decide_eq_true (by omega)
    rw [decide_eq_true q3] at hR
    clear q3
    obtain rfl:false = R:=by simpa using hR
    clear hR
    go_wp2_with fail
    go_ret
    exact ⟨rfl,HW1.out⟩
   ·have dq3:decide ((400:Int) < (l3.length:Int)) = false:=decide_eq_false (by omega)
    rw [decide_eq_false q3] at hR
    clear q3
    by_cases q4:50 < l4.length
    ·have dq4:decide ((50:Int) < (l4.length:Int)) = true:=decide_eq_true (by omega)
     rw [decide_eq_true q4] at hR
     clear q4
     obtain rfl:false = R:=by simpa using hR
     clear hR
     go_wp2_with fail
     go_ret
     exact ⟨rfl,HW1.out⟩
    ·have dq4:decide ((50:Int) < (l4.length:Int)) = false:=decide_eq_false (by omega)
     rw [decide_eq_false q4] at hR
     clear q4
     by_cases q5:500 < l5.length
     ·have dq5:decide ((500:Int) < (l5.length:Int)) = true:=decide_eq_true (by omega)
      rw [decide_eq_true q5] at hR
      clear q5
      obtain rfl:false = R:=by simpa using hR
      clear hR
      go_wp2_with fail
      go_ret
      exact ⟨rfl,HW1.out⟩
     ·have dq5:decide ((500:Int) < (l5.length:Int)) = false:=decide_eq_false (by omega)
      rw [decide_eq_false q5] at hR
      clear q5
      simp only [Bool.not_true,Bool.or_self,Bool.false_eq_true,if_false,Bool.or_false] at hR
      go_wp2_with fail
      refine (hhG _ HF1.out K1.out).mono ?_;rintro e W2 ⟨rfl,hb2⟩
      clear c2 dY dW dh cb
      have HF2:=Lib.hid (HF1.out.below hb2)
      have K2:=Lib.hid ((hb2.cell (World.block_lt_of_cell? _ _ K1.out)).trans K1.out)
      have HW2:=Lib.hid (HW1.out.trans (hb2.mono HW1.out.size))
      clear hb2
      have c2:=ql HF2.out.blk 2 _ rfl
      have dY:=ql HF2.out.blk 3 _ rfl
      have dW:=ql HF2.out.blk 4 _ rfl
      have dh:=ql HF2.out.blk 5 _ rfl
      have cb:=K2.out
      cases b6 with
      | false =>
       go_wp2_with fail
       refine (haG _ HF2.out).mono ?_;rintro e W3 ⟨rfl,hb3⟩
       clear c2 dY dW dh cb
       have HF3:=Lib.hid (HF2.out.below hb3)
       have K3:=Lib.hid ((hb3.cell (World.block_lt_of_cell? _ _ K2.out)).trans K2.out)
       have HW3:=Lib.hid (HW2.out.trans (hb3.mono HW2.out.size))
       clear hb3
       have c2:=ql HF3.out.blk 2 _ rfl
       have dY:=ql HF3.out.blk 3 _ rfl
       have dW:=ql HF3.out.blk 4 _ rfl
       have dh:=ql HF3.out.blk 5 _ rfl
       have cb:=K3.out
       cases b7 with
       | false =>
        obtain rfl:false = R:=by simpa using hR
        clear hR
        go_wp2_with fail
        go_ret
        exact ⟨rfl,HW3.out⟩
       | true =>
        go_wp2_with fail
        refine (hhL _ HF3.out).mono ?_;rintro e W4 ⟨rfl,hb4⟩
        clear c2 dY dW dh cb
        have HF4:=Lib.hid (HF3.out.below hb4)
        have K4:=Lib.hid ((hb4.cell (World.block_lt_of_cell? _ _ K3.out)).trans K3.out)
        have HW4:=Lib.hid (HW3.out.trans (hb4.mono HW3.out.size))
        clear hb4
        have c2:=ql HF4.out.blk 2 _ rfl
        have dY:=ql HF4.out.blk 3 _ rfl
        have dW:=ql HF4.out.blk 4 _ rfl
        have dh:=ql HF4.out.blk 5 _ rfl
        have cb:=K4.out
        cases b8 with
        | false =>
         go_wp2_with fail
         refine (haL _ HF4.out).mono ?_;rintro e W5 ⟨rfl,hb5⟩
         clear c2 dY dW dh cb
         have HF5:=Lib.hid (HF4.out.below hb5)
         have K5:=Lib.hid ((hb5.cell (World.block_lt_of_cell? _ _ K4.out)).trans K4.out)
         have HW5:=Lib.hid (HW4.out.trans (hb5.mono HW4.out.size))
         clear hb5
         have c2:=ql HF5.out.blk 2 _ rfl
         have dY:=ql HF5.out.blk 3 _ rfl
         have dW:=ql HF5.out.blk 4 _ rfl
         have dh:=ql HF5.out.blk 5 _ rfl
         have cb:=K5.out
         cases b9 with
         | false =>
          obtain rfl:false = R:=by simpa using hR
          clear hR
          go_wp2_with fail
          go_ret
          exact ⟨rfl,HW5.out⟩
         | true =>
          go_wp2_with fail
          refine (hhK _ HF5.out).mono ?_;rintro e W6 ⟨rfl,hb6⟩
          clear c2 dY dW dh cb
          have HF6:=Lib.hid (HF5.out.below hb6)
          have K6:=Lib.hid ((hb6.cell (World.block_lt_of_cell? _ _ K5.out)).trans K5.out)
          have eU:=Lib.hid (HW5.out.trans (hb6.mono HW5.out.size))
          clear hb6
          have c2:=ql HF6.out.blk 2 _ rfl
          have dY:=ql HF6.out.blk 3 _ rfl
          have dW:=ql HF6.out.blk 4 _ rfl
          have dh:=ql HF6.out.blk 5 _ rfl
          have cb:=K6.out
          cases b10 with
          | false =>
           go_wp2_with fail
           refine (haK _ HF6.out).mono ?_;rintro e W7 ⟨rfl,hb7⟩
           clear c2 dY dW dh cb
           have HF7:=Lib.hid (HF6.out.below hb7)
           have K7:=Lib.hid ((hb7.cell (World.block_lt_of_cell? _ _ K6.out)).trans K6.out)
           have HW7:=Lib.hid (eU.out.trans (hb7.mono eU.out.size))
           clear hb7
           obtain rfl:b11 = R:=by simpa using hR
           clear hR
           go_wp2_with fail
           go_ret
           exact ⟨rfl,HW7.out⟩
          | true =>
           obtain rfl:false = R:=by simpa using hR
           clear hR
           go_wp2_with fail
           go_ret
           exact ⟨rfl,eU.out⟩
        | true =>
         obtain rfl:false = R:=by simpa using hR
         clear hR
         go_wp2_with fail
         go_ret
         exact ⟨rfl,HW4.out⟩
      | true =>
       obtain rfl:false = R:=by simpa using hR
       clear hR
       go_wp2_with fail
       go_ret
       exact ⟨rfl,HW2.out⟩
  | true =>
   obtain rfl:false = R:=by simpa using hR
   clear hR
   go_wp2_with fail
   go_ret
   exact ⟨rfl,HW1.out⟩
def jP.f (zF:ByteArray) (_:Bool) (zB:Int) (zn:List yG) (zN:List qb) (zO:List qP):Option Bool:=if zn.length ≤ 1000000000 ∧ zN.length ≤ 1000000000 ∧ zO.length ≤ 1000000000 then some (xH zF zB zn zN zO) else none
theorem jP.calls (zF:ByteArray) (zG:Bool) (zB:Int) (yM:Option Addr) (yN:Nat) (zn:List yG) (yP:Option Addr) (yR:Nat) (zN:List qb) (yS:Option Addr) (yT:Nat) (zO:List qP) (r:Bool) (w:World) (jV:Kd.C vO w yM zn.length zn) (kG:zn.length ≤ yN) (kH:Kd.C jX w yP zN.length zN) (kI:zN.length ≤ yR) (kL:Kd.C jg w yS zO.length zO) (kM:zO.length ≤ yT) (hG:GW w) (h:jP.f zF zG zB zn zN zO = some r) :
  Calls Tryz.prog 39 #[.agg #[.string zF,.bool zG,.int .i64 zB,.slice yM zn.length yN,.slice yP zN.length yR,.slice yS zO.length yT]] w fun e w'=>e = .returned (.bool r) ∧ Below w.heap.size w w':=by
 unfold jP.f at h
 split at h
 ·rename_i hl
  obtain rfl:=Option.some.inj h
  exact zV2 zF zG zB yM yN zn yP yR zN yS yT zO kG kI kM hl.1 hl.2.1 hl.2.2 w jV kH kL hG
 ·cases h
end Go.Proofs.YtggifbbiiickmaaGreatDoor
namespace Go.Proofs.YtggifbbiiickmaaGreatDoor
open Go.RowKit Go.Proofs.zk.za Go.Proofs.zk.zR Go.Proofs.YtggifbbiiickmaaGreatDoor.PX
set_option linter.unusedSimpArgs false
set_option linter.unusedVariables false
theorem WY (a b:ByteArray):Op.bytesLess a.toList b.toList = true ↔ a.toList < b.toList:=by rw [Go.Proofs.bytesLess_eq];exact decide_eq_true_iff
theorem QE {a b:ByteArray}:vG a b < 0 ↔ a.toList < b.toList:=by
 rw [← WY]
 unfold vG
 by_cases h1:Op.bytesLess a.toList b.toList = true
 ·simp [h1]
 ·by_cases h2:Op.bytesLess b.toList a.toList = true <;> simp [h1,h2]
theorem Wq {a b:ByteArray}:a.toList = b.toList ↔ a = b:=by
 constructor
 ·intro h
  rw [Lib.toList_data,Lib.toList_data] at h
  exact ByteArray.ext (Array.toList_inj.1 h)
 ·rintro rfl
  rfl
theorem iq (a:ByteArray):vG a a = 0:=by
 unfold vG
 have h:¬ Op.bytesLess a.toList a.toList = true:=by rw [WY];exact List.lt_irrefl _
 rw [if_neg h,if_neg h]
theorem zvO {a b:ByteArray}:vG a b = 0 ↔ a = b:=by
 constructor
 ·intro h
  unfold vG at h
  by_cases h1:Op.bytesLess a.toList b.toList = true
  ·rw [if_pos h1] at h;cases h
  ·rw [if_neg h1] at h
   by_cases h2:Op.bytesLess b.toList a.toList = true
   ·rw [if_pos h2] at h;cases h
   ·rw [WY] at h1 h2
    exact Wq.1 (List.le_antisymm (List.not_lt.1 h2) (List.not_lt.1 h1))
 ·rintro rfl
  exact iq a
theorem Wp (l:List yG) (i:Nat) (h:i < l.length):yU l (i:Int) = l[i]:=by simp [yU,List.getD_eq_getElem?_getD,h]
def Asc (l:List yG):Prop:=∀ (i j:Nat) (hi:i < l.length) (hj:j < l.length),i < j → l[i].f0.toList < l[j].f0.toList
theorem zV3 {l:List yG} (h:Zj (fun i j=>QC (yU l (i:Int)) (yU l (j:Int))) l.length = true):Asc l:=by
 have h1:∀ (i:Nat) (hi:i + 1 < l.length),l[i].f0.toList < l[i + 1].f0.toList:=by
  intro i hi
  have h2:=List.all_eq_true.1 h i (List.mem_range.2 (by omega))
  rw [decide_eq_true_iff] at h2
  have h2:QC (yU l (i:Int)) (yU l ((i + 1:Nat):Int)) < 0:=h2
  rw [Wp l i (by omega),Wp l (i + 1) hi] at h2
  exact QE.1 h2
 have h3:∀ (d i:Nat) (hi:i + d + 1 < l.length),l[i].f0.toList < l[i + d + 1].f0.toList:=by
  intro d
  induction d with
  | zero=>intro i hi;exact h1 i hi
  | succ d ih=>intro i hi;exact List.lt_trans (ih i (by omega)) (h1 (i + d + 1) hi)
 intro i j hi hj hij
 have h4:=h3 (j - i - 1) i (by omega)
 have e:i + (j - i - 1) + 1 = j:=by omega
 simpa only [e] using h4
theorem zYX (l:List yG) (n:ByteArray) (ha:Asc l) (i j:Nat) (hij:i ≤ j) (hj:j ≤ l.length) (h1:∀ (m:Nat) (hm:m < l.length),m < i → l[m].f0.toList < n.toList) (h2:∀ (m:Nat) (hm:m < l.length),j ≤ m → ¬ l[m].f0.toList < n.toList) :
  (∀ (m:Nat) (hm:m < l.length),m < WV l n i j → l[m].f0.toList < n.toList) ∧ (∀ (m:Nat) (hm:m < l.length),WV l n i j ≤ m → ¬ l[m].f0.toList < n.toList):=by
 fun_induction WV l n i j with
 | case1 i j hlt hc ih =>
  have hm:(i + j) / 2 < l.length:=by omega
  rw [Wp l _ hm,QE] at hc
  refine ih (by omega) hj (fun m hml hmi=>?_) h2
  by_cases he:m = (i + j) / 2
  ·subst he;exact hc
  ·exact List.lt_trans (ha m _ hml hm (by omega)) hc
 | case2 i j hlt hc ih =>
  have hm:(i + j) / 2 < l.length:=by omega
  rw [Wp l _ hm,QE] at hc
  refine ih (by omega) (by omega) h1 (fun m hml hmi hlt'=>?_)
  by_cases he:m = (i + j) / 2
  ·subst he;exact hc hlt'
  ·exact hc (List.lt_trans (ha _ m hm hml (by omega)) hlt')
 | case3 i j hlt =>
  obtain rfl:i = j:=by omega
  exact ⟨h1,h2⟩
theorem zww (l:List yG) (ha:Asc l) (m:Nat) (hm:m < l.length):Yr l l[m].f0 = ((m:Int),true):=by
 obtain ⟨h1,h2⟩:=zYX l l[m].f0 ha 0 l.length (Nat.zero_le _) (Nat.le_refl _) (fun m _ h=>absurd h (Nat.not_lt_zero _)) (fun m hm h=>absurd hm (by omega))
 have e:WV l l[m].f0 0 l.length = m:=by
  rcases Nat.lt_trichotomy (WV l l[m].f0 0 l.length) m with h | h | h
  ·exact absurd (ha _ m (by omega) hm h) (h2 _ (by omega) (Nat.le_refl _))
  ·exact h
  ·exact absurd (h1 m hm h) (List.lt_irrefl _)
 unfold Yr
 simp only [e,decide_eq_true hm,Bool.true_and,Wp l m hm]
 rw [iq]
 rfl
theorem zwZ (l:List yG) (n:ByteArray) (h:∀ x ∈ l,x.f0 ≠ n):(Yr l n).2 = false:=by
 unfold Yr
 simp only
 by_cases hi:WV l n 0 l.length < l.length
 ·rw [Wp l _ hi]
  have:¬ vG l[WV l n 0 l.length].f0 n = 0:=fun e=>h _ (List.getElem_mem hi) (zvO.1 e)
  rw [decide_eq_false this,Bool.and_false]
 ·rw [decide_eq_false hi,Bool.false_and]
theorem zYJ (l:List yG) (ha:Asc l) (n:ByteArray):(Yr l n).2 = l.any fun x=>decide (x.f0 = n):=by
 by_cases h:∃ x ∈ l,x.f0 = n
 ·obtain ⟨x,hx,rfl⟩:=h
  obtain ⟨m,hm,rfl⟩:=List.getElem_of_mem hx
  rw [zww l ha m hm]
  exact (List.any_eq_true.2 ⟨_,hx,by simp⟩).symm
 ·rw [zwZ l n (fun x hx e=>h ⟨x,hx,e⟩)]
  refine (List.any_eq_false.2 fun x hx=>?_).symm
  simpa using fun e=>h ⟨x,hx,e⟩
end Go.Proofs.YtggifbbiiickmaaGreatDoor
namespace Go.Proofs.YtggifbbiiickmaaGreatDoor
open Go.RowKit Go.Shelf Go.Proofs.zk.za Go.Proofs.zk.zS Go.Proofs.zk.zR Go.Proofs.YtggifbbiiickmaaGreatDoor.PX
set_option linter.unusedSimpArgs false
set_option linter.unusedVariables false
set_option maxRecDepth 100000 in
theorem zV4 (B:Nat) (n:ByteArray) (w:World) (hB:w.cell? ⟨B,0,none⟩ = some (.string n)) :
  PredBelow Tryz.prog 160 #[.pointer (some ⟨B,0,none⟩)] (fun x=>.agg (pU x).toArray) (fun x:yG=>x.f0.toList == n.toList) w:=fun W x hb=>by
 have hl:=World.block_lt_of_cell? w _ hB
 have hlW:B < W.heap.size:=Nat.lt_of_lt_of_le hl hb.size
 have hc:(W.alloc (.cells #[.string x.f0,.int .i64 x.f1] 105)).cell? ⟨B,0,none⟩ = some (.string n):=(World.cell?_alloc_lt _ _ _ hlW).trans ((hb.cell hl).trans hB)
 have hb0:Below w.heap.size w (W.alloc (.cells #[.string x.f0,.int .i64 x.f1] 105)):=hb.alloc hb.size _
 show Calls Tryz.prog 160 #[.agg #[.string x.f0,.int .i64 x.f1],.pointer (some ⟨B,0,none⟩)] W _
 clear hb hB hl
 go_enter Tryz.func160,Tryz.ntmps160
 go_wp2
 go_ret
 exact ⟨by first | rfl | (simp;done),hb0⟩
def ZK (l:List yG) (n:ByteArray):Bool:=l.any fun x=>x.f0.toList == n.toList
def QF.f (_:ByteArray) (_:Bool) (_:Int) (zn:List yG) (_:List qb) (_:List qP) (a1:ByteArray):Option Bool:=if zn.length ≤ 1000000000 then some (ZK zn a1) else none
theorem QF.calls (zF:ByteArray) (zG:Bool) (zB:Int) (yM:Option Addr) (yN:Nat) (zn:List yG) (yP:Option Addr) (yR:Nat) (zN:List qb) (yS:Option Addr) (yT:Nat) (zO:List qP) (a1:ByteArray) (r:Bool) (w:World) (jV:Kd.C vO w yM zn.length zn) (_:zn.length ≤ yN) (_:Kd.C jX w yP zN.length zN) (_:zN.length ≤ yR) (_:Kd.C jg w yS zO.length zO) (_:zO.length ≤ yT) (_:GW w) (h:QF.f zF zG zB zn zN zO a1 = some r) :
  Calls Tryz.prog 135 #[.agg #[.string zF,.bool zG,.int .i64 zB,.slice yM zn.length yN,.slice yP zN.length yR,.slice yS zO.length yT],.string a1] w fun e w'=>e = .returned (.bool r) ∧ Below w.heap.size w w':=by
 unfold QF.f at h
 split at h
 ·rename_i hl
  obtain rfl:=Option.some.inj h
  have hb0:Below w.heap.size w ((w.alloc (.cells #[.string zF,.bool zG,.int .i64 zB,.slice yM zn.length yN,.slice yP zN.length yR,.slice yS zO.length yT] 60)).alloc (.cells #[.string a1] 9)):=((Below.refl _ w).alloc (Nat.le_refl _) _).alloc (by simp) _
  have hcell:((w.alloc (.cells #[.string zF,.bool zG,.int .i64 zB,.slice yM zn.length yN,.slice yP zN.length yR,.slice yS zO.length yT] 60)).alloc (.cells #[.string a1] 9)).cell? ⟨w.heap.size + 1,0,none⟩ = some (.string a1):=by simp
  have hs:=zkt yM yN zn _ (Kd.zh jV hb0) hl (fun x=>x.f0.toList == a1.toList) 160 #[.pointer (some ⟨w.heap.size + 1,0,none⟩)] (Zl Tryz.func160 (by kernel_rfl) rfl) (zV4 (w.heap.size + 1) a1 _ hcell)
  unfold ZK
  generalize (zn.any fun x=>x.f0.toList == a1.toList) = R at hs ⊢
  clear hcell jV hl h
  go_enter Tryz.func135,Tryz.ntmps135
  go_wp2_with fail
  refine hs.mono ?_;rintro e w2 ⟨rfl,hb2⟩
  go_wp2
  go_ret
  exact ⟨rfl,hb0.trans (hb2.mono hb0.size)⟩
 ·cases h
end Go.Proofs.YtggifbbiiickmaaGreatDoor
namespace Go.Proofs.YtggifbbiiickmaaGreatDoor.PX
open Go.RowKit Go.Proofs.zk.za Go.Proofs.zk.zS Go.Proofs.zk.zR
attribute [local go_sem] qD qE xJ xV qc qd qF qG   -- for this text's walks alone
set_option linter.unusedVariables false
set_option linter.unusedSimpArgs false
def kW.f (zF:ByteArray) (zG:Bool) (zB:Int) (zn:List (yG)) (zN:List (qb)) (zO:List (qP)) (a1:Int):Option (Bool):=if a1 ≥ 1 then (if a1 ≤ 1000 then ((jP.f zF zG zB zn zN zO).bind fun zxn=>(some zxn)) else (some false)) else (some false)
set_option maxHeartbeats 8000000 in
set_option maxRecDepth 100000 in
theorem kW.calls (zF:ByteArray) (zG:Bool) (zB:Int) (yM:Option Addr) (yN:Nat) (zn:List (yG)) (yP:Option Addr) (yR:Nat) (zN:List (qb)) (yS:Option Addr) (yT:Nat) (zO:List (qP)) (a1:Int) (r:Bool) (w:World) (jV:Kd.C vO w yM zn.length zn) (kG:zn.length ≤ yN) (kH:Kd.C jX w yP zN.length zN) (kI:zN.length ≤ yR) (kL:Kd.C jg w yS zO.length zO) (kM:zO.length ≤ yT) (hG:GW w) (h:kW.f zF zG zB zn zN zO a1 = some r) :
  Calls Tryz.prog 62 #[.agg #[.string zF,.bool zG,.int .i64 zB,.slice yM zn.length yN,.slice yP zN.length yR,.slice yS zO.length yT],.int .i64 a1] w fun e w'=>e = .returned (.bool r) ∧ Below w.heap.size w w':=by
 have zYj:=Tryz.underlying60
 have HG:=zx.mk hG
 clear hG
 have jD:=zx.mk jV
 have wD:=zx.mk kG
 clear jV kG
 have wE:=zx.mk kH
 have wF:=zx.mk kI
 clear kH kI
 have wG:=zx.mk kL
 have wH:=zx.mk kM
 clear kL kM
 have HB:=zx.mk (Below.refl w.heap.size w)
 have H:(if a1 ≥ 1 then (if a1 ≤ 1000 then ((jP.f zF zG zB zn zN zO).bind fun zxn=>(some zxn)) else (some false)) else (some false)) = some r:=h
 clear h
 by_cases c3:a1 ≥ 1
 ·rw [if_pos c3] at H
  have ZN:decide (1 ≤ a1) = true:=decide_eq_true c3
  clear c3
  by_cases c4:a1 ≤ 1000
  ·rw [if_pos c4] at H
   have QX:decide (a1 ≤ 1000) = true:=decide_eq_true c4
   clear c4
   replace H:=Option.bind_eq_some_iff.mp H
   obtain ⟨zxn,A50,H⟩:=H
   replace H:(some zxn) = some r:=H
   have A5:=zx.mk A50
   clear A50
   obtain rfl:=Option.some.inj H
   go_enter Tryz.func62,Tryz.ntmps62
   go_wp2_with (first | ((with_reducible refine qQ (N:=2) rfl ?_);refine qC ?hg (N:=2) ?hd (cs:=#[.string zF,.bool zG,.int .i64 zB,.slice yM zn.length yN,.slice yP zN.length yR,.slice yS zO.length yT]) (t:=60) ?hr ?_;(case hd=>rfl);(case hg=>rfl);(case hr=>first | (go_simp;done) | (go_simp;rfl));intro Yu hg w6 qo hb;have ze:=zx.mk (zu (zD HB.out) hb);have zi:=zx.mk (qo);have zo:=zx.mk ((by rw [hg];exact (zm (zD HB.out)):w.heap.size ≤ Yu));have zT:=zx.mk ((by rw [hg];exact (zm (zD HB.out)):w.heap.size ≤ Yu));clear HB;have HB:=ze;have Zt:=zi;have zWO:=zo;have zqm:=zT;clear ze zi zo zT;clear hb qo hg;have zkm:w6.cell? ⟨Yu,0,none⟩ = some (.string zF):=zK Zt 0;have zVG:w6.cell? ⟨Yu,1,none⟩ = some (.bool zG):=zK Zt 1;have zVH:w6.cell? ⟨Yu,2,none⟩ = some (.int .i64 zB):=zK Zt 2;have zVI:w6.cell? ⟨Yu,3,none⟩ = some (.slice yM zn.length yN):=zK Zt 3;have zVL:w6.cell? ⟨Yu,4,none⟩ = some (.slice yP zN.length yR):=zK Zt 4;have zVM:w6.cell? ⟨Yu,5,none⟩ = some (.slice yS zO.length yT):=zK Zt 5;have zkn:=zw Zt.out 0;have zVN:=zw Zt.out 1;have zVO:=zw Zt.out 2;have zVP:=zw Zt.out 3;have zVR:=zw Zt.out 4;have zVS:=zw Zt.out 5) | (go_at_call 39;(with_reducible refine (jP.calls zF zG zB _ _ zn _ _ zN _ _ zO zxn _ ?yh ?yD ?qX ?qJ ?qR ?xg ?jO A5.out).mono ?_);(case yh=>exact qM (Kd.zh jD.out HB.out));(case yD=>exact wD.out);(case qX=>exact qM (Kd.zh wE.out HB.out));(case qJ=>exact wF.out);(case qR=>exact qM (Kd.zh wG.out HB.out));(case xg=>exact wH.out);(case jO=>exact GW.under HG.out (zD HB.out));rintro e w8 ⟨rfl,hb⟩;have ze:=zx.mk (zM (g:=Yu) (o:=.cells #[.string zF,.bool zG,.int .i64 zB,.slice yM zn.length yN,.slice yP zN.length yR,.slice yS zO.length yT] 60 (0,0)) (qK Zt.out) hb);have zi:=zx.mk (zu (zD HB.out) hb);clear Zt;clear HB;have Zt:=ze;have HB:=zi;clear ze zi;(try clear hb);(try clear hi)))
   go_ret
   exact ⟨by first | rfl | (simp [zH,zI] <;> rfl) | (simp [*,zH,zI] <;> rfl),by repeat (first | (with_reducible first | exact HB.out | apply yJ | apply zC | apply yY | refine qm ?_ zqm.out) | exact HB.out)⟩
  ·rw [if_neg c4] at H
   have QX:decide (a1 ≤ 1000) = false:=decide_eq_false c4
   clear c4
   obtain rfl:=Option.some.inj H
   go_enter Tryz.func62,Tryz.ntmps62
   go_wp2_with (first | ((with_reducible refine qQ (N:=2) rfl ?_);refine qC ?hg (N:=2) ?hd (cs:=#[.string zF,.bool zG,.int .i64 zB,.slice yM zn.length yN,.slice yP zN.length yR,.slice yS zO.length yT]) (t:=60) ?hr ?_;(case hd=>rfl);(case hg=>rfl);(case hr=>first | (go_simp;done) | (go_simp;rfl));intro Yu hg w9 qo hb;have ze:=zx.mk (zu (zD HB.out) hb);have zi:=zx.mk (qo);have zo:=zx.mk ((by rw [hg];exact (zm (zD HB.out)):w.heap.size ≤ Yu));have zT:=zx.mk ((by rw [hg];exact (zm (zD HB.out)):w.heap.size ≤ Yu));clear HB;have HB:=ze;have Zt:=zi;have zWO:=zo;have zqm:=zT;clear ze zi zo zT;clear hb qo hg))
   go_ret
   exact ⟨by first | rfl | (simp [zH,zI] <;> rfl) | (simp [*,zH,zI] <;> rfl),by repeat (first | (with_reducible first | exact HB.out | apply yJ | apply zC | apply yY | refine qm ?_ zqm.out) | exact HB.out)⟩
 ·rw [if_neg c3] at H
  have ZN:decide (1 ≤ a1) = false:=decide_eq_false c3
  clear c3
  obtain rfl:=Option.some.inj H
  go_enter Tryz.func62,Tryz.ntmps62
  go_wp2_with (first | ((with_reducible refine qQ (N:=2) rfl ?_);refine qC ?hg (N:=2) ?hd (cs:=#[.string zF,.bool zG,.int .i64 zB,.slice yM zn.length yN,.slice yP zN.length yR,.slice yS zO.length yT]) (t:=60) ?hr ?_;(case hd=>rfl);(case hg=>rfl);(case hr=>first | (go_simp;done) | (go_simp;rfl));intro Yu hg YI qo hb;have ze:=zx.mk (zu (zD HB.out) hb);have zi:=zx.mk (qo);have zo:=zx.mk ((by rw [hg];exact (zm (zD HB.out)):w.heap.size ≤ Yu));have zT:=zx.mk ((by rw [hg];exact (zm (zD HB.out)):w.heap.size ≤ Yu));clear HB;have HB:=ze;have Zt:=zi;have zWO:=zo;have zqm:=zT;clear ze zi zo zT;clear hb qo hg))
  go_ret
  exact ⟨by first | rfl | (simp [zH,zI] <;> rfl) | (simp [*,zH,zI] <;> rfl),by repeat (first | (with_reducible first | exact HB.out | apply yJ | apply zC | apply yY | refine qm ?_ zqm.out) | exact HB.out)⟩
def Xt.f (a0:Int) (a1:Int):Option (Int):=if a0 < 0 then (if a1 = 0 then (none) else (some (wrap64 (-(wrap64 (Int.tdiv (wrap64 ((wrap64 ((wrap64 (-a0)) + a1)) - 1)) a1)))))) else (if a1 = 0 then (none) else (some (wrap64 (Int.tdiv a0 a1))))
set_option maxHeartbeats 8000000 in
set_option maxRecDepth 100000 in
theorem Xt.calls (a0:Int) (a1:Int) (r:Int) (w:World) (h:Xt.f a0 a1 = some r) :
  Calls Tryz.prog 117 #[.int .i64 a0,.int .i64 a1] w fun e w'=>e = .returned (.int .i64 r) ∧ yc w w':=by
 have H:(if a0 < 0 then (if a1 = 0 then (none) else (some (wrap64 (-(wrap64 (Int.tdiv (wrap64 ((wrap64 ((wrap64 (-a0)) + a1)) - 1)) a1)))))) else (if a1 = 0 then (none) else (some (wrap64 (Int.tdiv a0 a1))))) = some r:=h
 clear h
 by_cases c3:a0 < 0
 ·rw [if_pos c3] at H
  have ZN:decide (a0 < 0) = true:=decide_eq_true c3
  clear c3
  by_cases c4:a1 = 0
  ·rw [if_pos c4] at H
   exact absurd H (by simp)
  ·rw [if_neg c4] at H
   have QX:(a1 == 0) = false:=beq_eq_false_iff_ne.mpr c4
   have zdL:(a1 != 0) = true:=bne_iff_ne.mpr c4
   obtain rfl:=Option.some.inj H
   go_enter Tryz.func117,Tryz.ntmps117
   go_wp2
   go_ret
   exact ⟨by first | rfl | (simp;done) | (simp [*];done),by repeat (first | exact yc.refl _ | apply yc.step)⟩
 ·rw [if_neg c3] at H
  have ZN:decide (a0 < 0) = false:=decide_eq_false c3
  clear c3
  by_cases c5:a1 = 0
  ·rw [if_pos c5] at H
   exact absurd H (by simp)
  ·rw [if_neg c5] at H
   have wM:(a1 == 0) = false:=beq_eq_false_iff_ne.mpr c5
   have zX7:(a1 != 0) = true:=bne_iff_ne.mpr c5
   obtain rfl:=Option.some.inj H
   go_enter Tryz.func117,Tryz.ntmps117
   go_wp2
   go_ret
   exact ⟨by first | rfl | (simp;done) | (simp [*];done),by repeat (first | exact yc.refl _ | apply yc.step)⟩
def uH.f (a0:Int) (a1:Int):Option (Int):=(Xt.f (wrap64 ((wrap64 (10 * a1)) * a0)) 1000).bind fun zxo=>(some zxo)
set_option maxHeartbeats 8000000 in
set_option maxRecDepth 100000 in
theorem uH.calls (a0:Int) (a1:Int) (r:Int) (w:World) (h:uH.f a0 a1 = some r) :
  Calls Tryz.prog 63 #[.int .i64 a0,.int .i64 a1] w fun e w'=>e = .returned (.int .i64 r) ∧ yc w w':=by
 have H:((Xt.f (wrap64 ((wrap64 (10 * a1)) * a0)) 1000).bind fun zxo=>(some zxo)) = some r:=h
 clear h
 replace H:=Option.bind_eq_some_iff.mp H
 obtain ⟨zxo,eO,H⟩:=H
 replace H:(some zxo) = some r:=H
 have A3:=zx.mk eO
 clear eO
 obtain rfl:=Option.some.inj H
 go_enter Tryz.func63,Tryz.ntmps63
 go_wp2_with (first | ((with_reducible refine yx (f:=117) rfl ?_);refine uD (some 9) Tryz.func117 #[.int .i64 (wrap64 ((wrap64 (10 * a1)) * a0)),.int .i64 1000] ?_;(with_reducible refine (Xt.calls (wrap64 ((wrap64 (10 * a1)) * a0)) 1000 zxo _ A3.out).mono ?_);rintro e w' ⟨rfl,⟨nd,rfl⟩⟩;refine ⟨_,rfl,?_⟩))
 go_ret
 exact ⟨by first | rfl | (simp;done) | (simp [*];done),by repeat (first | exact yc.refl _ | apply yc.step)⟩
end Go.Proofs.YtggifbbiiickmaaGreatDoor.PX
namespace Go.Proofs.YtggifbbiiickmaaGreatDoor.PX
open Go.RowKit Go.Proofs.zk.za Go.Proofs.zk.zS Go.Proofs.zk.zR
attribute [local go_sem] qD qE xJ xV qc qd qF qG   -- for this text's walks alone
set_option linter.unusedVariables false
set_option linter.unusedSimpArgs false
def Xu.f (zF:ByteArray) (zG:Bool) (zB:Int) (zn:List (yG)) (zN:List (qb)) (zO:List (qP)) (a1:ByteArray) (a2:Int):Option (Int × Int):=(kW.f zF zG zB zn zN zO a2).bind fun zxp=>(if zxp = true then ((kY.f zF zG zB zn zN zO a1).bind fun Zv=>(if Zv.2 = true then (if 0 ≤ Zv.1 then (if Zv.1 < (zn.length:Int) then ((uH.f ((yU zn Zv.1).f1) a2).bind fun Jz=>(some (Jz,0))) else (none)) else (none)) else (some (0,3)))) else (some (0,1)))
set_option maxHeartbeats 8000000 in
set_option maxRecDepth 100000 in
theorem Xu.calls (zF:ByteArray) (zG:Bool) (zB:Int) (yM:Option Addr) (yN:Nat) (zn:List (yG)) (yP:Option Addr) (yR:Nat) (zN:List (qb)) (yS:Option Addr) (yT:Nat) (zO:List (qP)) (a1:ByteArray) (a2:Int) (r1:Int) (r2:Int) (w:World) (jV:Kd.C vO w yM zn.length zn) (kG:zn.length ≤ yN) (kH:Kd.C jX w yP zN.length zN) (kI:zN.length ≤ yR) (kL:Kd.C jg w yS zO.length zO) (kM:zO.length ≤ yT) (hG:GW w) (h:Xu.f zF zG zB zn zN zO a1 a2 = some (r1,r2)) :
  Calls Tryz.prog 22 #[.agg #[.string zF,.bool zG,.int .i64 zB,.slice yM zn.length yN,.slice yP zN.length yR,.slice yS zO.length yT],.string a1,.int .i64 a2] w fun e w'=>e = .returned (.tuple #[.int .i64 r1,.int .i64 r2]) ∧ Below w.heap.size w w':=by
 have zYj:=Tryz.underlying60
 have HG:=zx.mk hG
 clear hG
 have jD:=zx.mk jV
 have wD:=zx.mk kG
 clear jV kG
 have wE:=zx.mk kH
 have wF:=zx.mk kI
 clear kH kI
 have wG:=zx.mk kL
 have wH:=zx.mk kM
 clear kL kM
 have HB:=zx.mk (Below.refl w.heap.size w)
 have H:((kW.f zF zG zB zn zN zO a2).bind fun zxp=>(if zxp = true then ((kY.f zF zG zB zn zN zO a1).bind fun Zv=>(if Zv.2 = true then (if 0 ≤ Zv.1 then (if Zv.1 < (zn.length:Int) then ((uH.f ((yU zn Zv.1).f1) a2).bind fun Jz=>(some (Jz,0))) else (none)) else (none)) else (some (0,3)))) else (some (0,1)))) = some (r1,r2):=h
 clear h
 replace H:=Option.bind_eq_some_iff.mp H
 obtain ⟨zxp,A40,H⟩:=H
 replace H:(if zxp = true then ((kY.f zF zG zB zn zN zO a1).bind fun Zv=>(if Zv.2 = true then (if 0 ≤ Zv.1 then (if Zv.1 < (zn.length:Int) then ((uH.f ((yU zn Zv.1).f1) a2).bind fun Jz=>(some (Jz,0))) else (none)) else (none)) else (some (0,3)))) else (some (0,1))) = some (r1,r2):=H
 have A4:=zx.mk A40
 clear A40
 by_cases c5:zxp = true
 ·subst c5
  have H1:((kY.f zF zG zB zn zN zO a1).bind fun Zv=>(if Zv.2 = true then (if 0 ≤ Zv.1 then (if Zv.1 < (zn.length:Int) then ((uH.f ((yU zn Zv.1).f1) a2).bind fun Jz=>(some (Jz,0))) else (none)) else (none)) else (some (0,3)))) = some (r1,r2):=by rw [if_pos rfl] at H;exact H
  clear H
  have H:=H1
  clear H1
  replace H:=Option.bind_eq_some_iff.mp H
  obtain ⟨⟨Xd,zdM⟩,A60,H⟩:=H
  replace H:(if zdM = true then (if 0 ≤ Xd then (if Xd < (zn.length:Int) then ((uH.f ((yU zn Xd).f1) a2).bind fun Jz=>(some (Jz,0))) else (none)) else (none)) else (some (0,3))) = some (r1,r2):=H
  have A6:=zx.mk A60
  clear A60
  by_cases c7:zdM = true
  ·subst c7
   have H1:(if 0 ≤ Xd then (if Xd < (zn.length:Int) then ((uH.f ((yU zn Xd).f1) a2).bind fun Jz=>(some (Jz,0))) else (none)) else (none)) = some (r1,r2):=by rw [if_pos rfl] at H;exact H
   clear H
   have H:=H1
   clear H1
   by_cases c8:0 ≤ Xd
   ·rw [if_pos c8] at H
    have fM:decide (0 ≤ Xd) = true:=decide_eq_true c8
    clear c8
    by_cases c9:Xd < (zn.length:Int)
    ·rw [if_pos c9] at H
     have zxa:decide (Xd < (zn.length:Int)) = true:=decide_eq_true c9
     clear c9
     replace H:=Option.bind_eq_some_iff.mp H
     obtain ⟨Jz,zdN,H⟩:=H
     replace H:(some (Jz,0)) = some (r1,r2):=H
     have A10:=zx.mk zdN
     clear zdN
     simp only [Option.some.injEq,Prod.mk.injEq] at H
     obtain ⟨rfl,rfl⟩:=H
     go_enter Tryz.func22,Tryz.ntmps22
     go_wp2_with (first | ((with_reducible refine qQ (N:=3) rfl ?_);refine qC ?hg (N:=3) ?hd (cs:=#[.string zF,.bool zG,.int .i64 zB,.slice yM zn.length yN,.slice yP zN.length yR,.slice yS zO.length yT]) (t:=60) ?hr ?_;(case hd=>rfl);(case hg=>rfl);(case hr=>first | (go_simp;done) | (go_simp;rfl));intro xP hg w11 qo hb;have ze:=zx.mk (zu (zD HB.out) hb);have zi:=zx.mk (qo);have zo:=zx.mk ((by rw [hg];exact (zm (zD HB.out)):w.heap.size ≤ xP));have zT:=zx.mk ((by rw [hg];exact (zm (zD HB.out)):w.heap.size ≤ xP));clear HB;have HB:=ze;have yI:=zi;have zWP:=zo;have zqn:=zT;clear ze zi zo zT;clear hb qo hg;have zl6:w11.cell? ⟨xP,0,none⟩ = some (.string zF):=zK yI 0;have zl7:w11.cell? ⟨xP,1,none⟩ = some (.bool zG):=zK yI 1;have zl8:w11.cell? ⟨xP,2,none⟩ = some (.int .i64 zB):=zK yI 2;have zl9:w11.cell? ⟨xP,3,none⟩ = some (.slice yM zn.length yN):=zK yI 3;have zmz:w11.cell? ⟨xP,4,none⟩ = some (.slice yP zN.length yR):=zK yI 4;have zmq:w11.cell? ⟨xP,5,none⟩ = some (.slice yS zO.length yT):=zK yI 5;have zmx:=zw yI.out 0;have zmj:=zw yI.out 1;have zmv:=zw yI.out 2;have zmk:=zw yI.out 3;have zmy:=zw yI.out 4;have zmw:=zw yI.out 5) | ((with_reducible refine yx (f:=62) rfl ?_);refine uD (some 12) Tryz.func62 #[.agg #[.string zF,.bool zG,.int .i64 zB,.slice yM zn.length yN,.slice yP zN.length yR,.slice yS zO.length yT],.int .i64 a2] ?_;(with_reducible refine (kW.calls zF zG zB _ _ zn _ _ zN _ _ zO a2 true _ ?yh ?yD ?qX ?qJ ?qR ?xg ?jO A4.out).mono ?_);(case yh=>exact qM (Kd.zh jD.out HB.out));(case yD=>exact wD.out);(case qX=>exact qM (Kd.zh wE.out HB.out));(case qJ=>exact wF.out);(case qR=>exact qM (Kd.zh wG.out HB.out));(case xg=>exact wH.out);(case jO=>exact GW.under HG.out (zD HB.out));rintro e Zu ⟨rfl,hb⟩;refine ⟨_,rfl,?_⟩;have ze:=zx.mk (zM (g:=xP) (o:=.cells #[.string zF,.bool zG,.int .i64 zB,.slice yM zn.length yN,.slice yP zN.length yR,.slice yS zO.length yT] 60 (0,0)) (qK yI.out) hb);have zi:=zx.mk (zu (zD HB.out) hb);clear yI;clear HB;have yI:=ze;have HB:=zi;clear ze zi;(try clear hb);have XA:Zu.cell? ⟨xP,0,none⟩ = some (.string zF):=zK yI 0;have Jf:Zu.cell? ⟨xP,1,none⟩ = some (.bool zG):=zK yI 1;have Jg:Zu.cell? ⟨xP,2,none⟩ = some (.int .i64 zB):=zK yI 2;have Jh:Zu.cell? ⟨xP,3,none⟩ = some (.slice yM zn.length yN):=zK yI 3;have Ji:Zu.cell? ⟨xP,4,none⟩ = some (.slice yP zN.length yR):=zK yI 4;have Jl:Zu.cell? ⟨xP,5,none⟩ = some (.slice yS zO.length yT):=zK yI 5;have XB:=zw yI.out 0;have Jm:=zw yI.out 1;have Jo:=zw yI.out 2;have Jp:=zw yI.out 3;have Jr:=zw yI.out 4;have Js:=zw yI.out 5) | ((with_reducible refine yx (f:=64) rfl ?_);refine uD (some 17) Tryz.func64 #[.agg #[.string zF,.bool zG,.int .i64 zB,.slice yM zn.length yN,.slice yP zN.length yR,.slice yS zO.length yT],.string a1] ?_;(with_reducible refine (kY.calls zF zG zB _ _ zn _ _ zN _ _ zO a1 Xd true _ ?yh ?yD ?qX ?qJ ?qR ?xg ?jO A6.out).mono ?_);(case yh=>exact qM (Kd.zh jD.out HB.out));(case yD=>exact wD.out);(case qX=>exact qM (Kd.zh wE.out HB.out));(case qJ=>exact wF.out);(case qR=>exact qM (Kd.zh wG.out HB.out));(case xg=>exact wH.out);(case jO=>exact GW.under HG.out (zD HB.out));rintro e WW ⟨rfl,hb⟩;refine ⟨_,rfl,?_⟩;have ze:=zx.mk (zM (g:=xP) (o:=.cells #[.string zF,.bool zG,.int .i64 zB,.slice yM zn.length yN,.slice yP zN.length yR,.slice yS zO.length yT] 60 (0,0)) (qK yI.out) hb);have zi:=zx.mk (zu (zD HB.out) hb);clear yI;clear HB;have yI:=ze;have HB:=zi;clear ze zi;(try clear hb);have Jt:WW.cell? ⟨xP,0,none⟩ = some (.string zF):=zK yI 0;have Ju:WW.cell? ⟨xP,1,none⟩ = some (.bool zG):=zK yI 1;have JA:WW.cell? ⟨xP,2,none⟩ = some (.int .i64 zB):=zK yI 2;have JB:WW.cell? ⟨xP,3,none⟩ = some (.slice yM zn.length yN):=zK yI 3;have JC:WW.cell? ⟨xP,4,none⟩ = some (.slice yP zN.length yR):=zK yI 4;have JD:WW.cell? ⟨xP,5,none⟩ = some (.slice yS zO.length yT):=zK yI 5;have JE:=zw yI.out 0;have JF:=zw yI.out 1;have JG:=zw yI.out 2;have JH:=zw yI.out 3;have JI:=zw yI.out 4;have JL:=zw yI.out 5;have zYV:0 ≤ (Xd:Int):=of_decide_eq_true yH;have zYK:Xd < (zn.length:Int):=of_decide_eq_true yH;obtain ⟨ztG,zik,zxr,zxs⟩:=JW jD.out Xd zYV zYK;cases zik;replace zxr:=(HB.out.cell (World.block_lt_of_cell? w _ zxr)).trans zxr;replace zxs:=(HB.out.cell (World.block_lt_of_cell? w _ zxs)).trans zxs;replace zYV:=eq_true zYV;replace zYK:=eq_true zYK) | ((with_reducible refine yx (f:=63) rfl ?_);refine uD (some 29) Tryz.func63 #[.int .i64 ((yU zn Xd).f1),.int .i64 a2] ?_;(with_reducible refine (uH.calls ((yU zn Xd).f1) a2 Jz _ A10.out).mono ?_);rintro e w' ⟨rfl,⟨nd,rfl⟩⟩;refine ⟨_,rfl,?_⟩))
     go_ret2
     exact ⟨by first | rfl | (simp [zH,zI] <;> rfl) | (simp [*,zH,zI] <;> rfl),by repeat (first | (with_reducible first | exact HB.out | apply yJ | apply zC | apply yY | refine qm ?_ zqn.out) | exact HB.out)⟩
    ·rw [if_neg c9] at H
     exact absurd H (by simp)
   ·rw [if_neg c8] at H
    exact absurd H (by simp)
  ·replace c7:=Bool.eq_false_iff.mpr c7
   subst c7
   have H1:(some (0,3)) = some (r1,r2):=by rw [if_neg (show ¬ (false = true) by decide)] at H;exact H
   clear H
   have H:=H1
   clear H1
   simp only [Option.some.injEq,Prod.mk.injEq] at H
   obtain ⟨rfl,rfl⟩:=H
   go_enter Tryz.func22,Tryz.ntmps22
   go_wp2_with (first | ((with_reducible refine qQ (N:=3) rfl ?_);refine qC ?hg (N:=3) ?hd (cs:=#[.string zF,.bool zG,.int .i64 zB,.slice yM zn.length yN,.slice yP zN.length yR,.slice yS zO.length yT]) (t:=60) ?hr ?_;(case hd=>rfl);(case hg=>rfl);(case hr=>first | (go_simp;done) | (go_simp;rfl));intro xP hg fu qo hb;have ze:=zx.mk (zu (zD HB.out) hb);have zi:=zx.mk (qo);have zo:=zx.mk ((by rw [hg];exact (zm (zD HB.out)):w.heap.size ≤ xP));have zT:=zx.mk ((by rw [hg];exact (zm (zD HB.out)):w.heap.size ≤ xP));clear HB;have HB:=ze;have yI:=zi;have zWP:=zo;have zqn:=zT;clear ze zi zo zT;clear hb qo hg;have zmZ:fu.cell? ⟨xP,0,none⟩ = some (.string zF):=zK yI 0;have zmQ:fu.cell? ⟨xP,1,none⟩ = some (.bool zG):=zK yI 1;have zmX:fu.cell? ⟨xP,2,none⟩ = some (.int .i64 zB):=zK yI 2;have zmJ:fu.cell? ⟨xP,3,none⟩ = some (.slice yM zn.length yN):=zK yI 3;have zmV:fu.cell? ⟨xP,4,none⟩ = some (.slice yP zN.length yR):=zK yI 4;have zmK:fu.cell? ⟨xP,5,none⟩ = some (.slice yS zO.length yT):=zK yI 5;have zmY:=zw yI.out 0;have zmW:=zw yI.out 1;have zma:=zw yI.out 2;have zmb:=zw yI.out 3;have zmc:=zw yI.out 4;have zmd:=zw yI.out 5) | ((with_reducible refine yx (f:=62) rfl ?_);refine uD (some 12) Tryz.func62 #[.agg #[.string zF,.bool zG,.int .i64 zB,.slice yM zn.length yN,.slice yP zN.length yR,.slice yS zO.length yT],.int .i64 a2] ?_;(with_reducible refine (kW.calls zF zG zB _ _ zn _ _ zN _ _ zO a2 true _ ?yh ?yD ?qX ?qJ ?qR ?xg ?jO A4.out).mono ?_);(case yh=>exact qM (Kd.zh jD.out HB.out));(case yD=>exact wD.out);(case qX=>exact qM (Kd.zh wE.out HB.out));(case qJ=>exact wF.out);(case qR=>exact qM (Kd.zh wG.out HB.out));(case xg=>exact wH.out);(case jO=>exact GW.under HG.out (zD HB.out));rintro e w19 ⟨rfl,hb⟩;refine ⟨_,rfl,?_⟩;have ze:=zx.mk (zM (g:=xP) (o:=.cells #[.string zF,.bool zG,.int .i64 zB,.slice yM zn.length yN,.slice yP zN.length yR,.slice yS zO.length yT] 60 (0,0)) (qK yI.out) hb);have zi:=zx.mk (zu (zD HB.out) hb);clear yI;clear HB;have yI:=ze;have HB:=zi;clear ze zi;(try clear hb);have zxt:w19.cell? ⟨xP,0,none⟩ = some (.string zF):=zK yI 0;have zxu:w19.cell? ⟨xP,1,none⟩ = some (.bool zG):=zK yI 1;have zxA:w19.cell? ⟨xP,2,none⟩ = some (.int .i64 zB):=zK yI 2;have zxB:w19.cell? ⟨xP,3,none⟩ = some (.slice yM zn.length yN):=zK yI 3;have zxC:w19.cell? ⟨xP,4,none⟩ = some (.slice yP zN.length yR):=zK yI 4;have zxD:w19.cell? ⟨xP,5,none⟩ = some (.slice yS zO.length yT):=zK yI 5;have zxE:=zw yI.out 0;have zxF:=zw yI.out 1;have zxG:=zw yI.out 2;have zxH:=zw yI.out 3;have zxI:=zw yI.out 4;have zxL:=zw yI.out 5) | ((with_reducible refine yx (f:=64) rfl ?_);refine uD (some 17) Tryz.func64 #[.agg #[.string zF,.bool zG,.int .i64 zB,.slice yM zn.length yN,.slice yP zN.length yR,.slice yS zO.length yT],.string a1] ?_;(with_reducible refine (kY.calls zF zG zB _ _ zn _ _ zN _ _ zO a1 Xd false _ ?yh ?yD ?qX ?qJ ?qR ?xg ?jO A6.out).mono ?_);(case yh=>exact qM (Kd.zh jD.out HB.out));(case yD=>exact wD.out);(case qX=>exact qM (Kd.zh wE.out HB.out));(case qJ=>exact wF.out);(case qR=>exact qM (Kd.zh wG.out HB.out));(case xg=>exact wH.out);(case jO=>exact GW.under HG.out (zD HB.out));rintro e w21 ⟨rfl,hb⟩;refine ⟨_,rfl,?_⟩;have ze:=zx.mk (zM (g:=xP) (o:=.cells #[.string zF,.bool zG,.int .i64 zB,.slice yM zn.length yN,.slice yP zN.length yR,.slice yS zO.length yT] 60 (0,0)) (qK yI.out) hb);have zi:=zx.mk (zu (zD HB.out) hb);clear yI;clear HB;have yI:=ze;have HB:=zi;clear ze zi;(try clear hb);(try clear hi)))
   go_ret2
   exact ⟨by first | rfl | (simp [zH,zI] <;> rfl) | (simp [*,zH,zI] <;> rfl),by repeat (first | (with_reducible first | exact HB.out | apply yJ | apply zC | apply yY | refine qm ?_ zqn.out) | exact HB.out)⟩
 ·replace c5:=Bool.eq_false_iff.mpr c5
  subst c5
  have H1:(some (0,1)) = some (r1,r2):=by rw [if_neg (show ¬ (false = true) by decide)] at H;exact H
  clear H
  have H:=H1
  clear H1
  simp only [Option.some.injEq,Prod.mk.injEq] at H
  obtain ⟨rfl,rfl⟩:=H
  go_enter Tryz.func22,Tryz.ntmps22
  go_wp2_with (first | ((with_reducible refine qQ (N:=3) rfl ?_);refine qC ?hg (N:=3) ?hd (cs:=#[.string zF,.bool zG,.int .i64 zB,.slice yM zn.length yN,.slice yP zN.length yR,.slice yS zO.length yT]) (t:=60) ?hr ?_;(case hd=>rfl);(case hg=>rfl);(case hr=>first | (go_simp;done) | (go_simp;rfl));intro xP hg w22 qo hb;have ze:=zx.mk (zu (zD HB.out) hb);have zi:=zx.mk (qo);have zo:=zx.mk ((by rw [hg];exact (zm (zD HB.out)):w.heap.size ≤ xP));have zT:=zx.mk ((by rw [hg];exact (zm (zD HB.out)):w.heap.size ≤ xP));clear HB;have HB:=ze;have yI:=zi;have zWP:=zo;have zqn:=zT;clear ze zi zo zT;clear hb qo hg;have zxM:w22.cell? ⟨xP,0,none⟩ = some (.string zF):=zK yI 0;have zxN:w22.cell? ⟨xP,1,none⟩ = some (.bool zG):=zK yI 1;have zxO:w22.cell? ⟨xP,2,none⟩ = some (.int .i64 zB):=zK yI 2;have zxP:w22.cell? ⟨xP,3,none⟩ = some (.slice yM zn.length yN):=zK yI 3;have zxR:w22.cell? ⟨xP,4,none⟩ = some (.slice yP zN.length yR):=zK yI 4;have zxS:w22.cell? ⟨xP,5,none⟩ = some (.slice yS zO.length yT):=zK yI 5;have zxT:=zw yI.out 0;have zxU:=zw yI.out 1;have zx0:=zw yI.out 2;have zx1:=zw yI.out 3;have zx2:=zw yI.out 4;have zx3:=zw yI.out 5) | ((with_reducible refine yx (f:=62) rfl ?_);refine uD (some 12) Tryz.func62 #[.agg #[.string zF,.bool zG,.int .i64 zB,.slice yM zn.length yN,.slice yP zN.length yR,.slice yS zO.length yT],.int .i64 a2] ?_;(with_reducible refine (kW.calls zF zG zB _ _ zn _ _ zN _ _ zO a2 false _ ?yh ?yD ?qX ?qJ ?qR ?xg ?jO A4.out).mono ?_);(case yh=>exact qM (Kd.zh jD.out HB.out));(case yD=>exact wD.out);(case qX=>exact qM (Kd.zh wE.out HB.out));(case qJ=>exact wF.out);(case qR=>exact qM (Kd.zh wG.out HB.out));(case xg=>exact wH.out);(case jO=>exact GW.under HG.out (zD HB.out));rintro e w24 ⟨rfl,hb⟩;refine ⟨_,rfl,?_⟩;have ze:=zx.mk (zM (g:=xP) (o:=.cells #[.string zF,.bool zG,.int .i64 zB,.slice yM zn.length yN,.slice yP zN.length yR,.slice yS zO.length yT] 60 (0,0)) (qK yI.out) hb);have zi:=zx.mk (zu (zD HB.out) hb);clear yI;clear HB;have yI:=ze;have HB:=zi;clear ze zi;(try clear hb);(try clear hi)))
  go_ret2
  exact ⟨by first | rfl | (simp [zH,zI] <;> rfl) | (simp [*,zH,zI] <;> rfl),by repeat (first | (with_reducible first | exact HB.out | apply yJ | apply zC | apply yY | refine qm ?_ zqn.out) | exact HB.out)⟩
end Go.Proofs.YtggifbbiiickmaaGreatDoor.PX
