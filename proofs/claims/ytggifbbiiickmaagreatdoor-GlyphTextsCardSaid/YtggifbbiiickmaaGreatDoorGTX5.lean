/-
  Texts that lean on one another, laid in one file. No condition.
-/
import Derived.RangeFuncNested
import Derived.RangeFuncBound
import Derived.RangeFuncCalls
import Derived.RangeFuncLeaves
import Derived.RangeFuncBox
import Derived.OwnWalkIn
import Derived.TacticsInMore
import Derived.LoopNIn
import Derived.LoopIn
import Derived.WalkKit
import Derived.WalkSpells
import Derived.WideLaws
import Derived.Test.YtggifbbiiickmaaGreatDoorGTX1
import Derived.Test.YtggifbbiiickmaaGreatDoorGTX4
import Derived.WalkLawsBesides
import Derived.Maps.Own
import Derived.Maps.OwnOps
import Derived.Maps.Views
import Derived.Maps.StringElems
import Derived.StringKeys
import Derived.Test.YtggifbbiiickmaaGreatDoorGTX3
import Derived.RangeFuncRecord
import Derived.Deep.CutBlock
import Derived.Test.YtggifbbiiickmaaGreatDoorGTX2
import Derived.Shelf.SlSortCmp.WholeK
import Derived.Ground.SlsfProg
import Derived.Sort.OwnSortedInts
import Derived.Laws.Runes
import Derived.ChangeAlike
namespace Go.Proofs.YtggifbbiiickmaaGreatDoor
open Go.RowKit
def Yl {β:Type} (Bs:Nat) (J:β → World → Prop):Prop:=∀ s W u,J s W → J s (W.setCell ⟨Bs,0,none⟩ u)
theorem Yl.and {β:Type} {Bs:Nat} {I I':β → World → Prop} (h:Yl Bs I) (h':Yl Bs I'):Yl Bs (fun s W=>I s W ∧ I' s W):=fun s W u hs=>⟨h s W u hs.1,h' s W u hs.2⟩
theorem Vb {W:World} {Bs k:Nat} {o:Obj} (u:Value) (h:W.heap[k]? = some o) (hne:k ≠ Bs):(W.setCell ⟨Bs,0,none⟩ u).heap[k]? = some o:=(Below.heap_setCell W ⟨Bs,0,none⟩ u k hne).trans h
def zWb {α:Type} (F:Fence) (n:Nat) (P:Program) (g:Nat) (lb:Array Value) (encs:α → Array Value) (Bs:Nat) (Kp:World → World → Prop) (S Sp:List α → Prop) (N:Nat) (w:World):Prop :=
 ∀ (l:Nat) (J Jx:List α → World → Prop) (W:World),Below w.heap.size w W → AbidesFrom W.heap.size J → AbidesFrom W.heap.size Jx → Yl Bs J → Yl Bs Jx →
  (∀ pre x W1,J pre W1 → pre.length < N → YieldAt F (n - 1) P l (encs x) W1 fun e W' =>
   (e = .returned (.bool true) ∧ J (pre ++ [x]) W' ∧ Kp W1 W') ∨ (e = .returned (.bool false) ∧ Jx (pre ++ [x]) W')) →
  J [] W →
  CallsIn F n P g (#[.func (.yield l) #[] #[]] ++ lb) W fun e W'=>(∃ v,e = .returned v) ∧ ((∃ xs,S xs ∧ J xs W') ∨ (∃ pre,Sp pre ∧ Jx pre W'))
def zfe {α:Type} (B:Nat) (Kp:World → World → Prop) (I Ix:List α → World → Prop) (xs:List α) (W:World):Exit → Act → World → Prop
 | .normal,_,W'=>KeepsFrom B W W' ∧ Kp W W' ∧ I xs W'
 | .ret,_,W'=>KeepsFrom B W W' ∧ Ix xs W'
 | _,_,_=>False
variable {F:Fence} {n:Nat} {P:Program}
theorem zkn {α:Type} {g:Operand} {ps:Array Tmp} {assign body:Code} {Q:Exit → Act → World → Prop} {a:Act} {w:World}
  (hro:F.round = none) (h1:1 ≤ n) {gf:Nat} {lb:Array Value} (hg:a.eval g = .func (.func gf) #[] lb) (hFg:F.fn gf) (eg:∀ args w,(callFunc gf args).run P w = .ok (.enter gf args) w)
  {encs:α → Array Value} {Bs:Nat} {Kp:World → World → Prop} {S Sp:List α → Prop} {N:Nat} (hseq:zWb F (n - 1) P gf lb encs Bs Kp S Sp N w) (hBs:Bs < w.heap.size)
  (hKt:∀ {A B C:World},Kp A B → Kp B C → Kp A C) (hKb:∀ (W:World) (l:Nat) (o o':Obj),w.heap.size ≤ l → W.heap[l]? = some o → o.isCells = false → o.isWalk = false → Kp W (W.putObj l o')) (hps:∀ x,(encs x).size = ps.size)
  (I Ix:List α → World → Prop) (hI:OwnFrom w.heap.size I) (hIx:OwnFrom w.heap.size Ix) (hIb:Yl Bs I) (znR:Yl Bs Ix) (h0:I [] w)
  (Ax:α → Act → World → Prop) (hAx:∀ x a',OwnFrom w.heap.size (fun (_:Unit) W=>Ax x a' W))
  (hassign:∀ (l:Nat) (pre:List α) (x:α) (W:World) (K:Act → World → Prop),I pre W → (∀ a' W',KeepsFrom w.heap.size W W' → Kp W W' → I pre W' → Ax x a' W' → K a' W') →
   assign.wpIn (F.inRound l) (n - 1 - 1) P (Exit.then K (fun _ _ _=>False)) { tmps:=(ps.zip (encs x)).foldl (fun t (p,v)=>t.setIfInBounds p v) a.tmps,defers:=[] } W)
  (hbody:∀ (l:Nat) (pre:List α) (x:α) (a':Act) (W:World),w.heap.size ≤ l → (∃ r,W.heap[l]? = some (.loop r)) → I pre W → Ax x a' W → pre.length < N → body.wpIn (F.inRound l) (n - 1 - 1) P (zfe w.heap.size Kp I Ix (pre ++ [x]) W) a' W)
  (hdone:∀ (D:Nat) (xs:List α) (W:World),w.heap.size ≤ D → S xs → I xs W → W.heap[D]? = some (.deferred (some [])) → Q .normal { a with defers:={ target:=.collected D,args:=#[] } :: a.defers } W)
  (hstop:∀ (D:Nat) (pre:List α) (W:World),w.heap.size ≤ D → Sp pre → Ix pre W → W.heap[D]? = some (.deferred (some [])) → Code.ret.wpIn F n P Q { a with defers:={ target:=.collected D,args:=#[] } :: a.defers } W) :
  (Code.rangeFunc g ps assign body).wpIn F n P Q a w:=by
 refine wpIn_rangeFunc ?_
 intro fn hfn
 rw [hro]
 obtain ⟨rec,hrec⟩:∃ rec:LoopState → Option Code → Loop,rec = fun st pe=>{ state:=st,pending:=pe,fn,tmps:=a.tmps,params:=ps,assign,body,defers:=w.heap.size }:=⟨_,rfl⟩
 obtain ⟨W1,hW1⟩:∃ W1,(w.alloc (.deferred (some []))).alloc (.loop (rec .ready none)) = W1:=⟨_,rfl⟩
 have hL1:W1.heap[w.heap.size + 1]? = some (.loop (rec .ready none)):=by
  rw [← hW1];have:=World.alloc_heap_new (w.alloc (.deferred (some []))) (.loop (rec .ready none));rwa [World.size_alloc] at this
 have hK1:W1.heap[w.heap.size]? = some (.deferred (some [])):=by
  rw [← hW1];exact (Below.heap_alloc _ _ _ (by simp)).trans (World.alloc_heap_new w _)
 have hI1:I [] W1:=by rw [← hW1];exact hI.alloc _ (hI.alloc _ h0)
 have hb1:Below w.heap.size w W1:=by
  rw [← hW1];exact ((Below.refl _ w).alloc (Nat.le_refl _) _).alloc (by simp) _
 have hz1:W1.heap.size = w.heap.size + 2:=by rw [← hW1];simp
 refine ⟨w.heap.size + 1,[{ target:=.collected w.heap.size,args:=#[] }],W1,{ target:=.fn (.func gf) lb,args:=#[.func (.yield (w.heap.size + 1)) #[] #[]] },W1,gf,
  #[.func (.yield (w.heap.size + 1)) #[] #[]] ++ lb,W1,?_,?_,?_,?_,fun _=>h1,?_⟩
 ·rw [← hW1,hrec];exact run_enterLoop_outer _ _ _ _ _
 ·simp only [resolve,hg]
  simp [go_sem]
 ·intro f' hf';simp [Target.leads] at hf';subst hf';exact hFg
 ·simp [invoke,go_sem,eg]
 ·have hnw:∀ {A B:World} {row:Option Nat},(∀ r,row = some r → W1.heap.size ≤ r ∧ ∃ o:Obj,A.heap[r]? = some o ∧ o.isWalk = true) → (∀ r,row = some r → w.heap.size ≤ r ∧ ∃ o:Obj,A.heap[r]? = some o ∧ o.isCells = false) :=
   fun hr r e=>by obtain ⟨hB,o,ho,hw⟩:=hr r e;exact ⟨by omega,o,ho,Obj.not_cells_of_walk hw⟩
  refine (hseq (w.heap.size + 1)
   (fun pre W=>I pre W ∧ W.heap[w.heap.size + 1]? = some (.loop (rec .ready none)) ∧ W.heap[w.heap.size]? = some (.deferred (some [])))
   (fun pre W=>Ix pre W ∧ W.heap[w.heap.size + 1]? = some (.loop (rec .done (some .ret))) ∧ W.heap[w.heap.size]? = some (.deferred (some [])))
   W1 hb1
   (fun s A B row hs hg' hr=>⟨hI s A B row hs.1 hg' (hnw (B:=B) hr),(grownBy_keeps hg' (fun r e=>(hr r e).2) hs.2.1 rfl).trans hs.2.1,(grownBy_keeps hg' (fun r e=>(hr r e).2) hs.2.2 rfl).trans hs.2.2⟩)
   (fun s A B row hs hg' hr=>⟨hIx s A B row hs.1 hg' (hnw (B:=B) hr),(grownBy_keeps hg' (fun r e=>(hr r e).2) hs.2.1 rfl).trans hs.2.1,(grownBy_keeps hg' (fun r e=>(hr r e).2) hs.2.2 rfl).trans hs.2.2⟩)
   (fun s A u hs=>⟨hIb s A u hs.1,Vb u hs.2.1 (by omega),Vb u hs.2.2 (by omega)⟩)
   (fun s A u hs=>⟨znR s A u hs.1,Vb u hs.2.1 (by omega),Vb u hs.2.2 (by omega)⟩)
   ?_ ⟨hI1,hL1,hK1⟩).mono ?_
  ·rintro pre x W ⟨hi,hl,hk⟩ hlen
   have hlt:w.heap.size + 1 < W.heap.size:=(Array.getElem?_eq_some_iff.1 hl).1
   have hy:=run_yield (P:=P) (args:=encs x) hl (by rw [hrec];exact hps x)
   rw [hrec] at hy
   refine ⟨fn,_,assign,body,hy,roundIn_of_wpIn hfn (hassign _ pre x W _ hi ?_)⟩
   clear hy
   intro a' Wa hkfa hkpa hia hax
   replace hl:=hkfa.same _ _ (by omega) hl rfl
   replace hk:=hkfa.same _ _ (Nat.le_refl _) hk rfl
   replace hlt:w.heap.size + 1 < Wa.heap.size:=(Array.getElem?_eq_some_iff.1 hl).1
   refine ⟨_,run_beginRound hl (by rw [hrec]),?_⟩
   have hl2:(Wa.putObj (w.heap.size + 1) (.loop { rec .ready none with state:=.busy })).heap[w.heap.size + 1]? = some (.loop { rec .ready none with state:=.busy }):=World.putObj_heap_same hlt
   have hk2:(Wa.putObj (w.heap.size + 1) (.loop { rec .ready none with state:=.busy })).heap[w.heap.size]? = some (.deferred (some [])):=(World.putObj_heap_other (by omega)).trans hk
   have hw2:Kp Wa (Wa.putObj (w.heap.size + 1) (.loop { rec .ready none with state:=.busy })):=hKb _ _ _ _ (by omega) hl rfl rfl
   refine wpIn_mono (hbody _ pre x a' _ (by omega) ⟨_,hl2⟩ (hI.putObj _ hia (by omega) hl rfl) ((hAx x a').putObj (s:=()) _ hax (by omega) hl rfl) hlen) ?_
   have fin:∀ (jump:Option Code) (W3:World),KeepsFrom w.heap.size (Wa.putObj (w.heap.size + 1) (.loop { rec .ready none with state:=.busy })) W3 →
     (Instr.endRound (w.heap.size + 1) jump).run P W3 = .ok (.bool jump.isNone) (W3.putObj (w.heap.size + 1) (.loop (rec (if jump.isNone then .ready else .done) jump))) ∧
     W3.heap[w.heap.size + 1]? = some (.loop { rec .ready none with state:=.busy }) ∧
     (W3.putObj (w.heap.size + 1) (.loop (rec (if jump.isNone then .ready else .done) jump))).heap[w.heap.size + 1]? = some (.loop (rec (if jump.isNone then .ready else .done) jump)) ∧
     (W3.putObj (w.heap.size + 1) (.loop (rec (if jump.isNone then .ready else .done) jump))).heap[w.heap.size]? = some (.deferred (some [])):=fun jump W3 hk3=>by
    have hl3:=hk3.same _ _ (by omega) hl2 rfl
    have:=run_endRound (P:=P) jump hl3
    rw [hrec] at this ⊢
    exact ⟨this,by rw [hrec] at hl3;exact hl3,World.putObj_heap_same (Array.getElem?_eq_some_iff.1 hl3).1,(World.putObj_heap_other (by omega)).trans (hk3.same _ _ (Nat.le_refl _) hk2 rfl)⟩
   rintro e a3 W3 hp
   cases e with
   | normal =>
    obtain ⟨hk3,hkp3,hi3⟩:=hp
    obtain ⟨hr,hl3,hl4,hk4⟩:=fin none W3 hk3
    exact ⟨_,_,hr,.inl ⟨rfl,⟨hI.putObj _ hi3 (by omega) hl3 rfl,hl4,hk4⟩,hKt hkpa (hKt (hKt hw2 hkp3) (hKb _ _ _ _ (by omega) hl3 rfl rfl))⟩⟩
   | ret =>
    obtain ⟨hk3,hi3⟩:=hp
    obtain ⟨hr,hl3,hl4,hk4⟩:=fin (some .ret) W3 hk3
    exact ⟨_,_,hr,.inr ⟨rfl,hIx.putObj _ hi3 (by omega) hl3 rfl,hl4,hk4⟩⟩
   | exit id=>exact hp.elim
   | goto t=>exact hp.elim
   | panic ch=>exact hp.elim
   | outgrown=>exact hp.elim
  ·rintro e W2 ⟨⟨v,rfl⟩,(⟨xs,hS,hi,hl,hk⟩ | ⟨pre,hSp,hi,hl,hk⟩)⟩
   ·exact ⟨none,_,by have:=run_endLoop (P:=P) hl (by rw [hrec];simp);rw [hrec] at this;exact this,hdone _ xs _ (Nat.le_refl _) hS (hI.putObj _ hi (by omega) hl rfl) ((World.putObj_heap_other (by omega)).trans hk)⟩
   ·exact ⟨some .ret,_,by have:=run_endLoop (P:=P) hl (by rw [hrec];simp);rw [hrec] at this;exact this,hstop _ pre _ (Nat.le_refl _) hSp (hIx.putObj _ hi (by omega) hl rfl) ((World.putObj_heap_other (by omega)).trans hk)⟩
end Go.Proofs.YtggifbbiiickmaaGreatDoor
namespace Go.Proofs.YtggifbbiiickmaaGreatDoor
open Go.RowKit Go.Proofs.zk.zA Go.Proofs.zk.yB Go.Proofs.zk.yA Go.Proofs.YtggifbbiiickmaaGreatDoor.PX
attribute [local go_sem] Oper.semAt_some
set_option linter.unusedSimpArgs false
set_option linter.unusedVariables false
abbrev PS:={ p:kV // p.f0.size ≤ maxLen ∧ p.f1.size ≤ maxLen }
def zPS:PS:=⟨z80,Nat.zero_le _,Nat.zero_le _⟩
abbrev BkP:=Nat × PS
def zkE (x:BkP):Array Value:=#[.int .i64 (x.1:Int),.agg #[.string x.2.1.f0,.string x.2.1.f1]]
def zzV (pre:List BkP):ByteArray → Option ByteArray:=pre.foldl (fun f x s=>if s = x.2.1.f0 then some x.2.1.f1 else f s) (fun _=>none)
theorem zWc (pre:List BkP) (x:BkP):zzV (pre ++ [x]) = fun s=>if s = x.2.1.f0 then some x.2.1.f1 else zzV pre s:=by
 unfold zzV
 rw [List.foldl_append]
 rfl
def Yt (zs:List PS):Nat → List BkP
 | 0=>[]
 | k + 1=>(k,zs.getD k zPS) :: Yt zs k
def VX (zs:List PS) (k:Nat):List BkP:=(Yt zs zs.length).take (zs.length - k)
theorem zzK (zs:List PS):∀ k,(Yt zs k).length = k
 | 0=>rfl
 | k + 1=>by rw [Yt,List.length_cons,zzK zs k]
theorem zke (zs:List PS):∀ (n j:Nat) (h:j < n),(Yt zs n)[n - 1 - j]? = some (j,zs.getD j zPS)
 | 0,_,h=>absurd h (Nat.not_lt_zero _)
 | n + 1,j,h=>by
  by_cases e:j = n
  ·subst e
   rw [show j + 1 - 1 - j = 0 by omega];rfl
  ·rw [show n + 1 - 1 - j = (n - 1 - j) + 1 by omega,Yt,List.getElem?_cons_succ]
   exact zke zs n j (by omega)
theorem zwZ (zs:List PS) (k:Nat) (h:k < zs.length):VX zs k = VX zs (k + 1) ++ [(k,zs.getD k zPS)]:=by
 have h1:=zke zs zs.length k h
 unfold VX
 rw [show zs.length - k = (zs.length - (k + 1)) + 1 by omega,List.take_add_one,show zs.length - (k + 1) = zs.length - 1 - k by omega,h1]
 rfl
theorem zKs (zs:List PS):VX zs 0 = Yt zs zs.length:=by
 unfold VX
 rw [Nat.sub_zero,List.take_of_length_le (by rw [zzK];exact Nat.le_refl _)]
theorem zwQ (zs:List PS):VX zs zs.length = []:=by
 unfold VX
 rw [Nat.sub_self,List.take_zero]
theorem zKt (zs:List PS) (k:Nat) (h:k ≤ zs.length):(VX zs k).length = zs.length - k:=by
 unfold VX
 rw [List.length_take,zzK]
 omega
def mI (n₀ Bs:Nat) (W W':World):Prop:=Below n₀ W W' ∧ W'.heap[Bs]? = W.heap[Bs]?
theorem zXy {n₀ Bs:Nat} {A B C:World} (h:mI n₀ Bs A B) (k:mI n₀ Bs B C):mI n₀ Bs A C:=⟨h.1.trans k.1,k.2.trans h.2⟩
theorem zff {n₀ Bs:Nat} {w:World} (hn:n₀ ≤ w.heap.size) (hB:Bs < w.heap.size) (W:World) (l:Nat) (o o':Obj) (hl:w.heap.size ≤ l) (h:W.heap[l]? = some o) (h1:o.isCells = false) (h2:o.isWalk = false):mI n₀ Bs W (W.putObj l o') :=
 ⟨belowK_b hn W l o o' hl h h1 h2,World.putObj_heap_other (by omega)⟩
theorem zWd {n₀ Bs:Nat} {t:TypeId} {v:Value} {W W':World} (h:mI n₀ Bs W W') (hb:Boxed W Bs t v):Boxed W' Bs t v:=h.2.trans hb
theorem zkf (zs:List PS) (s:ByteArray):∀ (k:Nat),k ≤ zs.length → ∀ g:ByteArray → Option ByteArray,(Yt zs k).foldl (fun f x s=>if s = x.2.1.f0 then some x.2.1.f1 else f s) g s = match (zs.take k).find? (fun p=>decide (p.1.f0 = s)) with | some p=>some p.1.f1 | none=>g s
 | 0,_,g=>by rw [List.take_zero];rfl
 | k + 1,hk,g=>by
  have hlt:k < zs.length:=by omega
  have hg:zs.getD k zPS = zs[k]:=by rw [List.getD_eq_getElem?_getD,List.getElem?_eq_getElem hlt];rfl
  rw [Yt,List.foldl_cons,zkf zs s k (by omega),List.take_add_one,List.getElem?_eq_getElem hlt,Option.toList_some,List.find?_append]
  cases hf:(zs.take k).find? (fun p=>decide (p.1.f0 = s)) with
  | some p=>rfl
  | none =>
   dsimp only
   rw [hg,Option.none_or,List.find?_cons]
   by_cases h:zs[k].1.f0 = s
   ·rw [if_pos h.symm,decide_eq_true h]
   ·rw [if_neg (fun e=>h e.symm),decide_eq_false h]
    rfl
theorem zbi (zs:List PS) (s:ByteArray):zzV (Yt zs zs.length) s = match (zs.map (·.1)).find? (fun p=>decide (p.f0 = s)) with | some p=>some p.f1 | none=>none:=by
 unfold zzV
 rw [zkf zs s zs.length (Nat.le_refl _),List.take_of_length_le (Nat.le_refl _),List.find?_map]
 simp only [Function.comp_def]
 cases zs.find? (fun p=>decide (p.1.f0 = s)) <;> rfl
set_option maxRecDepth 100000 in
set_option maxHeartbeats 4000000 in
theorem zbl (F:Fence) (n:Nat) (h7:F.fn 104) (hro:F.round = none) (hn:1 ≤ n) (l Bs:Nat) (A0:Option Addr) (c0:Nat) (zs:List PS) (hl:zs.length ≤ 1000000000) (w0:World) (hC:Kd.C Vt w0 A0 zs.length (zs.map (·.1))) (J Jx:List BkP → World → Prop)
  (hY:∀ pre x W,J pre W → pre.length < zs.length → YieldAt F (n - 1) Tryz.prog l (zkE x) W fun e W' =>
   (e = .returned (.bool true) ∧ J (pre ++ [x]) W' ∧ mI w0.heap.size Bs W W') ∨ (e = .returned (.bool false) ∧ Jx (pre ++ [x]) W'))
  (W:World) (hb:Below w0.heap.size w0 W) (hBs:Boxed W Bs 28 (.slice A0 zs.length c0)) (h0:J [] W) :
  CallsIn F n Tryz.prog 104 #[.func (.yield l) #[] #[],.pointer (some ⟨Bs,0,none⟩)] W fun e W'=>(∃ v,e = .returned v) ∧
   ((∃ ys,ys = Yt zs zs.length ∧ J ys W') ∨ (∃ pre,True ∧ Jx pre W')):=by
 have HC:=zx.mk hC
 have HY:=zx.mk hY
 have HX:=zx.mk hBs
 have hx0:W.cell? ⟨Bs,0,none⟩ = some (.slice A0 zs.length c0):=hBs.cell
 clear hC hY hBs
 refine callsIn_of_wp Tryz.func104 rfl h7 ?_ hro
 simp only [Tryz.ntmps104,List.size_toArray,List.length_cons,List.length_nil,Nat.reduceAdd,Nat.reduceSub,Array.replicate_succ,Array.replicate_zero,List.push_toArray,List.append_toArray,List.nil_append,List.cons_append]
 gi_wp2
 gi_loopw [3] (fun i wr=>∃ k:Nat,k ≤ zs.length ∧ i = .int .i64 ((k:Int) - 1) ∧ zx (J (VX zs k) wr) ∧ zx (mI w0.heap.size Bs W wr)) (fun i _=>(intOf i + 1).toNat)
 case atStart=>exact ⟨zs.length,Nat.le_refl _,rfl,⟨by rw [zwQ];exact h0⟩,⟨Below.refl _ _,rfl⟩⟩
 case round =>
  clear hx0
  obtain ⟨k,hk,rfl,HJ,HB⟩:=hrel
  have hs:wr.cell? ⟨Bs,0,none⟩ = some (.slice A0 zs.length c0):=(zWd HB.out HX.out).cell
  by_cases hlt:1 ≤ k
  ·obtain ⟨j,rfl⟩:∃ j,k = j + 1:=⟨k - 1,by omega⟩
   have ej:(((j + 1:Nat):Int) - 1) = (j:Int):=by omega
   rw [ej]
   obtain ⟨ad,e,x0,x1⟩:=Vw (Kd.zu HC.out (hb.trans HB.out.1)) (j:Int) (by omega) (by omega)
   cases e
   rw [Int.toNat_natCast] at x0 x1
   have e:j4 (zs.map (·.1)) (j:Int) = (zs.getD j zPS).1:=by
    have hj:j < zs.length:=by omega
    simp [j4,List.getD_eq_getElem?_getD,hj]
   rw [e] at x0 x1
   clear e
   obtain ⟨fn,tmps,assign,body,hy,hR⟩:=HY.out _ (j,zs.getD j zPS) wr HJ.out (by rw [zKt zs (j + 1) hk];omega)
   unfold zkE at hy
   dsimp only at hy
   have hst:=zx.mk (zwZ zs j (by omega))
   generalize zs.getD j zPS = x at x0 x1 hy hR hst
   have q0:(0:Int) ≤ (j:Int):=by omega
   have q1:(j:Int) < (zs.length:Int):=by omega
   have q3:((j:Int)).toNat = j:=Int.toNat_natCast j
   clear ej
   gi_wp2
   refine hR.mono ?_
   rintro e W3 (⟨rfl,hJ3,hk3⟩ | ⟨rfl,hJx3⟩)
   ·have HJ3:=zx.mk hJ3
    have dR:=zx.mk hk3
    clear hJ3 hk3
    gi_wp2
    go_roundw
    case rel=>exact ⟨j,by omega,rfl,⟨by rw [hst.out];exact HJ3.out⟩,⟨zXy HB.out dR.out⟩⟩
    case measure=>simp [intOf]
   ·have HJ3:=zx.mk hJx3
    clear hJx3
    gi_wp2
    refine bodyPost_ret (results_none rfl _ _ _) rfl ?_
    exact ⟨⟨_,rfl⟩,.inr ⟨_,trivial,HJ3.out⟩⟩
  ·obtain rfl:k = 0:=by omega
   gi_wp2
   go_end0
   exact ⟨⟨_,rfl⟩,.inl ⟨_,rfl,by rw [← zKs];exact HJ.out⟩⟩
set_option maxHeartbeats 1000000 in
theorem zfg (F:Fence) (n:Nat) (h5:F.fn 43) (hro:F.round = none) (a:Option Addr) (len cap:Nat) (w:World) :
  CallsIn F n Tryz.prog 43 #[.slice a len cap] w fun e w'=>e = .returned (.func (.func 104) #[] #[.pointer (some ⟨w.heap.size,0,none⟩)]) ∧ w' = w.alloc (.cells #[.slice a len cap] 28):=by
 refine callsIn_of_wp Tryz.func43 rfl h5 ?_ hro
 simp only [Tryz.ntmps43,List.size_toArray,List.length_cons,List.length_nil,Nat.reduceAdd,Nat.reduceSub,Array.replicate_succ,Array.replicate_zero,List.push_toArray,List.append_toArray,List.nil_append,List.cons_append]
 gi_wp2
 go_ret
 exact ⟨rfl,rfl⟩
theorem zbm (F:Fence) (n:Nat) (h7:F.fn 104) (hro:F.round = none) (hn:1 ≤ n) (Bs:Nat) (A0:Option Addr) (c0:Nat) (zs:List PS) (hl:zs.length ≤ 1000000000) (w0 w:World) (hC:Kd.C Vt w0 A0 zs.length (zs.map (·.1))) (hw:Below w0.heap.size w0 w) (hBs:Boxed w Bs 28 (.slice A0 zs.length c0)) :
  zWb F n Tryz.prog 104 #[.pointer (some ⟨Bs,0,none⟩)] zkE Bs (mI w0.heap.size Bs) (fun ys=>ys = Yt zs zs.length) (fun _=>True) zs.length w:=fun l J Jx W hW _ _ _ _ hY h0 =>
 zbl F n h7 hro hn l Bs A0 c0 zs hl w0 hC J Jx hY W (hw.trans (hW.mono hw.size)) ((hW.block Bs (Boxed.lt hBs)).trans hBs) h0
end Go.Proofs.YtggifbbiiickmaaGreatDoor
namespace Go.Proofs.YtggifbbiiickmaaGreatDoor
open Go.RowKit Go.Proofs.zk.zA Go.Proofs.zk.yB Go.Proofs.zk.yA Go.Proofs.YtggifbbiiickmaaGreatDoor.PX
set_option linter.unusedSimpArgs false
set_option linter.unusedVariables false
set_option maxRecDepth 100000 in
set_option maxHeartbeats 4000000 in
theorem zbn (A0:Option Addr) (c0:Nat) (l:List ByteArray) (w:World) (hr:Kd.C Kd.string w A0 l.length l) (hl:l.length ≤ 1000000000) (p:ByteArray → Bool) (g:Nat) (lb:Array Value) (eg:∀ args w,(callFunc g args).run Tryz.prog w = .ok (.enter g args) w)
  (hp:∀ (W:World) (x:ByteArray),x ∈ l → Below w.heap.size w W → Calls Tryz.prog g (#[.string x] ++ lb) W fun e w'=>e = .returned (.bool (p x)) ∧ Below w.heap.size w w') :
  Calls Tryz.prog 102 #[.slice A0 l.length c0,.func (.func g) #[] lb] w fun e w'=>e = .returned (.int .i64 (Yv p l 0)) ∧ Below w.heap.size w w':=by
 have H:=zx.mk hr
 have HP:=zx.mk hp
 clear hr hp
 generalize hR:Yv p l 0 = R
 have HR:=zx.mk hR
 clear hR
 go_enter Tryz.func102,Tryz.ntmps102
 go_wp2
 go_loopw [8] (fun i W=>∃ k:Nat,k ≤ l.length ∧ i = .int .i64 (k:Int) ∧ zx (Yv p l 0 = Yv p (l.drop k) k) ∧ zx (Below w.heap.size w W)) (fun i _=>l.length - (intOf i).toNat)
 case atStart=>exact ⟨0,Nat.zero_le _,rfl,⟨by rw [List.drop_zero]⟩,⟨Below.refl _ _⟩⟩
 case round =>
  obtain ⟨k,hk,rfl,HI,HB⟩:=hrel
  by_cases hlt:k < l.length
  ·obtain ⟨ad,e,x0⟩:=Kd.uw (Kd.zu H.out HB.out) (k:Int) (by omega) (by omega)
   cases e
   have e:qJ ByteArray.empty l (k:Int) = l[k]:=by simp [qJ,List.getD_eq_getElem?_getD,hlt]
   rw [Int.toNat_natCast] at x0
   rw [e] at x0
   clear e
   have hi:=HI.out
   rw [List.drop_eq_getElem_cons hlt,mG] at hi
   have hm:l[k] ∈ l:=List.getElem_mem hlt
   generalize l[k] = x at x0 hi hm
   have hcall:=HP.out wr x hm HB.out
   clear hm
   cases hq:p x with
   | true =>
    rw [hq] at hcall
    rw [if_pos hq] at hi
    have HI2:=zx.mk (HR.out.symm.trans hi)
    clear hi hq HI
    go_wp2_with fail
    refine hcall.mono ?_;rintro e w' ⟨rfl,hb'⟩
    go_wp2_with fail
    go_ret
    exact ⟨by rw [HI2.out];rfl,hb'⟩
   | false =>
    rw [hq] at hcall
    rw [if_neg (by rw [hq];exact Bool.false_ne_true)] at hi
    have HI2:=zx.mk hi
    clear hi hq HI
    go_wp2_with fail
    refine hcall.mono ?_;rintro e w' ⟨rfl,hb'⟩
    go_wp2_with fail
    go_roundw
    case rel=>exact ⟨k + 1,by omega,by first | rfl | go_num,HI2,⟨hb'⟩⟩
    case measure=>simp [intOf];omega
  ·obtain rfl:k = l.length:=by omega
   have hi:=HI.out
   rw [List.drop_eq_nil_of_le (Nat.le_refl _)] at hi
   have HI2:=zx.mk (HR.out.symm.trans hi)
   clear hi HI
   go_wp2
   go_ret
   exact ⟨by rw [HI2.out];rfl,HB.out⟩
set_option maxRecDepth 100000 in
theorem zbo (A0:Option Addr) (c0:Nat) (l:List ByteArray) (w:World) (hr:Kd.C Kd.string w A0 l.length l) (hl:l.length ≤ 1000000000) (p:ByteArray → Bool) (g:Nat) (lb:Array Value) (eg:∀ args w,(callFunc g args).run Tryz.prog w = .ok (.enter g args) w)
  (hp:∀ (W:World) (x:ByteArray),x ∈ l → Below w.heap.size w W → Calls Tryz.prog g (#[.string x] ++ lb) W fun e w'=>e = .returned (.bool (p x)) ∧ Below w.heap.size w w') :
  Calls Tryz.prog 40 #[.slice A0 l.length c0,.func (.func g) #[] lb] w fun e w'=>e = .returned (.bool (l.any p)) ∧ Below w.heap.size w w':=by
 have h:=zbn A0 c0 l w hr hl p g lb eg hp
 have e:=lM p l 0
 generalize Yv p l 0 = i at h e
 generalize l.any p = b at e ⊢
 subst e
 clear hp hr
 go_enter Tryz.func40,Tryz.ntmps40
 go_wp2_with (go_at_call 102;refine h.mono ?_;rintro e w1 ⟨rfl,hb⟩)
 go_ret
 exact ⟨rfl,hb⟩
end Go.Proofs.YtggifbbiiickmaaGreatDoor
namespace Go.Proofs.YtggifbbiiickmaaGreatDoor
open Go.RowKit Go.Proofs.zk.zA Go.Proofs.zk.yB Go.Proofs.zk.yA Go.Proofs.YtggifbbiiickmaaGreatDoor.PX
set_option linter.unusedSimpArgs false
set_option linter.unusedVariables false
set_option maxRecDepth 100000 in
set_option maxHeartbeats 4000000 in
theorem zbp (A0:Option Addr) (c0:Nat) (l:List kV) (w:World) (hr:Kd.C Vt w A0 l.length l) (hl:l.length ≤ 1000000000) (p:kV → Bool) (g:Nat) (lb:Array Value) (eg:∀ args w,(callFunc g args).run Tryz.prog w = .ok (.enter g args) w)
  (hp:∀ (W:World) (x:kV),x ∈ l → Below w.heap.size w W → Calls Tryz.prog g (#[.agg #[.string x.f0,.string x.f1]] ++ lb) W fun e w'=>e = .returned (.bool (p x)) ∧ Below w.heap.size w w') :
  Calls Tryz.prog 103 #[.slice A0 l.length c0,.func (.func g) #[] lb] w fun e w'=>e = .returned (.int .i64 (Yv p l 0)) ∧ Below w.heap.size w w':=by
 have H:=zx.mk hr
 have HP:=zx.mk hp
 clear hr hp
 generalize hR:Yv p l 0 = R
 have HR:=zx.mk hR
 clear hR
 go_enter Tryz.func103,Tryz.ntmps103
 go_wp2
 go_loopw [8] (fun i W=>∃ k:Nat,k ≤ l.length ∧ i = .int .i64 (k:Int) ∧ zx (Yv p l 0 = Yv p (l.drop k) k) ∧ zx (Below w.heap.size w W)) (fun i _=>l.length - (intOf i).toNat)
 case atStart=>exact ⟨0,Nat.zero_le _,rfl,⟨by rw [List.drop_zero]⟩,⟨Below.refl _ _⟩⟩
 case round =>
  obtain ⟨k,hk,rfl,HI,HB⟩:=hrel
  by_cases hlt:k < l.length
  ·obtain ⟨ad,e,x0,x1⟩:=Vw (Kd.zu H.out HB.out) (k:Int) (by omega) (by omega)
   cases e
   have e:j4 l (k:Int) = l[k]:=by simp [j4,List.getD_eq_getElem?_getD,hlt]
   rw [Int.toNat_natCast] at x0 x1
   rw [e] at x0 x1
   clear e
   have hi:=HI.out
   rw [List.drop_eq_getElem_cons hlt,mG] at hi
   have hm:l[k] ∈ l:=List.getElem_mem hlt
   generalize l[k] = x at x0 x1 hi hm
   have hcall:=HP.out wr x hm HB.out
   clear hm
   cases hq:p x with
   | true =>
    rw [hq] at hcall
    rw [if_pos hq] at hi
    have HI2:=zx.mk (HR.out.symm.trans hi)
    clear hi hq HI
    go_wp2_with fail
    refine hcall.mono ?_;rintro e w' ⟨rfl,hb'⟩
    go_wp2_with fail
    go_ret
    exact ⟨by rw [HI2.out];rfl,hb'⟩
   | false =>
    rw [hq] at hcall
    rw [if_neg (by rw [hq];exact Bool.false_ne_true)] at hi
    have HI2:=zx.mk hi
    clear hi hq HI
    go_wp2_with fail
    refine hcall.mono ?_;rintro e w' ⟨rfl,hb'⟩
    go_wp2_with fail
    go_roundw
    case rel=>exact ⟨k + 1,by omega,by first | rfl | go_num,HI2,⟨hb'⟩⟩
    case measure=>simp [intOf];omega
  ·obtain rfl:k = l.length:=by omega
   have hi:=HI.out
   rw [List.drop_eq_nil_of_le (Nat.le_refl _)] at hi
   have HI2:=zx.mk (HR.out.symm.trans hi)
   clear hi HI
   go_wp2
   go_ret
   exact ⟨by rw [HI2.out];rfl,HB.out⟩
set_option maxRecDepth 100000 in
theorem zbr (A0:Option Addr) (c0:Nat) (l:List kV) (w:World) (hr:Kd.C Vt w A0 l.length l) (hl:l.length ≤ 1000000000) (p:kV → Bool) (g:Nat) (lb:Array Value) (eg:∀ args w,(callFunc g args).run Tryz.prog w = .ok (.enter g args) w)
  (hp:∀ (W:World) (x:kV),x ∈ l → Below w.heap.size w W → Calls Tryz.prog g (#[.agg #[.string x.f0,.string x.f1]] ++ lb) W fun e w'=>e = .returned (.bool (p x)) ∧ Below w.heap.size w w') :
  Calls Tryz.prog 41 #[.slice A0 l.length c0,.func (.func g) #[] lb] w fun e w'=>e = .returned (.bool (l.any p)) ∧ Below w.heap.size w w':=by
 have h:=zbp A0 c0 l w hr hl p g lb eg hp
 have e:=lM p l 0
 generalize Yv p l 0 = i at h e
 generalize l.any p = b at e ⊢
 subst e
 clear hp hr
 go_enter Tryz.func41,Tryz.ntmps41
 go_wp2_with (go_at_call 103;refine h.mono ?_;rintro e w1 ⟨rfl,hb⟩)
 go_ret
 exact ⟨rfl,hb⟩
end Go.Proofs.YtggifbbiiickmaaGreatDoor
namespace Go.Proofs.YtggifbbiiickmaaGreatDoor
open Go.RowKit Go.Shelf
theorem zwX (w:World):PredAt Tryz.prog 82 #[] encR ZA w:=fun W r _=>by
 unfold FnGives
 show Calls Tryz.prog 82 #[.int .i32 r] W _
 by_cases h1:r < 33
 ·have e1:ZA r = true:=by unfold ZA;simp [h1]
  have d1:decide ((r:Int) < 33) = true:=by simp;omega
  rw [e1];clear e1 h1
  go_enter Tryz.func82,Tryz.ntmps82
  go_wp2
  go_ret
  exact ⟨rfl,0,rfl⟩
 ·have d1:decide ((r:Int) < 33) = false:=by simp;omega
  by_cases h2:126 < r
  ·have e1:ZA r = true:=by unfold ZA;simp [h2]
   have d2:decide ((126:Int) < (r:Int)) = true:=by simp;omega
   rw [e1];clear e1 h1 h2
   go_enter Tryz.func82,Tryz.ntmps82
   go_wp2
   go_ret
   exact ⟨rfl,0,rfl⟩
  ·have e1:ZA r = false:=by unfold ZA;simp;omega
   have d2:decide ((126:Int) < (r:Int)) = false:=by simp;omega
   rw [e1];clear e1 h1 h2
   go_enter Tryz.func82,Tryz.ntmps82
   go_wp2
   go_ret
   exact ⟨rfl,0,rfl⟩
set_option maxRecDepth 100000 in
theorem zKu (s:ByteArray) (w:World) :
  Calls Tryz.prog 36 #[.string s] w fun e w'=>e = .returned (.bool (Zc s.data.toList)) ∧ Below w.heap.size w w':=by
 have hl:s.data.toList.length = s.size:=Array.length_toList
 have hc:=Tryz.strings_ContainsFunc 82 #[] (enters_of Tryz.func82 (by kernel_rfl) rfl) ZA s w (zwX w)
 have hv:decide (0 ≤ Lib.idxFunc ZA true s) = !(s.data.toList.all okB):=by
  have:=zYW s s.size 0 (by omega) (by omega)
  rw [List.drop_zero] at this
  unfold Lib.idxFunc
  cases h:s.data.toList.all okB with
  | true=>rw [h] at this;simp at this;simp;omega
  | false=>rw [h] at this;simp at this;simp [this]
 rw [hv] at hc
 unfold Zc
 rw [hl]
 generalize s.data.toList.all okB = b at hc ⊢
 clear hl hv
 by_cases h1:1 ≤ s.size
 ·have d1:decide (1 ≤ s.size) = true:=decide_eq_true h1
  have g1:decide ((1:Int) ≤ (s.size:Int)) = true:=by simp;omega
  by_cases h2:s.size ≤ 10
  ·have d2:decide (s.size ≤ 10) = true:=decide_eq_true h2
   have g2:decide ((s.size:Int) ≤ 10) = true:=by simp;omega
   rw [d1,d2]
   clear d1 d2
   cases b with
   | true =>
    go_enter Tryz.func36,Tryz.ntmps36
    go_wp2_with (go_at_call 81;refine hc.mono ?_;rintro e w1 ⟨rfl,hb1⟩)
    go_ret
    exact ⟨rfl,hb1⟩
   | false =>
    go_enter Tryz.func36,Tryz.ntmps36
    go_wp2_with (go_at_call 81;refine hc.mono ?_;rintro e w1 ⟨rfl,hb1⟩)
    go_ret
    exact ⟨rfl,hb1⟩
  ·have d2:decide (s.size ≤ 10) = false:=decide_eq_false h2
   have g2:decide ((s.size:Int) ≤ 10) = false:=by simp;omega
   rw [d1,d2]
   clear d1 d2 hc
   go_enter Tryz.func36,Tryz.ntmps36
   go_wp2
   go_ret
   exact ⟨rfl,Below.refl _ _⟩
 ·have d1:decide (1 ≤ s.size) = false:=decide_eq_false h1
  have g1:decide ((1:Int) ≤ (s.size:Int)) = false:=by simp;omega
  rw [d1]
  clear d1 hc
  go_enter Tryz.func36,Tryz.ntmps36
  go_wp2
  go_ret
  exact ⟨rfl,Below.refl _ _⟩
end Go.Proofs.YtggifbbiiickmaaGreatDoor
namespace Go.Proofs.YtggifbbiiickmaaGreatDoor.zx6
open Go.Maps Go.ChangeMaps Go.WideMaps
set_option linter.unusedSimpArgs false
set_option linter.unusedVariables false
def SMap (P:Program) (k e:TypeId) (w:World) (b n:Nat) (f:ByteArray → Option ByteArray):Prop :=
 ∃ D:DataW Unit,w.ownsMap P k (plainElem P e) b n D ∧ IsMap D ∧ ∀ s:ByteArray,s.size ≤ maxLen → ∀ z,D.atKey (.string s.data.toList) z = match f s with | some v=>.lit (.string v.data.toList) | none=>z
section
variable {P:Program} {k e t:TypeId} {w:World} {b n:Nat} {f:ByteArray → Option ByteArray}
theorem SMap.kept {w':World} {row:Option Nat} (h:SMap P k e w b n f) (hg:w.grownBy w' row) (hne:some b ≠ row):SMap P k e w' b n f:=by
 obtain ⟨D,h1,h2,h3⟩:=h
 exact ⟨D,h1.kept hg hne,h2,h3⟩
theorem SMap.lt (h:SMap P k e w b n f):b < w.heap.size:=by
 obtain ⟨D,h1,_,_⟩:=h
 exact h1.lt
theorem SMap.made (w:World):SMap P k e (w.alloc (.map #[] 0)) w.heap.size 0 (fun _=>none) :=
 ⟨.map [],World.ownsMap_made w P k _,⟨_,rfl⟩,fun s _ z=>rfl⟩
theorem SMap.look (h:SMap P k e w b n f) (hk:P.underlying k = some .string) (ht:P.underlying t = some (.map k e)) (he:P.underlying e = some .string) (hz:(zeroValue e).run P w = .ok (.string ⟨#[]⟩) w) (s:ByteArray) (hs:s.size ≤ maxLen) :
  (Instr.lookup t (.map (some b)) (.string s) true).run P w = .ok (match f s with | some v=>.tuple #[.string v,.bool true] | none=>.tuple #[.string ⟨#[]⟩,.bool false]) w:=by
 obtain ⟨D,⟨es,clock,hb,F,_,rfl⟩,_,hf⟩:=h
 have hf:=hf s hs
 rcases fit_look true (string_keyed hk) ht hz hb F (keyOf_string_mk hk hs) with ⟨hrun,_,hat⟩ | ⟨e0,y,_,_,hrun,hRv,hat,_⟩
 ·rw [hrun]
  cases hv:f s with
  | none=>rfl
  | some v =>
   have h1:=(hat .nil).symm.trans (hf .nil)
   rw [hv] at h1
   cases h1
 ·rw [hrun]
  obtain ⟨s',hv',hy,_⟩:=plainElem_string_inv he hRv
  cases hv:f s with
  | none =>
   have h1:=(hat .nil).symm.trans (hf .nil)
   rw [hv,hy] at h1
   cases h1
  | some v =>
   have h1:=(hat .nil).symm.trans (hf .nil)
   rw [hv,hy] at h1
   have h2:s'.data.toList = v.data.toList:=by injection h1 with h1;injection h1
   have h3:s' = v:=by
    cases s';cases v
    congr 1
    exact Array.toList_inj.1 h2
   subst h3
   rw [hv']
   rfl
theorem SMap.put (h:SMap P k e w b n f) (hk:P.underlying k = some .string) (ht:P.underlying t = some (.map k e)) (he:P.underlying e = some .string) (hn:n < maxLen) (s v:ByteArray) (hs:s.size ≤ maxLen) (hv:v.size ≤ maxLen) :
  ∃ w',(Instr.mapUpdate t (.map (some b)) (.string s) (.string v)).run P w = .ok () w' ∧ SMap P k e w' b (n + 1) (fun x=>if x = s then some v else f x) ∧ w.grownBy w' (some b):=by
 obtain ⟨D,h1,h2,h3⟩:=h
 obtain ⟨w',hrun,hown,hg⟩:=h1.update (string_keyed hk) ht hn (keyOf_string_mk hk hs) (plainElem_string he hv)
 refine ⟨w',hrun,⟨_,hown,?_,fun x hx z=>?_⟩,hg⟩
 ·obtain ⟨es,rfl⟩:=h2
  exact ⟨_,rfl⟩
 ·by_cases hxs:x = s
  ·subst hxs
   dsimp only
   rw [if_pos rfl]
   exact atKey_put_same h2 (by trivial) _ _
  ·dsimp only
   rw [if_neg hxs,atKey_put_other (fun e=>hxs (by injection e with e;cases x;cases s;congr 1;exact Array.toList_inj.1 e)) _ _]
   exact h3 x hx z
end
end Go.Proofs.YtggifbbiiickmaaGreatDoor.zx6
namespace Go.Proofs.YtggifbbiiickmaaGreatDoor
open Go.RowKit Go.Shelf Go.Proofs.zk.zA Go.Proofs.zk.yB Go.Proofs.zk.yA Go.Proofs.YtggifbbiiickmaaGreatDoor.PX Go.Proofs.YtggifbbiiickmaaGreatDoor.zx6
set_option linter.unusedSimpArgs false
set_option linter.unusedVariables false
set_option maxRecDepth 100000 in
theorem zvH (s:ByteArray) (W:World):Calls Tryz.prog 35 #[.string s] W fun e w'=>e = .returned (.bool (ZN s)) ∧ Below W.heap.size W w':=by
 have h:=zKu s W
 unfold ZN
 generalize Zc s.data.toList = b at h ⊢
 go_enter Tryz.func35,Tryz.ntmps35
 go_wp2_with (go_at_call 36;refine h.mono ?_;rintro e w1 ⟨rfl,hb⟩)
 go_ret
 exact ⟨rfl,hb⟩
set_option maxRecDepth 100000 in
theorem zy3 (x:qO) (A3:Option Addr) (c3:Nat) (A4:Option Addr) (c4:Nat) (A5:Option Addr) (c5:Nat) (W:World) (hG:GW W) (hz:x.f3.length ≤ 1000000000 ∧ x.f4.length ≤ 1000000000 ∧ x.f5.length ≤ 1000000000)
  (q3:Kd.C jh W A3 x.f3.length x.f3) (g3:x.f3.length ≤ c3) (q4:Kd.C wO W A4 x.f4.length x.f4) (g4:x.f4.length ≤ c4) (q5:Kd.C pz W A5 x.f5.length x.f5) (g5:x.f5.length ≤ c5) :
  Calls Tryz.prog 38 #[.agg #[.string x.f0,.bool x.f1,.int .i64 x.f2,.slice A3 x.f3.length c3,.slice A4 x.f4.length c4,.slice A5 x.f5.length c5]] W fun e w'=>e = .returned (.bool (!jY x)) ∧ Below W.heap.size W w':=by
 have hb0:Below W.heap.size W (W.alloc (.cells #[.string x.f0,.bool x.f1,.int .i64 x.f2,.slice A3 x.f3.length c3,.slice A4 x.f4.length c4,.slice A5 x.f5.length c5] 60)):=(Below.refl _ W).alloc (Nat.le_refl _) _
 have h:=p9.calls x.f0 x.f1 x.f2 A3 c3 x.f3 A4 c4 x.f4 A5 c5 x.f5 (jY x) _ (Kd.zu q3 hb0) g3 (Kd.zu q4 hb0) g4 (Kd.zu q5 hb0) g5 (hG.under hb0) (by unfold p9.f;rw [if_pos hz];rfl)
 generalize jY x = b at h ⊢
 clear q3 q4 q5 hz
 go_enter Tryz.func38,Tryz.ntmps38
 go_wp2_with (go_at_call 39;refine h.mono ?_;rintro e w1 ⟨rfl,hb⟩)
 go_ret
 exact ⟨rfl,hb0.trans (hb.mono hb0.size)⟩
set_option maxRecDepth 100000 in
theorem zbs (B:Nat) (p:wB) (W:World) (hB:W.cell? ⟨B,0,none⟩ = some (.func (.func 35) #[] #[])) :
  Calls Tryz.prog 42 #[.agg #[.string p.f0,.string p.f1],.pointer (some ⟨B,0,none⟩)] W fun e w'=>e = .returned (.bool (PU p)) ∧ Below W.heap.size W w':=by
 have hl:=World.block_lt_of_cell? W _ hB
 have hb0:Below W.heap.size W (W.alloc (.cells #[.string p.f0,.string p.f1] 80)):=(Below.refl _ W).alloc (Nat.le_refl _) _
 have hc:(W.alloc (.cells #[.string p.f0,.string p.f1] 80)).cell? ⟨B,0,none⟩ = some (.func (.func 35) #[] #[]):=(World.cell?_alloc_lt _ _ _ hl).trans hB
 have h1:=zvH p.f0 (W.alloc (.cells #[.string p.f0,.string p.f1] 80))
 have h2:=fun V=>zvH p.f1 V
 unfold PU
 generalize ZN p.f0 = b1 at h1 ⊢
 generalize ZN p.f1 = b2 at h2 ⊢
 cases b1 with
 | true =>
  clear h2
  go_enter Tryz.func42,Tryz.ntmps42
  go_wp2_with (go_at_call 35;refine h1.mono ?_;rintro e w1 ⟨rfl,hb1⟩)
  go_ret
  exact ⟨rfl,hb0.trans (hb1.mono hb0.size)⟩
 | false =>
  go_enter Tryz.func42,Tryz.ntmps42
  go_wp2_with fail
  refine h1.mono ?_;rintro e w1 ⟨rfl,hb1⟩
  have hc1:=(hb1.cell (p:=⟨B,0,none⟩) (by simp;omega)).trans hc
  have k1:w1.cell? ⟨W.heap.size,1,none⟩ = some (.string p.f1):=(hb1.cell (p:=⟨W.heap.size,1,none⟩) (by simp)).trans (by simp)
  clear h1 hc
  go_wp2_with fail
  refine (h2 _).mono ?_;rintro e w2 ⟨rfl,hb2⟩
  go_wp2_with fail
  go_ret
  exact ⟨by first | rfl | (cases b2 <;> rfl),hb0.trans ((hb1.trans (hb2.mono hb1.size)).mono hb0.size)⟩
def Vd (f:ByteArray → Option ByteArray) (c:ByteArray):ByteArray:=match f c with | some v=>v | none=>c
theorem zlU (w:World):(zeroValue 9).run Tryz.prog w = .ok (.string ⟨#[]⟩) w:=by kernel_rfl
set_option maxRecDepth 100000 in
theorem zx7 (B m k:Nat) (f:ByteArray → Option ByteArray) (c:ByteArray) (W:World) (hc:c.size ≤ maxLen) (hB:W.cell? ⟨B,0,none⟩ = some (.map (some m))) (hm:SMap Tryz.prog 9 9 W m k f) :
  Calls Tryz.prog 44 #[.string c,.pointer (some ⟨B,0,none⟩)] W fun e w'=>e = .returned (.string (Vd f c)) ∧ W = w':=by
 have hlk:=hm.look (t:=82) Tryz.underlying9 Tryz.underlying82 Tryz.underlying9 (zlU W) c hc
 unfold Vd
 clear hm
 cases hf:f c with
 | none =>
  rw [hf] at hlk
  clear hf
  go_enter Tryz.func44,Tryz.ntmps44
  go_wp2
  go_ret
  exact ⟨rfl,rfl⟩
 | some v =>
  rw [hf] at hlk
  clear hf
  go_enter Tryz.func44,Tryz.ntmps44
  go_wp2
  go_ret
  exact ⟨rfl,rfl⟩
end Go.Proofs.YtggifbbiiickmaaGreatDoor
namespace Go.Proofs.YtggifbbiiickmaaGreatDoor
open Go.RowKit Go.Shelf Go.Proofs.zk.zA Go.Proofs.zk.yB Go.Proofs.zk.yA Go.Proofs.YtggifbbiiickmaaGreatDoor.PX Go.Proofs.YtggifbbiiickmaaGreatDoor.zx6
set_option linter.unusedSimpArgs false
set_option linter.unusedVariables false
theorem zvI (Af:Option Addr) (cf:Nat) (l:List qO) (f s:Int) (qZ yt:Bool) (Ac:Option Addr) (cc:Nat) (chars:List ByteArray) (Ap:Option Addr) (cp:Nat) (pairs:List wB) (w:World) (hG:GW w) (hC:Kd.C Ye w Af l.length l) (hz:∀ x ∈ l,x.f3.length ≤ 1000000000 ∧ x.f4.length ≤ 1000000000 ∧ x.f5.length ≤ 1000000000) (hl:l.length ≤ 1000000000) (hS:Kd.C Kd.string w Ac chars.length chars) (hlc:chars.length ≤ 1000000000) (hP:Kd.C Vt w Ap pairs.length pairs) (hlp:pairs.length ≤ 1000000000) (W:World) (hb:Below w.heap.size w W):Calls Tryz.prog 37 #[.slice Af l.length cf,.func (.func 38) #[] #[]] W fun e w'=>e = .returned (.bool (l.any fun x=>!jY x)) ∧ Below W.heap.size W w' :=
 zbc Af cf l W (Kd.zu hC hb) hl (fun x=>!jY x) 38 #[] (Xi Tryz.func38 (by kernel_rfl) rfl) (fun V y A3 c3 A4 c4 A5 c5 hm hV p3 g3 p4 g4 p5 g5 =>
  (zy3 y A3 c3 A4 c4 A5 c5 V (hG.under (hb.trans (hV.mono hb.size))) (hz y hm) p3 g3 p4 g4 p5 g5).mono fun e w' ⟨h1,h2⟩=>⟨h1,hV.trans (h2.mono hV.size)⟩)
theorem zvL (Af:Option Addr) (cf:Nat) (l:List qO) (f s:Int) (qZ yt:Bool) (Ac:Option Addr) (cc:Nat) (chars:List ByteArray) (Ap:Option Addr) (cp:Nat) (pairs:List wB) (w:World) (hG:GW w) (hC:Kd.C Ye w Af l.length l) (hz:∀ x ∈ l,x.f3.length ≤ 1000000000 ∧ x.f4.length ≤ 1000000000 ∧ x.f5.length ≤ 1000000000) (hl:l.length ≤ 1000000000) (hS:Kd.C Kd.string w Ac chars.length chars) (hlc:chars.length ≤ 1000000000) (hP:Kd.C Vt w Ap pairs.length pairs) (hlp:pairs.length ≤ 1000000000) (W:World) (hb:Below w.heap.size w W):Calls Tryz.prog 40 #[.slice Ac chars.length cc,.func (.func 35) #[] #[]] W fun e w'=>e = .returned (.bool (chars.any ZN)) ∧ Below W.heap.size W w' :=
 zbo Ac cc chars W (Kd.zu hS hb) hlc ZN 35 #[] (Xi Tryz.func35 (by kernel_rfl) rfl) (fun V y hm hV=>(zvH y V).mono fun e w' ⟨h1,h2⟩=>⟨h1,hV.trans (h2.mono hV.size)⟩)
theorem zvM (Af:Option Addr) (cf:Nat) (l:List qO) (f s:Int) (qZ yt:Bool) (Ac:Option Addr) (cc:Nat) (chars:List ByteArray) (Ap:Option Addr) (cp:Nat) (pairs:List wB) (w:World) (hG:GW w) (hC:Kd.C Ye w Af l.length l) (hz:∀ x ∈ l,x.f3.length ≤ 1000000000 ∧ x.f4.length ≤ 1000000000 ∧ x.f5.length ≤ 1000000000) (hl:l.length ≤ 1000000000) (hS:Kd.C Kd.string w Ac chars.length chars) (hlc:chars.length ≤ 1000000000) (hP:Kd.C Vt w Ap pairs.length pairs) (hlp:pairs.length ≤ 1000000000) (B:Nat) (W:World) (hb:Below w.heap.size w W) (hB:W.cell? ⟨B,0,none⟩ = some (.func (.func 35) #[] #[])):Calls Tryz.prog 41 #[.slice Ap pairs.length cp,.func (.func 42) #[] #[.pointer (some ⟨B,0,none⟩)]] W fun e w'=>e = .returned (.bool (pairs.any PU)) ∧ Below W.heap.size W w' :=
 zbr Ap cp pairs W (Kd.zu hP hb) hlp PU 42 #[.pointer (some ⟨B,0,none⟩)] (Xi Tryz.func42 (by kernel_rfl) rfl) (fun V y hm hV=>(zbs B y V ((hV.cell (p:=⟨B,0,none⟩) (World.block_lt_of_cell? W _ hB)).trans hB)).mono fun e w' ⟨h1,h2⟩=>⟨h1,hV.trans (h2.mono hV.size)⟩)
def ZC (n:Nat) (f s:Int):Bool:=decide (f < 0) || (decide ((n:Int) ≤ f) || (decide (s < 1) || decide (1000 < s)))
set_option maxRecDepth 100000 in
set_option maxHeartbeats 8000000 in
theorem zbt (Af:Option Addr) (cf:Nat) (l:List qO) (f s:Int) (qZ yt:Bool) (Ac:Option Addr) (cc:Nat) (chars:List ByteArray) (Ap:Option Addr) (cp:Nat) (pairs:List wB) (w:World) (hG:GW w) (hC:Kd.C Ye w Af l.length l) (hz:∀ x ∈ l,x.f3.length ≤ 1000000000 ∧ x.f4.length ≤ 1000000000 ∧ x.f5.length ≤ 1000000000) (hl:l.length ≤ 1000000000) (hS:Kd.C Kd.string w Ac chars.length chars) (hlc:chars.length ≤ 1000000000) (hP:Kd.C Vt w Ap pairs.length pairs) (hlp:pairs.length ≤ 1000000000) (h1:(l.any fun x=>!jY x) = true) :
  Calls Tryz.prog 13 #[.slice Af l.length cf,.agg #[.int .i64 f,.int .i64 s,.bool qZ,.bool yt],.slice Ac chars.length cc,.slice Ap pairs.length cp] w fun e w'=>e = .returned (.tuple #[.slice none 0 0,.slice none 0 0,.int .i64 1]) ∧ Below w.heap.size w w':=by
 have hF:=zvI Af cf l f s qZ yt Ac cc chars Ap cp pairs w hG hC hz hl hS hlc hP hlp
 have hQ:=zvL Af cf l f s qZ yt Ac cc chars Ap cp pairs w hG hC hz hl hS hlc hP hlp
 have hR:=zvM Af cf l f s qZ yt Ac cc chars Ap cp pairs w hG hC hz hl hS hlc hP hlp (w.heap.size + 1)
 have hb0:Below w.heap.size w ((w.alloc (.cells #[.int .i64 f,.int .i64 s,.bool qZ,.bool yt] 26)).alloc (.cells #[.func (.func 35) #[] #[]] 75)):=((Below.refl _ w).alloc (Nat.le_refl _) _).alloc (by simp) _
 have ZP:=yL (kF w (.cells #[.int .i64 f,.int .i64 s,.bool qZ,.bool yt] 26)) (.cells #[.func (.func 35) #[] #[]] 75)
 have hbad:Boxed ((w.alloc (.cells #[.int .i64 f,.int .i64 s,.bool qZ,.bool yt] 26)).alloc (.cells #[.func (.func 35) #[] #[]] 75)) (w.heap.size + 1) 75 (.func (.func 35) #[] #[]):=by
  have h:=Boxed.new (w.alloc (.cells #[.int .i64 f,.int .i64 s,.bool qZ,.bool yt] 26)) 75 (.func (.func 35) #[] #[])
  rwa [World.size_alloc] at h
 rw [h1] at hF
 have HT1:=zx.mk ZP
 have HD1:=zx.mk hbad
 have HB1:=zx.mk hb0
 have HF:=zx.mk hF
 have HQ:=zx.mk hQ
 have HR:=zx.mk hR
 clear ZP hbad hb0 hF hQ hR hG hC hz hS hP
 go_enter Tryz.func13,Tryz.ntmps13
 go_wp2_with fail
 refine (HF.out _ HB1.out).mono ?_;rintro e w2 ⟨rfl,hb2⟩
 go_wp2_with fail
 go_ret3
 exact ⟨rfl,HB1.out.trans (hb2.mono HB1.out.size)⟩
set_option maxRecDepth 100000 in
set_option maxHeartbeats 8000000 in
theorem zbu (Af:Option Addr) (cf:Nat) (l:List qO) (f s:Int) (qZ yt:Bool) (Ac:Option Addr) (cc:Nat) (chars:List ByteArray) (Ap:Option Addr) (cp:Nat) (pairs:List wB) (w:World) (hG:GW w) (hC:Kd.C Ye w Af l.length l) (hz:∀ x ∈ l,x.f3.length ≤ 1000000000 ∧ x.f4.length ≤ 1000000000 ∧ x.f5.length ≤ 1000000000) (hl:l.length ≤ 1000000000) (hS:Kd.C Kd.string w Ac chars.length chars) (hlc:chars.length ≤ 1000000000) (hP:Kd.C Vt w Ap pairs.length pairs) (hlp:pairs.length ≤ 1000000000) (h1:(l.any fun x=>!jY x) = false) (h2:ZC l.length f s = true) :
  Calls Tryz.prog 13 #[.slice Af l.length cf,.agg #[.int .i64 f,.int .i64 s,.bool qZ,.bool yt],.slice Ac chars.length cc,.slice Ap pairs.length cp] w fun e w'=>e = .returned (.tuple #[.slice none 0 0,.slice none 0 0,.int .i64 1]) ∧ Below w.heap.size w w':=by
 have hF:=zvI Af cf l f s qZ yt Ac cc chars Ap cp pairs w hG hC hz hl hS hlc hP hlp
 have hQ:=zvL Af cf l f s qZ yt Ac cc chars Ap cp pairs w hG hC hz hl hS hlc hP hlp
 have hR:=zvM Af cf l f s qZ yt Ac cc chars Ap cp pairs w hG hC hz hl hS hlc hP hlp (w.heap.size + 1)
 have hb0:Below w.heap.size w ((w.alloc (.cells #[.int .i64 f,.int .i64 s,.bool qZ,.bool yt] 26)).alloc (.cells #[.func (.func 35) #[] #[]] 75)):=((Below.refl _ w).alloc (Nat.le_refl _) _).alloc (by simp) _
 have ZP:=yL (kF w (.cells #[.int .i64 f,.int .i64 s,.bool qZ,.bool yt] 26)) (.cells #[.func (.func 35) #[] #[]] 75)
 have hbad:Boxed ((w.alloc (.cells #[.int .i64 f,.int .i64 s,.bool qZ,.bool yt] 26)).alloc (.cells #[.func (.func 35) #[] #[]] 75)) (w.heap.size + 1) 75 (.func (.func 35) #[] #[]):=by
  have h:=Boxed.new (w.alloc (.cells #[.int .i64 f,.int .i64 s,.bool qZ,.bool yt] 26)) 75 (.func (.func 35) #[] #[])
  rwa [World.size_alloc] at h
 rw [h1] at hF
 have HT1:=zx.mk ZP
 have HD1:=zx.mk hbad
 have HB1:=zx.mk hb0
 have HF:=zx.mk hF
 have HQ:=zx.mk hQ
 have HR:=zx.mk hR
 clear ZP hbad hb0 hF hQ hR hG hC hz hS hP
 go_enter Tryz.func13,Tryz.ntmps13
 go_wp2_with fail
 refine (HF.out _ HB1.out).mono ?_;rintro e w2 ⟨rfl,hb2⟩
 have HT2:=zx.mk (zU HT1.out hb2)
 have HD2:=zx.mk (zU HD1.out hb2)
 have HB2:=zx.mk (HB1.out.trans (hb2.mono HB1.out.size))
 clear hb2
 have a2:w2.cell? ⟨w.heap.size,0,none⟩ = some (.int .i64 f):=(zQ HT2.out 0).trans rfl
 have b2:w2.cell? ⟨w.heap.size,1,none⟩ = some (.int .i64 s):=(zQ HT2.out 1).trans rfl
 have c2:w2.cell? ⟨w.heap.size + 1,0,none⟩ = some (.func (.func 35) #[] #[]):=(zQ HD2.out 0).trans rfl
 by_cases g1:f < 0
 ·have d1:decide (f < 0) = true:=decide_eq_true g1
  clear h2
  go_wp2_with fail
  go_ret3
  exact ⟨rfl,HB2.out⟩
 have d1:decide (f < 0) = false:=decide_eq_false g1
 by_cases g2:(l.length:Int) ≤ f
 ·have d2:decide ((l.length:Int) ≤ f) = true:=decide_eq_true g2
  clear h2
  go_wp2_with fail
  go_ret3
  exact ⟨rfl,HB2.out⟩
 have d2:decide ((l.length:Int) ≤ f) = false:=decide_eq_false g2
 by_cases g3:s < 1
 ·have d3:decide (s < 1) = true:=decide_eq_true g3
  clear h2
  go_wp2_with fail
  go_ret3
  exact ⟨rfl,HB2.out⟩
 have d3:decide (s < 1) = false:=decide_eq_false g3
 have g4:1000 < s:=by
  unfold ZC at h2
  simp only [d1,d2,d3,Bool.false_or,decide_eq_true_eq] at h2
  exact h2
 have d4:decide (1000 < s) = true:=decide_eq_true g4
 clear h2
 go_wp2_with fail
 go_ret3
 exact ⟨rfl,HB2.out⟩
set_option maxRecDepth 100000 in
set_option maxHeartbeats 8000000 in
theorem zbA (Af:Option Addr) (cf:Nat) (l:List qO) (f s:Int) (qZ yt:Bool) (Ac:Option Addr) (cc:Nat) (chars:List ByteArray) (Ap:Option Addr) (cp:Nat) (pairs:List wB) (w:World) (hG:GW w) (hC:Kd.C Ye w Af l.length l) (hz:∀ x ∈ l,x.f3.length ≤ 1000000000 ∧ x.f4.length ≤ 1000000000 ∧ x.f5.length ≤ 1000000000) (hl:l.length ≤ 1000000000) (hS:Kd.C Kd.string w Ac chars.length chars) (hlc:chars.length ≤ 1000000000) (hP:Kd.C Vt w Ap pairs.length pairs) (hlp:pairs.length ≤ 1000000000) (h1:(l.any fun x=>!jY x) = false) (h2:ZC l.length f s = false) (h3:2000 < chars.length ∨ 100 < pairs.length) :
  Calls Tryz.prog 13 #[.slice Af l.length cf,.agg #[.int .i64 f,.int .i64 s,.bool qZ,.bool yt],.slice Ac chars.length cc,.slice Ap pairs.length cp] w fun e w'=>e = .returned (.tuple #[.slice none 0 0,.slice none 0 0,.int .i64 1]) ∧ Below w.heap.size w w':=by
 have d1:decide (f < 0) = false:=by cases h:decide (f < 0) with | false=>rfl | true=>(unfold ZC at h2;rw [h,Bool.true_or] at h2;cases h2)
 have d2:decide ((l.length:Int) ≤ f) = false:=by cases h:decide ((l.length:Int) ≤ f) with | false=>rfl | true=>(unfold ZC at h2;rw [h,Bool.true_or,Bool.or_true] at h2;cases h2)
 have d3:decide (s < 1) = false:=by cases h:decide (s < 1) with | false=>rfl | true=>(unfold ZC at h2;rw [h,Bool.true_or,Bool.or_true,Bool.or_true] at h2;cases h2)
 have d4:decide (1000 < s) = false:=by cases h:decide (1000 < s) with | false=>rfl | true=>(unfold ZC at h2;rw [h,Bool.or_true,Bool.or_true,Bool.or_true] at h2;cases h2)
 have r1:=of_decide_eq_false d1
 have r2:=of_decide_eq_false d2
 have r3:=of_decide_eq_false d3
 have r4:=of_decide_eq_false d4
 clear h2
 have hF:=zvI Af cf l f s qZ yt Ac cc chars Ap cp pairs w hG hC hz hl hS hlc hP hlp
 have hQ:=zvL Af cf l f s qZ yt Ac cc chars Ap cp pairs w hG hC hz hl hS hlc hP hlp
 have hR:=zvM Af cf l f s qZ yt Ac cc chars Ap cp pairs w hG hC hz hl hS hlc hP hlp (w.heap.size + 1)
 have hb0:Below w.heap.size w ((w.alloc (.cells #[.int .i64 f,.int .i64 s,.bool qZ,.bool yt] 26)).alloc (.cells #[.func (.func 35) #[] #[]] 75)):=((Below.refl _ w).alloc (Nat.le_refl _) _).alloc (by simp) _
 have ZP:=yL (kF w (.cells #[.int .i64 f,.int .i64 s,.bool qZ,.bool yt] 26)) (.cells #[.func (.func 35) #[] #[]] 75)
 have hbad:Boxed ((w.alloc (.cells #[.int .i64 f,.int .i64 s,.bool qZ,.bool yt] 26)).alloc (.cells #[.func (.func 35) #[] #[]] 75)) (w.heap.size + 1) 75 (.func (.func 35) #[] #[]):=by
  have h:=Boxed.new (w.alloc (.cells #[.int .i64 f,.int .i64 s,.bool qZ,.bool yt] 26)) 75 (.func (.func 35) #[] #[])
  rwa [World.size_alloc] at h
 rw [h1] at hF
 have HT1:=zx.mk ZP
 have HD1:=zx.mk hbad
 have HB1:=zx.mk hb0
 have HF:=zx.mk hF
 have HQ:=zx.mk hQ
 have HR:=zx.mk hR
 clear ZP hbad hb0 hF hQ hR hG hC hz hS hP
 go_enter Tryz.func13,Tryz.ntmps13
 go_wp2_with fail
 refine (HF.out _ HB1.out).mono ?_;rintro e w2 ⟨rfl,hb2⟩
 have HT2:=zx.mk (zU HT1.out hb2)
 have HD2:=zx.mk (zU HD1.out hb2)
 have HB2:=zx.mk (HB1.out.trans (hb2.mono HB1.out.size))
 clear hb2
 have a2:w2.cell? ⟨w.heap.size,0,none⟩ = some (.int .i64 f):=(zQ HT2.out 0).trans rfl
 have b2:w2.cell? ⟨w.heap.size,1,none⟩ = some (.int .i64 s):=(zQ HT2.out 1).trans rfl
 have c2:w2.cell? ⟨w.heap.size + 1,0,none⟩ = some (.func (.func 35) #[] #[]):=(zQ HD2.out 0).trans rfl
 by_cases g5:2000 < chars.length
 ·have d5:decide ((2000:Int) < (chars.length:Int)) = true:=decide_eq_true (by omega)
  have d5':decide (2000 < chars.length) = true:=decide_eq_true g5
  clear h3
  go_wp2_with fail
  go_ret3
  exact ⟨rfl,HB2.out⟩
 have d5:decide ((2000:Int) < (chars.length:Int)) = false:=decide_eq_false (by omega)
 have g6:100 < pairs.length:=by omega
 have d6:decide ((100:Int) < (pairs.length:Int)) = true:=decide_eq_true (by omega)
 clear h3
 go_wp2_with fail
 go_ret3
 exact ⟨rfl,HB2.out⟩
set_option maxRecDepth 100000 in
set_option maxHeartbeats 8000000 in
theorem zbB (Af:Option Addr) (cf:Nat) (l:List qO) (f s:Int) (qZ yt:Bool) (Ac:Option Addr) (cc:Nat) (chars:List ByteArray) (Ap:Option Addr) (cp:Nat) (pairs:List wB) (w:World) (hG:GW w) (hC:Kd.C Ye w Af l.length l) (hz:∀ x ∈ l,x.f3.length ≤ 1000000000 ∧ x.f4.length ≤ 1000000000 ∧ x.f5.length ≤ 1000000000) (hl:l.length ≤ 1000000000) (hS:Kd.C Kd.string w Ac chars.length chars) (hlc:chars.length ≤ 1000000000) (hP:Kd.C Vt w Ap pairs.length pairs) (hlp:pairs.length ≤ 1000000000) (h1:(l.any fun x=>!jY x) = false) (h2:ZC l.length f s = false) (h3:chars.length ≤ 2000) (h3':pairs.length ≤ 100) (h4:chars.any ZN = true) :
  Calls Tryz.prog 13 #[.slice Af l.length cf,.agg #[.int .i64 f,.int .i64 s,.bool qZ,.bool yt],.slice Ac chars.length cc,.slice Ap pairs.length cp] w fun e w'=>e = .returned (.tuple #[.slice none 0 0,.slice none 0 0,.int .i64 1]) ∧ Below w.heap.size w w':=by
 have d1:decide (f < 0) = false:=by cases h:decide (f < 0) with | false=>rfl | true=>(unfold ZC at h2;rw [h,Bool.true_or] at h2;cases h2)
 have d2:decide ((l.length:Int) ≤ f) = false:=by cases h:decide ((l.length:Int) ≤ f) with | false=>rfl | true=>(unfold ZC at h2;rw [h,Bool.true_or,Bool.or_true] at h2;cases h2)
 have d3:decide (s < 1) = false:=by cases h:decide (s < 1) with | false=>rfl | true=>(unfold ZC at h2;rw [h,Bool.true_or,Bool.or_true,Bool.or_true] at h2;cases h2)
 have d4:decide (1000 < s) = false:=by cases h:decide (1000 < s) with | false=>rfl | true=>(unfold ZC at h2;rw [h,Bool.or_true,Bool.or_true,Bool.or_true] at h2;cases h2)
 have r1:=of_decide_eq_false d1
 have r2:=of_decide_eq_false d2
 have r3:=of_decide_eq_false d3
 have r4:=of_decide_eq_false d4
 clear h2
 have d5:decide ((2000:Int) < (chars.length:Int)) = false:=decide_eq_false (by omega)
 have d6:decide ((100:Int) < (pairs.length:Int)) = false:=decide_eq_false (by omega)
 have hF:=zvI Af cf l f s qZ yt Ac cc chars Ap cp pairs w hG hC hz hl hS hlc hP hlp
 have hQ:=zvL Af cf l f s qZ yt Ac cc chars Ap cp pairs w hG hC hz hl hS hlc hP hlp
 have hR:=zvM Af cf l f s qZ yt Ac cc chars Ap cp pairs w hG hC hz hl hS hlc hP hlp (w.heap.size + 1)
 have hb0:Below w.heap.size w ((w.alloc (.cells #[.int .i64 f,.int .i64 s,.bool qZ,.bool yt] 26)).alloc (.cells #[.func (.func 35) #[] #[]] 75)):=((Below.refl _ w).alloc (Nat.le_refl _) _).alloc (by simp) _
 have ZP:=yL (kF w (.cells #[.int .i64 f,.int .i64 s,.bool qZ,.bool yt] 26)) (.cells #[.func (.func 35) #[] #[]] 75)
 have hbad:Boxed ((w.alloc (.cells #[.int .i64 f,.int .i64 s,.bool qZ,.bool yt] 26)).alloc (.cells #[.func (.func 35) #[] #[]] 75)) (w.heap.size + 1) 75 (.func (.func 35) #[] #[]):=by
  have h:=Boxed.new (w.alloc (.cells #[.int .i64 f,.int .i64 s,.bool qZ,.bool yt] 26)) 75 (.func (.func 35) #[] #[])
  rwa [World.size_alloc] at h
 rw [h1] at hF
 rw [h4] at hQ
 have HT1:=zx.mk ZP
 have HD1:=zx.mk hbad
 have HB1:=zx.mk hb0
 have HF:=zx.mk hF
 have HQ:=zx.mk hQ
 have HR:=zx.mk hR
 clear ZP hbad hb0 hF hQ hR hG hC hz hS hP
 go_enter Tryz.func13,Tryz.ntmps13
 go_wp2_with fail
 refine (HF.out _ HB1.out).mono ?_;rintro e w2 ⟨rfl,hb2⟩
 have HT2:=zx.mk (zU HT1.out hb2)
 have HD2:=zx.mk (zU HD1.out hb2)
 have HB2:=zx.mk (HB1.out.trans (hb2.mono HB1.out.size))
 clear hb2
 have a2:w2.cell? ⟨w.heap.size,0,none⟩ = some (.int .i64 f):=(zQ HT2.out 0).trans rfl
 have b2:w2.cell? ⟨w.heap.size,1,none⟩ = some (.int .i64 s):=(zQ HT2.out 1).trans rfl
 have c2:w2.cell? ⟨w.heap.size + 1,0,none⟩ = some (.func (.func 35) #[] #[]):=(zQ HD2.out 0).trans rfl
 go_wp2_with fail
 refine (HQ.out _ HB2.out).mono ?_;rintro e w3 ⟨rfl,hb3⟩
 go_wp2_with fail
 go_ret3
 exact ⟨rfl,HB2.out.trans (hb3.mono HB2.out.size)⟩
set_option maxRecDepth 100000 in
set_option maxHeartbeats 8000000 in
theorem zbC (Af:Option Addr) (cf:Nat) (l:List qO) (f s:Int) (qZ yt:Bool) (Ac:Option Addr) (cc:Nat) (chars:List ByteArray) (Ap:Option Addr) (cp:Nat) (pairs:List wB) (w:World) (hG:GW w) (hC:Kd.C Ye w Af l.length l) (hz:∀ x ∈ l,x.f3.length ≤ 1000000000 ∧ x.f4.length ≤ 1000000000 ∧ x.f5.length ≤ 1000000000) (hl:l.length ≤ 1000000000) (hS:Kd.C Kd.string w Ac chars.length chars) (hlc:chars.length ≤ 1000000000) (hP:Kd.C Vt w Ap pairs.length pairs) (hlp:pairs.length ≤ 1000000000) (h1:(l.any fun x=>!jY x) = false) (h2:ZC l.length f s = false) (h3:chars.length ≤ 2000) (h3':pairs.length ≤ 100) (h4:chars.any ZN = false) (h5:pairs.any PU = true) :
  Calls Tryz.prog 13 #[.slice Af l.length cf,.agg #[.int .i64 f,.int .i64 s,.bool qZ,.bool yt],.slice Ac chars.length cc,.slice Ap pairs.length cp] w fun e w'=>e = .returned (.tuple #[.slice none 0 0,.slice none 0 0,.int .i64 1]) ∧ Below w.heap.size w w':=by
 have d1:decide (f < 0) = false:=by cases h:decide (f < 0) with | false=>rfl | true=>(unfold ZC at h2;rw [h,Bool.true_or] at h2;cases h2)
 have d2:decide ((l.length:Int) ≤ f) = false:=by cases h:decide ((l.length:Int) ≤ f) with | false=>rfl | true=>(unfold ZC at h2;rw [h,Bool.true_or,Bool.or_true] at h2;cases h2)
 have d3:decide (s < 1) = false:=by cases h:decide (s < 1) with | false=>rfl | true=>(unfold ZC at h2;rw [h,Bool.true_or,Bool.or_true,Bool.or_true] at h2;cases h2)
 have d4:decide (1000 < s) = false:=by cases h:decide (1000 < s) with | false=>rfl | true=>(unfold ZC at h2;rw [h,Bool.or_true,Bool.or_true,Bool.or_true] at h2;cases h2)
 have r1:=of_decide_eq_false d1
 have r2:=of_decide_eq_false d2
 have r3:=of_decide_eq_false d3
 have r4:=of_decide_eq_false d4
 clear h2
 have d5:decide ((2000:Int) < (chars.length:Int)) = false:=decide_eq_false (by omega)
 have d6:decide ((100:Int) < (pairs.length:Int)) = false:=decide_eq_false (by omega)
 have hF:=zvI Af cf l f s qZ yt Ac cc chars Ap cp pairs w hG hC hz hl hS hlc hP hlp
 have hQ:=zvL Af cf l f s qZ yt Ac cc chars Ap cp pairs w hG hC hz hl hS hlc hP hlp
 have hR:=zvM Af cf l f s qZ yt Ac cc chars Ap cp pairs w hG hC hz hl hS hlc hP hlp (w.heap.size + 1)
 have hb0:Below w.heap.size w ((w.alloc (.cells #[.int .i64 f,.int .i64 s,.bool qZ,.bool yt] 26)).alloc (.cells #[.func (.func 35) #[] #[]] 75)):=((Below.refl _ w).alloc (Nat.le_refl _) _).alloc (by simp) _
 have ZP:=yL (kF w (.cells #[.int .i64 f,.int .i64 s,.bool qZ,.bool yt] 26)) (.cells #[.func (.func 35) #[] #[]] 75)
 have hbad:Boxed ((w.alloc (.cells #[.int .i64 f,.int .i64 s,.bool qZ,.bool yt] 26)).alloc (.cells #[.func (.func 35) #[] #[]] 75)) (w.heap.size + 1) 75 (.func (.func 35) #[] #[]):=by
  have h:=Boxed.new (w.alloc (.cells #[.int .i64 f,.int .i64 s,.bool qZ,.bool yt] 26)) 75 (.func (.func 35) #[] #[])
  rwa [World.size_alloc] at h
 rw [h1] at hF
 rw [h4] at hQ
 rw [h5] at hR
 have HT1:=zx.mk ZP
 have HD1:=zx.mk hbad
 have HB1:=zx.mk hb0
 have HF:=zx.mk hF
 have HQ:=zx.mk hQ
 have HR:=zx.mk hR
 clear ZP hbad hb0 hF hQ hR hG hC hz hS hP
 go_enter Tryz.func13,Tryz.ntmps13
 go_wp2_with fail
 refine (HF.out _ HB1.out).mono ?_;rintro e w2 ⟨rfl,hb2⟩
 have HT2:=zx.mk (zU HT1.out hb2)
 have HD2:=zx.mk (zU HD1.out hb2)
 have HB2:=zx.mk (HB1.out.trans (hb2.mono HB1.out.size))
 clear hb2
 have a2:w2.cell? ⟨w.heap.size,0,none⟩ = some (.int .i64 f):=(zQ HT2.out 0).trans rfl
 have b2:w2.cell? ⟨w.heap.size,1,none⟩ = some (.int .i64 s):=(zQ HT2.out 1).trans rfl
 have c2:w2.cell? ⟨w.heap.size + 1,0,none⟩ = some (.func (.func 35) #[] #[]):=(zQ HD2.out 0).trans rfl
 go_wp2_with fail
 refine (HQ.out _ HB2.out).mono ?_;rintro e w3 ⟨rfl,hb3⟩
 have HT3:=zx.mk (zU HT2.out hb3)
 have HD3:=zx.mk (zU HD2.out hb3)
 have HB3:=zx.mk (HB2.out.trans (hb3.mono HB2.out.size))
 clear hb3
 have a3:w3.cell? ⟨w.heap.size,0,none⟩ = some (.int .i64 f):=(zQ HT3.out 0).trans rfl
 have b3:w3.cell? ⟨w.heap.size,1,none⟩ = some (.int .i64 s):=(zQ HT3.out 1).trans rfl
 have c3:w3.cell? ⟨w.heap.size + 1,0,none⟩ = some (.func (.func 35) #[] #[]):=(zQ HD3.out 0).trans rfl
 go_wp2_with fail
 refine (HR.out _ HB3.out c3).mono ?_;rintro e w4 ⟨rfl,hb4⟩
 go_wp2_with fail
 go_ret3
 exact ⟨rfl,HB3.out.trans (hb4.mono HB3.out.size)⟩
theorem zx8 (l:List qO) (f s:Int) (chars:List ByteArray) (pairs:List wB):ZW l f s chars pairs = ((l.any fun x=>!jY x) || ZC l.length f s || (decide (2000 < chars.length) || decide (100 < pairs.length)) || chars.any ZN || pairs.any PU):=by
 unfold ZW ZC
 simp only [Bool.or_assoc]
set_option maxRecDepth 100000 in
set_option maxHeartbeats 8000000 in
theorem zbD (Af:Option Addr) (cf:Nat) (l:List qO) (f s:Int) (qZ yt:Bool) (Ac:Option Addr) (cc:Nat) (chars:List ByteArray) (Ap:Option Addr) (cp:Nat) (pairs:List wB) (w:World) (hG:GW w) (hC:Kd.C Ye w Af l.length l) (hz:∀ x ∈ l,x.f3.length ≤ 1000000000 ∧ x.f4.length ≤ 1000000000 ∧ x.f5.length ≤ 1000000000) (hl:l.length ≤ 1000000000) (hS:Kd.C Kd.string w Ac chars.length chars) (hlc:chars.length ≤ 1000000000) (hP:Kd.C Vt w Ap pairs.length pairs) (hlp:pairs.length ≤ 1000000000) (h:ZW l f s chars pairs = true) :
  Calls Tryz.prog 13 #[.slice Af l.length cf,.agg #[.int .i64 f,.int .i64 s,.bool qZ,.bool yt],.slice Ac chars.length cc,.slice Ap pairs.length cp] w fun e w'=>e = .returned (.tuple #[.slice none 0 0,.slice none 0 0,.int .i64 1]) ∧ Below w.heap.size w w':=by
 rw [zx8] at h
 cases h1:l.any fun x=>!jY x with
 | true=>exact zbt Af cf l f s qZ yt Ac cc chars Ap cp pairs w hG hC hz hl hS hlc hP hlp h1
 | false =>
 cases h2:ZC l.length f s with
 | true=>exact zbu Af cf l f s qZ yt Ac cc chars Ap cp pairs w hG hC hz hl hS hlc hP hlp h1 h2
 | false =>
 by_cases h3:2000 < chars.length ∨ 100 < pairs.length
 ·exact zbA Af cf l f s qZ yt Ac cc chars Ap cp pairs w hG hC hz hl hS hlc hP hlp h1 h2 h3
 cases h4:chars.any ZN with
 | true=>exact zbB Af cf l f s qZ yt Ac cc chars Ap cp pairs w hG hC hz hl hS hlc hP hlp h1 h2 (by omega) (by omega) h4
 | false =>
 rw [h1,h2,h4,decide_eq_false (by omega:¬ 2000 < chars.length),decide_eq_false (by omega:¬ 100 < pairs.length)] at h
 exact zbC Af cf l f s qZ yt Ac cc chars Ap cp pairs w hG hC hz hl hS hlc hP hlp h1 h2 (by omega) (by omega) h4 (by simpa using h)
end Go.Proofs.YtggifbbiiickmaaGreatDoor
namespace Go.Proofs.YtggifbbiiickmaaGreatDoor
open Go.RowKit Go.Shelf Go.Proofs.zk.zA Go.Proofs.zk.yB Go.Proofs.zk.yA Go.Proofs.YtggifbbiiickmaaGreatDoor.PX Go.Proofs.YtggifbbiiickmaaGreatDoor.zx6
set_option linter.unusedSimpArgs false
set_option linter.unusedVariables false
attribute [local go_sem] Oper.semAt_some
theorem zXw {P:Program} {c:Code} {K:Act → World → Prop} {Q':Exit → Act → World → Prop} {a:Act} {w:World} (h:c.wp P (Exit.then K (fun _ _ _=>False)) a w):c.wp P (Exit.then K Q') a w:=by
 refine wp_mono h ?_
 intro e a' w' hq
 cases e with
 | normal=>exact hq
 | _=>exact hq.elim
theorem zzY {s:ByteArray} (h:ZN s = false):s.size ≤ 10:=by
 unfold ZN Zc at h
 simp only [Bool.not_eq_false',Bool.and_eq_true,decide_eq_true_eq] at h
 have h1:=h.2.1
 rwa [show s.data.toList.length = s.size from Array.length_toList] at h1
theorem below_grown {n:Nat} {A B:World} {row:Nat} (h:A.grownBy B (some row)) (hr:n ≤ row) (hn:n ≤ A.heap.size):Below n A B :=
 ⟨h.os,h.tape,h.output,h.size,fun k hk=>h.block k (by omega) (fun e=>by injection e;omega)⟩
theorem zvN {W W':World} {m n:Nat} {f:ByteArray → Option ByteArray} {P:Program} {k e:TypeId} (h:W'.heap[m]? = W.heap[m]?) (hm:SMap P k e W m n f):SMap P k e W' m n f:=by
 obtain ⟨D,⟨es,clock,hb,F,h1,h2⟩,h3,h4⟩:=hm
 exact ⟨D,⟨es,clock,h.trans hb,F,h1,h2⟩,h3,h4⟩
def zq6 (m base:Nat) (w4:World) (pre:List BkP) (W:World):Prop:=SMap Tryz.prog 9 9 W m pre.length (zzV pre) ∧ Boxed W (m + 1) 82 (.map (some m)) ∧ Below m w4 W ∧ base ≤ W.heap.size
theorem zbE (m base:Nat) (w4:World) (hm:m ≤ w4.heap.size) (hb:m + 1 < base):OwnFrom base (zq6 m base w4):=by
 rintro pre A B row ⟨h1,h2,h3,h4⟩ hg hr
 exact ⟨h1.kept hg (fun e=>by have:=(hr _ e.symm).1;omega),h2.kept hg (fun e=>by have:=(hr _ e.symm).1;omega),ownFrom_below (β:=Unit) hm (by omega) () A B row h3 hg hr,Nat.le_trans h4 hg.size⟩
theorem zbF (m base:Nat) (w4:World) (hm:m + 1 + 1 < base):Yl (m + 1 + 1) (zq6 m base w4):=by
 rintro pre W u ⟨h1,h2,h3,h4⟩
 exact ⟨h1.kept (grownBy_setCell' W (m + 1 + 1) u) (fun e=>by injection e;omega),h2.other (by omega) u,h3.setCell (p:=⟨m + 1 + 1,0,none⟩) (by show m ≤ m + 1 + 1;omega) u,by simpa using h4⟩
theorem zKA {m base:Nat} {w4 W:World} {pre:List BkP} (h:zq6 m base w4 pre W) (o:Obj):zq6 m base w4 pre (W.alloc o) :=
 ⟨h.1.kept (World.grownBy_alloc _ _ none) (by simp),h.2.1.alloc _,h.2.2.1.alloc (Nat.le_trans (Nat.le_of_lt h.1.lt) (Nat.le_refl _)) _,Nat.le_trans h.2.2.2 (by simp)⟩
theorem zbG {m base:Nat} {w4 W W':World} {pre:List BkP} {x:BkP} (h:zq6 m base w4 pre W) (hm:SMap Tryz.prog 9 9 W' m (pre.length + 1) (fun s=>if s = x.2.1.f0 then some x.2.1.f1 else zzV pre s)) (hg:W.grownBy W' (some m)):zq6 m base w4 (pre ++ [x]) W':=by
 refine ⟨?_,h.2.1.kept hg (fun e=>by injection e;omega),h.2.2.1.trans (below_grown hg (Nat.le_refl _) (Nat.le_of_lt h.1.lt)),Nat.le_trans h.2.2.2 hg.size⟩
 rw [zWc,List.length_append]
 exact hm
def boxes.T19:Bool × List (List Nat × List Nat):=(true,[([],[]),([],[]),([1],[1]),([0,2],[0,2]),([3],[3]),([],[]),([],[]),([],[]),([],[]),([8],[8]),([7,9],[7,9]),([10],[10]),([6,11],[6,11]),([4,5,12,12],[4,5,12]),([13],[13]),([14],[14]),([14],[14]),([15,13,0,1,2,3,4,5,6,7,8,9,10,11,12,13,14,15],[15]),([16,17,0,1,2,3,4,5,6,7,8,9,10,11,12,13,14,15,16,17],[16])])
def boxes.B19:List Nat:=[0,0,2,7,15,0,0,0,0,256,896,1920,4032,8191,16383,32767,32767,65535,262143]
theorem boxes.XY:vR .any (opsOf Tryz.f13 19) = boxes.T19:=by kernel_rfl
theorem boxes.Yx:uV boxes.T19.2 boxes.B19 = true:=by kernel_rfl
def boxes.T24:Bool × List (List Nat × List Nat):=(true,[([],[]),([0],[0]),([1],[1]),([2],[2]),([],[]),([4],[4]),([5],[5]),([6],[6]),([3,0,1,2,3],[3]),([7,8,0,1,2,3,4,5,6,7,8],[7]),([9,0,1,2,3,4,5,6,7,8,9],[])])
def boxes.B24:List Nat:=[0,1,3,7,0,16,48,112,15,511,1023]
theorem boxes.zl0:vR .any (opsOf Tryz.f13 24) = boxes.T24:=by kernel_rfl
theorem boxes.zhs:uV boxes.T24.2 boxes.B24 = true:=by kernel_rfl
theorem zfh (w0:World) (base g:Nat) (Af:Option Addr) (cf:Nat) (l:List qO) (f s:Int) (qZ yt:Bool) (st:List wV × List ByteArray) (n:ByteArray) (w:World) (hG:GW w0) (hC:Kd.C Ye w0 Af l.length l) (hl:l.length ≤ 1000000000) (hf0:0 ≤ f) (hf1:f < (l.length:Int)) (hv:∀ x ∈ l,jY x = true) (hgb:g < base) (hb:base ≤ w.heap.size) (hg0:w0.heap.size ≤ g) (hw:Below w0.heap.size w0 w) (hlo:st.1.length ≤ 1000000) (hll:st.2.length ≤ 1000000) (hs0:1 ≤ s) (hs1:s ≤ 1000) (hS:PW base g w Af cf l f s qZ yt st) :
  Calls Tryz.prog 46 #[.pointer (some ⟨g,0,none⟩),.string n] w fun e w'=>(∃ v,e = .returned v) ∧ PW base g w' Af cf l f s qZ yt (Yp l f s yt st n) ∧ jN base g w w':=by
 obtain ⟨vo,vl,hS⟩:=hS
 unfold Yp
 by_cases h:kR l f n < 0
 ·rw [if_pos h]
  exact zhp w0 base g Af cf l f s qZ yt st n w hG hC hl hf0 hf1 hv hgb hb hg0 hw hlo hll vo vl hS h
 ·rw [if_neg h]
  exact zfd w0 base g Af cf l f s qZ yt st n w hG hC hl hf0 hf1 hv hgb hb hg0 hw hlo hll vo vl hS (by omega) hs0 hs1
theorem zWe (l:List qO) (s:Int) (yt:Bool) (out:List wV) (a:Int) (n:ByteArray):(Zn l s yt out a n).length ≤ 1:=by
 unfold Zn
 repeat' split
 all_goals first | exact Nat.zero_le _ | exact Nat.le_refl _
theorem zy4 (l:List qO) (f s:Int) (yt:Bool) (st:List wV × List ByteArray) (n:ByteArray):(Yp l f s yt st n).1.length ≤ st.1.length + 2 ∧ (Yp l f s yt st n).2.length ≤ st.2.length + 1:=by
 unfold Yp
 split
 ·simp
 ·have:=zWe l s yt st.1 (kR l f n) n
  simp only [List.length_append,List.length_cons,List.length_nil]
  omega
def Qz (J:ByteArray → ByteArray → ByteArray × Bool) (qZ:Bool) (A:List ByteArray) (k:Nat):List ByteArray:=if qZ then kU J (A.drop k) else A.drop k
theorem zwJ (J:ByteArray → ByteArray → ByteArray × Bool) (A:List ByteArray) (k:Nat) (h:k < A.length):Qz J false A k = A[k] :: Qz J false A (k + 1):=by
 unfold Qz
 rw [if_neg Bool.false_ne_true,if_neg Bool.false_ne_true,List.drop_eq_getElem_cons h]
theorem zx9 (J:ByteArray → ByteArray → ByteArray × Bool) (A:List ByteArray) (k j:Nat) (c:ByteArray) (h:k < A.length) (hj:YH J A[k] (A.drop (k + 1)) = (c,A.drop (j + 1))):Qz J true A k = c :: Qz J true A (j + 1):=by
 unfold Qz
 rw [if_pos rfl,if_pos rfl,List.drop_eq_getElem_cons h,kU,hj]
theorem zbH (J:ByteArray → ByteArray → ByteArray × Bool) (A:List ByteArray) (j:Nat) (c:ByteArray) (h:A.length ≤ j + 1):YH J c (A.drop (j + 1)) = (c,A.drop (j + 1)):=by
 rw [List.drop_eq_nil_of_le h];rfl
theorem zWf (J:ByteArray → ByteArray → ByteArray × Bool) (A:List ByteArray) (j:Nat) (c:ByteArray) (h:j + 1 < A.length) (hn:(J c A[j + 1]).2 = false):YH J c (A.drop (j + 1)) = (c,A.drop (j + 1)):=by
 rw [List.drop_eq_getElem_cons h,YH,if_neg (by rw [hn];exact Bool.false_ne_true)]
theorem zfi (J:ByteArray → ByteArray → ByteArray × Bool) (A:List ByteArray) (j:Nat) (c:ByteArray) (h:j + 1 < A.length) (hy:(J c A[j + 1]).2 = true):YH J c (A.drop (j + 1)) = YH J (J c A[j + 1]).1 (A.drop (j + 1 + 1)):=by
 rw [List.drop_eq_getElem_cons h,YH,if_pos hy]
theorem zko {tmps:Array Value} {W:World} {v0 v1 v2:Value} (h0:tmps.getD 8 undef = v0) (h1:tmps.getD 9 undef = v1) (h2:tmps.getD 10 undef = v2):(results Tryz.f13 tmps).run Tryz.prog W = .ok (.tuple #[v0,v1,v2]) W:=by
 subst h0 h1 h2
 simp [results,Tryz.f13,go_sem]
set_option maxRecDepth 100000 in
set_option maxHeartbeats 8000000 in
theorem zWg (Af:Option Addr) (cf:Nat) (l:List qO) (f s:Int) (qZ yt:Bool) (Ac:Option Addr) (cc:Nat) (chars:List ByteArray) (Ap:Option Addr) (cp:Nat) (pairs:List wB) (w:World) (hG:GW w) (hC:Kd.C Ye w Af l.length l) (hz:∀ x ∈ l,x.f3.length ≤ 1000000000 ∧ x.f4.length ≤ 1000000000 ∧ x.f5.length ≤ 1000000000) (hl:l.length ≤ 1000000000) (hS:Kd.C Kd.string w Ac chars.length chars) (hlc:chars.length ≤ 1000000000) (hP:Kd.C Vt w Ap pairs.length pairs) (hlp:pairs.length ≤ 1000000000) (h1:(l.any fun x=>!jY x) = false) (h2:ZC l.length f s = false) (h3:chars.length ≤ 2000) (h3':pairs.length ≤ 100) (h4:chars.any ZN = false) (h5:pairs.any PU = false) :
  Calls Tryz.prog 13 #[.slice Af l.length cf,.agg #[.int .i64 f,.int .i64 s,.bool qZ,.bool yt],.slice Ac chars.length cc,.slice Ap pairs.length cp] w fun e w'=>∃ v0 v1,e = .returned (.tuple #[v0,v1,.int .i64 0]) ∧ Kd.S X8 53 w' w.heap.size (fun _=>True) v0 (Vj l f s yt (YI l f qZ chars pairs)).1 ∧ Kd.R Kd.string 9 w' w.heap.size (fun _=>True) v1 (Vj l f s yt (YI l f qZ chars pairs)).2 ∧ Below w.heap.size w w':=by
 have hps:∀ p ∈ pairs,p.f0.size ≤ maxLen ∧ p.f1.size ≤ maxLen:=fun p hp=>by
  have h:=List.any_eq_false.1 h5 p hp
  simp only [PU,Bool.or_eq_true,not_or,Bool.not_eq_true] at h
  have a1:=zzY h.1
  have a2:=zzY h.2
  unfold maxLen
  omega
 have d1:decide (f < 0) = false:=by cases h:decide (f < 0) with | false=>rfl | true=>(unfold ZC at h2;rw [h,Bool.true_or] at h2;cases h2)
 have d2:decide ((l.length:Int) ≤ f) = false:=by cases h:decide ((l.length:Int) ≤ f) with | false=>rfl | true=>(unfold ZC at h2;rw [h,Bool.true_or,Bool.or_true] at h2;cases h2)
 have d3:decide (s < 1) = false:=by cases h:decide (s < 1) with | false=>rfl | true=>(unfold ZC at h2;rw [h,Bool.true_or,Bool.or_true,Bool.or_true] at h2;cases h2)
 have d4:decide (1000 < s) = false:=by cases h:decide (1000 < s) with | false=>rfl | true=>(unfold ZC at h2;rw [h,Bool.or_true,Bool.or_true,Bool.or_true] at h2;cases h2)
 have r1:=of_decide_eq_false d1
 have r2:=of_decide_eq_false d2
 have r3:=of_decide_eq_false d3
 have r4:=of_decide_eq_false d4
 clear h2
 have d5:decide ((2000:Int) < (chars.length:Int)) = false:=decide_eq_false (by omega)
 have d6:decide ((100:Int) < (pairs.length:Int)) = false:=decide_eq_false (by omega)
 have hF:=zvI Af cf l f s qZ yt Ac cc chars Ap cp pairs w hG hC hz hl hS hlc hP hlp
 have hQ:=zvL Af cf l f s qZ yt Ac cc chars Ap cp pairs w hG hC hz hl hS hlc hP hlp
 have hR:=zvM Af cf l f s qZ yt Ac cc chars Ap cp pairs w hG hC hz hl hS hlc hP hlp (w.heap.size + 1)
 have hb0:Below w.heap.size w ((w.alloc (.cells #[.int .i64 f,.int .i64 s,.bool qZ,.bool yt] 26)).alloc (.cells #[.func (.func 35) #[] #[]] 75)):=((Below.refl _ w).alloc (Nat.le_refl _) _).alloc (by simp) _
 have ZP:=yL (kF w (.cells #[.int .i64 f,.int .i64 s,.bool qZ,.bool yt] 26)) (.cells #[.func (.func 35) #[] #[]] 75)
 have hbad:Boxed ((w.alloc (.cells #[.int .i64 f,.int .i64 s,.bool qZ,.bool yt] 26)).alloc (.cells #[.func (.func 35) #[] #[]] 75)) (w.heap.size + 1) 75 (.func (.func 35) #[] #[]):=by
  have h:=Boxed.new (w.alloc (.cells #[.int .i64 f,.int .i64 s,.bool qZ,.bool yt] 26)) 75 (.func (.func 35) #[] #[])
  rwa [World.size_alloc] at h
 rw [h1] at hF
 rw [h4] at hQ
 rw [h5] at hR
 have HT1:=zx.mk ZP
 have HD1:=zx.mk hbad
 have HB1:=zx.mk hb0
 have HF:=zx.mk hF
 have HQ:=zx.mk hQ
 have HR:=zx.mk hR
 have HP:=zx.mk hP
 have HG:=zx.mk hG
 have HC:=zx.mk hC
 have HS:=zx.mk hS
 clear ZP hbad hb0 hF hQ hR
 have hmm:=@run_makeMap Tryz.prog
 refine (callsIn_wide (n:=12)).1 ?_
 refine callsIn_of_wp_marks Tryz.func13 rfl trivial ?_ rfl
 simp only [Tryz.ntmps13,List.size_toArray,List.length_cons,List.length_nil,Nat.reduceAdd,Nat.reduceSub,Array.replicate_succ,Array.replicate_zero,List.push_toArray,List.append_toArray,List.nil_append,List.cons_append]
 refine wpIn_wide.2 ?_
 go_wp2_with fail
 refine (HF.out _ HB1.out).mono ?_;rintro e w2 ⟨rfl,hb2⟩
 have HT2:=zx.mk (zU HT1.out hb2)
 have HD2:=zx.mk (zU HD1.out hb2)
 have HB2:=zx.mk (HB1.out.trans (hb2.mono HB1.out.size))
 clear hb2
 have a2:w2.cell? ⟨w.heap.size,0,none⟩ = some (.int .i64 f):=(zQ HT2.out 0).trans rfl
 have b2:w2.cell? ⟨w.heap.size,1,none⟩ = some (.int .i64 s):=(zQ HT2.out 1).trans rfl
 have c2:w2.cell? ⟨w.heap.size + 1,0,none⟩ = some (.func (.func 35) #[] #[]):=(zQ HD2.out 0).trans rfl
 go_wp2_with fail
 refine (HQ.out _ HB2.out).mono ?_;rintro e w3 ⟨rfl,hb3⟩
 have HT3:=zx.mk (zU HT2.out hb3)
 have HD3:=zx.mk (zU HD2.out hb3)
 have HB3:=zx.mk (HB2.out.trans (hb3.mono HB2.out.size))
 clear hb3
 have a3:w3.cell? ⟨w.heap.size,0,none⟩ = some (.int .i64 f):=(zQ HT3.out 0).trans rfl
 have b3:w3.cell? ⟨w.heap.size,1,none⟩ = some (.int .i64 s):=(zQ HT3.out 1).trans rfl
 have c3:w3.cell? ⟨w.heap.size + 1,0,none⟩ = some (.func (.func 35) #[] #[]):=(zQ HD3.out 0).trans rfl
 go_wp2_with fail
 refine (HR.out _ HB3.out c3).mono ?_;rintro e w4 ⟨rfl,hb4⟩
 have HT4:=zx.mk (zU HT3.out hb4)
 have HD4:=zx.mk (zU HD3.out hb4)
 have Ke:=zx.mk (HB3.out.trans (hb4.mono HB3.out.size))
 clear hb4
 have a4:w4.cell? ⟨w.heap.size,0,none⟩ = some (.int .i64 f):=(zQ HT4.out 0).trans rfl
 have b4:w4.cell? ⟨w.heap.size,1,none⟩ = some (.int .i64 s):=(zQ HT4.out 1).trans rfl
 have c4:w4.cell? ⟨w.heap.size + 1,0,none⟩ = some (.func (.func 35) #[] #[]):=(zQ HD4.out 0).trans rfl
 clear a2 b2 c2 a3 b3 c3 c4
 go_wp2_with fail
 refine (callsIn_wide.1 (zfg Fence.wide 5 trivial rfl Ap pairs.length cp _)).mono ?_;rintro e w5 ⟨rfl,rfl⟩
 go_wp2_with fail
 obtain ⟨W0,hW0⟩:∃ W0,(((w4.alloc (.map #[] 0)).alloc (.cells #[.map (some w4.heap.size)] 82)).alloc (.cells #[.slice Ap pairs.length cp] 28)) = W0:=⟨_,rfl⟩
 have hz0:W0.heap.size = w4.heap.size + 1 + 1 + 1:=by rw [← hW0];simp
 have hm0:SMap Tryz.prog 9 9 W0 w4.heap.size 0 (fun _=>none):=by
  rw [← hW0]
  have h:=SMap.made (P:=Tryz.prog) (k:=9) (e:=9) w4
  exact (h.kept (World.grownBy_alloc _ _ none) (by simp)).kept (World.grownBy_alloc _ _ none) (by simp)
 have hc0:Boxed W0 (w4.heap.size + 1) 82 (.map (some w4.heap.size)):=by
  rw [← hW0]
  have h:=Boxed.new (w4.alloc (.map #[] 0)) 82 (.map (some w4.heap.size))
  rw [World.size_alloc] at h
  exact h.alloc _
 have hs0:Boxed W0 (w4.heap.size + 1 + 1) 28 (.slice Ap pairs.length cp):=by
  rw [← hW0]
  have h:=Boxed.new ((w4.alloc (.map #[] 0)).alloc (.cells #[.map (some w4.heap.size)] 82)) 28 (.slice Ap pairs.length cp)
  rw [World.size_alloc,World.size_alloc] at h
  exact h
 have zKB:Below w4.heap.size w4 W0:=by rw [← hW0];exact (((Below.refl _ _).alloc (Nat.le_refl _) _).alloc (by simp) _).alloc (by simp;omega) _
 rw [hW0]
 clear hW0
 have hle:=Ke.out.size
 have hlt1:w.heap.size + 1 < w4.heap.size:=pI HD4.out
 obtain ⟨zs,hzs⟩:∃ zs:List PS,zs.map (·.1) = pairs:=⟨pairs.attachWith _ hps,by simp⟩
 have hzl:zs.length = pairs.length:=by rw [← hzs,List.length_map]
 generalize hm:w4.heap.size = m at hz0 hm0 hc0 hs0 zKB hle hlt1 ⊢
 have hCz:Kd.C Vt w Ap zs.length (zs.map (·.1)):=by rw [hzs,hzl];exact HP.out
 have hlz:zs.length ≤ 1000000000:=by omega
 have zAV:zs.length ≤ 100:=by omega
 have HZ:=zx.mk hzs
 rw [← hzl] at hs0
 clear hzl
 have hw0:Below w.heap.size w W0:=Ke.out.trans (zKB.mono hle)
 refine (wpIn_wide (n:=12)).1 ?_
 refine zkn rfl (by omega) (gf:=104) (lb:=#[.pointer (some ⟨m + 1 + 1,0,none⟩)]) rfl trivial (enters_of Tryz.func104 (by kernel_rfl) rfl)
  (zbm Fence.wide (12 - 1) trivial rfl (by omega) (m + 1 + 1) Ap cp zs hlz w W0 hCz hw0 hs0) (by omega) zXy (zff (by omega) (by omega)) (fun _=>rfl)
  (fun pre W=>zq6 m W0.heap.size w4 pre W) (fun _ _=>False) (zbE m _ w4 (by omega) (by omega)) (fun _ _ _ _ hs _ _=>hs) (zbF m _ w4 (by omega)) (fun _ _ _ hs=>hs) ⟨hm0,hc0,zKB,Nat.le_refl _⟩
  (fun x a' W=>∃ gx,W0.heap.size ≤ gx ∧ W.heap[gx]? = some (.cells #[.string x.2.1.f0,.string x.2.1.f1] 80 (0,0)) ∧ a' = { tmps:=#[Value.slice Af l.length cf,Value.agg #[Value.int .i64 f,Value.int .i64 s,Value.bool qZ,Value.bool yt],Value.slice Ac chars.length cc,Value.slice Ap pairs.length cp,undef,Value.pointer (some ⟨w.heap.size,0,none⟩),undef,undef,Value.slice none 0 0,Value.slice none 0 0,Value.int .i64 0,Value.pointer (some ⟨w.heap.size + 1,0,none⟩),Value.pointer (some ⟨m + 1,0,none⟩),undef,Value.pointer (some ⟨gx,0,none⟩),undef,undef,undef,undef,undef,undef,Value.bool false,Value.slice Af l.length cf,Value.bool false,Value.pointer (some ⟨w.heap.size,0,none⟩),Value.int .i64 f,Value.bool false,Value.bool false,Value.pointer (some ⟨w.heap.size,0,none⟩),Value.int .i64 f,Value.slice Af l.length cf,Value.int .i64 (l.length:Int),Value.bool false,Value.bool false,Value.bool false,Value.pointer (some ⟨w.heap.size,1,none⟩),Value.int .i64 s,Value.bool false,Value.bool false,Value.bool false,Value.pointer (some ⟨w.heap.size,1,none⟩),Value.int .i64 s,Value.bool false,Value.bool false,Value.slice Ac chars.length cc,Value.int .i64 (chars.length:Int),Value.bool false,Value.bool false,Value.slice Ap pairs.length cp,Value.int .i64 (pairs.length:Int),Value.bool false,Value.bool false,Value.slice Ac chars.length cc,Value.func (.func 35) #[] #[],Value.bool false,Value.slice Ap pairs.length cp,Value.func (.func 42) #[] #[Value.pointer (some ⟨w.heap.size + 1,0,none⟩)],Value.bool false,Value.map (some m),Value.slice Ap pairs.length cp,Value.func (.func 104) #[] #[Value.pointer (some ⟨m + 1 + 1,0,none⟩)],Value.int .i64 (x.1:Int),Value.agg #[.string x.2.1.f0,.string x.2.1.f1],undef,undef,undef,undef,undef,undef,undef,undef,undef,undef,undef,undef,undef,undef,undef,undef,undef,undef,undef,undef,undef,undef,undef,undef,undef,undef,undef,undef,undef,undef,undef,undef,undef,undef,undef,undef,undef,undef,undef,undef,undef,undef,undef,undef,undef,undef,undef,undef,undef,undef,undef,undef,undef,undef,undef,undef,undef,undef,undef,undef,undef,undef,undef,undef],defers:=[] })
  (fun x a'=>by rintro _ A B row ⟨gx,h1,h2,h3⟩ hg hr;exact ⟨gx,h1,zfc h2 hg (fun r e=>(hr r e).2),h3⟩) ?assign ?body ?done ?stop
 case assign =>
  intro l_ pre x W K hi hK
  unfold zkE
  gi_wp2
  refine hK _ _ ((KeepsOthers.alloc W _).from _) ⟨(Below.refl _ _).alloc (by have:=hi.2.2.2;omega) _,(Below.heap_alloc _ _ _ (by have:=hi.2.2.2;omega))⟩ (zKA hi _) ⟨W.heap.size,hi.2.2.2,kF W _,rfl⟩
 case body =>
  rintro l_ pre x a' W hl_ ⟨r,hrec⟩ hI ⟨gx,hgx,hbx,rfl⟩ hlen
  have q0:W.cell? ⟨gx,0,none⟩ = some (.string x.2.1.f0):=(zQ hbx 0).trans rfl
  have q1:W.cell? ⟨gx,1,none⟩ = some (.string x.2.1.f1):=(zQ hbx 1).trans rfl
  have q2:W.cell? ⟨m + 1,0,none⟩ = some (.map (some m)):=hI.2.1.cell
  obtain ⟨w',hrun,hm',hg'⟩:=hI.1.put (t:=82) Tryz.underlying9 Tryz.underlying82 Tryz.underlying9 (by unfold maxLen;omega) x.2.1.f0 x.2.1.f1 x.2.2.1 x.2.2.2
  have HI:=Lib.hid hI
  have HM:=Lib.hid hm'
  have HG':=Lib.hid hg'
  clear hI hm' hg' hrec hbx
  gi_wp2
  have hsz:=HI.out.2.2.2
  exact ⟨KeepsFrom.of_grownBy HG'.out (fun j e=>by cases e;omega),⟨below_grown HG'.out (by omega) (by omega),HG'.out.block _ (by omega) (fun e=>by injection e;omega)⟩,zbG HI.out HM.out HG'.out⟩
 case stop =>
  rintro D pre W hD hS hX hK
  exact hX.elim
 case done =>
  rintro D ys W hD rfl hI hK
  obtain ⟨iM,iC,iW,iS⟩:=hI
  have iW4:Below w4.heap.size w4 W:=by rw [hm];exact iW
  have hT:=zU HT4.out iW4
  have hwW:Below w.heap.size w W:=Ke.out.trans (iW4.mono Ke.out.size)
  have y0:W.cell? ⟨w.heap.size,0,none⟩ = some (.int .i64 f):=(zQ hT 0).trans rfl
  have y1:W.cell? ⟨w.heap.size,1,none⟩ = some (.int .i64 s):=(zQ hT 1).trans rfl
  have y2:W.cell? ⟨w.heap.size,2,none⟩ = some (.bool qZ):=(zQ hT 2).trans rfl
  have y3:W.cell? ⟨w.heap.size,3,none⟩ = some (.bool yt):=(zQ hT 3).trans rfl
  go_upto_block 3 with (fail)
  clear y0 y1 y2 y3
  have hDl:=(Array.getElem?_eq_some_iff.1 hK).1
  obtain ⟨g,hg⟩:∃ g,W.heap.size = g:=⟨_,rfl⟩
  obtain ⟨W9,hW9⟩:∃ W9,W.alloc (.cells #[.slice Af l.length cf,.int .i64 f,.int .i64 s,.bool qZ,.bool yt,.slice none 0 0,.slice none 0 0] 90) = W9:=⟨_,rfl⟩
  have S9:PW (g + 1) g W9 Af cf l f s qZ yt ([],[]):=by
   rw [← hW9,← hg]
   exact ⟨_,_,kF W _,Kd.jw _ _ _ _ _,Kd.jw _ _ _ _ _⟩
  have hz9:W9.heap.size = g + 1:=by rw [← hW9,← hg];simp
  have b9:Below g W W9:=by rw [← hW9,← hg];exact (Below.refl _ _).alloc (Nat.le_refl _) _
  try rw [hW9]
  try rw [hg]
  have hgm:m + 1 < g:=by omega
  have hDg:D < g:=by omega
  have T9:W9.heap[w.heap.size]? = some (.cells #[.int .i64 f,.int .i64 s,.bool qZ,.bool yt] 26 (0,0)):=(b9.block _ (by omega)).trans hT
  have M9:=zvN (b9.block m (by omega)) iM
  have C9:Boxed W9 (m + 1) 82 (.map (some m)):=(b9.block _ (by omega)).trans iC
  have K9:W9.heap[D]? = some (.deferred (some [])):=(b9.block _ (by omega)).trans hK
  have hw9:Below w.heap.size w W9:=hwW.trans (b9.mono (by omega))
  have hbl:Yt zs zs.length = Yt zs zs.length:=rfl
  generalize hFm:zzV (Yt zs zs.length) = Fm at M9
  generalize (Yt zs zs.length).length = nm at M9
  have hturn:∀ c,Vd Fm c = mg pairs c:=fun c=>by
   rw [← hFm]
   unfold Vd mg
   rw [zbi,HZ.out]
   cases pairs.find? (fun p=>decide (p.f0 = c)) <;> rfl
  obtain ⟨A,hA⟩:∃ A,chars.map (Vd Fm) = A:=⟨_,rfl⟩
  have hAl:A.length = chars.length:=by rw [← hA,List.length_map]
  have hAg:∀ (i:Nat) (h:i < A.length) (h':i < chars.length),A[i] = Vd Fm chars[i]:=fun i h h'=>by subst hA;simp
  have hfin:(Qz (fjoin (j5 l f)) qZ A 0).foldl (Yp l f s yt) ([],[]) = Vj l f s yt (YI l f qZ chars pairs):=by
   unfold Vj YI Qz
   rw [List.drop_zero,← hA,show Vd Fm = mg pairs from funext hturn]
  generalize zht:Vj l f s yt (YI l f qZ chars pairs) = FIN at hfin
  have hcs:∀ c ∈ chars,c.size ≤ maxLen:=fun c hc=>by
   have h:=List.any_eq_false.1 h4 c hc
   simp only [Bool.not_eq_true] at h
   have:=zzY h
   unfold maxLen
   omega
  have hv:∀ x ∈ l,jY x = true:=fun x hx=>by
   have h:=List.any_eq_false.1 h1 x hx
   simpa using h
  have hf0:0 ≤ f:=by omega
  have hf1:f < (l.length:Int):=by omega
  have znS:1 ≤ s:=by omega
  have znT:s ≤ 1000:=by omega
  have hx:=gH hv hf0 hf1
  have hzx:=bZ hx
  obtain ⟨ad,A3,c3,A4,c4,A5,c5,e,x0,x1,x2,x3,x4,x5,g3,q3,g4,q4,g5,q5⟩:=wP HC.out f hf0 (by omega)
  subst e
  have e:zY l f = j5 l f:=rfl
  rw [e] at x0 x1 x2 x3 x4 x5 g3 q3 g4 q4 g5 q5
  clear e
  generalize j5 l f = x at x0 x1 x2 x3 x4 x5 g3 q3 g4 q4 g5 q5 hx hzx hfin
  have HJN:=zx.mk (fun (a b:ByteArray) (V:World) (h:Below w.heap.size w V)=>zbf x.f0 x.f1 x.f2 A3 c3 x.f3 A4 c4 x.f4 A5 c5 x.f5 a b V (HG.out.under h) (Kd.zu q3 h) g3 (Kd.zu q4 h) g4 (Kd.zu q5 h) g5 (by omega) (by omega) (by omega))
  have HFT:=zx.mk (fun (V:World) (h:Below w.heap.size w V)=>(show V.cell? (ad.add (f.toNat * 6)) = some (.string x.f0) ∧ V.cell? ⟨(ad.add (f.toNat * 6)).block,(ad.add (f.toNat * 6)).off + 1,none⟩ = some (.bool x.f1) ∧ V.cell? ⟨(ad.add (f.toNat * 6)).block,(ad.add (f.toNat * 6)).off + 2,none⟩ = some (.int .i64 x.f2) ∧ V.cell? ⟨(ad.add (f.toNat * 6)).block,(ad.add (f.toNat * 6)).off + 3,none⟩ = some (.slice A3 x.f3.length c3) ∧ V.cell? ⟨(ad.add (f.toNat * 6)).block,(ad.add (f.toNat * 6)).off + 4,none⟩ = some (.slice A4 x.f4.length c4) ∧ V.cell? ⟨(ad.add (f.toNat * 6)).block,(ad.add (f.toNat * 6)).off + 5,none⟩ = some (.slice A5 x.f5.length c5) from ⟨(h.cell (World.block_lt_of_cell? w _ x0)).trans x0,(h.cell (World.block_lt_of_cell? w _ x1)).trans x1,(h.cell (World.block_lt_of_cell? w _ x2)).trans x2,(h.cell (World.block_lt_of_cell? w _ x3)).trans x3,(h.cell (World.block_lt_of_cell? w _ x4)).trans x4,(h.cell (World.block_lt_of_cell? w _ x5)).trans x5⟩))
  have znU:=zx.mk (fun (st:List wV × List ByteArray) (n:ByteArray) (V:World) (h2:g + 1 ≤ V.heap.size) (h3:Below w.heap.size w V) (h4:st.1.length ≤ 1000000) (h5:st.2.length ≤ 1000000) (h6:PW (g + 1) g V (some ad) cf l f s qZ yt st)=>zfh w (g + 1) g (some ad) cf l f s qZ yt st n V HG.out HC.out hl hf0 hf1 hv (Nat.lt_succ_self _) h2 (by omega) h3 h4 h5 znS znT h6)
  have HT9:=zx.mk T9
  have HM9:=zx.mk M9
  have HC9:=zx.mk C9
  have HK9:=zx.mk K9
  have HW9:=zx.mk hw9
  have HAG:=zx.mk hAg
  have HCS:=zx.mk hcs
  have zhu:=zx.mk zht
  have HFI:=zx.mk hfin
  have HS9:=zx.mk S9
  clear hT iM iC iW iS iW4 hwW T9 M9 C9 K9 hw9 S9 x0 x1 x2 x3 x4 x5 q3 q4 q5 g3 g4 g5 hx hzx hcs hAg hA hturn hFm hfin zht hv hK b9 hW9 hbl hm0 hc0 hs0 hCz hw0 zKB h1 h4 h5 hps hzs hm
  go_wp2_with fail
  go_loopw [17] (fun i V=>∃ (k:Nat) (st:List wV × List ByteArray),i = .int .i64 (k:Int) ∧ k ≤ chars.length ∧ st.1.length ≤ 2 * k ∧ st.2.length ≤ k ∧ zx ((Qz (fjoin x) qZ A k).foldl (Yp l f s yt) st = FIN) ∧ zx (PW (g + 1) g V (some ad) cf l f s qZ yt st) ∧ zx (jN (g + 1) g W9 V)) (fun i _=>chars.length - (intOf i).toNat)
  case atStart=>exact ⟨0,([],[]),rfl,Nat.zero_le _,Nat.le_refl _,Nat.le_refl _,HFI,HS9,⟨jN.refl _ _ _⟩⟩
  case round =>
   obtain ⟨k,st,rfl,hk,zAK,zAY,HF2,HS2,HL2⟩:=hrel
   obtain ⟨W2,hW2⟩:∃ W2:World,W2 = wr:=⟨_,rfl⟩
   subst hW2
   have hwr:Below w.heap.size w W2:=HW9.out.trans (zqc HL2.out (by omega) (by omega))
   have hbr:g + 1 ≤ W2.heap.size:=by have:=HL2.out.1.size;omega
   by_cases hlt:k < chars.length
   ·obtain ⟨cd,e,c0⟩:=Kd.uw (Kd.zu HS.out hwr) (k:Int) (by omega) (by omega)
    subst e
    have e:qJ ByteArray.empty chars (k:Int) = chars[k]:=by simp [qJ,List.getD_eq_getElem?_getD,hlt]
    rw [e,Int.toNat_natCast] at c0
    have hcs:=HCS.out _ (List.getElem_mem hlt)
    have hak:=HAG.out k (by omega) hlt
    generalize chars[k] = ch at c0 hcs hak
    have hcell:Boxed W2 (m + 1) 82 (.map (some m)):=(HL2.out.2.2 _ (by omega) (by omega)).trans HC9.out
    have hmap:=zvN (HL2.out.2.2 m (by omega) (by omega)) HM9.out
    have htn:=zx7 (m + 1) m nm Fm ch W2 hcs hcell.cell hmap
    have ZP:=(HL2.out.2.2 w.heap.size (by omega) (by omega)).trans HT9.out
    have q1:(k:Int) < (chars.length:Int):=by omega
    have q0:(0:Int) ≤ (k:Int):=by omega
    have q3:((k:Int)).toNat = k:=Int.toNat_natCast k
    have HTN:=zx.mk htn
    have HWR:=zx.mk hwr
    have HAK:=zx.mk hak
    have HMP:=zx.mk hmap
    have HCL:=zx.mk hcell
    have HSY:=zx.mk ZP
    clear htn hwr hak hmap hcell ZP hcs e
    go_upto_block 5 with (refine HTN.out.mono ?_;rintro e w8 ⟨rfl,rfl⟩)
    clear c0
    go_cut [17,18] from 73 to 118 (fun i c V=>∃ (j:Nat) (cn:ByteArray),i = .int .i64 (j:Int) ∧ c = .string cn ∧ k ≤ j ∧ j < chars.length ∧ zx (Qz (fjoin x) qZ A k = cn :: Qz (fjoin x) qZ A (j + 1)) ∧ zx (Below W2.heap.size W2 V))
    case first =>
     go_wp2_with fail
     go_loopw [17,18] (fun i c V=>∃ (j:Nat) (cn:ByteArray),i = .int .i64 (j:Int) ∧ c = .string cn ∧ k ≤ j ∧ j < chars.length ∧ zx (qZ = true → ∃ h:k < A.length,YH (fjoin x) A[k] (A.drop (k + 1)) = YH (fjoin x) cn (A.drop (j + 1))) ∧ zx (qZ = false → j = k ∧ ∃ h:k < A.length,A[k] = cn) ∧ zx (Below W2.heap.size W2 V)) (fun i _ _=>chars.length - (intOf i).toNat)
     case atStart=>exact ⟨k,Vd Fm ch,rfl,rfl,Nat.le_refl _,hlt,⟨fun _=>⟨by omega,by rw [HAK.out]⟩⟩,⟨fun _=>⟨rfl,by omega,HAK.out⟩⟩,⟨Below.refl _ _⟩⟩
     case round =>
      obtain ⟨j,cn,rfl,rfl,hkj,hj,HE,HN,HB3⟩:=hrel
      obtain ⟨W3,hW3⟩:∃ W3:World,W3 = wr:=⟨_,rfl⟩
      subst hW3
      have zKC:=zU HSY.out HB3.out
      have z2:W3.cell? ⟨w.heap.size,2,none⟩ = some (.bool qZ):=(zQ zKC 2).trans rfl
      have zAW:=hAl
      cases qZ with
      | false =>
       obtain ⟨rfl,hka,hc⟩:=HN.out rfl
       have gD:=zx.mk (show Qz (fjoin x) false A j = cn :: Qz (fjoin x) false A (j + 1) by rw [zwJ _ A j hka,hc])
       clear hc
       go_wp2_with fail
       go_meet
       exact ⟨j,cn,rfl,rfl,Nat.le_refl _,hj,gD,HB3⟩
      | true =>
      obtain ⟨hka,hea⟩:=HE.out rfl
      by_cases hj1:j + 1 < chars.length
      ·have hjA:j + 1 < A.length:=by omega
       have hw3:Below w.heap.size w W3:=HWR.out.trans (HB3.out.mono HWR.out.size)
       obtain ⟨cd',e,c0⟩:=Kd.uw (Kd.zu HS.out hw3) (((j + 1:Nat):Int)) (by omega) (by omega)
       cases e
       have e:qJ ByteArray.empty chars ((j + 1:Nat):Int) = chars[j + 1]:=by simp [qJ,List.getD_eq_getElem?_getD,hj1]
       rw [e,Int.toNat_natCast,show cd.add (j + 1) = ⟨cd.block,cd.off + (j + 1),none⟩ from by simp [Addr.add]] at c0
       have hcs2:=HCS.out _ (List.getElem_mem hj1)
       have zbI:=HAG.out (j + 1) hjA hj1
       generalize chars[j + 1] = ch2 at c0 hcs2 zbI
       have zn0:=zx.mk (fun (V:World) (h:Below W3.heap.size W3 V)=>zx7 (m + 1) m nm Fm ch2 V hcs2 (zU (zU HCL.out HB3.out) h |> Boxed.cell) (zvN (((HB3.out.trans (h.mono HB3.out.size)).block m (by have:=HMP.out.lt;omega))) HMP.out))
       have r1:(j:Int) + 1 < (chars.length:Int):=by omega
       have r0:(0:Int) ≤ (j:Int) + 1:=by omega
       have r4:decide ((j:Int) + 1 < (chars.length:Int)) = true:=decide_eq_true r1
       have HJ:=zx.mk hj
       have HJ1:=zx.mk hj1
       have HJA:=zx.mk hjA
       have z0:W3.cell? ⟨w.heap.size,0,none⟩ = some (.int .i64 f):=(zQ zKC 0).trans rfl
       have Q9:=zx.mk c0
       have HZ0:=zx.mk z0
       have HW3:=zx.mk hw3
       have HEA:=zx.mk hea
       have zn1:=zx.mk zbI
       have HHK:=zx.mk hka
       clear zKC z0 c0 hw3 hea zbI hcs2 e hj hj1
       go_wp2_with fail
       clear z2 r4
       have r5:wrap64 ((j:Int) + 1) = (j:Int) + 1:=kQ (by omega) (by omega)
       have oZ:=zx.mk (fun (V:World) (h:Below W3.heap.size W3 V)=>(show V.cell? ⟨w.heap.size,0,none⟩ = some (.int .i64 f) ∧ V.cell? ⟨cd.block,cd.off + (j + 1),none⟩ = some (.string ch2) ∧ (V.cell? (ad.add (f.toNat * 6)) = some (.string x.f0) ∧ V.cell? ⟨(ad.add (f.toNat * 6)).block,(ad.add (f.toNat * 6)).off + 1,none⟩ = some (.bool x.f1) ∧ V.cell? ⟨(ad.add (f.toNat * 6)).block,(ad.add (f.toNat * 6)).off + 2,none⟩ = some (.int .i64 x.f2) ∧ V.cell? ⟨(ad.add (f.toNat * 6)).block,(ad.add (f.toNat * 6)).off + 3,none⟩ = some (.slice A3 x.f3.length c3) ∧ V.cell? ⟨(ad.add (f.toNat * 6)).block,(ad.add (f.toNat * 6)).off + 4,none⟩ = some (.slice A4 x.f4.length c4) ∧ V.cell? ⟨(ad.add (f.toNat * 6)).block,(ad.add (f.toNat * 6)).off + 5,none⟩ = some (.slice A5 x.f5.length c5)) from
        ⟨(h.cell (World.block_lt_of_cell? _ _ HZ0.out)).trans HZ0.out,(h.cell (World.block_lt_of_cell? _ _ Q9.out)).trans Q9.out,HFT.out V (HW3.out.trans (h.mono HW3.out.size))⟩))
       refine zXw ?_
       refine RW.rS (n:=19) oZ boxes.XY boxes.Yx (by kernel_rfl) rfl rfl (fun w5 H5 T U h=>?_)
       refine RW.rP 0 (some 95) T ?_
       refine RW.rP 1 (some 96) T ?_
       refine RW.rT 2 (some 97) T U h ?_
       refine RW.rP 3 (some 98) T ?_
       refine RW.rT 4 (some 99) T U h ?_
       refine RW.rP 5 (some 100) T ?_
       refine RW.rP 6 (some 101) T ?_
       refine RW.rP 7 (some 102) T ?_
       refine RW.rP 8 (some 103) T ?_
       refine RW.rP 9 (some 104) T ?_
       refine RW.rP 10 (some 105) T ?_
       refine RW.rT 11 (some 106) T U h ?_
       clear h
       refine Km (i:=12) (N:=some 107) #[true,true,true,true,true,true,true,true,true,true,true,true,true,false,false,false,false,false,false] rfl rfl (pO T.out (by kernel_rfl)) (by decide) (fun K hK=>?_)
       refine call_ 44 #[.string ch2,.pointer (some ⟨m + 1,0,none⟩)] (by rfl) rfl (by have he:=Xi Tryz.func44 (by kernel_rfl) rfl #[.string ch2,.pointer (some ⟨m + 1,0,none⟩)] w5;go_simp) ?_
       refine (zn0.out w5 H5.out).mono ?_
       rintro e w6 ⟨rfl,rfl⟩
       refine ⟨_,rfl,?_⟩
       refine hK.out _ _ (oZ.out _ H5.out) (fun h=>?_)
       clear hK K h
       refine J7 (a':=?_) ?_ ?_
       rotate_left
       ·show Act.put _ (some 107) _ = _
        simp only [Act.put,List.setIfInBounds_toArray,List.set_cons_zero,List.set_cons_succ]
        rfl
       have hjn:=HJN.out cn (Vd Fm ch2) w5 (HW3.out.trans (H5.out.mono HW3.out.size))
       have hjv:mK (vL x.f0 x.f2 x.f3 x.f4 x.f5) x.f4 cn (Vd Fm ch2) = fjoin x cn (Vd Fm ch2):=rfl
       rw [hjv] at hjn
       have hgo:=@zfi (fjoin x) A j cn hjA
       have hstop:=@zWf (fjoin x) A j cn hjA
       rw [zn1.out] at hgo hstop
       generalize fjoin x cn (Vd Fm ch2) = jv at hjn hgo hstop
       obtain ⟨j1,j2⟩:=jv
       dsimp only at hgo hstop
       have HGO:=zx.mk hgo
       have HST:=zx.mk hstop
       clear hjv hgo hstop
       refine RW.rC 13 (some 108) T oZ H5 Tryz.func45 hjn (fun w7 H7 h=>?_) (by kernel_rfl)
       refine RW.rP 14 (some 94) T ?_
       refine RW.rP 15 (some 109) T ?_
       refine RW.rP 16 (some 110) T ?_
       refine RW.rP 17 (some 19) T ?_
       refine RW.rP 18 (some 20) T ?_
       refine xP (qH T.out (by kernel_rfl)) ?_
       clear h hjn r5
       have HB7:=zx.mk (HB3.out.trans (H7.out.mono HB3.out.size))
       cases j2 with
       | false =>
        have gD:=zx.mk (zx9 (fjoin x) A k j cn HHK.out (HEA.out.trans (HST.out rfl)))
        go_wp2_with fail
        go_meet
        exact ⟨j,cn,rfl,rfl,hkj,HJ.out,gD,HB7⟩
       | true =>
        have gD:=zx.mk (HEA.out.trans (HGO.out rfl))
        go_wp2_with fail
        go_roundw
        case rel=>exact ⟨j + 1,j1,by first | rfl | go_num,rfl,by omega,HJ1.out,⟨fun _=>⟨HHK.out,gD.out⟩⟩,⟨fun h=>by cases h⟩,HB7⟩
        case measure=>(have:=HJ1.out;simp [intOf];omega)
      ·have gD:=zx.mk (zx9 (fjoin x) A k j cn hka (hea.trans (zbH _ A j cn (by omega))))
       have r4:decide ((j:Int) + 1 < (chars.length:Int)) = false:=decide_eq_false (by omega)
       have hjb:(j:Int) ≤ 1000000:=by omega
       have HJ:=zx.mk hj
       clear hea zKC hj1 hj
       go_wp2_with fail
       go_meet
       exact ⟨j,cn,rfl,rfl,hkj,HJ.out,gD,HB3⟩
    case rest =>
     obtain ⟨j,cn,e1,e2,hkj,hj,gD,HB3⟩:=hcut
     subst e1 e2
     obtain ⟨vo_,vl_,hSA⟩:=HS2.out
     have hput:=znU.out st cn wc (Nat.le_trans hbr HB3.out.size) (HWR.out.trans (HB3.out.mono HWR.out.size)) (by omega) (by omega) ⟨vo_,vl_,hSA.below HB3.out⟩
     have hlen:=zy4 l f s yt st cn
     have hfl:=HF2.out
     rw [gD.out,List.foldl_cons] at hfl
     generalize Yp l f s yt st cn = st2 at hput hlen hfl
     have HFL:=zx.mk hfl
     have HLK:=zx.mk (HL2.out.trans (jN.below (B:=g) HB3.out hbr))
     clear hfl hSA
     go_wp2_with fail
     refine hput.mono ?_;rintro e w8 ⟨⟨v,rfl⟩,hS8,hL8⟩
     have HS8:=zx.mk hS8
     have HL8:=zx.mk (HLK.out.trans hL8)
     clear hput hS8 hL8
     go_wp2_with fail
     go_roundw
     case rel=>exact ⟨j + 1,st2,by first | rfl | go_num,by omega,by omega,by omega,HFL,HS8,HL8⟩
     case measure=>simp [intOf];omega
   ·obtain rfl:k = chars.length:=by omega
    have hfe:st = FIN:=by
     have h:=HF2.out
     unfold Qz at h
     rw [List.drop_eq_nil_of_le (by omega),kU] at h
     have h2:(if qZ = true then ([]:List ByteArray) else []) = []:=by split <;> rfl
     rw [h2] at h
     exact h
    subst hfe
    obtain ⟨vo,vl,hSA⟩:=HS2.out
    have t5:W2.cell? ⟨g,5,none⟩ = some vo:=(zQ hSA.1 5).trans rfl
    have t6:W2.cell? ⟨g,6,none⟩ = some vl:=(zQ hSA.1 6).trans rfl
    have HSA:=zx.mk hSA
    have HWR:=zx.mk hwr
    have q1:decide ((chars.length:Int) < (chars.length:Int)) = false:=decide_eq_false (by omega)
    clear hSA hwr
    have oZ:=zx.mk (fun (V:World) (h:Below W2.heap.size W2 V)=>(show V.cell? ⟨g,5,none⟩ = some vo ∧ V.cell? ⟨g,6,none⟩ = some vl from ⟨(h.cell (World.block_lt_of_cell? _ _ t5)).trans t5,(h.cell (World.block_lt_of_cell? _ _ t6)).trans t6⟩))
    clear t5 t6
    go_wp2_with fail
    refine zXw ?_
    refine RW.rS (n:=11) oZ boxes.zl0 boxes.zhs (by kernel_rfl) rfl rfl (fun w5 H5 T U h=>?_)
    refine RW.rP 0 (some 119) T ?_
    refine RW.rP 1 (some 120) T ?_
    refine RW.rP 2 (some 121) T ?_
    refine RW.rT 3 (some 122) T U h ?_
    refine RW.rP 4 (some 123) T ?_
    refine RW.rP 5 (some 124) T ?_
    refine RW.rP 6 (some 125) T ?_
    refine RW.rT 7 (some 126) T U h ?_
    refine RW.rP 8 (some 8) T ?_
    refine RW.rP 9 (some 9) T ?_
    refine RW.rP 10 (some 10) T ?_
    refine xP (qH T.out (by kernel_rfl)) ?_
    clear h
    have hK5:w5.heap[D]? = some (.deferred (some [])):=(H5.out.block D (by omega)).trans ((HL2.out.2.2 D (by omega) (by omega)).trans HK9.out)
    have S5:=HSA.out.below H5.out
    have hw5:=HWR.out.trans (H5.out.mono HWR.out.size)
    clear oZ
    go_wp2_with fail
    refine ⟨by simp,.inl ⟨_,_,rfl,run_takeDeferred hK5,?_⟩⟩
    refine ⟨_,zko rfl rfl rfl,vo,vl,rfl,?_,?_,?_⟩
    ·rw [zhu.out]
     exact Kd.zf0 (Kd.vG (zXj S5.2.1 (grownBy_putObj' _ D (.deferred none)) (fun r er=>by cases er;exact ⟨_,hK5,rfl⟩)) (by omega))
    ·rw [zhu.out]
     exact Kd.vG (zXj S5.2.2 (grownBy_putObj' _ D (.deferred none)) (fun r er=>by cases er;exact ⟨_,hK5,rfl⟩)) (by omega)
    ·exact hw5.trans (belowK_b (w:=w) (Nat.le_refl _) _ D _ _ (by omega) hK5 rfl rfl)
end Go.Proofs.YtggifbbiiickmaaGreatDoor
namespace Go.Proofs.YtggifbbiiickmaaGreatDoor
open Go.RowKit Go.Proofs.zk.zA Go.Proofs.zk.yB Go.Proofs.zk.yA Go.Proofs.YtggifbbiiickmaaGreatDoor.PX
set_option linter.unusedSimpArgs false
set_option linter.unusedVariables false
def okF (x:qO):Bool:=decide (x.f3.length ≤ 1000000000 ∧ x.f4.length ≤ 1000000000 ∧ x.f5.length ≤ 1000000000)
def uQ.f (l0:List Zg) (zl zf:Int) (zO zI:Bool) (l2:List ByteArray) (l3:List kV):Option (List vP × List ByteArray × Int) :=
 if l0.all okF = true ∧ l0.length ≤ 1000000000 ∧ l2.length ≤ 1000000000 ∧ l3.length ≤ 1000000000 then some (pV l0 zl zf zO zI l2 l3) else none
theorem uQ.calls (A0:Option Addr) (c0:Nat) (l0:List Zg) (zl zf:Int) (zO zI:Bool) (A2:Option Addr) (c2:Nat) (l2:List ByteArray) (A3:Option Addr) (c3:Nat) (l3:List kV) (r1:List vP) (r2:List ByteArray) (r3:Int) (w:World) (hr0:Kd.C Ye w A0 l0.length l0) (hc0:l0.length ≤ c0) (hr2:Kd.C Kd.string w A2 l2.length l2) (hc2:l2.length ≤ c2) (hr3:Kd.C Vt w A3 l3.length l3) (hc3:l3.length ≤ c3) (hG:GW w) (h:uQ.f l0 zl zf zO zI l2 l3 = some (r1,r2,r3)) :
  Calls Tryz.prog 13 #[.slice A0 l0.length c0,.agg #[.int .i64 zl,.int .i64 zf,.bool zO,.bool zI],.slice A2 l2.length c2,.slice A3 l3.length c3] w fun e w'=>∃ Qw v1_:Value,e = .returned (.tuple #[Qw,v1_,.int .i64 r3]) ∧ Kd.S X8 53 w' w.heap.size (fun _=>True) Qw r1 ∧ Kd.R Kd.string 9 w' w.heap.size (fun _=>True) v1_ r2 ∧ Below w.heap.size w w':=by
 unfold uQ.f at h
 split at h
 ·rename_i hl
  have hz:∀ x ∈ l0,x.f3.length ≤ 1000000000 ∧ x.f4.length ≤ 1000000000 ∧ x.f5.length ≤ 1000000000:=fun x hx=>of_decide_eq_true (List.all_eq_true.1 hl.1 x hx)
  have he:=Option.some.inj h
  unfold pV at he
  cases hb:ZW l0 zl zf l2 l3 with
  | true =>
   rw [hb,if_pos rfl] at he
   cases he
   exact (zbD A0 c0 l0 zl zf zO zI A2 c2 l2 A3 c3 l3 w hG hr0 hz hl.2.1 hr2 hl.2.2.1 hr3 hl.2.2.2 hb).mono fun e w' ⟨h1,h2⟩=>⟨_,_,h1,Kd.YQ _ _ _ _ _,Kd.jw _ _ _ _ _,h2⟩
  | false =>
   rw [hb,if_neg Bool.false_ne_true] at he
   cases he
   rw [zx8] at hb
   simp only [Bool.or_eq_false_iff,decide_eq_false_iff_not,Nat.not_lt] at hb
   exact zWg A0 c0 l0 zl zf zO zI A2 c2 l2 A3 c3 l3 w hG hr0 hz hl.2.1 hr2 hl.2.2.1 hr3 hl.2.2.2 hb.1.1.1.1 hb.1.1.1.2 hb.1.1.2.1 hb.1.1.2.2 hb.1.2 hb.2
 ·cases h
end Go.Proofs.YtggifbbiiickmaaGreatDoor
namespace Go.Proofs
end Go.Proofs
namespace Go.Proofs.YtggifbbiiickmaaGreatDoor
open Go.RowKit Go.Shelf Go.Sort Go.Proofs.zk.zA Go.Proofs.zk.yA Go.Proofs.YtggifbbiiickmaaGreatDoor.PX
theorem zbL (x:qo):(ZB x).length = 2:=rfl
theorem zbM (x:qo):∀ v ∈ ZB x,v.oneCell' = true:=by
 intro v hv
 simp only [ZB,List.mem_cons,List.mem_nil_iff,or_false] at hv
 rcases hv with rfl | rfl <;> rfl
theorem zhA {w:World} {g:Nat} {cur:Array Value} {e:TypeId} {F:Array Value} (hb:w.heap[g]? = some (.cells cur e (0,0))) (ht:cur.toList.take F.size = F.toList):Holds id w g 0 F:=by
 intro j hj
 refine ⟨?_,by simp [World.frozen?,hb]⟩
 have h1:(cur.toList.take F.size)[j]? = F.toList[j]?:=by rw [ht]
 rw [List.getElem?_take_of_lt hj] at h1
 simp only [World.cell?,hb,Nat.zero_add]
 simp only [Option.isSome_none,Bool.false_eq_true,if_false]
 rw [← Array.getElem?_toList,h1]
 simp [hj]
theorem zl1 {w:World} {g n:Nat} {os:Array Obj} {cur:Array Value} {e:TypeId} {fr:Nat × Nat} (d:Array Value) (hb:w.heap[g]? = some (.cells cur e fr)) :
  (Sort.grow (Sort.putRow id (Sort.ahead w n) g 0 d) os).heap[g]? = some (.cells (Sort.putCells id 0 d cur) e fr):=by
 have hg:g < w.heap.size:=(Array.getElem?_eq_some_iff.1 hb).1
 rw [heap_grow_old _ _ (by simpa using hg)]
 simp [Sort.putRow,Sort.mapBlock,Sort.ahead,Array.getElem?_modify,hb,Sort.onCells]
theorem zhB {w:World} {g n:Nat} {os:Array Obj} (d:Array Value):w.grownBy (Sort.grow (Sort.putRow id (Sort.ahead w n) g 0 d) os) (some g):=by
 refine ⟨rfl,rfl,rfl,by simp,fun k hk hne=>?_⟩
 rw [heap_grow_old _ _ (by simpa using hk)]
 have:g ≠ k:=fun e=>hne (by rw [e])
 simp [Sort.putRow,Sort.mapBlock,Sort.ahead,Array.getElem?_modify,this]
theorem zl2 (cur:Array Value) (F:Array Value) (h:F.size ≤ cur.size):(Sort.putCells id 0 F cur).toList.take F.size = F.toList:=by
 apply List.ext_getElem?
 intro j
 by_cases hj:j < F.size
 ·rw [List.getElem?_take_of_lt hj,Array.getElem?_toList]
  simp [Sort.putCells,hj,show j < cur.size by omega]
 ·rw [List.getElem?_take_eq_none (by omega),List.getElem?_eq_none (by simp;omega)]
theorem flat_get (xs:List qo) (j:Nat) (hj:j < xs.length):((flatK ZB 2 xs.toArray).toList.drop (j * 2)).take 2 = ZB xs[j]:=by
 have hsz:(flatK ZB 2 xs.toArray).toList.length = xs.length * 2:=by simp
 have key:∀ t,t < xs.length * 2 → (flatK ZB 2 xs.toArray).toList[t]? = some ((ZB xs.toArray[t / 2]!)[t % 2]!):=by
  intro t ht
  have h:=get_flatK ZB 2 xs.toArray t (by simpa using ht)
  rw [Array.getElem?_toList]
  rw [← h]
  simp [show t < xs.length * 2 by omega]
 apply List.ext_getElem?
 intro i
 rcases Nat.lt_or_ge i 2 with hi | hi
 ·rw [List.getElem?_take_of_lt hi,List.getElem?_drop,key _ (by omega)]
  have e1:(j * 2 + i) / 2 = j:=by omega
  have e2:(j * 2 + i) % 2 = i:=by omega
  rw [e1,e2]
  have e3:xs.toArray[j]! = xs[j]:=by simp [hj]
  rw [e3]
  rcases i with _ | _ | i
  ·rfl
  ·rfl
  ·omega
 ·rw [List.getElem?_take_eq_none hi,List.getElem?_eq_none (by simp [ZB];omega)]
theorem zKD {w:World} {b:Nat} {ok:Nat → Prop} {xs:List qo} {inner:List Value} (h:xI (jh.M w b ok) 2 xs inner):inner = (flatK ZB 2 xs.toArray).toList:=by
 have hsz:(flatK ZB 2 xs.toArray).toList.length = xs.length * 2:=by simp
 apply List.ext_getElem?
 intro t
 rcases Nat.lt_or_ge t (xs.length * 2) with ht | ht
 ·have hj:t / 2 < xs.length:=by omega
  have h1:=h.2 (t / 2) _ (List.getElem?_eq_getElem hj)
  have h2:(inner.drop (t / 2 * 2)).take 2 = ZB xs[t / 2]:=zVd h1
  have h3:=flat_get xs (t / 2) hj
  have h4:=h2.trans h3.symm
  have h5:=congrArg (fun l:List Value=>l[t % 2]?) h4
  simp only [List.getElem?_take_of_lt (show t % 2 < 2 by omega),List.getElem?_drop] at h5
  rw [show t / 2 * 2 + t % 2 = t by omega] at h5
  exact h5
 ·rw [List.getElem?_eq_none (by have:=h.1;omega),List.getElem?_eq_none (by omega)]
theorem zWh (w:World) (b:Nat) (ok:Nat → Prop) (xs:List qo):xI (jh.M w b ok) 2 xs (flatK ZB 2 xs.toArray).toList:=by
 refine ⟨by simp,fun j p hj=>?_⟩
 obtain ⟨hl,rfl⟩:=List.getElem?_eq_some_iff.1 hj
 rw [flat_get xs j hl]
 exact Kn _ _ _ _
set_option maxRecDepth 100000 in
theorem zwV (x y:qo) (w:World) :
  Calls Tryz.prog 111 #[.agg #[.string x.f0,.int .i64 x.f1],.agg #[.string y.f0,.int .i64 y.f1]] w fun e w'=>e = .returned (.int .i64 (uE x.f0 y.f0)) ∧ ∃ q os,w' = Sort.grow (w.drewN q) os:=by
 have hc:=jK.calls x.f0 y.f0 _ ((w.alloc (.cells #[.string x.f0,.int .i64 x.f1] 105)).alloc (.cells #[.string y.f0,.int .i64 y.f1] 105)) (Vu x.f0 y.f0)
 generalize uE x.f0 y.f0 = r at hc ⊢
 go_enter Tryz.func111,Tryz.ntmps111
 go_wp2_with (go_at_call 91;refine hc.mono ?_;rintro e w2 ⟨rfl,nd,rfl⟩)
 go_ret
 refine ⟨rfl,nd,#[.cells #[.string x.f0,.int .i64 x.f1] 105] ++ #[.cells #[.string y.f0,.int .i64 y.f1] 105],?_⟩
 rw [← Sort.grow_grow,Sort.alloc_eq_grow,Sort.alloc_eq_grow]
 rfl
theorem zfl (a b:ByteArray):decide (uE a b < 0) = Op.bytesLess a.toList b.toList:=by
 unfold uE
 cases h1:Op.bytesLess a.toList b.toList
 ·cases h2:Op.bytesLess b.toList a.toList <;> simp
 ·simp
theorem zy5 (x y:qo):ltOf (fun x y:qo=>uE x.f0 y.f0) x y = decide (x.f0.toList < y.f0.toList):=by
 show decide (uE x.f0 y.f0 < 0) = _
 rw [zfl,bytesLess_eq]
theorem zbN:SWO (ltOf (fun x y:qo=>uE x.f0 y.f0)) where
 irrefl x:=by rw [zy5];simp [List.lt_irrefl]
 trans x y z h1 h2:=by
  rw [zy5] at *
  simp only [decide_eq_true_eq] at *
  exact List.lt_trans h1 h2
 ntrans x y z h1 h2:=by
  rw [zy5] at *
  simp only [decide_eq_false_iff_not,List.not_lt] at *
  exact List.le_trans h2 h1
theorem zKE (xs ys:List qo) (d':Array qo) (hp:ys.Perm xs) (hs:ys.Pairwise fun a b=>uE a.f0 b.f0 < 0)
  (hP:PermIn 0 xs.toArray.size xs.toArray d') (hS:SortedIn (ltOf (fun x y:qo=>uE x.f0 y.f0)) 0 xs.toArray.size d'):d'.toList = ys:=by
 obtain ⟨hsz,_,hperm⟩:=hP
 have e1:d'.extract 0 xs.toArray.size = d':=by rw [← hsz];exact Array.extract_size
 rw [e1,Array.extract_size] at hperm
 refine List.Perm.eq_of_pairwise (le:=fun x y=>(!ltOf (fun x y:qo=>uE x.f0 y.f0) y x) = true) ?_ ?_ ?_ (hperm.trans hp.symm)
 ·intro a b ha hb h1 h2
  have ha':a ∈ ys:=(hperm.trans hp.symm).mem_iff.1 ha
  obtain ⟨i,hi,rfl⟩:=List.getElem_of_mem ha'
  obtain ⟨j,hj,rfl⟩:=List.getElem_of_mem hb
  simp only [Bool.not_eq_true',ltOf,decide_eq_false_iff_not] at h1 h2
  rcases Nat.lt_trichotomy i j with h | h | h
  ·exact absurd (List.pairwise_iff_getElem.1 hs i j hi hj h) h2
  ·subst h;rfl
  ·exact absurd (List.pairwise_iff_getElem.1 hs j i hj hi h) h1
 ·rw [List.pairwise_iff_getElem]
  intro i j hi hj hij
  have h:=hS i j (Nat.zero_le _) hij (by rw [← hsz];simpa using hj)
  have hi':i < d'.size:=by simpa using hi
  have hj':j < d'.size:=by simpa using hj
  rw [getElem!_pos d' i hi',getElem!_pos d' j hj'] at h
  simpa using h
 ·refine hs.imp ?_
  intro a b h
  have h1:ltOf (fun x y:qo=>uE x.f0 y.f0) a b = true:=decide_eq_true h
  cases h2:ltOf (fun x y:qo=>uE x.f0 y.f0) b a with
  | false=>rfl
  | true=>exact absurd (zbN.trans _ _ _ h1 h2) (by rw [zbN.irrefl];simp)
theorem zfm (w:World) (b0:Nat) (u:Value) (xs ys:List qo) (hR:Kd.R jh 105 w b0 (fun _=>True) u xs) (h0:0 < xs.length) (hl:xs.length ≤ 1000) (hp:ys.Perm xs) (hs:ys.Pairwise fun a b=>uE a.f0 b.f0 < 0) :
  Calls Tryz.prog 110 #[u,.func (.func 111) #[] #[]] w fun e w'=>e = .returned (.tuple #[]) ∧ Kd.R jh 105 w' b0 (fun _=>True) u ys ∧ w.grownBy w' u.ownBlock:=by
 obtain ⟨hok,inner,ho,hr⟩:=hR
 have hin:=zKD hr
 subst hin
 rcases ho.2 with ⟨_,h⟩ | ⟨g,cap,cur,rfl,hbase,hb,h1,h2,h3,h4⟩
 ·omega
 have hg:g < w.heap.size:=(Array.getElem?_eq_some_iff.1 hb).1
 have hk2:jh.sz = 2:=rfl
 rw [hk2] at h3 h4
 have hH:HoldsK ZB 2 w g 0 xs.toArray:=zhA hb (by rw [size_flatK];exact h4)
 have hlen:=hp.length_eq
 refine (AnyQ.slices_SortFunc Tryz.sortG 2 (fun w=>by kernel_rfl) (fun w=>by kernel_rfl) ZB zbL zbM (fun x y=>uE x.f0 y.f0) zbN 111 #[] g 0 cap xs.toArray w (Go.Proofs.zk.yB.Xi Tryz.func111 (by kernel_rfl) rfl)
  (fun m os dk hdk x y=>zwV x y _) hH hg (by simp;omega)).mono fun e w' ⟨he,d',n,os,hP,hS,hw⟩=>?_
 have hd:=zKE xs ys d' hp hs hP hS
 have hd':d' = ys.toArray:=by rw [← hd]
 subst hd'
 subst hw
 refine ⟨he,⟨fun _ _=>trivial,(flatK ZB 2 ys.toArray).toList,⟨by rw [hk2];simp,.inr ⟨g,cap,_,by rw [hlen],hbase,zl1 _ hb,by rw [hlen];exact h1,h2,by rw [hk2];simp [Sort.putCells,h3],?_⟩⟩,zWh _ _ _ _⟩,?_⟩
 ·have:=zl2 cur (flatK ZB 2 ys.toArray) (by rw [size_flatK,h3];simp;omega)
  rw [size_flatK] at this
  rw [hk2]
  simpa using this
 ·exact zhB (w:=w) (g:=g) (n:=n) (os:=os) (flatK ZB 2 ys.toArray)
end Go.Proofs.YtggifbbiiickmaaGreatDoor
namespace Go.Proofs.YtggifbbiiickmaaGreatDoor.PX
open Go.RowKit
theorem zXZ:(Tryz.prog.info? 105).map (fun i=>(i.zero,i.size,i.bytes)) = some (some (.agg #[(.string ⟨#[]⟩),(.int .i64 0)]),2,24):=by kernel_rfl
end Go.Proofs.YtggifbbiiickmaaGreatDoor.PX
namespace Go.Proofs.YtggifbbiiickmaaGreatDoor
open Go.RowKit Go.Shelf Go.Proofs.zk.zA Go.Proofs.zk.yB Go.Proofs.zk.yA Go.Proofs.YtggifbbiiickmaaGreatDoor.PX
set_option linter.unusedSimpArgs false
theorem zXQ {w W w1:World} {r r':Option Nat} (h:w.grownBy W r) (g:W.grownBy w1 r') (hr:r' = r ∨ ∃ b,r' = some b ∧ w.heap.size ≤ b):w.grownBy w1 r:=by
 refine ⟨g.os.trans h.os,g.tape.trans h.tape,g.output.trans h.output,Nat.le_trans h.size g.size,fun k hk hne=>?_⟩
 refine (g.block k (Nat.lt_of_lt_of_le hk h.size) ?_).trans (h.block k hk hne)
 rcases hr with rfl | ⟨b,rfl,hb⟩
 ·exact hne
 ·intro e
  injection e with e
  omega
theorem lN {w W w1:World} {r:Option Nat} (h:w.grownBy W r) (g:Below W.heap.size W w1):w.grownBy w1 r :=
 ⟨g.os.trans h.os,g.tape.trans h.tape,g.output.trans h.output,Nat.le_trans h.size g.size,fun k hk hne=>(g.block k (Nat.lt_of_lt_of_le hk h.size)).trans (h.block k hk hne)⟩
theorem Y4 {w W:World} {r:Option Nat} {g i:Nat} (h:w.grownBy W r) (hg:w.heap.size ≤ g) (v:Value):w.grownBy (W.setCell ⟨g,i,none⟩ v) r :=
 ⟨h.os,h.tape,h.output,by simpa using h.size,fun k hk hne=>(Below.heap_setCell W ⟨g,i,none⟩ v k (by show k ≠ g;omega)).trans (h.block k hk hne)⟩
theorem zfn {w W:World} {r:Option Nat} (h:w.grownBy W r):w.grownBy W.drew r:=lN h ⟨rfl,rfl,rfl,Nat.le_refl _,fun _ _=>rfl⟩
theorem zjz {α:Type} {d:Kd α} {e b0:Nat} {w wr w2:World} {ok:Nat → Prop} {u:Value} {xs:List α} (hB:Below b0 w wr) (hs:b0 ≤ wr.heap.size) (hR:d.R e wr b0 ok u xs) (hg:wr.grownBy w2 u.ownBlock):Below b0 w w2:=by
 refine hB.trans ⟨hg.os,hg.tape,hg.output,hg.size,fun k hk=>hg.block k (Nat.lt_of_lt_of_le hk hs) ?_⟩
 intro e
 obtain ⟨inner,ho⟩:=Kd.iI hR
 have:=Ki ho k e.symm
 omega
def chr (c:Nat):ByteArray:=Utf8.encode (c:Int)
def Yk (wd:Nat → Int) (c:Nat):List qo:=(List.range (c - 33)).map fun i=>⟨chr (33 + i),wd (33 + i)⟩
theorem zhC (c:Nat):Utf8.encode (c:Int) = chr c:=rfl
attribute [irreducible] chr
theorem zWi (wd:Nat → Int) (c:Nat) (h:33 ≤ c):Yk wd (c + 1) = Yk wd c ++ [⟨chr c,wd c⟩]:=by
 obtain ⟨m,rfl⟩:∃ m,c = 33 + m:=⟨c - 33,by omega⟩
 unfold Yk
 rw [show 33 + m + 1 - 33 = m + 1 by omega,show 33 + m - 33 = m by omega,List.range_succ,List.map_append]
 rfl
theorem zq7 (wd:Nat → Int) (c:Nat):(Yk wd c).length = c - 33:=by simp [Yk]
def made.T5:Bool × List (List Nat × List Nat):=(true,[([],[]),([0],[0]),([],[]),([2],[2]),([3],[3]),([],[]),([],[]),([5,6],[5,6]),([4,7],[4,7]),([8],[8]),([1,9,7],[1,9]),([0,1,2,3,4,5,6,7,8,9,10],[]),([11,10,10,0,1,2,3,4,5,6,7,8,9,10],[10,11])])
theorem made.zyx:vR .any (opsOf Tryz.f54 5) = made.T5:=by kernel_rfl
def zl3 (name:ByteArray) (space:Int) (more:List qo) (wd:Nat → Int) (u0:Value) (b0:Nat) (w:World) (gr gf:Nat) (x:Value) (wr:World):Prop :=
 ∃ (c:Nat) (u:Value),x = .int .u8 (c:Int) ∧ 33 ≤ c ∧ c ≤ 127 ∧ Kd.R jh 105 wr b0 (fun _=>True) u (more ++ Yk wd c) ∧
  wr.heap[gr]? = some (.cells #[.string (⟨#[]⟩:ByteArray),.bool false,.int .i64 0,.slice none 0 0,.slice none 0 0,.slice none 0 0] 60 (0,0)) ∧
  wr.heap[gf]? = some (.cells #[.string name,.bool false,.int .i64 space,u,.slice none 0 0,.slice none 0 0] 60 (0,0)) ∧
  Below b0 w wr ∧ w.grownBy wr u0.ownBlock ∧ (u.ownBlock = u0.ownBlock ∨ ∃ b,u.ownBlock = some b ∧ w.heap.size ≤ b)
set_option maxHeartbeats 8000000 in
set_option maxRecDepth 100000 in
theorem lS (F:FuncId) (fn:Func) (hfn:Tryz.prog.funcs[F]? = some fn) (hname:(fn.name == "runtime.NumGoroutine") = false) (hbody:fn.body.isSome = true) (wd:Nat → Int)
  (hwd:∀ (c:Nat) (W:World),33 ≤ c → c ≤ 126 → Calls Tryz.prog F #[.int .u8 (c:Int)] W fun e w'=>e = .returned (.int .i64 (wd c)) ∧ Below W.heap.size W w')
  (name:ByteArray) (space:Int) (b0:Nat) (u0:Value) (more ys:List qo) (w:World) (hb0:b0 ≤ w.heap.size) (hR:Kd.R jh 105 w b0 (fun _=>True) u0 more) (hm:more.length ≤ 10)
  (hp:ys.Perm (more ++ Yk wd 127)) (hs:ys.Pairwise fun a b=>uE a.f0 b.f0 < 0) :
  Calls Tryz.prog 54 #[.string name,.int .i64 space,.func (.func F) #[] #[],u0] w fun e w'=>∃ v,e = .returned (.agg #[.string name,.bool false,.int .i64 space,v,.slice none 0 0,.slice none 0 0]) ∧
   Kd.R jh 105 w' b0 (fun _=>True) v ys ∧ Below b0 w w' ∧ w.grownBy w' u0.ownBlock ∧ (v.ownBlock = u0.ownBlock ∨ ∃ b,v.ownBlock = some b ∧ w.heap.size ≤ b):=by
 have zKF:=Tryz.underlying60
 have HB:=zx.mk (Below.refl b0 w)
 have HG:=zx.mk (World.grownBy.refl w u0.ownBlock)
 have jW:=zx.mk hR
 have HWD:=zx.mk hwd
 have HP:=zx.mk hp
 have HS:=zx.mk hs
 have zn2:=zx.mk (Xi hfn hname hbody)
 clear hR hwd hp hs hfn hname hbody
 obtain ⟨A0,c0,e0⟩:=Kd.xK jW.out
 subst e0
 go_enter Tryz.func54,Tryz.ntmps54
 go_wp2_with (first
  | ((with_reducible refine qC (N:=8) rfl ?_);refine qM ?hg (N:=8) ?hd (cs:=#[.string (⟨#[]⟩:ByteArray),.bool false,.int .i64 0,.slice none 0 0,.slice none 0 0,.slice none 0 0]) (t:=60) ?hr ?_;(case hd=>rfl);(case hg=>rfl);(case hr=>first | (go_simp;done) | (go_simp;rfl));intro gr hgr w2 BR hb2;have Kr:=zx.mk (Nat.le_of_eq hgr.symm);have zJ:=zx.mk (HB.out.trans (hb2.mono hb0));have zK:=zx.mk (lN HG.out hb2);clear HB HG;have HB:=zJ;have HG:=zK;have HR1:=zx.mk (Kd.qG jW.out hb2);have BRA:=zx.mk BR;clear zJ zK BR hb2 hgr)
  | ((with_reducible refine qC (N:=9) rfl ?_);refine qM ?hg (N:=9) ?hd (cs:=#[.string (⟨#[]⟩:ByteArray),.bool false,.int .i64 0,.slice none 0 0,.slice none 0 0,.slice none 0 0]) (t:=60) ?hr ?_;(case hd=>rfl);(case hg=>rfl);(case hr=>first | (go_simp;done) | (go_simp;rfl));intro gf hgf w3 BF hb3;have Kf:=zx.mk (Nat.le_trans HG.out.size (Nat.le_of_eq hgf.symm));have zJ:=zx.mk (HB.out.trans (hb3.mono (Nat.le_trans hb0 HG.out.size)));have zK:=zx.mk (lN HG.out hb3);have zi:=zx.mk (zU BRA.out hb3);have zL:=zx.mk (Kd.qG HR1.out hb3);have HNE:=zx.mk (show gr ≠ gf by rw [hgf];exact Nat.ne_of_lt (pI BRA.out));clear HB HG BRA HR1 jW;have HB:=zJ;have HG:=zK;have BRA:=zi;have HR1:=zL;clear zJ zK zi zL hgf hb3;have zhD:w3.cell? ⟨gf,0,none⟩ = some (.string (⟨#[]⟩:ByteArray)):=(zQ BF 0).trans rfl;have zhE:w3.cell? ⟨gf,1,none⟩ = some (.bool false):=(zQ BF 1).trans rfl;have zhF:w3.cell? ⟨gf,2,none⟩ = some (.int .i64 0):=(zQ BF 2).trans rfl;have zhG:w3.cell? ⟨gf,3,none⟩ = some (.slice none 0 0):=(zQ BF 3).trans rfl;have zhH:w3.cell? ⟨gf,4,none⟩ = some (.slice none 0 0):=(zQ BF 4).trans rfl;have zhI:w3.cell? ⟨gf,5,none⟩ = some (.slice none 0 0):=(zQ BF 5).trans rfl;have zAa:=zy BF 0;have zAb:=zy BF 1;have zAc:=zy BF 2;have zAd:=zy BF 3;have zAe:=zy BF 4;have zAf:=zy BF 5;have BFA:=zx.mk BF;clear BF))
 have KfB:=zx.mk (Nat.le_trans hb0 Kf.out)
 go_loopw [10] (fun x wr=>zl3 name space more wd (.slice A0 more.length c0) b0 w gr gf x wr) (fun x _=>127 - (intOf x).toNat)
 case atStart =>
  refine ⟨33,.slice A0 more.length c0,rfl,by omega,by omega,?_,?_,?_,?_,?_,Or.inl rfl⟩
  ·rw [show Yk wd 33 = [] from rfl,List.append_nil]
   have h:=Kd.Zj HR1.out BFA.out (by decide)
   exact Kd.uW (Kd.ZH (p:=⟨gf,5,none⟩) (Kd.ZH (p:=⟨gf,4,none⟩) (Kd.ZH (p:=⟨gf,3,none⟩) (Kd.ZH (p:=⟨gf,2,none⟩) (Kd.ZH (p:=⟨gf,1,none⟩) (Kd.ZH (p:=⟨gf,0,none⟩) h (fun _ hk=>hk.2) _) (fun _ hk=>hk.2) _) (fun _ hk=>hk.2) _) (fun _ hk=>hk.2) _) (fun _ hk=>hk.2) _) (fun _ hk=>hk.2) _) (fun _ _=>trivial)
  ·refine Vn ?_ HNE.out _
   refine Vn ?_ HNE.out _
   refine Vn ?_ HNE.out _
   refine Vn ?_ HNE.out _
   refine Vn ?_ HNE.out _
   refine Vn ?_ HNE.out _
   exact BRA.out
  ·refine xD (cs:=#[.string name,.bool false,.int .i64 space,.slice A0 more.length c0,.slice none 0 0,.slice none 0 0]) ?_ 5 _ rfl
   refine xD (cs:=#[.string name,.bool false,.int .i64 space,.slice A0 more.length c0,.slice none 0 0,.slice none 0 0]) ?_ 4 _ rfl
   refine xD (cs:=#[.string name,.bool false,.int .i64 space,.slice none 0 0,.slice none 0 0,.slice none 0 0]) ?_ 3 _ rfl
   refine xD (cs:=#[.string name,.bool false,.int .i64 0,.slice none 0 0,.slice none 0 0,.slice none 0 0]) ?_ 2 _ rfl
   refine xD (cs:=#[.string name,.bool false,.int .i64 0,.slice none 0 0,.slice none 0 0,.slice none 0 0]) ?_ 1 _ rfl
   refine xD (cs:=#[.string (⟨#[]⟩:ByteArray),.bool false,.int .i64 0,.slice none 0 0,.slice none 0 0,.slice none 0 0]) ?_ 0 _ rfl
   exact BFA.out
  ·exact (((((HB.out.setCell KfB.out _).setCell KfB.out _).setCell KfB.out _).setCell KfB.out _).setCell KfB.out _).setCell KfB.out _
  ·exact Y4 (Y4 (Y4 (Y4 (Y4 (Y4 HG.out Kf.out _) Kf.out _) Kf.out _) Kf.out _) Kf.out _) Kf.out _
 case round =>
  obtain ⟨c,u,rfl,h33,h127,zhL,BR0,BF0,zhM,zhN,zhO⟩:=hrel
  have Zt:=zx.mk zhL
  have BR:=zx.mk BR0
  have BF:=zx.mk BF0
  have Yy:=zx.mk zhM
  have Kh:=zx.mk zhN
  have HAc:=zx.mk zhO
  clear zhL BR0 BF0 zhM zhN zhO BRA BFA HR1 HB HG
  by_cases hlt:c < 127
  ·have hw32:IntKind.i32.wrap (c:Int) = c:=by unfold IntKind.wrap;simp [IntKind.bits,IntKind.signed];omega
   have q1:decide ((c:Int) < 127) = true:=decide_eq_true (by omega)
   go_wp2
   have zJ:=zx.mk (Kd.vB Zt.out)
   have zK:=zx.mk (qK BR.out)
   have zi:=zx.mk (qK BF.out)
   have zL:=zx.mk (Yy.out.drew)
   have qz:=zx.mk (zfn Kh.out)
   clear Zt BR BF Yy Kh
   have Zt:=zJ
   have BR:=zK
   have BF:=zi
   have Yy:=zL
   have Kh:=qz
   clear zJ zK zi zL qz
   refine jy (n:=13) (S:=fun w'=>w'.cell? ⟨gf,3,none⟩ = some u) (ds:=[12]) #[false,false,false,false,false,false,false,false,false,false,false,false,false] (by kernel_rfl) rfl rfl ((zQ BF.out 3).trans rfl) (fun hHeld=>?_)
   refine iO made.zyx (fun za=>?_)
   generalize wr.drew = w16 at Zt BR BF Yy Kh hHeld ⊢
   refine ug (i:=0) (N:=some 19) (v:=?_) (a':=?_) #[true,false,false,false,false,false,false,false,false,false,false,false,false] rfl rfl (vE za.out (by kernel_rfl)) (fun _ _ _ h=>h) (Or.inl ⟨by rfl,?_⟩) ?_ ?_
   rotate_left
   ·intro w'
    go_simp
    with_reducible rfl
   rotate_left
   ·simp only [Act.put,List.setIfInBounds_toArray,List.set_cons_zero,List.set_cons_succ]
    rfl
   refine ug (i:=2) (N:=some 21) (v:=?_) (a':=?_) #[true,false,true,false,false,false,false,false,false,false,false,false,false] rfl rfl (vE za.out (by kernel_rfl)) (fun _ _ _ h=>h) (Or.inl ⟨by rfl,?_⟩) ?_ ?_
   rotate_left
   ·intro w'
    go_simp
    with_reducible rfl
   rotate_left
   ·simp only [Act.put,List.setIfInBounds_toArray,List.set_cons_zero,List.set_cons_succ]
    rfl
   refine ug (i:=3) (N:=some 22) (v:=?_) (a':=?_) #[true,false,true,true,false,false,false,false,false,false,false,false,false] rfl rfl (vE za.out (by kernel_rfl)) (fun _ _ _ h=>h) (Or.inl ⟨by rfl,?_⟩) ?_ ?_
   rotate_left
   ·intro w'
    go_simp
    with_reducible rfl
   rotate_left
   ·simp only [Act.put,List.setIfInBounds_toArray,List.set_cons_zero,List.set_cons_succ,hw32]
    rfl
   refine ug (i:=4) (N:=some 23) (v:=?_) (a':=?_) #[true,false,true,true,true,false,false,false,false,false,false,false,false] rfl rfl (vE za.out (by kernel_rfl)) (fun _ _ _ h=>h) (Or.inl ⟨by rfl,?_⟩) ?_ ?_
   rotate_left
   ·intro w'
    go_simp
    with_reducible rfl
   rotate_left
   ·simp only [Act.put,List.setIfInBounds_toArray,List.set_cons_zero,List.set_cons_succ,zhC]
    rfl
   refine ug (i:=5) (N:=some 24) (v:=?_) (a':=?_) #[true,false,true,true,true,true,false,false,false,false,false,false,false] rfl rfl (vE za.out (by kernel_rfl)) (fun _ _ _ h=>h) (Or.inl ⟨by rfl,?_⟩) ?_ ?_
   rotate_left
   ·intro w'
    go_simp
    with_reducible rfl
   rotate_left
   ·simp only [Act.put,List.setIfInBounds_toArray,List.set_cons_zero,List.set_cons_succ]
    rfl
   refine ug (i:=6) (N:=some 25) (v:=?_) (a':=?_) #[true,false,true,true,true,true,true,false,false,false,false,false,false] rfl rfl (vE za.out (by kernel_rfl)) (fun _ _ _ h=>h) (Or.inl ⟨by rfl,?_⟩) ?_ ?_
   rotate_left
   ·intro w'
    go_simp
    with_reducible rfl
   rotate_left
   ·simp only [Act.put,List.setIfInBounds_toArray,List.set_cons_zero,List.set_cons_succ]
    rfl
   refine VY (i:=1) (N:=some 20) (v:=?_) (a':=?_) #[true,true,true,true,true,true,true,false,false,false,false,false,false] rfl rfl (zzm za.out (by kernel_rfl)) (fun _ _ _ h=>h) (Or.inl ⟨by rfl,?_⟩) hHeld ?_ ?_
   rotate_left
   ·rintro w' s0
    go_simp
    with_reducible rfl
   rotate_left
   ·simp only [Act.put,List.setIfInBounds_toArray,List.set_cons_zero,List.set_cons_succ]
    rfl
   refine Km (i:=7) (N:=some 26) #[true,true,true,true,true,true,true,true,false,false,false,false,false] rfl rfl (pO za.out (by kernel_rfl)) (by decide) (fun K hK=>?_)
   refine call_ F #[.int .u8 (c:Int)] (by rfl) rfl (by have he:=zn2.out #[.int .u8 (c:Int)] w16;go_simp) ?_
   refine (HWD.out c _ h33 (by omega)).mono ?_
   rintro e VQ ⟨rfl,hb⟩
   refine ⟨_,rfl,?_⟩
   have zJ:=zx.mk (Kd.qG Zt.out hb)
   have zK:=zx.mk (zU BR.out hb)
   have zi:=zx.mk (zU BF.out hb)
   have zL:=zx.mk (Yy.out.trans (hb.mono (Nat.le_trans hb0 Kh.out.size)))
   have qz:=zx.mk (lN Kh.out hb)
   clear Zt BR BF Yy Kh hHeld hb
   have Zt:=zJ
   have BR:=zK
   have BF:=zi
   have Yy:=zL
   have Kh:=qz
   clear zJ zK zi zL qz
   refine hK.out _ _ ((zQ BF.out 3).trans rfl) (fun hHeld=>?_)
   clear hK K
   refine J7 (a':=?_) ?_ ?_
   rotate_left
   ·show Act.put _ (some 26) _ = _
    simp only [Act.put,List.setIfInBounds_toArray,List.set_cons_zero,List.set_cons_succ]
    rfl
   refine ug (i:=8) (N:=some 27) (v:=?_) (a':=?_) #[true,true,true,true,true,true,true,true,true,false,false,false,false] rfl rfl (vE za.out (by kernel_rfl)) (fun _ _ _ h=>h) (Or.inl ⟨by rfl,?_⟩) ?_ ?_
   rotate_left
   ·intro w'
    go_simp
    with_reducible rfl
   rotate_left
   ·simp only [Act.put,List.setIfInBounds_toArray,List.set_cons_zero,List.set_cons_succ]
    rfl
   refine Km (i:=9) (N:=some 28) #[true,true,true,true,true,true,true,true,true,true,false,false,false] rfl rfl (pO za.out (by kernel_rfl)) (by decide) (fun K hK=>?_)
   refine zxd (w1:=?_) (v:=?_) (by rfl) rfl ?_ ?_
   rotate_left 2
   ·go_simp
    constructor
    ·rfl
    ·rfl
   refine hK.out _ _ ((zQ (yL BF.out _) 3).trans rfl) (fun hHeld=>?_)
   clear hK K
   refine J7 (a':=?_) ?_ ?_
   rotate_left
   ·show Act.put _ (some 28) _ = _
    simp only [Act.put,List.setIfInBounds_toArray,List.set_cons_zero,List.set_cons_succ]
    rfl
   refine Km (i:=10) (N:=some 29) #[true,true,true,true,true,true,true,true,true,true,true,false,false] rfl rfl (pO za.out (by kernel_rfl)) (by decide) (fun K hK=>?_)
   refine Kd.Zu jh (w0:=w) b0 (by rfl) (.tmp 20) (.tmp 28) 56 105 (.agg #[(.string ⟨#[]⟩),(.int .i64 0)]) 24 rfl Tryz.underlying56 zXZ rfl (by decide) (by omega) u (more ++ Yk wd c) (⟨chr c,wd c⟩:qo) [.string (chr c),.int .i64 (wd c)] (fun _=>True) (fun _=>False) rfl rfl ?aP (fun _ hk=>hk.elim) ?aF ?aO ?aB ?aS ?aL ?_
   (case aP=>exact Kn _ _ _ (⟨chr c,wd c⟩:qo))
   (case aF=>exact (fun _ _=>trivial))
   (case aO=>exact Zt.out)
   (case aB=>exact Yy.out)
   (case aS=>exact Nat.le_trans hb0 Kh.out.size)
   (case aL=>have:=zq7 wd c;rw [List.length_append];omega)
   intro v1 gK ho hb hg hat
   rw [List.append_assoc,← zWi wd c h33] at ho
   obtain ⟨Ao,co,eo⟩:=Kd.xK ho
   subst eo
   generalize (more ++ Yk wd (c + 1)).length = nn at ho hat ⊢
   have zJ:=zx.mk (uO BR.out hg (Kd.Vz Zt.out BR.out (by decide)))
   have zK:=zx.mk (uO BF.out hg (Kd.Vz Zt.out BF.out (by decide)))
   have zi:=zx.mk hb
   have zL:=zx.mk (zXQ Kh.out hg HAc.out)
   have qz:=zx.mk ho
   have xX:zx ((Value.slice Ao nn co).ownBlock = (Value.slice A0 more.length c0).ownBlock ∨ ∃ b,(Value.slice Ao nn co).ownBlock = some b ∧ w.heap.size ≤ b):=zx.mk (by
    rcases hat with hat | ⟨b,h1,h2⟩
    ·rw [hat];exact HAc.out
    ·exact Or.inr ⟨b,h1,Nat.le_trans Kh.out.size h2⟩)
   clear BR BF Yy Kh Zt HAc ho hb hg hat hHeld
   have BR:=zJ
   have BF:=zK
   have Yy:=zi
   have Kh:=zL
   have Zt:=qz
   have HAc:=xX
   clear zJ zK zi zL qz xX
   refine hK.out _ _ ((zQ BF.out 3).trans rfl) (fun hHeld=>?_)
   clear hK K
   refine J7 (a':=?_) ?_ ?_
   rotate_left
   ·show Act.put _ (some 29) _ = _
    simp only [Act.put,List.setIfInBounds_toArray,List.set_cons_zero,List.set_cons_succ]
    rfl
   refine ug (i:=11) (N:=some 30) (v:=?_) (a':=?_) #[true,true,true,true,true,true,true,true,true,true,true,true,false] rfl rfl (vE za.out (by kernel_rfl)) (fun _ _ _ h=>h) (Or.inl ⟨by rfl,?_⟩) ?_ ?_
   rotate_left
   ·intro w'
    go_simp
    with_reducible rfl
   rotate_left
   ·simp only [Act.put,List.setIfInBounds_toArray,List.set_cons_zero,List.set_cons_succ]
    rfl
   refine zzi (i:=12) (N:=none) #[true,true,true,true,true,true,true,true,true,true,true,true,true] rfl rfl (pO za.out (by kernel_rfl)) (by decide) (fun K hK=>?_)
   have zbO:gK.cell? ⟨gf,3,none⟩ = some u:=(zQ BF.out 3).trans rfl
   have zKG:=zy BF.out 3
   refine iN (w1:=?_) (by rfl) rfl ?_ ?_
   rotate_left
   ·go_simp
    rfl
   refine hK.out _ _ ?_
   clear hK K
   refine xP (qH za.out (by kernel_rfl)) ?_
   have zJ:=zx.mk (Vn BR.out (p:=⟨gf,3,none⟩) HNE.out (.slice Ao nn co:Value))
   have zK:=zx.mk (xD (cs':=#[.string name,.bool false,.int .i64 space,(.slice Ao nn co:Value),.slice none 0 0,.slice none 0 0]) BF.out 3 (.slice Ao nn co:Value) rfl)
   have zi:=zx.mk (Yy.out.setCell (p:=⟨gf,3,none⟩) KfB.out (.slice Ao nn co:Value))
   have zL:=zx.mk (Y4 (i:=3) Kh.out Kf.out (.slice Ao nn co:Value))
   have qz:=zx.mk (Kd.QK Zt.out BF.out (by decide) 3 (.slice Ao nn co:Value))
   clear BR BF Yy Kh Zt hHeld zbO zKG
   generalize gK.setCell ⟨gf,3,none⟩ (.slice Ao nn co:Value) = w19 at zJ zK zi zL qz ⊢
   go_wp2
   go_roundw
   case rel=>exact ⟨c + 1,(.slice Ao nn co:Value),by first | rfl | (simp;done) | go_num,by omega,by omega,qz.out,zJ.out,zK.out,zi.out,zL.out,HAc.out⟩
   case measure=>simp [intOf];omega
  ·have hc:c = 127:=by omega
   have q1:decide ((c:Int) < 127) = false:=decide_eq_false (by omega)
   obtain ⟨Au,cu,eu⟩:=Kd.xK Zt.out
   generalize (more ++ Yk wd c).length = nu at eu
   subst eu
   have hRs:=Zt.out
   rw [hc] at hRs
   have hsort:=zfm wr b0 (.slice Au nu cu) _ ys hRs (by rw [List.length_append,zq7];omega) (by rw [List.length_append,zq7];omega) HP.out HS.out
   have zcE:=zx.mk hsort
   have hcu:wr.cell? ⟨gf,3,none⟩ = some (.slice Au nu cu):=(zQ BF.out 3).trans rfl
   clear hsort hRs hlt h33 h127
   go_wp2_with (go_at_call 110;refine zcE.out.mono ?_;rintro e w2 ⟨rfl,hR2,hg2⟩;clear zcE hcu;have hne1:=Kd.Vz Zt.out BF.out (by decide);have zK:=zx.mk (uO BR.out hg2 (Kd.Vz Zt.out BR.out (by decide)));have zi:=zx.mk (uO BF.out hg2 hne1);have zL:=zx.mk hR2;have qz:=zx.mk (zXQ Kh.out hg2 HAc.out);have xX:=zx.mk (zjz Yy.out (Nat.le_trans hb0 Kh.out.size) Zt.out hg2);clear Zt BR BF Yy Kh hne1 hR2 hg2;have BR:=zK;have BF:=zi;have HR2:=zL;have HG2:=qz;have HB2:=xX;clear zK zi zL qz xX;have zhD:w2.cell? ⟨gf,0,none⟩ = some (.string name):=(zQ BF.out 0).trans rfl;have zhE:w2.cell? ⟨gf,1,none⟩ = some (.bool false):=(zQ BF.out 1).trans rfl;have zhF:w2.cell? ⟨gf,2,none⟩ = some (.int .i64 space):=(zQ BF.out 2).trans rfl;have zhG:w2.cell? ⟨gf,3,none⟩ = some (.slice Au nu cu):=(zQ BF.out 3).trans rfl;have zhH:w2.cell? ⟨gf,4,none⟩ = some (.slice none 0 0):=(zQ BF.out 4).trans rfl;have zhI:w2.cell? ⟨gf,5,none⟩ = some (.slice none 0 0):=(zQ BF.out 5).trans rfl;have zn3:w2.cell? ⟨gr,0,none⟩ = some (.string (⟨#[]⟩:ByteArray)):=(zQ BR.out 0).trans rfl;have zn4:w2.cell? ⟨gr,1,none⟩ = some (.bool false):=(zQ BR.out 1).trans rfl;have zn5:w2.cell? ⟨gr,2,none⟩ = some (.int .i64 0):=(zQ BR.out 2).trans rfl;have zn6:w2.cell? ⟨gr,3,none⟩ = some (.slice none 0 0):=(zQ BR.out 3).trans rfl;have zn7:w2.cell? ⟨gr,4,none⟩ = some (.slice none 0 0):=(zQ BR.out 4).trans rfl;have zn8:w2.cell? ⟨gr,5,none⟩ = some (.slice none 0 0):=(zQ BR.out 5).trans rfl;have zn9:=zy BR.out 0;have zoz:=zy BR.out 1;have zoq:=zy BR.out 2;have zox:=zy BR.out 3;have zoj:=zy BR.out 4;have zov:=zy BR.out 5)
   have zJ:=(xD (cs':=#[.string name,.bool false,.int .i64 space,.slice Au nu cu,.slice none 0 0,.slice none 0 0]) (xD (cs':=#[.string name,.bool false,.int .i64 space,.slice Au nu cu,.slice none 0 0,.slice none 0 0]) (xD (cs':=#[.string name,.bool false,.int .i64 space,.slice Au nu cu,.slice none 0 0,.slice none 0 0]) (xD (cs':=#[.string name,.bool false,.int .i64 space,.slice none 0 0,.slice none 0 0,.slice none 0 0]) (xD (cs':=#[.string name,.bool false,.int .i64 0,.slice none 0 0,.slice none 0 0,.slice none 0 0]) (xD (cs':=#[.string name,.bool false,.int .i64 0,.slice none 0 0,.slice none 0 0,.slice none 0 0]) BR.out 0 (.string name) rfl) 1 (.bool false) rfl) 2 (.int .i64 space) rfl) 3 (.slice Au nu cu) rfl) 4 (.slice none 0 0) rfl) 5 (.slice none 0 0) rfl)
   have zK:=Kd.uW (Kd.ZH (p:=⟨gr,5,none⟩) (Kd.ZH (p:=⟨gr,4,none⟩) (Kd.ZH (p:=⟨gr,3,none⟩) (Kd.ZH (p:=⟨gr,2,none⟩) (Kd.ZH (p:=⟨gr,1,none⟩) (Kd.ZH (p:=⟨gr,0,none⟩) (Kd.Zj HR2.out BR.out (by decide)) (fun _ hk=>hk.2) (.string name)) (fun _ hk=>hk.2) (.bool false)) (fun _ hk=>hk.2) (.int .i64 space)) (fun _ hk=>hk.2) (.slice Au nu cu)) (fun _ hk=>hk.2) (.slice none 0 0)) (fun _ hk=>hk.2) (.slice none 0 0)) (fun _ _=>trivial)
   have zi:=(Y4 (i:=5) (Y4 (i:=4) (Y4 (i:=3) (Y4 (i:=2) (Y4 (i:=1) (Y4 (i:=0) HG2.out Kr.out (.string name)) Kr.out (.bool false)) Kr.out (.int .i64 space)) Kr.out (.slice Au nu cu)) Kr.out (.slice none 0 0)) Kr.out (.slice none 0 0))
   have zL:=(Below.setCell (p:=⟨gr,5,none⟩) (Below.setCell (p:=⟨gr,4,none⟩) (Below.setCell (p:=⟨gr,3,none⟩) (Below.setCell (p:=⟨gr,2,none⟩) (Below.setCell (p:=⟨gr,1,none⟩) (Below.setCell (p:=⟨gr,0,none⟩) HB2.out (Nat.le_trans hb0 Kr.out) (.string name)) (Nat.le_trans hb0 Kr.out) (.bool false)) (Nat.le_trans hb0 Kr.out) (.int .i64 space)) (Nat.le_trans hb0 Kr.out) (.slice Au nu cu)) (Nat.le_trans hb0 Kr.out) (.slice none 0 0)) (Nat.le_trans hb0 Kr.out) (.slice none 0 0))
   clear zhD zhE zhF zhG zhH zhI zn3 zn4 zn5 zn6 zn7 zn8 zn9 zoz zoq zox zoj zov
   generalize ((((((w2.setCell ⟨gr,0,none⟩ (.string name)).setCell ⟨gr,1,none⟩ (.bool false)).setCell ⟨gr,2,none⟩ (.int .i64 space)).setCell ⟨gr,3,none⟩ (.slice Au nu cu)).setCell ⟨gr,4,none⟩ (.slice none 0 0)).setCell ⟨gr,5,none⟩ (.slice none 0 0)) = w5 at zJ zK zi zL ⊢
   refine bodyPost_ret (results_cell_row rfl _ _ gr 60 #[.string name,.bool false,.int .i64 space,.slice Au nu cu,.slice none 0 0,.slice none 0 0] (0,0) _ rfl zJ Tryz.underlying60 rfl (by kernel_rfl)) rfl ?_
   exact ⟨_,rfl,zK,zL,zi,HAc.out⟩
end Go.Proofs.YtggifbbiiickmaaGreatDoor
namespace Go.Proofs.YtggifbbiiickmaaGreatDoor
open Go.RowKit Go.Shelf
def gI (l:List UInt8) (c:UInt8):Bool:=decide (0 ≤ Lib.indexByte l c)
def VJ (c:UInt8):Int :=
 if (gI [105,106,108,116,102,46,44,58,59,39,124,33] c || (c.toNat:Int) == 96) = true then 250
 else if gI [40,41,91,93,123,125,45,114,115,47,92,34] c = true then 350
 else if gI [109,119] c = true then 750
 else if gI [77,87,64,37] c = true then 900
 else if (decide (65 ≤ (c.toNat:Int)) && decide ((c.toNat:Int) ≤ 90)) = true then 650 else 500
set_option maxRecDepth 100000 in
theorem Pb (s:ByteArray) (c:UInt8) (B:Nat) (w:World) (hc:w.cell? ⟨B,0,none⟩ = some (.int .u8 c.toNat)) :
  Calls Tryz.prog 112 #[.string s,.pointer (some ⟨B,0,none⟩)] w fun e w'=>e = .returned (.bool (gI s.data.toList c)) ∧ w' = w:=by
 have hi:=Tryz.strings_IndexByte s (c.toNat:Int) w
 have hc8:((c.toNat:Int).toNat.toUInt8) = c:=by rw [Int.toNat_natCast];exact UInt8.ofNat_toNat
 rw [hc8] at hi
 have hx:gI s.data.toList c = decide (0 ≤ Lib.indexByte s.data.toList c):=rfl
 generalize Lib.indexByte s.data.toList c = ix at hi hx
 generalize gI s.data.toList c = b at hx ⊢
 subst hx
 clear hc8
 go_enter Tryz.func112,Tryz.ntmps112
 go_wp2_with (go_at_call 113;refine hi.mono ?_;rintro e w2 ⟨rfl,rfl⟩)
 go_ret
 exact ⟨rfl,rfl⟩
set_option maxRecDepth 100000 in
set_option maxHeartbeats 1000000 in
theorem zWl (c:UInt8) (w:World) :
  Calls Tryz.prog 55 #[.int .u8 c.toNat] w fun e w'=>e = .returned (.int .i64 (VJ c)) ∧ Below w.heap.size w w':=by
 have hb0:Below w.heap.size w (w.alloc (.cells #[.int .u8 c.toNat] 5)):=(Below.refl _ w).alloc (Nat.le_refl _) _
 have hcell:(w.alloc (.cells #[.int .u8 c.toNat] 5)).cell? ⟨w.heap.size,0,none⟩ = some (.int .u8 c.toNat):=by simp
 have h1:=Pb ⟨#[105,106,108,116,102,46,44,58,59,39,124,33]⟩ c w.heap.size _ hcell
 have h2:=Pb ⟨#[40,41,91,93,123,125,45,114,115,47,92,34]⟩ c w.heap.size _ hcell
 have h3:=Pb ⟨#[109,119]⟩ c w.heap.size _ hcell
 have h4:=Pb ⟨#[77,87,64,37]⟩ c w.heap.size _ hcell
 have hv:VJ c = if (gI (⟨#[105,106,108,116,102,46,44,58,59,39,124,33]⟩:ByteArray).data.toList c || (c.toNat:Int) == 96) = true then 250
  else if gI (⟨#[40,41,91,93,123,125,45,114,115,47,92,34]⟩:ByteArray).data.toList c = true then 350
  else if gI (⟨#[109,119]⟩:ByteArray).data.toList c = true then 750
  else if gI (⟨#[77,87,64,37]⟩:ByteArray).data.toList c = true then 900
  else if (decide (65 ≤ (c.toNat:Int)) && decide ((c.toNat:Int) ≤ 90)) = true then 650 else 500:=rfl
 rw [hv]
 clear hv
 generalize gI (⟨#[105,106,108,116,102,46,44,58,59,39,124,33]⟩:ByteArray).data.toList c = b1 at h1 ⊢
 generalize gI (⟨#[40,41,91,93,123,125,45,114,115,47,92,34]⟩:ByteArray).data.toList c = b2 at h2 ⊢
 generalize gI (⟨#[109,119]⟩:ByteArray).data.toList c = b3 at h3 ⊢
 generalize gI (⟨#[77,87,64,37]⟩:ByteArray).data.toList c = b4 at h4 ⊢
 have hx0:=c.toNat_lt
 generalize (c.toNat:Int) = x at hb0 hcell h1 h2 h3 h4 ⊢
 generalize h96:(x == 96) = b96
 generalize h65:decide (65 ≤ x) = b65
 generalize h90:decide (x ≤ 90) = b90
 cases b1 with
 | true =>
  go_enter Tryz.func55,Tryz.ntmps55
  go_wp2_with (first
   | (go_at_call 112;((with_reducible refine h1.mono ?_);rintro e w2 ⟨rfl,rfl⟩))
   | (go_at_call 112;((with_reducible refine h2.mono ?_);rintro e w2 ⟨rfl,rfl⟩))
   | (go_at_call 112;((with_reducible refine h3.mono ?_);rintro e w2 ⟨rfl,rfl⟩))
   | (go_at_call 112;((with_reducible refine h4.mono ?_);rintro e w2 ⟨rfl,rfl⟩)))
  go_ret
  exact ⟨rfl,hb0⟩
 | false =>
  cases b96 with
  | true =>
   go_enter Tryz.func55,Tryz.ntmps55
   go_wp2_with (first
    | (go_at_call 112;((with_reducible refine h1.mono ?_);rintro e w2 ⟨rfl,rfl⟩))
    | (go_at_call 112;((with_reducible refine h2.mono ?_);rintro e w2 ⟨rfl,rfl⟩))
    | (go_at_call 112;((with_reducible refine h3.mono ?_);rintro e w2 ⟨rfl,rfl⟩))
    | (go_at_call 112;((with_reducible refine h4.mono ?_);rintro e w2 ⟨rfl,rfl⟩)))
   go_ret
   exact ⟨rfl,hb0⟩
  | false =>
   cases b2 with
   | true =>
    go_enter Tryz.func55,Tryz.ntmps55
    go_wp2_with (first
     | (go_at_call 112;((with_reducible refine h1.mono ?_);rintro e w2 ⟨rfl,rfl⟩))
     | (go_at_call 112;((with_reducible refine h2.mono ?_);rintro e w2 ⟨rfl,rfl⟩))
     | (go_at_call 112;((with_reducible refine h3.mono ?_);rintro e w2 ⟨rfl,rfl⟩))
     | (go_at_call 112;((with_reducible refine h4.mono ?_);rintro e w2 ⟨rfl,rfl⟩)))
    go_ret
    exact ⟨rfl,hb0⟩
   | false =>
    cases b3 with
    | true =>
     go_enter Tryz.func55,Tryz.ntmps55
     go_wp2_with (first
      | (go_at_call 112;((with_reducible refine h1.mono ?_);rintro e w2 ⟨rfl,rfl⟩))
      | (go_at_call 112;((with_reducible refine h2.mono ?_);rintro e w2 ⟨rfl,rfl⟩))
      | (go_at_call 112;((with_reducible refine h3.mono ?_);rintro e w2 ⟨rfl,rfl⟩))
      | (go_at_call 112;((with_reducible refine h4.mono ?_);rintro e w2 ⟨rfl,rfl⟩)))
     go_ret
     exact ⟨rfl,hb0⟩
    | false =>
     cases b4 with
     | true =>
      go_enter Tryz.func55,Tryz.ntmps55
      go_wp2_with (first
       | (go_at_call 112;((with_reducible refine h1.mono ?_);rintro e w2 ⟨rfl,rfl⟩))
       | (go_at_call 112;((with_reducible refine h2.mono ?_);rintro e w2 ⟨rfl,rfl⟩))
       | (go_at_call 112;((with_reducible refine h3.mono ?_);rintro e w2 ⟨rfl,rfl⟩))
       | (go_at_call 112;((with_reducible refine h4.mono ?_);rintro e w2 ⟨rfl,rfl⟩)))
      go_ret
      exact ⟨rfl,hb0⟩
     | false =>
      cases b65 with
      | false =>
       go_enter Tryz.func55,Tryz.ntmps55
       go_wp2_with (first
        | (go_at_call 112;((with_reducible refine h1.mono ?_);rintro e w2 ⟨rfl,rfl⟩))
        | (go_at_call 112;((with_reducible refine h2.mono ?_);rintro e w2 ⟨rfl,rfl⟩))
        | (go_at_call 112;((with_reducible refine h3.mono ?_);rintro e w2 ⟨rfl,rfl⟩))
        | (go_at_call 112;((with_reducible refine h4.mono ?_);rintro e w2 ⟨rfl,rfl⟩)))
       go_ret
       exact ⟨rfl,hb0⟩
      | true =>
       cases b90 with
       | false =>
        go_enter Tryz.func55,Tryz.ntmps55
        go_wp2_with (first
         | (go_at_call 112;((with_reducible refine h1.mono ?_);rintro e w2 ⟨rfl,rfl⟩))
         | (go_at_call 112;((with_reducible refine h2.mono ?_);rintro e w2 ⟨rfl,rfl⟩))
         | (go_at_call 112;((with_reducible refine h3.mono ?_);rintro e w2 ⟨rfl,rfl⟩))
         | (go_at_call 112;((with_reducible refine h4.mono ?_);rintro e w2 ⟨rfl,rfl⟩)))
        go_ret
        exact ⟨rfl,hb0⟩
       | true =>
        go_enter Tryz.func55,Tryz.ntmps55
        go_wp2_with (first
         | (go_at_call 112;((with_reducible refine h1.mono ?_);rintro e w2 ⟨rfl,rfl⟩))
         | (go_at_call 112;((with_reducible refine h2.mono ?_);rintro e w2 ⟨rfl,rfl⟩))
         | (go_at_call 112;((with_reducible refine h3.mono ?_);rintro e w2 ⟨rfl,rfl⟩))
         | (go_at_call 112;((with_reducible refine h4.mono ?_);rintro e w2 ⟨rfl,rfl⟩)))
        go_ret
        exact ⟨rfl,hb0⟩
end Go.Proofs.YtggifbbiiickmaaGreatDoor
namespace Go.Proofs.YtggifbbiiickmaaGreatDoor
open Go.RowKit Go.Shelf Go.Proofs.zk.zA Go.Proofs.zk.yB Go.Proofs.zk.yA Go.Proofs.YtggifbbiiickmaaGreatDoor.PX
set_option linter.unusedSimpArgs false
def zzW (s:ByteArray):Int × Bool:=if 6 < s.size then (0,false) else (zks s.data.toList,zxo s.data.toList)
def number.T4:Bool × List (List Nat × List Nat):=(true,[([],[]),([],[]),([1],[1]),([0,0],[0]),([2,3,0,1,2,3],[2])])
theorem number.zhP:vR .any (opsOf Tryz.f61 4) = number.T4:=by kernel_rfl
set_option maxRecDepth 100000 in
theorem zKH (s:ByteArray) (w:World) (hs:s.size ≤ 140737488355328) (hG:GW w) :
  Calls Tryz.prog 61 #[.string s] w fun e w'=>e = .returned (.tuple #[.int .i64 (zzW s).1,.bool (zzW s).2]) ∧ Below w.heap.size w w':=by
 unfold zzW
 by_cases h6:6 < s.size
 ·rw [if_pos h6]
  have q1:decide ((6:Int) < (s.size:Int)) = true:=decide_eq_true (by omega)
  go_enter Tryz.func61,Tryz.ntmps61
  go_wp2
  go_ret2
  exact ⟨rfl,Below.refl _ _⟩
 ·rw [if_neg h6]
  have q1:decide ((6:Int) < (s.size:Int)) = false:=decide_eq_false (by omega)
  have ha:=zW6 s w hs hG
  generalize zks s.data.toList = N at ha ⊢
  generalize zxo s.data.toList = B at ha ⊢
  cases B with
  | true =>
   go_enter Tryz.func61,Tryz.ntmps61
   go_wp2_with fail
   refine ha.mono ?_;rintro e w2 ⟨ev,rfl,h1,_,hb⟩
   obtain rfl:=h1 (by simp)
   clear ha h1
   go_wp2
   refine jy (n:=5) (S:=fun _=>True) (ds:=[]) #[false,false,false,false,false] (by kernel_rfl) rfl rfl trivial (fun hHeld=>?_)
   refine iO number.zhP (fun za=>?_)
   refine ug (i:=0) (N:=some 14) (v:=?_) (a':=?_) #[true,false,false,false,false] rfl rfl (vE za.out (by kernel_rfl)) (fun _ _ _ h=>h) (Or.inl ⟨by rfl,?_⟩) ?_ ?_
   rotate_left
   ·intro w'
    go_simp
    with_reducible rfl
   rotate_left
   ·simp only [Act.put,List.setIfInBounds_toArray,List.set_cons_zero,List.set_cons_succ]
    rfl
   refine ug (i:=1) (N:=some 15) (v:=?_) (a':=?_) #[true,true,false,false,false] rfl rfl (vE za.out (by kernel_rfl)) (fun _ _ _ h=>h) (Or.inl ⟨by rfl,?_⟩) ?_ ?_
   rotate_left
   ·intro w'
    go_simp
    with_reducible rfl
   rotate_left
   ·simp only [Act.put,List.setIfInBounds_toArray,List.set_cons_zero,List.set_cons_succ]
    rfl
   refine ug (i:=2) (N:=some 16) (v:=?_) (a':=?_) #[true,true,true,false,false] rfl rfl (vE za.out (by kernel_rfl)) (fun _ _ _ h=>h) (Or.inl ⟨by rfl,?_⟩) ?_ ?_
   rotate_left
   ·intro w'
    go_simp
    with_reducible rfl
   rotate_left
   ·simp only [Act.put,List.setIfInBounds_toArray,List.set_cons_zero,List.set_cons_succ]
    rfl
   refine ug (i:=3) (N:=some 2) (v:=?_) (a':=?_) #[true,true,true,true,false] rfl rfl (vE za.out (by kernel_rfl)) (fun _ _ _ h=>h) (Or.inl ⟨by rfl,?_⟩) ?_ ?_
   rotate_left
   ·intro w'
    go_simp
    with_reducible rfl
   rotate_left
   ·simp only [Act.put,List.setIfInBounds_toArray,List.set_cons_zero,List.set_cons_succ]
    rfl
   refine ug (i:=4) (N:=some 3) (v:=?_) (a':=?_) #[true,true,true,true,true] rfl rfl (vE za.out (by kernel_rfl)) (fun _ _ _ h=>h) (Or.inl ⟨by rfl,?_⟩) ?_ ?_
   rotate_left
   ·intro w'
    go_simp
    with_reducible rfl
   rotate_left
   ·simp only [Act.put,List.setIfInBounds_toArray,List.set_cons_zero,List.set_cons_succ]
    rfl
   clear hHeld
   refine xP (qH za.out (by kernel_rfl)) ?_
   go_wp2
   go_ret2
   exact ⟨rfl,hb.drew⟩
  | false =>
   go_enter Tryz.func61,Tryz.ntmps61
   go_wp2_with fail
   refine ha.mono ?_;rintro e w2 ⟨ev,rfl,_,h1,hb⟩
   obtain ⟨te,pe,rfl⟩:=h1 (by simp)
   clear ha h1
   go_wp2
   refine jy (n:=5) (S:=fun _=>True) (ds:=[]) #[false,false,false,false,false] (by kernel_rfl) rfl rfl trivial (fun hHeld=>?_)
   refine iO number.zhP (fun za=>?_)
   refine ug (i:=0) (N:=some 14) (v:=?_) (a':=?_) #[true,false,false,false,false] rfl rfl (vE za.out (by kernel_rfl)) (fun _ _ _ h=>h) (Or.inl ⟨by rfl,?_⟩) ?_ ?_
   rotate_left
   ·intro w'
    go_simp
    with_reducible rfl
   rotate_left
   ·simp only [Act.put,List.setIfInBounds_toArray,List.set_cons_zero,List.set_cons_succ]
    rfl
   refine ug (i:=1) (N:=some 15) (v:=?_) (a':=?_) #[true,true,false,false,false] rfl rfl (vE za.out (by kernel_rfl)) (fun _ _ _ h=>h) (Or.inl ⟨by rfl,?_⟩) ?_ ?_
   rotate_left
   ·intro w'
    go_simp
    with_reducible rfl
   rotate_left
   ·simp only [Act.put,List.setIfInBounds_toArray,List.set_cons_zero,List.set_cons_succ]
    rfl
   refine ug (i:=2) (N:=some 16) (v:=?_) (a':=?_) #[true,true,true,false,false] rfl rfl (vE za.out (by kernel_rfl)) (fun _ _ _ h=>h) (Or.inl ⟨by rfl,?_⟩) ?_ ?_
   rotate_left
   ·intro w'
    go_simp
    with_reducible rfl
   rotate_left
   ·simp only [Act.put,List.setIfInBounds_toArray,List.set_cons_zero,List.set_cons_succ]
    rfl
   refine ug (i:=3) (N:=some 2) (v:=?_) (a':=?_) #[true,true,true,true,false] rfl rfl (vE za.out (by kernel_rfl)) (fun _ _ _ h=>h) (Or.inl ⟨by rfl,?_⟩) ?_ ?_
   rotate_left
   ·intro w'
    go_simp
    with_reducible rfl
   rotate_left
   ·simp only [Act.put,List.setIfInBounds_toArray,List.set_cons_zero,List.set_cons_succ]
    rfl
   refine ug (i:=4) (N:=some 3) (v:=?_) (a':=?_) #[true,true,true,true,true] rfl rfl (vE za.out (by kernel_rfl)) (fun _ _ _ h=>h) (Or.inl ⟨by rfl,?_⟩) ?_ ?_
   rotate_left
   ·intro w'
    go_simp
    with_reducible rfl
   rotate_left
   ·simp only [Act.put,List.setIfInBounds_toArray,List.set_cons_zero,List.set_cons_succ]
    rfl
   clear hHeld
   refine xP (qH za.out (by kernel_rfl)) ?_
   go_wp2
   go_ret2
   exact ⟨rfl,hb.drew⟩
theorem u8n (c:Nat) (h:c ≤ 126):((UInt8.ofNat c).toNat:Int) = c:=by
 have:(UInt8.ofNat c).toNat = c:=by simp;omega
 rw [this]
def wdR (c:Nat):Int:=VJ (UInt8.ofNat c)
def wdI (c:Nat):Int:=max 0 (VJ (UInt8.ofNat c) - 20)
def wdB (c:Nat):Int:=VJ (UInt8.ofNat c) + 50
def wdM (_:Nat):Int:=600
theorem zza (c:UInt8):0 ≤ VJ c ∧ VJ c ≤ 900:=by unfold VJ;repeat' split <;> try omega
theorem zvO (c:Nat) (W:World) (_:33 ≤ c) (h:c ≤ 126):Calls Tryz.prog 55 #[.int .u8 (c:Int)] W fun e w'=>e = .returned (.int .i64 (wdR c)) ∧ Below W.heap.size W w':=by
 have h:=zWl (UInt8.ofNat c) W
 rw [u8n c (by assumption)] at h
 exact h
set_option maxRecDepth 100000 in
theorem zfo (c:Nat) (W:World) (h0:33 ≤ c) (h:c ≤ 126):Calls Tryz.prog 57 #[.int .u8 (c:Int)] W fun e w'=>e = .returned (.int .i64 (wdI c)) ∧ Below W.heap.size W w':=by
 have hr:=zvO c W h0 h
 have hv:=zza (UInt8.ofNat c)
 unfold wdI
 unfold wdR at hr
 generalize VJ (UInt8.ofNat c) = v at hr hv ⊢
 go_enter Tryz.func57,Tryz.ntmps57
 have e1:IntKind.i64.wrap (v - 20) = v - 20:=IntWalk.i64_in _ (by omega)
 go_wp2_with (go_at_call 55;refine hr.mono ?_;rintro e w2 ⟨rfl,hb2⟩)
 go_ret
 exact ⟨by first | rfl | (simp;done) | (simp [Int.max_def];done),hb2⟩
set_option maxRecDepth 100000 in
theorem zfp (c:Nat) (W:World) (h0:33 ≤ c) (h:c ≤ 126):Calls Tryz.prog 58 #[.int .u8 (c:Int)] W fun e w'=>e = .returned (.int .i64 (wdB c)) ∧ Below W.heap.size W w':=by
 have hr:=zvO c W h0 h
 have hv:=zza (UInt8.ofNat c)
 unfold wdB
 unfold wdR at hr
 generalize VJ (UInt8.ofNat c) = v at hr hv ⊢
 have e1:IntKind.i64.wrap (v + 50) = v + 50:=IntWalk.i64_in _ (by omega)
 go_enter Tryz.func58,Tryz.ntmps58
 go_wp2_with (go_at_call 55;refine hr.mono ?_;rintro e w2 ⟨rfl,hb2⟩)
 go_ret
 exact ⟨by first | rfl | (rw [e1];done),hb2⟩
theorem zfr (c:Nat) (W:World) (_:33 ≤ c) (_:c ≤ 126):Calls Tryz.prog 59 #[.int .u8 (c:Int)] W fun e w'=>e = .returned (.int .i64 (wdM c)) ∧ Below W.heap.size W w':=by
 unfold wdM
 go_enter Tryz.func59,Tryz.ntmps59
 go_wp2
 go_ret
 exact ⟨rfl,Below.refl _ _⟩
end Go.Proofs.YtggifbbiiickmaaGreatDoor
namespace Go.Proofs.YtggifbbiiickmaaGreatDoor
open Go.RowKit Go.Shelf Go.Proofs.zk.zA Go.Proofs.zk.yA Go.Proofs.YtggifbbiiickmaaGreatDoor.PX
def KZ (wd:Nat → Int) (a n:Nat):List qo:=(List.range n).map fun i=>⟨chr (a + i),wd (a + i)⟩
def bFi:ByteArray:=⟨#[102,105]⟩
def bFl:ByteArray:=⟨#[102,108]⟩
def bFf:ByteArray:=⟨#[102,102]⟩
def Yw (x:Int):List qo:=[⟨bFi,x⟩,⟨bFl,x⟩,⟨bFf,x⟩]
def gL (wd:Nat → Int) (x:Int):List qo:=KZ wd 33 70 ++ ([⟨bFf,x⟩,⟨bFi,x⟩,⟨bFl,x⟩] ++ KZ wd 103 24)
theorem zbP (wd:Nat → Int):Yk wd 127 = KZ wd 33 70 ++ KZ wd 103 24:=by
 have e0:List.range (127 - 33) = List.range 70 ++ (List.range 24).map (70 + ·):=List.range_add (n:=70) (m:=24)
 have e1:((List.range 24).map (70 + ·)).map (fun i=>(⟨chr (33 + i),wd (33 + i)⟩:qo)) = KZ wd 103 24:=by
  rw [List.map_map]
  apply List.map_congr_left
  intro i _
  show (⟨chr (33 + (70 + i)),wd (33 + (70 + i))⟩:qo) = ⟨chr (103 + i),wd (103 + i)⟩
  rw [show 33 + (70 + i) = 103 + i by omega]
 unfold Yk
 rw [e0,List.map_append,e1]
 unfold KZ
 exact rfl
theorem zXX (wd:Nat → Int) (x:Int):(gL wd x).Perm (Yw x ++ Yk wd 127):=by
 rw [zbP]
 unfold gL Yw
 have h1:([⟨bFf,x⟩,⟨bFi,x⟩,⟨bFl,x⟩]:List qo).Perm [⟨bFi,x⟩,⟨bFl,x⟩,⟨bFf,x⟩]:=by
  refine (List.Perm.swap _ _ _).trans ?_
  exact List.Perm.cons _ (List.Perm.swap _ _ _)
 generalize KZ wd 33 70 = A
 generalize KZ wd 103 24 = B
 refine (List.Perm.append_left A (List.Perm.append_right B h1)).trans ?_
 rw [← List.append_assoc,← List.append_assoc]
 exact List.Perm.append_right B List.perm_append_comm
def dM (n:Nat):List ByteArray:=if n = 0 then (List.range 94).map (fun i=>chr (33 + i)) else (List.range 70).map (fun i=>chr (33 + i)) ++ ([bFf,bFi,bFl] ++ (List.range 24).map (fun i=>chr (103 + i)))
theorem zKI:(dM 0).Pairwise fun a b=>uE a b < 0:=by decide +kernel
theorem zKL:(dM 1).Pairwise fun a b=>uE a b < 0:=by decide +kernel
theorem zWm (wd:Nat → Int) (x:Int):(gL wd x).Pairwise fun a b=>uE a.f0 b.f0 < 0:=by
 have h:((gL wd x).map (·.f0)) = dM 1:=by
  simp [gL,dM,KZ,List.map_map,Function.comp_def]
 have h2:=zKL
 rw [← h,List.pairwise_map] at h2
 exact h2
theorem zWn (wd:Nat → Int):(Yk wd 127).Pairwise fun a b=>uE a.f0 b.f0 < 0:=by
 have h:((Yk wd 127).map (·.f0)) = dM 0:=by
  simp [Yk,dM,List.map_map,Function.comp_def]
 have h2:=zKI
 rw [← h,List.pairwise_map] at h2
 exact h2
end Go.Proofs.YtggifbbiiickmaaGreatDoor
namespace Go.Proofs.YtggifbbiiickmaaGreatDoor
open Go.RowKit Go.Shelf Go.Proofs.zk.zA Go.Proofs.zk.yB Go.Proofs.zk.yA Go.Proofs.YtggifbbiiickmaaGreatDoor.PX
set_option linter.unusedSimpArgs false
set_option linter.unusedVariables false
abbrev zqZ:ByteArray:=⟨(([33,61,32,54,48,48,32,42,97,32,53,53,48,32,42,98,32,53,53,48,32,42,100,32,53,48,48,32,42,103,32,53,48,48,32,42,108,32,53,53,48,32,42,112,32,54,48,48,32,42,115,32,54,48,48,32,42,119,32,55,48].append [48,32,45,62,32,49,48,48,48,32,60,45,32,49,48,48,48,32,60,61,32,54,48,48,32,62,61,32,54,48,48,32,98,114,32,49,48,32,98,117,32,52,54,48,32,99,111,32,56,48,48,32,100,103,32,53,48,48,32,100,105,32]).append ([54,48,48,32,101,109,32,49,48,48,48,32,101,110,32,53,48,48,32,101,113,32,54,48,48,32,104,121,32,51,53,48,32,105,102,32,55,48,48,32,105,115,32,52,48,48,32,109,105,32,54,48,48,32,109,117,32,54,48,48,32,112].append [100,32,55,48,48,32,112,108,32,54,48,48,32,114,104,32,49,48,48,48,32,114,117,32,53,48,48,32,115,99,32,53,48,48,32,115,113,32,54,48,48,32,115,114,32,53,48,48,32,115,117,32,55,48,48,32,117,108,32,53,48,48])).toArray⟩
def zq8:List (List UInt8):=Lib.fields zqZ.data.toList
theorem zy6:zq8.length = 70:=by decide +kernel
theorem zKM:∀ x ∈ zq8,x.length ≤ 6:=by decide +kernel
theorem zwK:∀ (j:Nat) (b:UInt8),zqZ.data.toList[j]? = some b → b.toNat < 128:=by
 have h:∀ b ∈ zqZ.data.toList,b.toNat < 128:=by decide +kernel
 intro j b hj
 exact h b (List.mem_of_getElem? hj)
theorem zy7 (x:Int) (W:World) (b:Nat) (ok:Nat → Prop):xI (jh.M W b ok) jh.sz (Yw x) [.string (⟨#[102,105]⟩:ByteArray),.int .i64 x,.string (⟨#[102,108]⟩:ByteArray),.int .i64 x,.string (⟨#[102,102]⟩:ByteArray),.int .i64 x]:=by
 have h:∀ (j:Nat) (p:qo),(Yw x)[j]? = some p → jh.M W b ok p (([.string (⟨#[102,105]⟩:ByteArray),.int .i64 x,.string (⟨#[102,108]⟩:ByteArray),.int .i64 x,.string (⟨#[102,102]⟩:ByteArray),.int .i64 x].drop (j * 2)).take 2):=by
  intro j p hj
  rcases j with _ | _ | _ | j
  ·obtain rfl:=Option.some.inj hj
   exact Kn W b ok ⟨bFi,x⟩
  ·obtain rfl:=Option.some.inj hj
   exact Kn W b ok ⟨bFl,x⟩
  ·obtain rfl:=Option.some.inj hj
   exact Kn W b ok ⟨bFf,x⟩
  ·simp [Yw] at hj
 exact ⟨rfl,h⟩
def zqQ:List xY:=[⟨⟨#[102]⟩,⟨#[102]⟩,⟨#[102,102]⟩⟩,⟨⟨#[102]⟩,⟨#[105]⟩,⟨#[102,105]⟩⟩,⟨⟨#[102]⟩,⟨#[108]⟩,⟨#[102,108]⟩⟩]
def gM:List vk:=[(⟨(⟨#[65]⟩:ByteArray),(⟨#[86]⟩:ByteArray),(-80)⟩:vk),(⟨(⟨#[65]⟩:ByteArray),(⟨#[87]⟩:ByteArray),(-60)⟩:vk),(⟨(⟨#[84]⟩:ByteArray),(⟨#[111]⟩:ByteArray),(-70)⟩:vk),(⟨(⟨#[86]⟩:ByteArray),(⟨#[65]⟩:ByteArray),(-80)⟩:vk),(⟨(⟨#[89]⟩:ByteArray),(⟨#[111]⟩:ByteArray),(-90)⟩:vk)]
def FB (W:World) (lo hi g:Nat) (x:Zg):Prop :=
 ∃ v3 v4 v5,W.heap[g]? = some (.cells #[.string x.f0,.bool x.f1,.int .i64 x.f2,v3,v4,v5] 60 (0,0)) ∧ lo ≤ g ∧ g < hi ∧ Kd.R jh 105 W lo (fun k=>lo ≤ k ∧ k < hi) v3 x.f3 ∧
  Kd.R wO 108 W lo (fun k=>lo ≤ k ∧ k < hi) v4 x.f4 ∧ Kd.R pz 111 W lo (fun k=>lo ≤ k ∧ k < hi) v5 x.f5
theorem zxi {α:Type} {d:Kd α} {e lo hi:Nat} {W W':World} {v:Value} {xs:List α} (h:d.R e W lo (fun k=>lo ≤ k ∧ k < hi) v xs) (hb:Below hi W W'):d.R e W' lo (fun k=>lo ≤ k ∧ k < hi) v xs :=
 Kd.oJ h (fun k hk _=>hb.block k hk.2)
theorem zbR {α:Type} {d:Kd α} {e lo:Nat} {W:World} {v:Value} {xs:List α} (h:d.R e W lo (fun _=>True) v xs):d.R e W lo (fun k=>lo ≤ k ∧ k < W.heap.size) v xs :=
 Kd.uW (Kd.Z4 h) (fun k hk=>⟨hk.2.1,hk.2.2.1⟩)
theorem FB.keep {W W':World} {lo hi g:Nat} {x:Zg} (h:FB W lo hi g x) (hb:Below hi W W'):FB W' lo hi g x:=by
 obtain ⟨v3,v4,v5,h1,h2,h3,h4,h5,h6⟩:=h
 exact ⟨v3,v4,v5,(hb.block g h3).trans h1,h2,h3,zxi h4 hb,zxi h5 hb,zxi h6 hb⟩
theorem FB.mk {W:World} {lo g:Nat} (x:Zg) {v3 v4 v5:Value} (h1:W.heap[g]? = some (.cells #[.string x.f0,.bool x.f1,.int .i64 x.f2,v3,v4,v5] 60 (0,0))) (h2:lo ≤ g) (h3:Kd.R jh 105 W lo (fun _=>True) v3 x.f3)
  (h4:Kd.R wO 108 W lo (fun _=>True) v4 x.f4) (h5:Kd.R pz 111 W lo (fun _=>True) v5 x.f5):FB W lo W.heap.size g x :=
 ⟨v3,v4,v5,h1,h2,pI h1,zbR h3,zbR h4,zbR h5⟩
def zcF:Zg:=⟨⟨#[82]⟩,false,250,gL wdR 550,zqQ,gM⟩
def zcG:Zg:=⟨⟨#[73]⟩,false,250,Yk wdI 127,[],[]⟩
def zcH:Zg:=⟨⟨#[66]⟩,false,250,gL wdB 600,zqQ,[]⟩
def zcI:Zg:=⟨⟨#[77]⟩,false,600,Yk wdM 127,[],[]⟩
theorem zWo (W:World) (b:Nat) (ok:Nat → Prop):xI (pz.M W b ok) pz.sz gM [.string (⟨#[65]⟩:ByteArray),.string (⟨#[86]⟩:ByteArray),.int .i64 (-80),.string (⟨#[65]⟩:ByteArray),.string (⟨#[87]⟩:ByteArray),.int .i64 (-60),.string (⟨#[84]⟩:ByteArray),.string (⟨#[111]⟩:ByteArray),.int .i64 (-70),.string (⟨#[86]⟩:ByteArray),.string (⟨#[65]⟩:ByteArray),.int .i64 (-80),.string (⟨#[89]⟩:ByteArray),.string (⟨#[111]⟩:ByteArray),.int .i64 (-90)]:=by
 have h:∀ (j:Nat) (p:vk),gM[j]? = some p → pz.M W b ok p ((([.string (⟨#[65]⟩:ByteArray),.string (⟨#[86]⟩:ByteArray),.int .i64 (-80),.string (⟨#[65]⟩:ByteArray),.string (⟨#[87]⟩:ByteArray),.int .i64 (-60),.string (⟨#[84]⟩:ByteArray),.string (⟨#[111]⟩:ByteArray),.int .i64 (-70),.string (⟨#[86]⟩:ByteArray),.string (⟨#[65]⟩:ByteArray),.int .i64 (-80),.string (⟨#[89]⟩:ByteArray),.string (⟨#[111]⟩:ByteArray),.int .i64 (-90)]:List Value).drop (j * 3)).take 3):=by
  intro j p hj
  rcases j with _ | _ | _ | _ | _ | j
  ·obtain rfl:=Option.some.inj hj
   exact dO W b ok (⟨(⟨#[65]⟩:ByteArray),(⟨#[86]⟩:ByteArray),(-80)⟩:vk)
  ·obtain rfl:=Option.some.inj hj
   exact dO W b ok (⟨(⟨#[65]⟩:ByteArray),(⟨#[87]⟩:ByteArray),(-60)⟩:vk)
  ·obtain rfl:=Option.some.inj hj
   exact dO W b ok (⟨(⟨#[84]⟩:ByteArray),(⟨#[111]⟩:ByteArray),(-70)⟩:vk)
  ·obtain rfl:=Option.some.inj hj
   exact dO W b ok (⟨(⟨#[86]⟩:ByteArray),(⟨#[65]⟩:ByteArray),(-80)⟩:vk)
  ·obtain rfl:=Option.some.inj hj
   exact dO W b ok (⟨(⟨#[89]⟩:ByteArray),(⟨#[111]⟩:ByteArray),(-90)⟩:vk)
  ·simp [gM] at hj
 exact ⟨rfl,h⟩
theorem FB.cells {W:World} {lo hi g:Nat} {x:Zg} (h:FB W lo hi g x):∃ A3 n3 c3 A4 n4 c4 A5 n5 c5,W.heap[g]? = some (.cells #[.string x.f0,.bool x.f1,.int .i64 x.f2,.slice A3 n3 c3,.slice A4 n4 c4,.slice A5 n5 c5] 60 (0,0)) ∧
  ∀ (W':World) (base:Nat) (ok:Nat → Prop),Below W.heap.size W W' → base ≤ lo → (∀ k,lo ≤ k → k < hi → ok k) → Ye.M W' base ok x [.string x.f0,.bool x.f1,.int .i64 x.f2,.slice A3 n3 c3,.slice A4 n4 c4,.slice A5 n5 c5]:=by
 obtain ⟨v3,v4,v5,h1,h2,h3,h4,h5,h6⟩:=h
 obtain ⟨A3,c3,rfl⟩:=Kd.xK h4
 obtain ⟨A4,c4,rfl⟩:=Kd.xK h5
 obtain ⟨A5,c5,rfl⟩:=Kd.xK h6
 refine ⟨A3,_,c3,A4,_,c4,A5,_,c5,h1,fun W' base ok hb hl hok=>?_⟩
 exact zdy W' base ok x (Kd.uW (Kd.vG (Kd.qG h4 hb) hl) (fun k hk=>hok k hk.1 hk.2)) (Kd.uW (Kd.vG (Kd.qG h5 hb) hl) (fun k hk=>hok k hk.1 hk.2)) (Kd.uW (Kd.vG (Kd.qG h6 hb) hl) (fun k hk=>hok k hk.1 hk.2))
theorem KQ {W:World} {g:Nat} (h:W.heap[g]? = some (.cells #[.string (⟨#[]⟩:ByteArray),.bool false,.int .i64 0,.slice none 0 0,.slice none 0 0,.slice none 0 0] 60 (0,0))) (a:ByteArray) (b:Bool) (c:Int) (v3 v4 v5:Value) :
  ((((((W.setCell ⟨g,0,none⟩ (.string a)).setCell ⟨g,1,none⟩ (.bool b)).setCell ⟨g,2,none⟩ (.int .i64 c)).setCell ⟨g,3,none⟩ v3).setCell ⟨g,4,none⟩ v4).setCell ⟨g,5,none⟩ v5).heap[g]? = some (.cells #[.string a,.bool b,.int .i64 c,v3,v4,v5] 60 (0,0)) :=
 xD (xD (xD (xD (xD (xD (cs':=#[.string a,.bool false,.int .i64 0,.slice none 0 0,.slice none 0 0,.slice none 0 0]) h 0 _ rfl) (cs':=#[.string a,.bool b,.int .i64 0,.slice none 0 0,.slice none 0 0,.slice none 0 0]) 1 _ rfl)
  (cs':=#[.string a,.bool b,.int .i64 c,.slice none 0 0,.slice none 0 0,.slice none 0 0]) 2 _ rfl) (cs':=#[.string a,.bool b,.int .i64 c,v3,.slice none 0 0,.slice none 0 0]) 3 _ rfl) (cs':=#[.string a,.bool b,.int .i64 c,v3,v4,.slice none 0 0]) 4 _ rfl) 5 _ rfl
theorem PD {W0 W:World} {B g:Nat} (h:Below B W0 W) (hg:B ≤ g) (u0 u1 u2 u3 u4 u5:Value) :
  Below B W0 ((((((W.setCell ⟨g,0,none⟩ u0).setCell ⟨g,1,none⟩ u1).setCell ⟨g,2,none⟩ u2).setCell ⟨g,3,none⟩ u3).setCell ⟨g,4,none⟩ u4).setCell ⟨g,5,none⟩ u5) :=
 (((((h.setCell hg _).setCell hg _).setCell hg _).setCell hg _).setCell hg _).setCell hg _
def ZF (j:Nat):ByteArray:=⟨(zq8.getD j []).toArray⟩
theorem zwY (j:Nat):(ZF j).size ≤ 6:=by
 show ((zq8.getD j []).toArray).size ≤ 6
 rw [List.size_toArray,List.getD_eq_getElem?_getD]
 cases h:zq8[j]? with
 | none=>simp
 | some x=>exact zKM x (List.mem_of_getElem? h)
def lT (m:Nat):List qo:=(List.range m).map fun i=>⟨ZF (2 * i),(zzW (ZF (2 * i + 1))).1⟩
theorem zWp (m:Nat):lT (m + 1) = lT m ++ [⟨ZF (2 * m),(zzW (ZF (2 * m + 1))).1⟩]:=by unfold lT;rw [List.range_succ,List.map_append];rfl
theorem zbS (m:Nat):(lT m).length = m:=by simp [lT]
def zcL:Zg:=⟨⟨#[83]⟩,true,250,lT 35,[],[]⟩
def J3:Array Value:=(zq8.map fun l=>Value.string ⟨l.toArray⟩).toArray
theorem lU (j:Nat) (h:j < 70):J3[j]? = some (.string (ZF j)):=by
 have hl:j < zq8.length:=by rw [zy6];exact h
 unfold J3 ZF
 simp [List.getD_eq_getElem?_getD,hl]
def Pj:List Zg:=[zcF,zcG,zcH,zcI,zcL]
def std.T14:Bool × List (List Nat × List Nat):=(true,[([],[]),([0],[0]),([],[]),([],[]),([2,3],[2,3]),([4],[4]),([],[]),([5,6],[5,6]),([7],[7]),([1,8],[1,8]),([0,1,2,3,4,5,6,7,8,9],[]),([10,9,9,0,1,2,3,4,5,6,7,8,9],[9,10])])
theorem std.zxR:vR .any (opsOf Tryz.f19 14) = std.T14:=by kernel_rfl
def zok (W4:World) (g5 bw:Nat) (x:Value) (wr:World):Prop :=
 ∃ (m k:Nat) (u:Value),x = .int .i64 (k:Int) ∧ k = 2 * m ∧ m ≤ 35 ∧ Kd.R jh 105 wr W4.heap.size (fun _=>True) u (lT m) ∧ wr.heap[g5]? = some (.cells #[.string (⟨#[83]⟩:ByteArray),.bool true,.int .i64 250,u,.slice none 0 0,.slice none 0 0] 60 (0,0)) ∧
  wr.heap[bw]? = some (.cells J3 9 (0,0)) ∧ Below W4.heap.size W4 wr
set_option maxHeartbeats 8000000 in
set_option maxRecDepth 100000 in
theorem zfs (w:World) (hG:GW w):Calls Tryz.prog 19 #[] w fun e w'=>∃ v:Value,e = .returned v ∧ Kd.S Ye 60 w' w.heap.size (fun _=>True) v Pj ∧ Below w.heap.size w w':=by
 have zKF:=Tryz.underlying60
 have HGW:=zx.mk hG
 clear hG
 have zKN:=zx.mk (Below.refl w.heap.size w)
 generalize hW0:w = W0_ at zKN HGW
 go_enter Tryz.func19,Tryz.ntmps19
 go_wp2_with (first | ((with_reducible refine qC (N:=13) rfl ?_);refine Kd.gP jh W0_.heap.size 105 ?hg (N:=13) ?hd (w0:=W0_) (xs:=(Yw 550)) (inner:=[.string (⟨#[102,105]⟩:ByteArray),.int .i64 550,.string (⟨#[102,108]⟩:ByteArray),.int .i64 550,.string (⟨#[102,102]⟩:ByteArray),.int .i64 550]) (ok:=fun _=>True) (wU:=fun _=>True) ?hr ?hp (fun _ hk=>hk) trivial zKN.out zKN.out.size (by simp [Yw]) ?_;(case hd=>rfl);(case hg=>rfl);(case hr=>first | (go_simp;done) | (go_simp;rfl));(case hp=>exact zy7 550 _ _ _);intro u0 wl hol hbl hgl zq9;have HL_:=zx.mk hol;have zxz:=zx.mk hbl;have zbT:=zx.mk zq9;clear hol hbl hgl zq9 zKN))
 refine (lS 55 _ Tryz.func55 (by kernel_rfl) rfl wdR zvO (⟨#[82]⟩:ByteArray) 250 W0_.heap.size u0 (Yw 550) (gL wdR 550) wl zxz.out.size HL_.out (by simp [Yw]) (zXX wdR 550) (zWm wdR 550)).mono ?_
 rintro e w1 ⟨v1,rfl,hr,hb,-,-⟩
 have HR1:=zx.mk hr
 have HB1:=zx.mk (zxz.out.trans hb)
 clear hr hb HL_ zxz zbT
 obtain ⟨A1,c1,e1⟩:=Kd.xK HR1.out
 generalize (gL wdR 550).length = n1 at e1
 subst e1
 go_wp2_with (first | ((with_reducible refine qC (N:=1) rfl ?_);refine qM ?hg (N:=1) ?hd (cs:=#[.string (⟨#[]⟩:ByteArray),.bool false,.int .i64 0,.slice none 0 0,.slice none 0 0,.slice none 0 0]) (t:=60) ?hr ?_;(case hd=>rfl);(case hg=>rfl);(case hr=>first | (go_simp;done) | (go_simp;rfl));intro g1 mM w2 hbx hbq;have Qq:=zx.mk hbx;have zcM:=zx.mk hbq;have zKO:=zx.mk mM;clear hbx hbq mM;have zl4:w2.cell? ⟨g1,0,none⟩ = some (.string (⟨#[]⟩:ByteArray)):=(zQ Qq.out 0).trans rfl;have zl5:w2.cell? ⟨g1,1,none⟩ = some (.bool false):=(zQ Qq.out 1).trans rfl;have zl6:w2.cell? ⟨g1,2,none⟩ = some (.int .i64 0):=(zQ Qq.out 2).trans rfl;have zl7:w2.cell? ⟨g1,3,none⟩ = some (.slice none 0 0):=(zQ Qq.out 3).trans rfl;have zl8:w2.cell? ⟨g1,4,none⟩ = some (.slice none 0 0):=(zQ Qq.out 4).trans rfl;have zl9:w2.cell? ⟨g1,5,none⟩ = some (.slice none 0 0):=(zQ Qq.out 5).trans rfl;have zmz:=zy Qq.out 0;have zmq:=zy Qq.out 1;have zmx:=zy Qq.out 2;have zmj:=zy Qq.out 3;have zmv:=zy Qq.out 4;have zmk:=zy Qq.out 5))
 have zJ:=zx.mk (KQ Qq.out (⟨#[82]⟩:ByteArray) false 250 (.slice A1 n1 c1) (.slice none 0 0) (.slice none 0 0))
 have zi:=zx.mk (PD (zcM.out) (Nat.le_of_eq zKO.out.symm) (.string (⟨#[82]⟩:ByteArray)) (.bool false) (.int .i64 250) (.slice A1 n1 c1) (.slice none 0 0) (.slice none 0 0))
 have LG1:=zx.mk (Nat.le_trans HB1.out.size (Nat.le_of_eq zKO.out.symm))
 clear zl4 zl5 zl6 zl7 zl8 zl9 zmz zmq zmx zmj zmv zmk
 generalize ((((((w2.setCell ⟨g1,0,none⟩ (.string (⟨#[82]⟩:ByteArray))).setCell ⟨g1,1,none⟩ (.bool false)).setCell ⟨g1,2,none⟩ (.int .i64 250)).setCell ⟨g1,3,none⟩ (.slice A1 n1 c1)).setCell ⟨g1,4,none⟩ (.slice none 0 0)).setCell ⟨g1,5,none⟩ (.slice none 0 0)) = w3 at zJ zi ⊢
 have zK:=zx.mk (Kd.qG HR1.out zi.out)
 have zL:=zx.mk (HB1.out.trans (zi.out.mono HB1.out.size))
 clear HR1 HB1 Qq zcM zKO zi
 have VK:=zJ
 have HR1:=zK
 have HB1:=zL
 clear zJ zK zL
 refine (QW.calls zqQ w3 rfl).mono ?_
 rintro e w4 ⟨v4,rfl,hr,hb⟩
 have zJ:=zx.mk (zU VK.out hb)
 have zK:=zx.mk (Kd.qG HR1.out hb)
 have zi:=zx.mk (Kd.vG hr HB1.out.size)
 have zL:=zx.mk (HB1.out.trans (hb.mono HB1.out.size))
 clear VK HR1 HB1 hr hb
 have VK:=zJ
 have HR1:=zK
 have HL1:=zi
 have HB1:=zL
 clear zJ zK zi zL
 obtain ⟨A4,c4,e4⟩:=Kd.xK HL1.out
 generalize zqQ.length = n4 at e4
 subst e4
 have hq4:w4.cell? ⟨g1,4,none⟩ = some (.slice none 0 0):=(zQ VK.out 4).trans rfl
 have zbU:=zy VK.out 4
 go_wp2_with (first | ((with_reducible refine qC (N:=22) rfl ?_);have zJ:=zx.mk (xD (cs':=#[.string (⟨#[82]⟩:ByteArray),.bool false,.int .i64 250,.slice A1 n1 c1,.slice A4 n4 c4,.slice none 0 0]) VK.out 4 (.slice A4 n4 c4) rfl);have zK:=zx.mk (Kd.QK HR1.out VK.out (by decide) 4 (.slice A4 n4 c4));have zi:=zx.mk (Kd.QK HL1.out VK.out (by decide) 4 (.slice A4 n4 c4));have zL:=zx.mk (HB1.out.setCell (p:=⟨g1,4,none⟩) LG1.out (.slice A4 n4 c4));clear VK HR1 HL1 HB1 hq4 zbU;have VK:=zJ;have HR1:=zK;have HL1:=zi;have HB1:=zL;clear zJ zK zi zL;generalize w4.setCell ⟨g1,4,none⟩ (.slice A4 n4 c4) = w5 at VK HR1 HL1 HB1 ⊢;refine Kd.gP pz W0_.heap.size 111 ?hg (N:=22) ?hd (w0:=W0_) (xs:=gM) (inner:=[.string (⟨#[65]⟩:ByteArray),.string (⟨#[86]⟩:ByteArray),.int .i64 (-80),.string (⟨#[65]⟩:ByteArray),.string (⟨#[87]⟩:ByteArray),.int .i64 (-60),.string (⟨#[84]⟩:ByteArray),.string (⟨#[111]⟩:ByteArray),.int .i64 (-70),.string (⟨#[86]⟩:ByteArray),.string (⟨#[65]⟩:ByteArray),.int .i64 (-80),.string (⟨#[89]⟩:ByteArray),.string (⟨#[111]⟩:ByteArray),.int .i64 (-90)]) (ok:=fun _=>True) (wU:=fun _=>True) ?hr ?hp (fun _ hk=>hk) trivial HB1.out HB1.out.size (by simp [gM]) ?_;(case hd=>rfl);(case hg=>rfl);(case hr=>first | (go_simp;done) | (go_simp;rfl));(case hp=>exact zWo _ _ _);intro v5 wk hol hbl hgl zq9;obtain ⟨A5,c5,e5⟩:=Kd.xK hol;generalize gM.length = n5 at e5;subst e5;have zJ:=zx.mk (uO VK.out hgl (by simp));have zK:=zx.mk (Kd.zzg HR1.out hgl (fun _ _=>by simp));have zi:=zx.mk (Kd.zzg HL1.out hgl (fun _ _=>by simp));have zL:=zx.mk hol;have qz:=zx.mk hbl;clear VK HR1 HL1 HB1 hol hbl hgl zq9;have VK:=zJ;have HR1:=zK;have HL1:=zi;have uK:=zL;have HB1:=qz;clear zJ zK zi zL qz;have hq5:wk.cell? ⟨g1,5,none⟩ = some (.slice none 0 0):=(zQ VK.out 5).trans rfl;have zoy:=zy VK.out 5))
 have zJ:=zx.mk (xD (cs':=#[.string (⟨#[82]⟩:ByteArray),.bool false,.int .i64 250,.slice A1 n1 c1,.slice A4 n4 c4,.slice A5 n5 c5]) VK.out 5 (.slice A5 n5 c5) rfl)
 have zK:=zx.mk (Kd.QK HR1.out VK.out (by decide) 5 (.slice A5 n5 c5))
 have zi:=zx.mk (Kd.QK HL1.out VK.out (by decide) 5 (.slice A5 n5 c5))
 have zL:=zx.mk (Kd.QK uK.out VK.out (by decide) 5 (.slice A5 n5 c5))
 have qz:=zx.mk (HB1.out.setCell (p:=⟨g1,5,none⟩) LG1.out (.slice A5 n5 c5))
 clear VK HR1 HL1 uK HB1 hq5 zoy
 generalize wk.setCell ⟨g1,5,none⟩ (.slice A5 n5 c5) = W1_ at zJ zK zi zL qz ⊢
 have FB1:=zx.mk (FB.mk zcF zJ.out LG1.out zK.out zi.out zL.out)
 have BW0:=zx.mk qz.out
 clear zJ zK zi zL qz LG1
 refine (lS 57 _ Tryz.func57 (by kernel_rfl) rfl wdI zfo (⟨#[73]⟩:ByteArray) 250 W1_.heap.size (.slice none 0 0) [] (Yk wdI 127) W1_ (Nat.le_refl _) (Kd.jw _ _ _ _ _) (by simp [Yw]) (by rw [List.nil_append]) (zWn wdI)).mono ?_
 rintro e w6 ⟨v6,rfl,hr,hb,-,-⟩
 have HR2:=zx.mk hr
 have HB2:=zx.mk hb
 clear hr hb
 obtain ⟨A6,c6,e6⟩:=Kd.xK HR2.out
 generalize (Yk wdI 127).length = n6 at e6
 subst e6
 go_wp2_with (first | ((with_reducible refine qC (N:=2) rfl ?_);refine qM ?hg (N:=2) ?hd (cs:=#[.string (⟨#[]⟩:ByteArray),.bool false,.int .i64 0,.slice none 0 0,.slice none 0 0,.slice none 0 0]) (t:=60) ?hr ?_;(case hd=>rfl);(case hg=>rfl);(case hr=>first | (go_simp;done) | (go_simp;rfl));intro g2 mM w7 hbx hbq;have Qx:=zx.mk hbx;have zcN:=zx.mk hbq;have zKP:=zx.mk mM;clear hbx hbq mM;have zmy:w7.cell? ⟨g2,0,none⟩ = some (.string (⟨#[]⟩:ByteArray)):=(zQ Qx.out 0).trans rfl;have zmw:w7.cell? ⟨g2,1,none⟩ = some (.bool false):=(zQ Qx.out 1).trans rfl;have zmZ:w7.cell? ⟨g2,2,none⟩ = some (.int .i64 0):=(zQ Qx.out 2).trans rfl;have zmQ:w7.cell? ⟨g2,3,none⟩ = some (.slice none 0 0):=(zQ Qx.out 3).trans rfl;have zmX:w7.cell? ⟨g2,4,none⟩ = some (.slice none 0 0):=(zQ Qx.out 4).trans rfl;have zmJ:w7.cell? ⟨g2,5,none⟩ = some (.slice none 0 0):=(zQ Qx.out 5).trans rfl;have zmV:=zy Qx.out 0;have zmK:=zy Qx.out 1;have zmY:=zy Qx.out 2;have zmW:=zy Qx.out 3;have zma:=zy Qx.out 4;have zmb:=zy Qx.out 5) | ((with_reducible refine qC (N:=28) rfl ?_);have zJ:=zx.mk (KQ Qx.out (⟨#[73]⟩:ByteArray) false 250 (.slice A6 n6 c6) (.slice none 0 0) (.slice none 0 0));have zi:=zx.mk (PD (zcN.out) (Nat.le_of_eq zKP.out.symm) (.string (⟨#[73]⟩:ByteArray)) (.bool false) (.int .i64 250) (.slice A6 n6 c6) (.slice none 0 0) (.slice none 0 0));have LG2:=zx.mk (Nat.le_trans HB2.out.size (Nat.le_of_eq zKP.out.symm));clear zmy zmw zmZ zmQ zmX zmJ zmV zmK zmY zmW zma zmb;generalize ((((((w7.setCell ⟨g2,0,none⟩ (.string (⟨#[73]⟩:ByteArray))).setCell ⟨g2,1,none⟩ (.bool false)).setCell ⟨g2,2,none⟩ (.int .i64 250)).setCell ⟨g2,3,none⟩ (.slice A6 n6 c6)).setCell ⟨g2,4,none⟩ (.slice none 0 0)).setCell ⟨g2,5,none⟩ (.slice none 0 0)) = W2_ at zJ zi ⊢;have FB2:=zx.mk (FB.mk zcG zJ.out LG2.out (Kd.qG HR2.out zi.out) (Kd.jw _ _ _ _ _) (Kd.jw _ _ _ _ _));have BW1:=zx.mk (HB2.out.trans (zi.out.mono HB2.out.size));clear HR2 HB2 Qx zcN zKP LG2 zJ zi;refine Kd.gP jh W2_.heap.size 105 ?hg (N:=28) ?hd (w0:=W2_) (xs:=(Yw 600)) (inner:=[.string (⟨#[102,105]⟩:ByteArray),.int .i64 600,.string (⟨#[102,108]⟩:ByteArray),.int .i64 600,.string (⟨#[102,102]⟩:ByteArray),.int .i64 600]) (ok:=fun _=>True) (wU:=fun _=>True) ?hr ?hp (fun _ hk=>hk) trivial (Below.refl _ _) (Nat.le_refl _) (by simp [Yw]) ?_;(case hd=>rfl);(case hg=>rfl);(case hr=>first | (go_simp;done) | (go_simp;rfl));(case hp=>exact zy7 600 _ _ _);intro u0 wl hol hbl hgl zq9;have HL_:=zx.mk hol;have zxz:=zx.mk hbl;have zbT:=zx.mk zq9;clear hol hbl hgl zq9))
 refine (lS 58 _ Tryz.func58 (by kernel_rfl) rfl wdB zfp (⟨#[66]⟩:ByteArray) 250 W2_.heap.size u0 (Yw 600) (gL wdB 600) wl zxz.out.size HL_.out (by simp [Yw]) (zXX wdB 600) (zWm wdB 600)).mono ?_
 rintro e w9 ⟨v9,rfl,hr,hb,-,-⟩
 have HR3:=zx.mk hr
 have HB3:=zx.mk (zxz.out.trans hb)
 clear hr hb HL_ zxz zbT
 obtain ⟨A9,c9,e9⟩:=Kd.xK HR3.out
 generalize (gL wdB 600).length = n9 at e9
 subst e9
 go_wp2_with (first | ((with_reducible refine qC (N:=3) rfl ?_);refine qM ?hg (N:=3) ?hd (cs:=#[.string (⟨#[]⟩:ByteArray),.bool false,.int .i64 0,.slice none 0 0,.slice none 0 0,.slice none 0 0]) (t:=60) ?hr ?_;(case hd=>rfl);(case hg=>rfl);(case hr=>first | (go_simp;done) | (go_simp;rfl));intro g3 mM Po hbx hbq;have Qj:=zx.mk hbx;have zcO:=zx.mk hbq;have zKR:=zx.mk mM;clear hbx hbq mM;have zmc:Po.cell? ⟨g3,0,none⟩ = some (.string (⟨#[]⟩:ByteArray)):=(zQ Qj.out 0).trans rfl;have zmd:Po.cell? ⟨g3,1,none⟩ = some (.bool false):=(zQ Qj.out 1).trans rfl;have zme:Po.cell? ⟨g3,2,none⟩ = some (.int .i64 0):=(zQ Qj.out 2).trans rfl;have zmf:Po.cell? ⟨g3,3,none⟩ = some (.slice none 0 0):=(zQ Qj.out 3).trans rfl;have zmg:Po.cell? ⟨g3,4,none⟩ = some (.slice none 0 0):=(zQ Qj.out 4).trans rfl;have zmh:Po.cell? ⟨g3,5,none⟩ = some (.slice none 0 0):=(zQ Qj.out 5).trans rfl;have zmi:=zy Qj.out 0;have zml:=zy Qj.out 1;have zmm:=zy Qj.out 2;have zmn:=zy Qj.out 3;have zmo:=zy Qj.out 4;have zmp:=zy Qj.out 5))
 have zJ:=zx.mk (KQ Qj.out (⟨#[66]⟩:ByteArray) false 250 (.slice A9 n9 c9) (.slice none 0 0) (.slice none 0 0))
 have zi:=zx.mk (PD (zcO.out) (Nat.le_of_eq zKR.out.symm) (.string (⟨#[66]⟩:ByteArray)) (.bool false) (.int .i64 250) (.slice A9 n9 c9) (.slice none 0 0) (.slice none 0 0))
 have LG3:=zx.mk (Nat.le_trans HB3.out.size (Nat.le_of_eq zKR.out.symm))
 clear zmc zmd zme zmf zmg zmh zmi zml zmm zmn zmo zmp
 generalize ((((((Po.setCell ⟨g3,0,none⟩ (.string (⟨#[66]⟩:ByteArray))).setCell ⟨g3,1,none⟩ (.bool false)).setCell ⟨g3,2,none⟩ (.int .i64 250)).setCell ⟨g3,3,none⟩ (.slice A9 n9 c9)).setCell ⟨g3,4,none⟩ (.slice none 0 0)).setCell ⟨g3,5,none⟩ (.slice none 0 0)) = oq at zJ zi ⊢
 have zK:=zx.mk (Kd.qG HR3.out zi.out)
 have zL:=zx.mk (HB3.out.trans (zi.out.mono HB3.out.size))
 clear HR3 HB3 Qj zcO zKR zi
 have BX3:=zJ
 have HR3:=zK
 have HB3:=zL
 clear zJ zK zL
 refine (QW.calls zqQ oq rfl).mono ?_
 rintro e Yq ⟨v12,rfl,hr,hb⟩
 have zJ:=zx.mk (zU BX3.out hb)
 have zK:=zx.mk (Kd.qG HR3.out hb)
 have zi:=zx.mk (Kd.vG hr HB3.out.size)
 have zL:=zx.mk (HB3.out.trans (hb.mono HB3.out.size))
 clear BX3 HR3 HB3 hr hb
 have BX3:=zJ
 have HR3:=zK
 have HL3:=zi
 have HB3:=zL
 clear zJ zK zi zL
 obtain ⟨mW,c12,e12⟩:=Kd.xK HL3.out
 generalize zqQ.length = n12 at e12
 subst e12
 have hq4:Yq.cell? ⟨g3,4,none⟩ = some (.slice none 0 0):=(zQ BX3.out 4).trans rfl
 have zbU:=zy BX3.out 4
 go_wp2_with fail
 have zJ:=zx.mk (xD (cs':=#[.string (⟨#[66]⟩:ByteArray),.bool false,.int .i64 250,.slice A9 n9 c9,.slice mW n12 c12,.slice none 0 0]) BX3.out 4 (.slice mW n12 c12) rfl)
 have zK:=zx.mk (Kd.QK HR3.out BX3.out (by decide) 4 (.slice mW n12 c12))
 have zi:=zx.mk (Kd.QK HL3.out BX3.out (by decide) 4 (.slice mW n12 c12))
 have zL:=zx.mk (HB3.out.setCell (p:=⟨g3,4,none⟩) LG3.out (.slice mW n12 c12))
 clear BX3 HR3 HL3 HB3 hq4 zbU
 generalize Yq.setCell ⟨g3,4,none⟩ (.slice mW n12 c12) = W3_ at zJ zK zi zL ⊢
 have FB3:=zx.mk (FB.mk zcH zJ.out LG3.out zK.out zi.out (Kd.jw _ _ _ _ _))
 have BW2:=zx.mk zL.out
 clear zJ zK zi zL LG3
 refine (lS 59 _ Tryz.func59 (by kernel_rfl) rfl wdM zfr (⟨#[77]⟩:ByteArray) 600 W3_.heap.size (.slice none 0 0) [] (Yk wdM 127) W3_ (Nat.le_refl _) (Kd.jw _ _ _ _ _) (by simp [Yw]) (by rw [List.nil_append]) (zWn wdM)).mono ?_
 rintro e w13 ⟨v13,rfl,hr,hb,-,-⟩
 have HR4:=zx.mk hr
 have Ke:=zx.mk hb
 clear hr hb
 obtain ⟨A13,c13,e13⟩:=Kd.xK HR4.out
 generalize (Yk wdM 127).length = n13 at e13
 subst e13
 go_wp2_with (first | ((with_reducible refine qC (N:=4) rfl ?_);refine qM ?hg (N:=4) ?hd (cs:=#[.string (⟨#[]⟩:ByteArray),.bool false,.int .i64 0,.slice none 0 0,.slice none 0 0,.slice none 0 0]) (t:=60) ?hr ?_;(case hd=>rfl);(case hg=>rfl);(case hr=>first | (go_simp;done) | (go_simp;rfl));intro g4 mM Kg hbx hbq;have Qv:=zx.mk hbx;have zcP:=zx.mk hbq;have zKS:=zx.mk mM;clear hbx hbq mM;have zmr:Kg.cell? ⟨g4,0,none⟩ = some (.string (⟨#[]⟩:ByteArray)):=(zQ Qv.out 0).trans rfl;have zms:Kg.cell? ⟨g4,1,none⟩ = some (.bool false):=(zQ Qv.out 1).trans rfl;have zmt:Kg.cell? ⟨g4,2,none⟩ = some (.int .i64 0):=(zQ Qv.out 2).trans rfl;have zmu:Kg.cell? ⟨g4,3,none⟩ = some (.slice none 0 0):=(zQ Qv.out 3).trans rfl;have zmA:Kg.cell? ⟨g4,4,none⟩ = some (.slice none 0 0):=(zQ Qv.out 4).trans rfl;have zmB:Kg.cell? ⟨g4,5,none⟩ = some (.slice none 0 0):=(zQ Qv.out 5).trans rfl;have zmC:=zy Qv.out 0;have zmD:=zy Qv.out 1;have zmE:=zy Qv.out 2;have zmF:=zy Qv.out 3;have zmG:=zy Qv.out 4;have zmH:=zy Qv.out 5) | ((with_reducible refine qC (N:=5) rfl ?_);have zJ:=zx.mk (KQ Qv.out (⟨#[77]⟩:ByteArray) false 600 (.slice A13 n13 c13) (.slice none 0 0) (.slice none 0 0));have zi:=zx.mk (PD (zcP.out) (Nat.le_of_eq zKS.out.symm) (.string (⟨#[77]⟩:ByteArray)) (.bool false) (.int .i64 600) (.slice A13 n13 c13) (.slice none 0 0) (.slice none 0 0));have LG4:=zx.mk (Nat.le_trans Ke.out.size (Nat.le_of_eq zKS.out.symm));clear zmr zms zmt zmu zmA zmB zmC zmD zmE zmF zmG zmH;generalize ((((((Kg.setCell ⟨g4,0,none⟩ (.string (⟨#[77]⟩:ByteArray))).setCell ⟨g4,1,none⟩ (.bool false)).setCell ⟨g4,2,none⟩ (.int .i64 600)).setCell ⟨g4,3,none⟩ (.slice A13 n13 c13)).setCell ⟨g4,4,none⟩ (.slice none 0 0)).setCell ⟨g4,5,none⟩ (.slice none 0 0)) = W4_ at zJ zi ⊢;have FB4:=zx.mk (FB.mk zcI zJ.out LG4.out (Kd.qG HR4.out zi.out) (Kd.jw _ _ _ _ _) (Kd.jw _ _ _ _ _));have BW3:=zx.mk (Ke.out.trans (zi.out.mono Ke.out.size));clear HR4 Ke Qv zcP zKS LG4 zJ zi;refine qM ?hg (N:=5) ?hd (cs:=#[.string (⟨#[]⟩:ByteArray),.bool false,.int .i64 0,.slice none 0 0,.slice none 0 0,.slice none 0 0]) (t:=60) ?hr ?_;(case hd=>rfl);(case hg=>rfl);(case hr=>first | (go_simp;done) | (go_simp;rfl));intro g5 mM Zi hbx hbq;have Qk:=zx.mk hbx;have zcR:=zx.mk hbq;have zKT:=zx.mk mM;clear hbx hbq mM;have zmI:Zi.cell? ⟨g5,0,none⟩ = some (.string (⟨#[]⟩:ByteArray)):=(zQ Qk.out 0).trans rfl;have zmL:Zi.cell? ⟨g5,1,none⟩ = some (.bool false):=(zQ Qk.out 1).trans rfl;have zmM:Zi.cell? ⟨g5,2,none⟩ = some (.int .i64 0):=(zQ Qk.out 2).trans rfl;have zmN:Zi.cell? ⟨g5,3,none⟩ = some (.slice none 0 0):=(zQ Qk.out 3).trans rfl;have zmO:Zi.cell? ⟨g5,4,none⟩ = some (.slice none 0 0):=(zQ Qk.out 4).trans rfl;have zmP:Zi.cell? ⟨g5,5,none⟩ = some (.slice none 0 0):=(zQ Qk.out 5).trans rfl;have zmR:=zy Qk.out 0;have zmS:=zy Qk.out 1;have zmT:=zy Qk.out 2;have zmU:=zy Qk.out 3;have zm0:=zy Qk.out 4;have zm1:=zy Qk.out 5))
 have zJ:=zx.mk (KQ Qk.out (⟨#[83]⟩:ByteArray) true 250 (.slice none 0 0) (.slice none 0 0) (.slice none 0 0))
 have zi:=zx.mk (PD (zcR.out) (Nat.le_of_eq zKT.out.symm) (.string (⟨#[83]⟩:ByteArray)) (.bool true) (.int .i64 250) (.slice none 0 0) (.slice none 0 0) (.slice none 0 0))
 have LG5:=zx.mk (Nat.le_of_eq zKT.out.symm)
 clear zmI zmL zmM zmN zmO zmP zmR zmS zmT zmU zm0 zm1
 generalize ((((((Zi.setCell ⟨g5,0,none⟩ (.string (⟨#[83]⟩:ByteArray))).setCell ⟨g5,1,none⟩ (.bool true)).setCell ⟨g5,2,none⟩ (.int .i64 250)).setCell ⟨g5,3,none⟩ (.slice none 0 0)).setCell ⟨g5,4,none⟩ (.slice none 0 0)).setCell ⟨g5,5,none⟩ (.slice none 0 0)) = w16 at zJ zi ⊢
 clear Qk zcR zKT
 have BX5:=zJ
 have P7:=zi
 clear zJ zi
 have GWS:=zx.mk (HGW.out.under (BW0.out.trans ((BW1.out.mono BW0.out.size).trans ((BW2.out.mono (Nat.le_trans BW0.out.size BW1.out.size)).trans (BW3.out.mono (Nat.le_trans BW0.out.size (Nat.le_trans BW1.out.size BW2.out.size)))))))
 refine (Tryz.strings_Fields zqZ w16 (by decide +kernel) zwK (GWS.out.under P7.out).spc).mono ?_
 rintro e VQ ⟨rfl,zy8⟩
 have hlen:(Lib.fields zqZ.data.toList).length = 70:=zy6
 rw [hlen]
 clear hlen
 have hcw:((Lib.fields zqZ.data.toList).map fun l=>Value.string ⟨l.toArray⟩).toArray = J3:=rfl
 rw [hcw] at zy8
 have BKW:=zx.mk (show VQ.heap[w16.heap.size]? = some (.cells J3 9 (0,0)) by rw [zy8];exact kF _ _)
 have zJ:=yL BX5.out (.cells J3 9)
 rw [← zy8] at zJ
 have zK:=zx.mk (show Below W4_.heap.size W4_ VQ by rw [zy8];exact P7.out.alloc P7.out.size _)
 clear BX5 P7 zy8 hcw
 have BX5:=zx.mk zJ
 have P7:=zK
 clear zJ zK
 generalize w16.heap.size = bw at BKW ⊢
 go_wp2
 go_loopw [7,8,9] (fun x y z wr=>zok W4_ g5 bw x wr) (fun x y z _=>70 - (intOf x).toNat)
 case atStart=>exact ⟨0,0,_,rfl,rfl,by omega,Kd.jw _ _ _ _ _,BX5.out,BKW.out,P7.out⟩
 case round =>
  obtain ⟨m,k,u,rfl,hk0,hm,jW,BX0,BK0,HB0⟩:=hrel
  have HKK:=zx.mk hk0
  have hkm:k ≤ 2 * m:=by omega
  have hmk:2 * m ≤ k:=by omega
  clear hk0
  have Zt:=zx.mk jW
  have BX:=zx.mk BX0
  have BK:=zx.mk BK0
  have Yy:=zx.mk HB0
  clear jW BX0 BK0 HB0 BX5 BKW P7
  by_cases hlt:m < 35
  ·have q1:decide ((k:Int) < 70) = true:=decide_eq_true (by omega)
   have q2:IntKind.i64.wrap ((k:Int) + 1) = (k:Int) + 1:=IntWalk.i64_in _ (by omega)
   have hcell:wr.cell? ⟨bw,k + 1,none⟩ = some (.string (ZF (k + 1))):=(zQ BK.out _).trans (lU _ (by omega))
   go_wp2_with fail
   have zhR:=zKH (ZF (k + 1)) wr (by have:=zwY (k + 1);omega) (GWS.out.under Yy.out)
   refine zhR.mono ?_
   rintro e gK ⟨rfl,hb⟩
   clear zhR hcell q2
   have zJ:=zx.mk (Kd.vB (Kd.qG Zt.out hb))
   have zK:=zx.mk (qK (zU BX.out hb))
   have zi:=zx.mk (qK (zU BK.out hb))
   have zL:=zx.mk ((Yy.out.trans (hb.mono Yy.out.size)).drew)
   clear Zt BX BK Yy hb
   have Zt:=zJ
   have BX:=zK
   have BK:=zi
   have Yy:=zL
   clear zJ zK zi zL
   have zb0:k < 70:=by omega
   have q5:((k:Int) < 70) = True:=eq_true (by omega)
   go_wp2
   refine jy (n:=12) (S:=fun w'=>w'.cell? ⟨g5,3,none⟩ = some u ∧ w'.cell? ⟨bw,k,none⟩ = some (.string (ZF k))) (ds:=[11]) #[false,false,false,false,false,false,false,false,false,false,false,false] (by kernel_rfl) rfl rfl ⟨(zQ BX.out 3).trans rfl,(zQ BK.out _).trans (lU _ zb0)⟩ (fun hHeld=>?_)
   refine iO std.zxR (fun za=>?_)
   generalize gK.drew = w16 at Zt BX BK Yy hHeld ⊢
   refine ug (i:=0) (N:=some 50) (v:=?_) (a':=?_) #[true,false,false,false,false,false,false,false,false,false,false,false] rfl rfl (vE za.out (by kernel_rfl)) (fun _ _ _ h=>h) (Or.inl ⟨by rfl,?_⟩) ?_ ?_
   rotate_left
   ·intro w'
    go_simp
    with_reducible rfl
   rotate_left
   ·simp only [Act.put,List.setIfInBounds_toArray,List.set_cons_zero,List.set_cons_succ]
    rfl
   refine ug (i:=2) (N:=some 52) (v:=?_) (a':=?_) #[true,false,true,false,false,false,false,false,false,false,false,false] rfl rfl (vE za.out (by kernel_rfl)) (fun _ _ _ h=>h) (Or.inl ⟨by rfl,?_⟩) ?_ ?_
   rotate_left
   ·intro w'
    go_simp
    with_reducible rfl
   rotate_left
   ·simp only [Act.put,List.setIfInBounds_toArray,List.set_cons_zero,List.set_cons_succ]
    rfl
   refine ug (i:=3) (N:=some 53) (v:=?_) (a':=?_) #[true,false,true,true,false,false,false,false,false,false,false,false] rfl rfl (vE za.out (by kernel_rfl)) (fun _ _ _ h=>h) (Or.inl ⟨by rfl,?_⟩) ?_ ?_
   rotate_left
   ·intro w'
    go_simp
    with_reducible rfl
   rotate_left
   ·simp only [Act.put,List.setIfInBounds_toArray,List.set_cons_zero,List.set_cons_succ]
    rfl
   refine ug (i:=4) (N:=some 54) (v:=?_) (a':=?_) #[true,false,true,true,true,false,false,false,false,false,false,false] rfl rfl (vE za.out (by kernel_rfl)) (fun _ _ _ h=>h) (Or.inl ⟨by rfl,?_⟩) ?_ ?_
   rotate_left
   ·intro w'
    go_simp
    with_reducible rfl
   rotate_left
   ·simp only [Act.put,List.setIfInBounds_toArray,List.set_cons_zero,List.set_cons_succ]
    rfl
   refine ug (i:=6) (N:=some 56) (v:=?_) (a':=?_) #[true,false,true,true,true,false,true,false,false,false,false,false] rfl rfl (vE za.out (by kernel_rfl)) (fun _ _ _ h=>h) (Or.inl ⟨by rfl,?_⟩) ?_ ?_
   rotate_left
   ·intro w'
    go_simp
    with_reducible rfl
   rotate_left
   ·simp only [Act.put,List.setIfInBounds_toArray,List.set_cons_zero,List.set_cons_succ]
    rfl
   refine VY (i:=1) (N:=some 51) (v:=?_) (a':=?_) #[true,true,true,true,true,false,true,false,false,false,false,false] rfl rfl (zzm za.out (by kernel_rfl)) (fun _ _ _ h=>h) (Or.inl ⟨by rfl,?_⟩) hHeld ?_ ?_
   rotate_left
   ·rintro w' ⟨s0,s1⟩
    go_simp
    with_reducible rfl
   rotate_left
   ·simp only [Act.put,List.setIfInBounds_toArray,List.set_cons_zero,List.set_cons_succ]
    rfl
   refine VY (i:=5) (N:=some 55) (v:=?_) (a':=?_) #[true,true,true,true,true,true,true,false,false,false,false,false] rfl rfl (zzm za.out (by kernel_rfl)) (fun _ _ _ h=>h) (Or.inl ⟨by rfl,?_⟩) hHeld ?_ ?_
   rotate_left
   ·rintro w' ⟨s0,s1⟩
    go_simp
    with_reducible rfl
   rotate_left
   ·simp only [Act.put,List.setIfInBounds_toArray,List.set_cons_zero,List.set_cons_succ]
    rfl
   refine ug (i:=7) (N:=some 57) (v:=?_) (a':=?_) #[true,true,true,true,true,true,true,true,false,false,false,false] rfl rfl (vE za.out (by kernel_rfl)) (fun _ _ _ h=>h) (Or.inl ⟨by rfl,?_⟩) ?_ ?_
   rotate_left
   ·intro w'
    go_simp
    with_reducible rfl
   rotate_left
   ·simp only [Act.put,List.setIfInBounds_toArray,List.set_cons_zero,List.set_cons_succ]
    rfl
   refine Km (i:=8) (N:=some 58) #[true,true,true,true,true,true,true,true,true,false,false,false] rfl rfl (pO za.out (by kernel_rfl)) (by decide) (fun K hK=>?_)
   refine zxd (w1:=?_) (v:=?_) (by rfl) rfl ?_ ?_
   rotate_left 2
   ·go_simp
    constructor
    ·rfl
    ·rfl
   refine hK.out _ _ ⟨(zQ (yL BX.out _) 3).trans rfl,(zQ (yL BK.out _) _).trans (lU _ zb0)⟩ (fun hHeld=>?_)
   clear hK K
   refine J7 (a':=?_) ?_ ?_
   rotate_left
   ·show Act.put _ (some 58) _ = _
    simp only [Act.put,List.setIfInBounds_toArray,List.set_cons_zero,List.set_cons_succ]
    rfl
   refine Km (i:=9) (N:=some 59) #[true,true,true,true,true,true,true,true,true,true,false,false] rfl rfl (pO za.out (by kernel_rfl)) (by decide) (fun K hK=>?_)
   refine Kd.Zu jh (w0:=W4_) W4_.heap.size (by rfl) (.tmp 51) (.tmp 58) 56 105 (.agg #[(.string ⟨#[]⟩),(.int .i64 0)]) 24 rfl Tryz.underlying56 zXZ rfl (by decide) (by omega) u (lT m) (⟨ZF k,(zzW (ZF (k + 1))).1⟩:qo) [.string (ZF k),.int .i64 (zzW (ZF (k + 1))).1] (fun _=>True) (fun _=>False) rfl rfl ?aP (fun _ hk=>hk.elim) ?aF ?aO ?aB ?aS ?aL ?_
   (case aP=>exact Kn _ _ _ (⟨ZF k,(zzW (ZF (k + 1))).1⟩:qo))
   (case aF=>exact (fun _ _=>trivial))
   (case aO=>exact Zt.out)
   (case aB=>exact Yy.out)
   (case aS=>exact Yy.out.size)
   (case aL=>rw [zbS];omega)
   intro v1 gK ho hb hg hat
   rw [HKK.out,← zWp] at ho
   obtain ⟨Ao,co,eo⟩:=Kd.xK ho
   subst eo
   generalize (lT (m + 1)).length = nn at ho hat ⊢
   have zJ:=zx.mk (uO BX.out hg (Kd.Vz Zt.out BX.out (by decide)))
   have zK:=zx.mk (uO BK.out hg (Kd.Vz Zt.out BK.out (by decide)))
   have zi:=zx.mk hb
   have zL:=zx.mk ho
   clear BX BK Yy Zt ho hb hg hat hHeld
   have BX:=zJ
   have BK:=zK
   have Yy:=zi
   have Zt:=zL
   clear zJ zK zi zL
   refine hK.out _ _ ⟨(zQ BX.out 3).trans rfl,(zQ BK.out _).trans (lU _ zb0)⟩ (fun hHeld=>?_)
   clear hK K
   refine J7 (a':=?_) ?_ ?_
   rotate_left
   ·show Act.put _ (some 59) _ = _
    simp only [Act.put,List.setIfInBounds_toArray,List.set_cons_zero,List.set_cons_succ]
    rfl
   refine ug (i:=10) (N:=some 60) (v:=?_) (a':=?_) #[true,true,true,true,true,true,true,true,true,true,true,false] rfl rfl (vE za.out (by kernel_rfl)) (fun _ _ _ h=>h) (Or.inl ⟨by rfl,?_⟩) ?_ ?_
   rotate_left
   ·intro w'
    go_simp
    with_reducible rfl
   rotate_left
   ·simp only [Act.put,List.setIfInBounds_toArray,List.set_cons_zero,List.set_cons_succ]
    rfl
   refine zzi (i:=11) (N:=none) #[true,true,true,true,true,true,true,true,true,true,true,true] rfl rfl (pO za.out (by kernel_rfl)) (by decide) (fun K hK=>?_)
   have zbO:gK.cell? ⟨g5,3,none⟩ = some u:=(zQ BX.out 3).trans rfl
   have zKG:=zy BX.out 3
   refine iN (w1:=?_) (by rfl) rfl ?_ ?_
   rotate_left
   ·go_simp
    rfl
   refine hK.out _ _ ?_
   clear hK K
   refine xP (qH za.out (by kernel_rfl)) ?_
   have zJ:=zx.mk (xD (cs':=#[.string (⟨#[83]⟩:ByteArray),.bool true,.int .i64 250,.slice Ao nn co,.slice none 0 0,.slice none 0 0]) BX.out 3 (.slice Ao nn co) rfl)
   have zK:=zx.mk (Vn BK.out (p:=⟨g5,3,none⟩) (zfF BK.out BX.out (by decide)) (.slice Ao nn co))
   have zi:=zx.mk (Yy.out.setCell (p:=⟨g5,3,none⟩) LG5.out (.slice Ao nn co))
   have zL:=zx.mk (Kd.QK Zt.out BX.out (by decide) 3 (.slice Ao nn co))
   clear BX BK Yy Zt hHeld zbO zKG
   generalize gK.setCell ⟨g5,3,none⟩ (.slice Ao nn co) = w19 at zJ zK zi zL ⊢
   have q4:IntKind.i64.wrap ((k:Int) + 2) = ((k + 2:Nat):Int):=(IntWalk.i64_in _ (by omega)).trans (by omega)
   go_wp2
   go_roundw
   case rel=>exact ⟨m + 1,k + 2,.slice Ao nn co,by first | rfl | (rw [q4];done) | (simp;done),by have:=HKK.out;omega,by omega,zL.out,zJ.out,zK.out,zi.out⟩
   case measure=>first | (simp [intOf];omega) | (rw [q4];simp [intOf];omega)
  ·have zhS:m = 35:=by omega
   have q1:decide ((k:Int) < 70) = false:=decide_eq_false (by omega)
   have hR5:=Zt.out
   rw [zhS] at hR5
   have BC3:=BW3.out.trans (Yy.out.mono BW3.out.size)
   have BC2:=BW2.out.trans (BC3.mono BW2.out.size)
   have BC1:=BW1.out.trans (BC2.mono BW1.out.size)
   have BC0:=BW0.out.trans (BC1.mono BW0.out.size)
   obtain ⟨Aa1,na1,ca1,Ab1,nb1,cb1,Ac1,nc1,cc1,bk1,KM1⟩:=(FB1.out.keep BC1).cells
   obtain ⟨Aa2,na2,ca2,Ab2,nb2,cb2,Ac2,nc2,cc2,bk2,KM2⟩:=(FB2.out.keep BC2).cells
   obtain ⟨Aa3,na3,ca3,Ab3,nb3,cb3,Ac3,nc3,cc3,bk3,KM3⟩:=(FB3.out.keep BC3).cells
   obtain ⟨Aa4,na4,ca4,Ab4,nb4,cb4,Ac4,nc4,cc4,bk4,KM4⟩:=(FB4.out.keep Yy.out).cells
   obtain ⟨Aa5,na5,ca5,Ab5,nb5,cb5,Ac5,nc5,cc5,bk5,KM5⟩:=(FB.mk zcL BX.out LG5.out hR5 (Kd.jw _ _ _ _ _) (Kd.jw _ _ _ _ _)).cells
   have BCA:=zx.mk BC0
   have KA1:=zx.mk KM1
   have KA2:=zx.mk KM2
   have KA3:=zx.mk KM3
   have KA4:=zx.mk KM4
   have KA5:=zx.mk KM5
   have S0:=zx.mk BW0.out.size
   have S1:=zx.mk BW1.out.size
   have S2:=zx.mk BW2.out.size
   have S3:=zx.mk BW3.out.size
   have S4:=zx.mk Yy.out.size
   have zow:wr.cell? ⟨g1,0,none⟩ = some (.string (⟨#[82]⟩:ByteArray)):=(zQ bk1 0).trans rfl
   have zoZ:wr.cell? ⟨g1,1,none⟩ = some (.bool false):=(zQ bk1 1).trans rfl
   have zoQ:wr.cell? ⟨g1,2,none⟩ = some (.int .i64 250):=(zQ bk1 2).trans rfl
   have zoX:wr.cell? ⟨g1,3,none⟩ = some (.slice Aa1 na1 ca1):=(zQ bk1 3).trans rfl
   have zoJ:wr.cell? ⟨g1,4,none⟩ = some (.slice Ab1 nb1 cb1):=(zQ bk1 4).trans rfl
   have zoV:wr.cell? ⟨g1,5,none⟩ = some (.slice Ac1 nc1 cc1):=(zQ bk1 5).trans rfl
   have zoK:wr.cell? ⟨g2,0,none⟩ = some (.string (⟨#[73]⟩:ByteArray)):=(zQ bk2 0).trans rfl
   have zoY:wr.cell? ⟨g2,1,none⟩ = some (.bool false):=(zQ bk2 1).trans rfl
   have zoW:wr.cell? ⟨g2,2,none⟩ = some (.int .i64 250):=(zQ bk2 2).trans rfl
   have zoa:wr.cell? ⟨g2,3,none⟩ = some (.slice Aa2 na2 ca2):=(zQ bk2 3).trans rfl
   have hx24:wr.cell? ⟨g2,4,none⟩ = some (.slice Ab2 nb2 cb2):=(zQ bk2 4).trans rfl
   have hx25:wr.cell? ⟨g2,5,none⟩ = some (.slice Ac2 nc2 cc2):=(zQ bk2 5).trans rfl
   have zob:wr.cell? ⟨g3,0,none⟩ = some (.string (⟨#[66]⟩:ByteArray)):=(zQ bk3 0).trans rfl
   have hx31:wr.cell? ⟨g3,1,none⟩ = some (.bool false):=(zQ bk3 1).trans rfl
   have hx32:wr.cell? ⟨g3,2,none⟩ = some (.int .i64 250):=(zQ bk3 2).trans rfl
   have zoc:wr.cell? ⟨g3,3,none⟩ = some (.slice Aa3 na3 ca3):=(zQ bk3 3).trans rfl
   have hx34:wr.cell? ⟨g3,4,none⟩ = some (.slice Ab3 nb3 cb3):=(zQ bk3 4).trans rfl
   have zod:wr.cell? ⟨g3,5,none⟩ = some (.slice Ac3 nc3 cc3):=(zQ bk3 5).trans rfl
   have zoe:wr.cell? ⟨g4,0,none⟩ = some (.string (⟨#[77]⟩:ByteArray)):=(zQ bk4 0).trans rfl
   have zof:wr.cell? ⟨g4,1,none⟩ = some (.bool false):=(zQ bk4 1).trans rfl
   have zog:wr.cell? ⟨g4,2,none⟩ = some (.int .i64 600):=(zQ bk4 2).trans rfl
   have zoh:wr.cell? ⟨g4,3,none⟩ = some (.slice Aa4 na4 ca4):=(zQ bk4 3).trans rfl
   have zoi:wr.cell? ⟨g4,4,none⟩ = some (.slice Ab4 nb4 cb4):=(zQ bk4 4).trans rfl
   have zol:wr.cell? ⟨g4,5,none⟩ = some (.slice Ac4 nc4 cc4):=(zQ bk4 5).trans rfl
   have zom:wr.cell? ⟨g5,0,none⟩ = some (.string (⟨#[83]⟩:ByteArray)):=(zQ bk5 0).trans rfl
   have zon:wr.cell? ⟨g5,1,none⟩ = some (.bool true):=(zQ bk5 1).trans rfl
   have zoo:wr.cell? ⟨g5,2,none⟩ = some (.int .i64 250):=(zQ bk5 2).trans rfl
   have zop:wr.cell? ⟨g5,3,none⟩ = some (.slice Aa5 na5 ca5):=(zQ bk5 3).trans rfl
   have zor:wr.cell? ⟨g5,4,none⟩ = some (.slice Ab5 nb5 cb5):=(zQ bk5 4).trans rfl
   have zos:wr.cell? ⟨g5,5,none⟩ = some (.slice Ac5 nc5 cc5):=(zQ bk5 5).trans rfl
   clear hR5 BC0 BC1 BC2 BC3 KM1 KM2 KM3 KM4 KM5 bk1 bk2 bk3 bk4 bk5 Zt BX BK Yy hkm hmk zhS hm hlt HKK FB1 FB2 FB3 FB4 BW0 BW1 BW2 BW3 GWS HGW LG5
   go_wp2
   clear zow zoZ zoQ zoX zoJ zoV zoK zoY zoW zoa hx24 hx25 zob hx31 hx32 zoc hx34 zod zoe zof zog zoh zoi zol zom zon zoo zop zor zos
   have hbn:=yV (Below.refl wr.heap.size wr) (.cells #[.string (⟨#[82]⟩:ByteArray),.bool false,.int .i64 250,.slice Aa1 na1 ca1,.slice Ab1 nb1 cb1,.slice Ac1 nc1 cc1,.string (⟨#[73]⟩:ByteArray),.bool false,.int .i64 250,.slice Aa2 na2 ca2,.slice Ab2 nb2 cb2,.slice Ac2 nc2 cc2,.string (⟨#[66]⟩:ByteArray),.bool false,.int .i64 250,.slice Aa3 na3 ca3,.slice Ab3 nb3 cb3,.slice Ac3 nc3 cc3,.string (⟨#[77]⟩:ByteArray),.bool false,.int .i64 600,.slice Aa4 na4 ca4,.slice Ab4 nb4 cb4,.slice Ac4 nc4 cc4,.string (⟨#[83]⟩:ByteArray),.bool true,.int .i64 250,.slice Aa5 na5 ca5,.slice Ab5 nb5 cb5,.slice Ac5 nc5 cc5] 60)
   have hnew:=kF wr (.cells #[.string (⟨#[82]⟩:ByteArray),.bool false,.int .i64 250,.slice Aa1 na1 ca1,.slice Ab1 nb1 cb1,.slice Ac1 nc1 cc1,.string (⟨#[73]⟩:ByteArray),.bool false,.int .i64 250,.slice Aa2 na2 ca2,.slice Ab2 nb2 cb2,.slice Ac2 nc2 cc2,.string (⟨#[66]⟩:ByteArray),.bool false,.int .i64 250,.slice Aa3 na3 ca3,.slice Ab3 nb3 cb3,.slice Ac3 nc3 cc3,.string (⟨#[77]⟩:ByteArray),.bool false,.int .i64 600,.slice Aa4 na4 ca4,.slice Ab4 nb4 cb4,.slice Ac4 nc4 cc4,.string (⟨#[83]⟩:ByteArray),.bool true,.int .i64 250,.slice Aa5 na5 ca5,.slice Ab5 nb5 cb5,.slice Ac5 nc5 cc5] 60 (0,0))
   have hbw:=BCA.out.alloc BCA.out.size (.cells #[.string (⟨#[82]⟩:ByteArray),.bool false,.int .i64 250,.slice Aa1 na1 ca1,.slice Ab1 nb1 cb1,.slice Ac1 nc1 cc1,.string (⟨#[73]⟩:ByteArray),.bool false,.int .i64 250,.slice Aa2 na2 ca2,.slice Ab2 nb2 cb2,.slice Ac2 nc2 cc2,.string (⟨#[66]⟩:ByteArray),.bool false,.int .i64 250,.slice Aa3 na3 ca3,.slice Ab3 nb3 cb3,.slice Ac3 nc3 cc3,.string (⟨#[77]⟩:ByteArray),.bool false,.int .i64 600,.slice Aa4 na4 ca4,.slice Ab4 nb4 cb4,.slice Ac4 nc4 cc4,.string (⟨#[83]⟩:ByteArray),.bool true,.int .i64 250,.slice Aa5 na5 ca5,.slice Ab5 nb5 cb5,.slice Ac5 nc5 cc5] 60)
   have hS:Kd.S Ye 60 (wr.alloc (.cells #[.string (⟨#[82]⟩:ByteArray),.bool false,.int .i64 250,.slice Aa1 na1 ca1,.slice Ab1 nb1 cb1,.slice Ac1 nc1 cc1,.string (⟨#[73]⟩:ByteArray),.bool false,.int .i64 250,.slice Aa2 na2 ca2,.slice Ab2 nb2 cb2,.slice Ac2 nc2 cc2,.string (⟨#[66]⟩:ByteArray),.bool false,.int .i64 250,.slice Aa3 na3 ca3,.slice Ab3 nb3 cb3,.slice Ac3 nc3 cc3,.string (⟨#[77]⟩:ByteArray),.bool false,.int .i64 600,.slice Aa4 na4 ca4,.slice Ab4 nb4 cb4,.slice Ac4 nc4 cc4,.string (⟨#[83]⟩:ByteArray),.bool true,.int .i64 250,.slice Aa5 na5 ca5,.slice Ab5 nb5 cb5,.slice Ac5 nc5 cc5] 60)) W0_.heap.size (fun _=>True) (.slice (some ⟨wr.heap.size,0,none⟩) 5 5) Pj:=by
    generalize wr.alloc (.cells #[.string (⟨#[82]⟩:ByteArray),.bool false,.int .i64 250,.slice Aa1 na1 ca1,.slice Ab1 nb1 cb1,.slice Ac1 nc1 cc1,.string (⟨#[73]⟩:ByteArray),.bool false,.int .i64 250,.slice Aa2 na2 ca2,.slice Ab2 nb2 cb2,.slice Ac2 nc2 cc2,.string (⟨#[66]⟩:ByteArray),.bool false,.int .i64 250,.slice Aa3 na3 ca3,.slice Ab3 nb3 cb3,.slice Ac3 nc3 cc3,.string (⟨#[77]⟩:ByteArray),.bool false,.int .i64 600,.slice Aa4 na4 ca4,.slice Ab4 nb4 cb4,.slice Ac4 nc4 cc4,.string (⟨#[83]⟩:ByteArray),.bool true,.int .i64 250,.slice Aa5 na5 ca5,.slice Ab5 nb5 cb5,.slice Ac5 nc5 cc5] 60) = w' at hbn hnew ⊢
    have s0:=S0.out
    have s1:=S1.out
    have s2:=S2.out
    have s3:=S3.out
    have s4:=S4.out
    refine ⟨fun k=>if k < W1_.heap.size then 0 else if k < W2_.heap.size then 1 else if k < W3_.heap.size then 2 else if k < W4_.heap.size then 3 else 4,fun _ _=>trivial,[.string (⟨#[82]⟩:ByteArray),.bool false,.int .i64 250,.slice Aa1 na1 ca1,.slice Ab1 nb1 cb1,.slice Ac1 nc1 cc1,.string (⟨#[73]⟩:ByteArray),.bool false,.int .i64 250,.slice Aa2 na2 ca2,.slice Ab2 nb2 cb2,.slice Ac2 nc2 cc2,.string (⟨#[66]⟩:ByteArray),.bool false,.int .i64 250,.slice Aa3 na3 ca3,.slice Ab3 nb3 cb3,.slice Ac3 nc3 cc3,.string (⟨#[77]⟩:ByteArray),.bool false,.int .i64 600,.slice Aa4 na4 ca4,.slice Ab4 nb4 cb4,.slice Ac4 nc4 cc4,.string (⟨#[83]⟩:ByteArray),.bool true,.int .i64 250,.slice Aa5 na5 ca5,.slice Ab5 nb5 cb5,.slice Ac5 nc5 cc5],⟨rfl,.inr ⟨wr.heap.size,5,_,rfl,BCA.out.size,hnew,by decide,by decide,rfl,rfl⟩⟩,rfl,fun j p hj=>?_⟩
    have hne:∀ q,q < wr.heap.size → some q ≠ (Value.slice (some ⟨wr.heap.size,0,none⟩) 5 5).ownBlock:=by
     intro q hq e
     have:wr.heap.size = q:=by simpa [Value.ownBlock] using e.symm
     omega
    rcases j with _ | _ | _ | _ | _ | j
    ·obtain rfl:=Option.some.inj hj
     refine KA1.out w' W0_.heap.size _ hbn (by omega) (fun q h1 h2=>⟨⟨trivial,hne q (by omega)⟩,?_⟩)
     show (if q < W1_.heap.size then 0 else if q < W2_.heap.size then 1 else if q < W3_.heap.size then 2 else if q < W4_.heap.size then 3 else 4) = 0
     repeat' split
     all_goals omega
    ·obtain rfl:=Option.some.inj hj
     refine KA2.out w' W0_.heap.size _ hbn (by omega) (fun q h1 h2=>⟨⟨trivial,hne q (by omega)⟩,?_⟩)
     show (if q < W1_.heap.size then 0 else if q < W2_.heap.size then 1 else if q < W3_.heap.size then 2 else if q < W4_.heap.size then 3 else 4) = 1
     repeat' split
     all_goals omega
    ·obtain rfl:=Option.some.inj hj
     refine KA3.out w' W0_.heap.size _ hbn (by omega) (fun q h1 h2=>⟨⟨trivial,hne q (by omega)⟩,?_⟩)
     show (if q < W1_.heap.size then 0 else if q < W2_.heap.size then 1 else if q < W3_.heap.size then 2 else if q < W4_.heap.size then 3 else 4) = 2
     repeat' split
     all_goals omega
    ·obtain rfl:=Option.some.inj hj
     refine KA4.out w' W0_.heap.size _ hbn (by omega) (fun q h1 h2=>⟨⟨trivial,hne q (by omega)⟩,?_⟩)
     show (if q < W1_.heap.size then 0 else if q < W2_.heap.size then 1 else if q < W3_.heap.size then 2 else if q < W4_.heap.size then 3 else 4) = 3
     repeat' split
     all_goals omega
    ·obtain rfl:=Option.some.inj hj
     refine KA5.out w' W0_.heap.size _ hbn (by omega) (fun q h1 h2=>⟨⟨trivial,hne q (by omega)⟩,?_⟩)
     show (if q < W1_.heap.size then 0 else if q < W2_.heap.size then 1 else if q < W3_.heap.size then 2 else if q < W4_.heap.size then 3 else 4) = 4
     repeat' split
     all_goals omega
    ·simp [Pj] at hj
   clear hbn hnew
   go_ret
   exact ⟨_,rfl,hS,hbw⟩
def uL.f:Option (List Zg):=some Pj
theorem uL.calls (r:List Zg) (w:World) (hG:GW w) (h:uL.f = some r) :
  Calls Tryz.prog 19 #[] w fun e w'=>∃ Qw:Value,e = .returned Qw ∧ Kd.S Ye 60 w' w.heap.size (fun _=>True) Qw r ∧ Below w.heap.size w w':=by
 obtain rfl:=Option.some.inj h
 exact zfs w hG
end Go.Proofs.YtggifbbiiickmaaGreatDoor
namespace Go.Proofs.YtggifbbiiickmaaGreatDoor.PX
open Go.RowKit Go.Proofs.zk.zA Go.Proofs.zk.yB Go.Proofs.zk.yA
attribute [local go_sem] xR xS vM vN xB xC xU vv   -- for this text's walks alone
set_option linter.unusedVariables false
set_option linter.unusedSimpArgs false
def xZ.f  : Option (Bool):=(uL.f).bind fun X7=>((uQ.f X7 0 10 true false (([(⟨#[102]⟩:ByteArray),(⟨#[105]⟩:ByteArray)]:List ByteArray)) ([]:List (kV))).bind fun Zz=>(if Zz.2.2 = 0 then (if (Zz.2.1.length:Int) = 0 then (if (Zz.1.length:Int) = 1 then (if 0 < (Zz.1.length:Int) then (some (((yj Zz.1 0).f4).toList == ([102,105]:List UInt8))) else (none)) else (some false)) else (some false)) else (some false)))
set_option maxHeartbeats 8000000 in
set_option maxRecDepth 100000 in
theorem xZ.calls  (r:Bool) (w:World) (hG:GW w) (h:xZ.f  = some r) :
  Calls Tryz.prog 11 #[] w fun e w'=>e = .returned (.bool r) ∧ Below w.heap.size w w':=by
 have zKF:=Tryz.underlying26
 have HG:=zx.mk hG
 clear hG
 have HB:=zx.mk (Below.refl w.heap.size w)
 have H:((uL.f).bind fun X7=>((uQ.f X7 0 10 true false (([(⟨#[102]⟩:ByteArray),(⟨#[105]⟩:ByteArray)]:List ByteArray)) ([]:List (kV))).bind fun Zz=>(if Zz.2.2 = 0 then (if (Zz.2.1.length:Int) = 0 then (if (Zz.1.length:Int) = 1 then (if 0 < (Zz.1.length:Int) then (some (((yj Zz.1 0).f4).toList == ([102,105]:List UInt8))) else (none)) else (some false)) else (some false)) else (some false)))) = some r:=h
 clear h
 replace H:=Option.bind_eq_some_iff.mp H
 obtain ⟨X7,oH,H⟩:=H
 replace H:((uQ.f X7 0 10 true false (([(⟨#[102]⟩:ByteArray),(⟨#[105]⟩:ByteArray)]:List ByteArray)) ([]:List (kV))).bind fun Zz=>(if Zz.2.2 = 0 then (if (Zz.2.1.length:Int) = 0 then (if (Zz.1.length:Int) = 1 then (if 0 < (Zz.1.length:Int) then (some (((yj Zz.1 0).f4).toList == ([102,105]:List UInt8))) else (none)) else (some false)) else (some false)) else (some false))) = some r:=H
 have A1:=zx.mk oH
 clear oH
 obtain ⟨y114,hy114⟩:∃ y_:List ByteArray,y_ = (([(⟨#[102]⟩:ByteArray),(⟨#[105]⟩:ByteArray)]:List ByteArray)):=⟨_,rfl⟩
 replace H:((uQ.f X7 0 10 true false y114 ([]:List (kV))).bind fun Zz=>(if Zz.2.2 = 0 then (if (Zz.2.1.length:Int) = 0 then (if (Zz.1.length:Int) = 1 then (if 0 < (Zz.1.length:Int) then (some (((yj Zz.1 0).f4).toList == ([102,105]:List UInt8))) else (none)) else (some false)) else (some false)) else (some false))) = some r:=by first | (rw [hy114];with_reducible exact H) | (have jC:=(Option.bind_some _ _).symm.trans H;rw [hy114];with_reducible exact jC) | (have jC:=(Option.bind_some _ _).symm.trans H;with_reducible exact jC) | with_reducible exact H | (rw [hy114];exact H) | exact H
 have mO:=zx.mk hy114
 clear hy114
 replace H:=Option.bind_eq_some_iff.mp H
 obtain ⟨⟨t117,gN,nZ⟩,A20,H⟩:=H
 replace H:(if nZ = 0 then (if (gN.length:Int) = 0 then (if (t117.length:Int) = 1 then (if 0 < (t117.length:Int) then (some (((yj t117 0).f4).toList == ([102,105]:List UInt8))) else (none)) else (some false)) else (some false)) else (some false)) = some r:=H
 have A2:=zx.mk A20
 clear A20
 by_cases c3:nZ = 0
 ·rw [if_pos c3] at H
  have Zh:(nZ == 0) = true:=beq_iff_eq.mpr c3
  have gZ:(nZ != 0) = false:=bne_eq_false_iff_eq.mpr c3
  clear c3
  by_cases c4:(gN.length:Int) = 0
  ·rw [if_pos c4] at H
   have ZI:((gN.length:Int) == 0) = true:=beq_iff_eq.mpr c4
   have zaY:((gN.length:Int) != 0) = false:=bne_eq_false_iff_eq.mpr c4
   clear c4
   by_cases c5:(t117.length:Int) = 1
   ·rw [if_pos c5] at H
    have wR:((t117.length:Int) == 1) = true:=beq_iff_eq.mpr c5
    have zqm:((t117.length:Int) != 1) = false:=bne_eq_false_iff_eq.mpr c5
    clear c5
    by_cases c6:0 < (t117.length:Int)
    ·rw [if_pos c6] at H
     have pq:decide (0 < (t117.length:Int)) = true:=decide_eq_true c6
     have oW:decide (0 < t117.length) = true:=decide_eq_true (by omega)
     clear c6
     obtain rfl:=Option.some.inj H
     go_enter Tryz.func11,Tryz.ntmps11
     go_wp2_with (first | ((with_reducible refine yG (f:=19) rfl ?_);refine jm (some 5) Tryz.func19 #[] ?_;(with_reducible refine (uL.calls  X7 _ ?yc A1.out).mono ?_);(case yc=>exact GW.under HG.out (zH HB.out));rintro e w7 ⟨zb1,rfl,ho0,hb⟩;refine ⟨_,rfl,?_⟩;have zJ:=zx.mk (Kd.jf ho0 (ze (zH HB.out)));have zK:=zx.mk (zo (zH HB.out) hb);clear HB;have jJ:=zJ;have HB:=zK;clear zJ zK;(try clear hb);(try clear hk);(try clear ho0)) | ((with_reducible refine qC (N:=7) rfl ?_);(try (refine jS (by rfl) ?_;dsimp only));refine Kd.gP Kd.string _ 9 ?hg (N:=7) ?hd (xs:=([(⟨#[102]⟩:ByteArray),(⟨#[105]⟩:ByteArray)]:List ByteArray)) (inner:=[.string (⟨#[102]⟩:ByteArray),.string (⟨#[105]⟩:ByteArray)]) (ok:=fun _=>True) (wU:=fun _=>True) ?hr ?hp (fun _ hk=>hk) trivial (Below.refl _ _) (Nat.le_refl _) (by simp) ?_;(case hd=>rfl);(case hg=>rfl);(case hr=>first | (go_simp;done) | (go_simp;rfl));(case hp=>exact (xI.one (show Kd.M Kd.string _ _ _ (⟨#[102]⟩:ByteArray) [.string (⟨#[102]⟩:ByteArray)] from rfl) (xI.one (show Kd.M Kd.string _ _ _ (⟨#[105]⟩:ByteArray) [.string (⟨#[105]⟩:ByteArray)] from rfl) (xI.none _ _))));intro zb2 w8 ho9 hb hg_ P9;clear hg_ P9;(first | rw [← mO.out] at ho9 | (simp only [Int.reduceToNat] at ho9;rw [← mO.out] at ho9));have zJ:=zx.mk (Kd.y8 (by (with_reducible repeat (first | apply Kd.vK | apply Kd.vY | apply Kd.qR));exact jJ.out) hb);have zK:=zx.mk (Kd.vG ho9 (ze (zH HB.out)));have zi:=zx.mk (zo (zH HB.out) hb);clear jJ;clear HB;have jJ:=zJ;have ku:=zK;have HB:=zi;clear zJ zK zi;clear hb ho9;obtain ⟨zot,zou,zoA⟩:=Kd.wm jJ.out;subst zoA;obtain ⟨zoB,zoC,zoD⟩:=Kd.xK ku.out;subst zoD) | ((with_reducible refine yG (f:=13) rfl ?_);refine jm (some 8) Tryz.func13 #[.slice zot X7.length zou,.agg #[.int .i64 0,.int .i64 10,.bool true,.bool false],.slice zoB y114.length zoC,.slice none 0 0] ?_;(refine (uQ.calls _ _ X7 0 10 true false _ _ y114 _ _ ([]:List (kV)) t117 gN nZ _ ?yc ?yI ?qy ?qw ?qD ?qE ?jU A2.out).mono ?_);(case yc=>exact ql ((Kd.qU jJ.out).2.2));(case yI=>exact (Kd.qU jJ.out).2.1);(case qy=>exact ql ((Kd.xw ku.out).2.2));(case qw=>exact (Kd.xw ku.out).2.1);(case qD=>exact Kd.QY _ _);(case qE=>exact Nat.le_refl _);(case jU=>exact GW.under HG.out (zH HB.out));rintro e Yq ⟨zb3,zb4,rfl,ho0,ho1,hb⟩;refine ⟨_,rfl,?_⟩;have zJ:=zx.mk (Kd.y8 (by (with_reducible repeat (first | apply Kd.vK | apply Kd.vY | apply Kd.qR));exact jJ.out) hb);have zK:=zx.mk (Kd.vD (qp ku.out) (Kd.jq ho1) hb);have zi:=zx.mk (Kd.jf ho0 (ze (zH HB.out)));have zL:=zx.mk (Kd.vG (Kd.jk ho1 (Kd.wH (qp ku.out))) (ze (zH HB.out)));have qz:=zx.mk (zo (zH HB.out) hb);clear jJ;clear ku;clear HB;have jJ:=zJ;have ku:=zK;have mP:=zi;have zqX:=zL;have HB:=qz;clear zJ zK zi zL qz;(try clear hb);(try clear hk);(try clear ho0);(try clear ho1);obtain ⟨zAg,zAh,zoE⟩:=Kd.xK zqX.out;subst zoE;obtain ⟨zAi,zAl,zoF⟩:=Kd.wm mP.out;subst zoF;have zKU:0 ≤ (0:Int):=(by omega);have zK0:0 < (t117.length:Int):=of_decide_eq_true yE;obtain ⟨zue,zti,ztl,zoG,zvP,zvR,zvS,zvT,zvU,zv0,zqJ,zXJ,zXV⟩:=Vy (Kd.qU mP.out).2.2 0 zKU zK0;cases zoG;obtain ⟨zuf,zhT,zhU,zWr⟩:=Kd.zkp mP.out z53 0 zKU (by first | exact zK0 | exact of_decide_eq_true yE | (have e_:=(Kd.qU mP.out).1;omega));obtain ⟨zrb,rfl,zv1⟩:=mZ zhU;have iK:=zWr 6 _ rfl;rw [vZ _ _ 6 (by omega)] at iK;replace iK:=Option.some.inj (iK.symm.trans zqJ);rw [iK] at zv1;have zrc:=zx.mk (show Kd.R (Kd.int .i64) 3 _ _ _ _ ((yj t117 0).f6) from zv1);clear iK zv1;clear zWr zhT;have zug:(0 < t117.length) = True:=eq_true (by omega);(try rw [show ((0:Int)).toNat = 0 from rfl] at zvP);(try rw [show 0 * 7 = 0 from rfl] at zvP);(try rw [Addr.add_zero'] at zvP);(try rw [show ((0:Int)).toNat = 0 from rfl] at zvR);(try rw [show 0 * 7 = 0 from rfl] at zvR);(try rw [Addr.add_zero'] at zvR);(try rw [show ((0:Int)).toNat = 0 from rfl] at zvS);(try rw [show 0 * 7 = 0 from rfl] at zvS);(try rw [Addr.add_zero'] at zvS);(try rw [show ((0:Int)).toNat = 0 from rfl] at zvT);(try rw [show 0 * 7 = 0 from rfl] at zvT);(try rw [Addr.add_zero'] at zvT);(try rw [show ((0:Int)).toNat = 0 from rfl] at zvU);(try rw [show 0 * 7 = 0 from rfl] at zvU);(try rw [Addr.add_zero'] at zvU);(try rw [show ((0:Int)).toNat = 0 from rfl] at zv0);(try rw [show 0 * 7 = 0 from rfl] at zv0);(try rw [Addr.add_zero'] at zv0);(try rw [show ((0:Int)).toNat = 0 from rfl] at zqJ);(try rw [show 0 * 7 = 0 from rfl] at zqJ);(try rw [Addr.add_zero'] at zqJ);have zrd:=zx.mk zXV;have zre:=zx.mk zXJ;clear zXV zXJ;replace zKU:=eq_true zKU;replace zK0:=eq_true zK0))
     go_ret
     exact ⟨by first | rfl | (simp [zM,zN] <;> rfl) | (simp [*,zM,zN] <;> rfl),by repeat (first | (with_reducible first | exact HB.out | apply yV | apply zP | apply zT) | exact HB.out)⟩
    ·rw [if_neg c6] at H
     exact absurd H (by simp)
   ·rw [if_neg c5] at H
    have wR:((t117.length:Int) == 1) = false:=beq_eq_false_iff_ne.mpr c5
    have zqm:((t117.length:Int) != 1) = true:=bne_iff_ne.mpr c5
    obtain rfl:=Option.some.inj H
    go_enter Tryz.func11,Tryz.ntmps11
    go_wp2_with (first | ((with_reducible refine yG (f:=19) rfl ?_);refine jm (some 5) Tryz.func19 #[] ?_;(with_reducible refine (uL.calls  X7 _ ?yc A1.out).mono ?_);(case yc=>exact GW.under HG.out (zH HB.out));rintro e Zi ⟨zb1,rfl,ho0,hb⟩;refine ⟨_,rfl,?_⟩;have zJ:=zx.mk (Kd.jf ho0 (ze (zH HB.out)));have zK:=zx.mk (zo (zH HB.out) hb);clear HB;have jJ:=zJ;have HB:=zK;clear zJ zK;(try clear hb);(try clear hk);(try clear ho0)) | ((with_reducible refine qC (N:=7) rfl ?_);(try (refine jS (by rfl) ?_;dsimp only));refine Kd.gP Kd.string _ 9 ?hg (N:=7) ?hd (xs:=([(⟨#[102]⟩:ByteArray),(⟨#[105]⟩:ByteArray)]:List ByteArray)) (inner:=[.string (⟨#[102]⟩:ByteArray),.string (⟨#[105]⟩:ByteArray)]) (ok:=fun _=>True) (wU:=fun _=>True) ?hr ?hp (fun _ hk=>hk) trivial (Below.refl _ _) (Nat.le_refl _) (by simp) ?_;(case hd=>rfl);(case hg=>rfl);(case hr=>first | (go_simp;done) | (go_simp;rfl));(case hp=>exact (xI.one (show Kd.M Kd.string _ _ _ (⟨#[102]⟩:ByteArray) [.string (⟨#[102]⟩:ByteArray)] from rfl) (xI.one (show Kd.M Kd.string _ _ _ (⟨#[105]⟩:ByteArray) [.string (⟨#[105]⟩:ByteArray)] from rfl) (xI.none _ _))));intro zb2 w16 zy9 hb hg_ P9;clear hg_ P9;(first | rw [← mO.out] at zy9 | (simp only [Int.reduceToNat] at zy9;rw [← mO.out] at zy9));have zJ:=zx.mk (Kd.y8 (by (with_reducible repeat (first | apply Kd.vK | apply Kd.vY | apply Kd.qR));exact jJ.out) hb);have zK:=zx.mk (Kd.vG zy9 (ze (zH HB.out)));have zi:=zx.mk (zo (zH HB.out) hb);clear jJ;clear HB;have jJ:=zJ;have ku:=zK;have HB:=zi;clear zJ zK zi;clear hb zy9;obtain ⟨zoH,zoI,zoL⟩:=Kd.wm jJ.out;subst zoL;obtain ⟨zyc,zyd,zVE⟩:=Kd.xK ku.out;subst zVE) | ((with_reducible refine yG (f:=13) rfl ?_);refine jm (some 8) Tryz.func13 #[.slice zoH X7.length zoI,.agg #[.int .i64 0,.int .i64 10,.bool true,.bool false],.slice zyc y114.length zyd,.slice none 0 0] ?_;(refine (uQ.calls _ _ X7 0 10 true false _ _ y114 _ _ ([]:List (kV)) t117 gN nZ _ ?yc ?yI ?qy ?qw ?qD ?qE ?jU A2.out).mono ?_);(case yc=>exact ql ((Kd.qU jJ.out).2.2));(case yI=>exact (Kd.qU jJ.out).2.1);(case qy=>exact ql ((Kd.xw ku.out).2.2));(case qw=>exact (Kd.xw ku.out).2.1);(case qD=>exact Kd.QY _ _);(case qE=>exact Nat.le_refl _);(case jU=>exact GW.under HG.out (zH HB.out));rintro e w20 ⟨zb3,zb4,rfl,ho0,ho1,hb⟩;refine ⟨_,rfl,?_⟩;have zJ:=zx.mk (Kd.y8 (by (with_reducible repeat (first | apply Kd.vK | apply Kd.vY | apply Kd.qR));exact jJ.out) hb);have zK:=zx.mk (Kd.vD (qp ku.out) (Kd.jq ho1) hb);have zi:=zx.mk (Kd.jf ho0 (ze (zH HB.out)));have zL:=zx.mk (Kd.vG (Kd.jk ho1 (Kd.wH (qp ku.out))) (ze (zH HB.out)));have qz:=zx.mk (zo (zH HB.out) hb);clear jJ;clear ku;clear HB;have jJ:=zJ;have ku:=zK;have mP:=zi;have zqX:=zL;have HB:=qz;clear zJ zK zi zL qz;(try clear hb);(try clear hk);(try clear ho0);(try clear ho1);obtain ⟨zAm,zAn,zoM⟩:=Kd.xK zqX.out;subst zoM;obtain ⟨zAo,zAp,zoN⟩:=Kd.wm mP.out;subst zoN))
    go_ret
    exact ⟨by first | rfl | (simp [zM,zN] <;> rfl) | (simp [*,zM,zN] <;> rfl),by repeat (first | (with_reducible first | exact HB.out | apply yV | apply zP | apply zT) | exact HB.out)⟩
  ·rw [if_neg c4] at H
   have ZI:((gN.length:Int) == 0) = false:=beq_eq_false_iff_ne.mpr c4
   have zaY:((gN.length:Int) != 0) = true:=bne_iff_ne.mpr c4
   have zAr:¬ (gN = []):=fun h_=>c4 (by rw [h_];rfl)
   obtain rfl:=Option.some.inj H
   go_enter Tryz.func11,Tryz.ntmps11
   go_wp2_with (first | ((with_reducible refine yG (f:=19) rfl ?_);refine jm (some 5) Tryz.func19 #[] ?_;(with_reducible refine (uL.calls  X7 _ ?yc A1.out).mono ?_);(case yc=>exact GW.under HG.out (zH HB.out));rintro e w23 ⟨zb1,rfl,ho0,hb⟩;refine ⟨_,rfl,?_⟩;have zJ:=zx.mk (Kd.jf ho0 (ze (zH HB.out)));have zK:=zx.mk (zo (zH HB.out) hb);clear HB;have jJ:=zJ;have HB:=zK;clear zJ zK;(try clear hb);(try clear hk);(try clear ho0)) | ((with_reducible refine qC (N:=7) rfl ?_);(try (refine jS (by rfl) ?_;dsimp only));refine Kd.gP Kd.string _ 9 ?hg (N:=7) ?hd (xs:=([(⟨#[102]⟩:ByteArray),(⟨#[105]⟩:ByteArray)]:List ByteArray)) (inner:=[.string (⟨#[102]⟩:ByteArray),.string (⟨#[105]⟩:ByteArray)]) (ok:=fun _=>True) (wU:=fun _=>True) ?hr ?hp (fun _ hk=>hk) trivial (Below.refl _ _) (Nat.le_refl _) (by simp) ?_;(case hd=>rfl);(case hg=>rfl);(case hr=>first | (go_simp;done) | (go_simp;rfl));(case hp=>exact (xI.one (show Kd.M Kd.string _ _ _ (⟨#[102]⟩:ByteArray) [.string (⟨#[102]⟩:ByteArray)] from rfl) (xI.one (show Kd.M Kd.string _ _ _ (⟨#[105]⟩:ByteArray) [.string (⟨#[105]⟩:ByteArray)] from rfl) (xI.none _ _))));intro zb2 w24 zwz hb hg_ P9;clear hg_ P9;(first | rw [← mO.out] at zwz | (simp only [Int.reduceToNat] at zwz;rw [← mO.out] at zwz));have zJ:=zx.mk (Kd.y8 (by (with_reducible repeat (first | apply Kd.vK | apply Kd.vY | apply Kd.qR));exact jJ.out) hb);have zK:=zx.mk (Kd.vG zwz (ze (zH HB.out)));have zi:=zx.mk (zo (zH HB.out) hb);clear jJ;clear HB;have jJ:=zJ;have ku:=zK;have HB:=zi;clear zJ zK zi;clear hb zwz;obtain ⟨zK1,zK2,zK3⟩:=Kd.wm jJ.out;subst zK3;obtain ⟨zb5,zb6,zK4⟩:=Kd.xK ku.out;subst zK4) | ((with_reducible refine yG (f:=13) rfl ?_);refine jm (some 8) Tryz.func13 #[.slice zK1 X7.length zK2,.agg #[.int .i64 0,.int .i64 10,.bool true,.bool false],.slice zb5 y114.length zb6,.slice none 0 0] ?_;(refine (uQ.calls _ _ X7 0 10 true false _ _ y114 _ _ ([]:List (kV)) t117 gN nZ _ ?yc ?yI ?qy ?qw ?qD ?qE ?jU A2.out).mono ?_);(case yc=>exact ql ((Kd.qU jJ.out).2.2));(case yI=>exact (Kd.qU jJ.out).2.1);(case qy=>exact ql ((Kd.xw ku.out).2.2));(case qw=>exact (Kd.xw ku.out).2.1);(case qD=>exact Kd.QY _ _);(case qE=>exact Nat.le_refl _);(case jU=>exact GW.under HG.out (zH HB.out));rintro e w28 ⟨zb3,zb4,rfl,ho0,ho1,hb⟩;refine ⟨_,rfl,?_⟩;have zJ:=zx.mk (Kd.y8 (by (with_reducible repeat (first | apply Kd.vK | apply Kd.vY | apply Kd.qR));exact jJ.out) hb);have zK:=zx.mk (Kd.vD (qp ku.out) (Kd.jq ho1) hb);have zi:=zx.mk (Kd.jf ho0 (ze (zH HB.out)));have zL:=zx.mk (Kd.vG (Kd.jk ho1 (Kd.wH (qp ku.out))) (ze (zH HB.out)));have qz:=zx.mk (zo (zH HB.out) hb);clear jJ;clear ku;clear HB;have jJ:=zJ;have ku:=zK;have mP:=zi;have zqX:=zL;have HB:=qz;clear zJ zK zi zL qz;(try clear hb);(try clear hk);(try clear ho0);(try clear ho1);obtain ⟨zAs,zAt,zoO⟩:=Kd.xK zqX.out;subst zoO))
   go_ret
   exact ⟨by first | rfl | (simp [zM,zN] <;> rfl) | (simp [*,zM,zN] <;> rfl),by repeat (first | (with_reducible first | exact HB.out | apply yV | apply zP | apply zT) | exact HB.out)⟩
 ·rw [if_neg c3] at H
  have Zh:(nZ == 0) = false:=beq_eq_false_iff_ne.mpr c3
  have gZ:(nZ != 0) = true:=bne_iff_ne.mpr c3
  obtain rfl:=Option.some.inj H
  go_enter Tryz.func11,Tryz.ntmps11
  go_wp2_with (first | ((with_reducible refine yG (f:=19) rfl ?_);refine jm (some 5) Tryz.func19 #[] ?_;(with_reducible refine (uL.calls  X7 _ ?yc A1.out).mono ?_);(case yc=>exact GW.under HG.out (zH HB.out));rintro e w30 ⟨zb1,rfl,ho0,hb⟩;refine ⟨_,rfl,?_⟩;have zJ:=zx.mk (Kd.jf ho0 (ze (zH HB.out)));have zK:=zx.mk (zo (zH HB.out) hb);clear HB;have jJ:=zJ;have HB:=zK;clear zJ zK;(try clear hb);(try clear hk);(try clear ho0)) | ((with_reducible refine qC (N:=7) rfl ?_);(try (refine jS (by rfl) ?_;dsimp only));refine Kd.gP Kd.string _ 9 ?hg (N:=7) ?hd (xs:=([(⟨#[102]⟩:ByteArray),(⟨#[105]⟩:ByteArray)]:List ByteArray)) (inner:=[.string (⟨#[102]⟩:ByteArray),.string (⟨#[105]⟩:ByteArray)]) (ok:=fun _=>True) (wU:=fun _=>True) ?hr ?hp (fun _ hk=>hk) trivial (Below.refl _ _) (Nat.le_refl _) (by simp) ?_;(case hd=>rfl);(case hg=>rfl);(case hr=>first | (go_simp;done) | (go_simp;rfl));(case hp=>exact (xI.one (show Kd.M Kd.string _ _ _ (⟨#[102]⟩:ByteArray) [.string (⟨#[102]⟩:ByteArray)] from rfl) (xI.one (show Kd.M Kd.string _ _ _ (⟨#[105]⟩:ByteArray) [.string (⟨#[105]⟩:ByteArray)] from rfl) (xI.none _ _))));intro zb2 w31 zwq hb hg_ P9;clear hg_ P9;(first | rw [← mO.out] at zwq | (simp only [Int.reduceToNat] at zwq;rw [← mO.out] at zwq));have zJ:=zx.mk (Kd.y8 (by (with_reducible repeat (first | apply Kd.vK | apply Kd.vY | apply Kd.qR));exact jJ.out) hb);have zK:=zx.mk (Kd.vG zwq (ze (zH HB.out)));have zi:=zx.mk (zo (zH HB.out) hb);clear jJ;clear HB;have jJ:=zJ;have ku:=zK;have HB:=zi;clear zJ zK zi;clear hb zwq;obtain ⟨zb7,zb8,zK5⟩:=Kd.wm jJ.out;subst zK5;obtain ⟨zb9,zcz,zK6⟩:=Kd.xK ku.out;subst zK6) | ((with_reducible refine yG (f:=13) rfl ?_);refine jm (some 8) Tryz.func13 #[.slice zb7 X7.length zb8,.agg #[.int .i64 0,.int .i64 10,.bool true,.bool false],.slice zb9 y114.length zcz,.slice none 0 0] ?_;(refine (uQ.calls _ _ X7 0 10 true false _ _ y114 _ _ ([]:List (kV)) t117 gN nZ _ ?yc ?yI ?qy ?qw ?qD ?qE ?jU A2.out).mono ?_);(case yc=>exact ql ((Kd.qU jJ.out).2.2));(case yI=>exact (Kd.qU jJ.out).2.1);(case qy=>exact ql ((Kd.xw ku.out).2.2));(case qw=>exact (Kd.xw ku.out).2.1);(case qD=>exact Kd.QY _ _);(case qE=>exact Nat.le_refl _);(case jU=>exact GW.under HG.out (zH HB.out));rintro e w35 ⟨zb3,zb4,rfl,ho0,ho1,hb⟩;refine ⟨_,rfl,?_⟩;have zJ:=zx.mk (Kd.y8 (by (with_reducible repeat (first | apply Kd.vK | apply Kd.vY | apply Kd.qR));exact jJ.out) hb);have zK:=zx.mk (Kd.vD (qp ku.out) (Kd.jq ho1) hb);have zi:=zx.mk (Kd.jf ho0 (ze (zH HB.out)));have zL:=zx.mk (Kd.vG (Kd.jk ho1 (Kd.wH (qp ku.out))) (ze (zH HB.out)));have qz:=zx.mk (zo (zH HB.out) hb);clear jJ;clear ku;clear HB;have jJ:=zJ;have ku:=zK;have mP:=zi;have zqX:=zL;have HB:=qz;clear zJ zK zi zL qz;(try clear hb);(try clear hk);(try clear ho0);(try clear ho1)))
  go_ret
  exact ⟨by first | rfl | (simp [zM,zN] <;> rfl) | (simp [*,zM,zN] <;> rfl),by repeat (first | (with_reducible first | exact HB.out | apply yV | apply zP | apply zT) | exact HB.out)⟩
end Go.Proofs.YtggifbbiiickmaaGreatDoor.PX
namespace Go.Proofs.YtggifbbiiickmaaGreatDoor.PX
open Go.RowKit Go.Proofs.zk.zA Go.Proofs.zk.yB Go.Proofs.zk.yA
attribute [local go_sem] xR xS vM vN xB xC xU vv   -- for this text's walks alone
set_option linter.unusedVariables false
set_option linter.unusedSimpArgs false
def yN.l0:Nat → ByteArray → List ByteArray → Int → Option (List ByteArray)
 | 0,_,_,_=>none
 | k + 1,x0,x3,x4=>if x4 < (x0.size:Int) then (if 0 ≤ x4 then (if x4 ≤ (wrap64 (x4 + 1)) then (if (wrap64 (x4 + 1)) ≤ (x0.size:Int) then (if x3.length < 8796093022208 then (yN.l0 k x0 (x3 ++ [x0.extract (x4:Int).toNat ((wrap64 (x4 + 1)):Int).toNat]) (wrap64 (x4 + 1))) else (none)) else (none)) else (none)) else (none)) else (some x3)
def yN.f (k:Nat) (a0:ByteArray):Option (List ByteArray):=yN.l0 k a0 ([]:List ByteArray) 0
set_option maxHeartbeats 8000000 in
set_option maxRecDepth 100000 in
theorem yN.calls (k:Nat) (a0:ByteArray) (r:List ByteArray) (w:World) (h:yN.f k a0 = some r) :
  Calls Tryz.prog 20 #[.string a0] w fun e w'=>∃ Qw:Value,e = .returned (Qw) ∧ Kd.R Kd.string 9 w' w.heap.size (fun _=>True) Qw r ∧ Below w.heap.size w w':=by
 have HB:=zx.mk (Below.refl w.heap.size w)
 have H:(yN.l0 k a0 ([]:List ByteArray) 0) = some r:=h
 clear h
 have H':=zx.mk H
 clear H
 go_enter Tryz.func20,Tryz.ntmps20
 go_wp2
 go_loopg [3,4] k (fun kq v3 v4 w'=>∃ (qQ:List ByteArray) (zX:Int),v4 = .int .i64 zX ∧ zx (yN.l0 kq a0 qQ zX = some r) ∧ zx (kq ≤ k) ∧ zx (Kd.R Kd.string 9 w' w.heap.size (fun _=>True) v3 qQ) ∧ zx (Below w.heap.size w w'))
 case atStart=>exact ⟨(([]:List ByteArray)),(0),(by first | rfl | (simp;done) | (simp [*];done)),H',⟨Nat.le_refl _⟩,⟨by first | exact Kd.jw _ _ _ _ _ | exact Kd.Yc _ _ _ _ _ | exact Kd.Yd _ _ _ _ _ | exact Kd.Ya _ _ _ _ _ | exact Kd.YQ _ _ _ _ _⟩,⟨zH HB.out⟩⟩
 case round =>
  clear H'
  obtain ⟨qQ,zX,rfl,HA,uK,uI,HB⟩:=hrel
  cases gk with
  | zero=>exact absurd HA.out (by simp [yN.l0])
  | succ k1 =>
   have H:=HA.out
   clear HA
   simp only [yN.l0] at H
   by_cases c2:zX < (a0.size:Int)
   ·rw [if_pos c2] at H
    have Ku:decide (zX < (a0.size:Int)) = true:=decide_eq_true c2
    clear c2
    by_cases c3:0 ≤ zX
    ·rw [if_pos c3] at H
     have Zh:=eq_true c3
     have gZ:decide (0 ≤ zX) = true:=decide_eq_true c3
     clear c3
     by_cases c4:zX ≤ (wrap64 (zX + 1))
     ·rw [if_pos c4] at H
      have ZI:=eq_true c4
      have zaY:decide (zX ≤ (wrap64 (zX + 1))) = true:=decide_eq_true c4
      by_cases c5:(wrap64 (zX + 1)) ≤ (a0.size:Int)
      ·rw [if_pos c5] at H
       have wR:=eq_true c5
       have zqm:decide ((wrap64 (zX + 1)) ≤ (a0.size:Int)) = true:=decide_eq_true c5
       by_cases c6:qQ.length < 8796093022208
       ·rw [if_pos c6] at H
        have zoP:=zx.mk c6
        clear c6
        obtain ⟨zh0,zjq⟩:∃ y_:List ByteArray,y_ = (qQ ++ [a0.extract (zX:Int).toNat ((wrap64 (zX + 1)):Int).toNat]):=⟨_,rfl⟩
        replace H:(yN.l0 k1 a0 zh0 (wrap64 (zX + 1))) = some r:=by first | (rw [zjq];with_reducible exact H) | (have jC:=(Option.bind_some _ _).symm.trans H;rw [zjq];with_reducible exact jC) | (have jC:=(Option.bind_some _ _).symm.trans H;with_reducible exact jC) | with_reducible exact H | (rw [zjq];exact H) | exact H
        have zm2:=zx.mk zjq
        clear zjq
        have H':=zx.mk H
        clear H
        go_wp2_with (first | ((with_reducible refine pR (b:=.append) (xs:=#[.tmp 11,.tmp 17]) rfl ?_);at_builtin;refine Kd.Qy Kd.string (w0:=w) w.heap.size rfl (.tmp 11) (.tmp 17) 27 9 (.string ⟨#[]⟩) 16 rfl Tryz.underlying27 zzo rfl (by decide) (by omega) u3 qQ (a0.extract (zX:Int).toNat ((wrap64 (zX + 1)):Int).toNat) [.string (a0.extract (zX:Int).toNat ((wrap64 (zX + 1)):Int).toNat)] (fun _=>True) (fun _=>False) rfl rfl ?aP (fun _ hk=>hk.elim) ?aF ?aO ?aB ?aS ?aL ?_;(case aP=>exact rfl);(case aB=>exact (zH HB.out));(case aF=>exact (fun _ _=>trivial));(case aO=>exact (qp uI.out));(case aS=>exact (ze (zH HB.out)));(case aL=>have:=zoP.out;omega);intro zAu w7 ho hb hg hat;rw [← zm2.out] at ho;have zJ:=zx.mk (hb);have zK:=zx.mk (ho);clear HB;clear uI;have HB:=zJ;have zm3:=zK;clear zJ zK;clear ho hb hg hat))
        go_roundg k1
        case measure=>have:=uK.out;omega
        case rel=>exact ⟨(zh0),(wrap64 (zX + 1)),(by first | rfl | (simp;done) | (simp [*];done)),H',⟨by have:=uK.out;omega⟩,⟨qp zm3.out⟩,⟨zH HB.out⟩⟩
       ·rw [if_neg c6] at H
        exact absurd H (by simp)
      ·rw [if_neg c5] at H
       exact absurd H (by simp)
     ·rw [if_neg c4] at H
      exact absurd H (by simp)
    ·rw [if_neg c3] at H
     exact absurd H (by simp)
   ·rw [if_neg c2] at H
    have Ku:decide (zX < (a0.size:Int)) = false:=decide_eq_false c2
    clear c2
    obtain rfl:=Option.some.inj H
    go_wp2
    go_ret
    exact ⟨_,by first | rfl | (simp [zM,zN] <;> rfl) | (simp [*,zM,zN] <;> rfl),by (with_reducible repeat (first | apply Kd.Z5 | apply Kd.Z6 | apply Kd.vB));exact uI.out,by repeat (first | (with_reducible first | exact HB.out | apply yV | apply zP | apply zT) | exact HB.out)⟩
end Go.Proofs.YtggifbbiiickmaaGreatDoor.PX
namespace Go.Proofs.YtggifbbiiickmaaGreatDoor
open Go.RowKit Go.Proofs.zk.zA Go.Proofs.zk.yB Go.Proofs.zk.yA Go.Proofs.YtggifbbiiickmaaGreatDoor.PX
set_option linter.unusedSimpArgs false
set_option linter.unusedVariables false
theorem zh1:Pj.all (fun x=>jY x && okF x) = true:=by decide +kernel
theorem zv2:Pj.length = 5:=rfl
theorem zXK:Pj.all okF = true:=List.all_eq_true.2 fun x hx=>by
 have h:=List.all_eq_true.1 zh1 x hx
 simp only [Bool.and_eq_true] at h
 exact h.2
theorem zWs:xZ.f = some true:=by decide +kernel
def Ym (s:ByteArray):List ByteArray:=(List.range s.size).map fun i=>s.extract i (i + 1)
theorem l7 (s:ByteArray):(Ym s).length = s.size:=by simp [Ym]
theorem zft (s:ByteArray) (hs:s.size ≤ 1000):∀ d i,i + d = s.size → Ev (fun k=>yN.l0 k s ((Ym s).take i) (i:Int)) (Ym s):=by
 intro d
 induction d with
 | zero =>
  intro i h
  refine Ev.step (fun k=>by rw [yN.l0]) (xW (by omega) (jo ?_ (Ev.now _)))
  rw [List.take_of_length_le (by rw [l7];omega)]
 | succ d ih =>
  intro i h
  have hw:wrap64 ((i:Int) + 1) = ((i + 1:Nat):Int):=(kQ (by omega) (by omega)).trans (by omega)
  have q1:(i:Int) < (s.size:Int):=by omega
  have q2:(0:Int) ≤ (i:Int):=by omega
  have q3:(i:Int) ≤ ((i + 1:Nat):Int):=by omega
  have q4:((i + 1:Nat):Int) ≤ (s.size:Int):=by omega
  have q5:((Ym s).take i).length < 8796093022208:=by rw [List.length_take,l7];omega
  have hr:=ih (i + 1) (by omega)
  have ht:(Ym s).take (i + 1) = (Ym s).take i ++ [s.extract (i:Int).toNat (((i + 1:Nat):Int)).toNat]:=by
   have hi:i < s.size:=by omega
   rw [List.take_add_one,Int.toNat_natCast,Int.toNat_natCast]
   congr 1
   simp [Ym,hi]
  rw [ht] at hr
  refine Ev.step (fun k=>by rw [yN.l0,hw]) (yJ q1 (yJ q2 (yJ q3 (yJ q4 (yJ q5 hr)))))
theorem zcq (s:ByteArray) (hs:s.size ≤ 1000):Ev (fun k=>yN.f k s) (Ym s):=by
 have h:=zft s hs s.size 0 (by omega)
 rw [List.take_zero] at h
 exact Ev.congr (fun k=>by rw [yN.f];rfl) h
theorem zfu (l:List qO) (f s:Int) (qZ yt:Bool) (chars:List ByteArray) (pairs:List wB) (h1:l.all okF = true) (h2:l.length ≤ 1000000000) (h3:chars.length ≤ 1000000000) (h4:pairs.length ≤ 1000000000) :
  uQ.f l f s qZ yt chars pairs = some (pV l f s qZ yt chars pairs):=by
 unfold uQ.f
 rw [if_pos ⟨h1,h2,h3,h4⟩]
theorem zXY (a n:Int) (h0:0 < n) (h1:n ≤ 1000000):∃ i:Nat,(i:Int) < n ∧ wrap64 ((IntKind.u64.wrap a).tmod n) = (i:Int):=by
 have hu:0 ≤ IntKind.u64.wrap a:=by
  show 0 ≤ a % 18446744073709551616
  exact Int.emod_nonneg _ (by decide)
 generalize IntKind.u64.wrap a = u at hu
 rw [Int.tmod_eq_emod_of_nonneg hu]
 have e0:=Int.emod_nonneg u (by omega:n ≠ 0)
 have e1:=Int.emod_lt_of_pos u h0
 generalize u % n = r at e0 e1
 exact ⟨r.toNat,by omega,by rw [kQ (by omega) (by omega)];omega⟩
theorem rdB (l:List wV) (i:Nat) (b:wV) (h:l[i]? = some b):yj l (i:Int) = b:=by
 simp [yj,List.getD_eq_getElem?_getD,h]
theorem zcx (l:List qO) (f s:Int) (yt:Bool) (ns:List ByteArray):(Vj l f s yt ns).1.length ≤ 2 * ns.length ∧ (Vj l f s yt ns).2.length ≤ ns.length:=by
 have key:∀ (ns:List ByteArray) (st:List wV × List ByteArray),(ns.foldl (Yp l f s yt) st).1.length ≤ st.1.length + 2 * ns.length ∧ (ns.foldl (Yp l f s yt) st).2.length ≤ st.2.length + ns.length:=by
  intro ns
  induction ns with
  | nil=>intro st;exact ⟨Nat.le_refl _,Nat.le_refl _⟩
  | cons n r ih =>
   intro st
   have h1:=ih (Yp l f s yt st n)
   have h2:=zy4 l f s yt st n
   simp only [List.foldl_cons,List.length_cons]
   omega
 have:=key ns ([],[])
 simpa [Vj] using this
theorem zqd (J:ByteArray → ByteArray → ByteArray × Bool):∀ (m:Nat) (l:List ByteArray),l.length ≤ m → (kU J l).length ≤ l.length:=by
 intro m
 induction m with
 | zero =>
  intro l h
  obtain rfl:l = []:=List.eq_nil_of_length_eq_zero (by omega)
  rw [kU];exact Nat.le_refl _
 | succ m ih =>
  intro l h
  cases l with
  | nil=>rw [kU];exact Nat.le_refl _
  | cons c r =>
   rw [kU]
   have h1:=zj6 J r c
   have h2:=ih (YH J c r).2 (by simp at h;omega)
   simp only [List.length_cons]
   omega
theorem zK7 (l:List qO) (f:Int) (qZ:Bool) (chars:List ByteArray) (pairs:List wB):(YI l f qZ chars pairs).length ≤ chars.length:=by
 unfold YI
 split
 ·have:=zqd (fjoin (j5 l f)) _ (chars.map (mg pairs)) (Nat.le_refl _)
  rwa [List.length_map] at this
 ·rw [List.length_map];exact Nat.le_refl _
end Go.Proofs.YtggifbbiiickmaaGreatDoor
