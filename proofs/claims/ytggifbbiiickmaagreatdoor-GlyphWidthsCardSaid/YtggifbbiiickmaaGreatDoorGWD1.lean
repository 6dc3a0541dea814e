/-
  Texts that lean on one another, laid in one file. No condition.
-/
import Derived.Below
import Derived.Deep.Draws
import Derived.Deep.AppendLies
import Derived.Maps.AppendAt
import Derived.OwnWalk
import Derived.Laws.BytesArg
import Derived.Laws.MakeOwn
import Derived.Laws.OwnMore
import Derived.Deep.OwnRows
import Derived.Tactics
import Derived.Lib.ConvBytes
import Derived.Laws.Slices
import Derived.WalkKit
import Derived.KernelRfl
import Derived.RowKit3
import Derived.Deep.LoopGhost
import Derived.Deep.QuietTactic
import Derived.BigQuiet
import Derived.WideLaws
import Derived.Deep.DeepCutAuto
import Derived.Deep.CutBlock
import Derived.Deep.RegionHeld3
import Derived.Laws.Rows
import Derived.Lib.AppendStr
import Derived.ArgAppend
import Derived.Laws.IdiomCopy
import Derived.RowKit
import Derived.OrdersHeld
import Derived.Laws.BitsLemmas
import Derived.Laws.StructEq
import Derived.Test.YtggifbbiiickmaaGreatDoorProg
import Derived.Laws.Cover1
import Derived.ProofKit
import Derived.Handed
import Derived.HandedShaped
import Derived.OpenShut
import Derived.ShutString
import Derived.ChangeOld
import Derived.Carry
import Derived.LaidMore
import Derived.Lay
import Derived.Shelf.Vars
import Derived.Lib.LaidU8
import Derived.Lib.LaidTab
import Derived.ChangeSlices
import Derived.Shelf.Strings.Builder1
import Derived.Shelf.Strings.Trim
import Derived.Shelf.Small.Utf8
import Derived.Shelf.Small.Bits
import Derived.Shelf.Small.Strs
import Derived.Shelf.Strings.BuilderF
import Derived.Shelf.Strings.BuilderK
import Derived.Shelf.Strconv.Atoi
import Derived.Shelf.Strconv.Itoa0
import Derived.Shelf.Strconv.Itoa1
import Derived.Shelf.LaysM
import Derived.Shelf.Strconv.Itoa2
import Derived.Shelf.Strconv.Itoa3
import Derived.Shelf.Strconv.AtoiErrFast
import Derived.Shelf.Strconv.ParseIntEmpty
import Derived.Shelf.Strconv.AtoiFail
import Derived.Shelf.Strconv.Clone
import Derived.Shelf.Strconv.SyntaxError
import Derived.Shelf.LaysC
import Derived.Shelf.Strconv.ToError
import Derived.Shelf.Strconv.AtoiErr
import Derived.Shelf.Strconv.ErrVar
import Derived.Shelf.Strconv.Lower
import Derived.Shelf.Strconv.ParseUint10
import Derived.Shelf.Strconv.ParseUint10Empty
import Derived.Shelf.Strconv.ParseUint10Any
import Derived.Shelf.Strconv.ParseInt10
import Derived.Shelf.Strconv.AtoiLong
import Derived.Shelf.Strconv.AtoiInnerAll
import Derived.Shelf.Strconv.RangeError
import Derived.Shelf.Strconv.ToErrorRange
import Derived.Shelf.Strconv.AtoiAll
import Derived.Shelf.Strconv.ErrVarAll
import Derived.Shelf.Strconv.ParseUintEmpty
import Derived.Shelf.Strconv.ParseUint10b64
import Derived.Shelf.Strconv.ParseUint10b32
import Derived.Shelf.Strconv.ParseUint10b16
import Derived.Shelf.Strconv.ParseUint10b8
import Derived.Shelf.Strconv.ParseUint10At
import Derived.Shelf.Strconv.ParseInt10At64
import Derived.Shelf.Strconv.ParseInt10At32
import Derived.Shelf.Strconv.ParseInt10At16
import Derived.Shelf.Strconv.ParseInt10At8
import Derived.Shelf.Strconv.ParseInt10All
import Derived.Shelf.Strings.Search1
import Derived.Shelf.Strings.Search2
import Derived.Shelf.Strings.Search3
import Derived.Shelf.Strings.Shaped
import Derived.Shelf.GgClosure.StringsIndexFunc
import Derived.Ground.GgwProg
import Derived.Shelf.GgClosure.StringsIndexFuncTop
import Derived.Shelf.GgClosure.StringsRunes
import Derived.Shelf.Strings.Fields
import Derived.Shelf.Strings.SplitShaped
import Derived.Shelf.Unicode.Latin
import Derived.Shelf.Unicode.Decode
import Derived.Shelf.Strings.Runes
import Derived.Shelf.Strings.AsciiSet
import Derived.Shelf.Unicode.DecodeSlow
import Derived.Shelf.Unicode.DecodeAny
import Derived.Shelf.Unicode.Is16White
import Derived.Shelf.Unicode.IsSpaceAny
import Derived.Shelf.Unicode.DecodeLast
import Derived.Shelf.Unicode.Is16WhiteD
import Derived.Shelf.Unicode.IsSpaceAnyD
import Derived.Shelf.Strings.FieldsAny
import Derived.Shelf.Strings.FieldsFuncAny
import Derived.Shelf.Unicode.Is16Any
import Derived.Shelf.Unicode.Is32Any
import Derived.Shelf.Unicode.ExclAny
import Derived.Shelf.Strings.FuncGrows
import Derived.Shelf.Strings.FieldsFuncGrows
import Derived.Shelf.Strings.BuilderCap
import Derived.Ground.Names2Prog
import Derived.Shelf.Slices.Clone
import Derived.Ground.SlgnProg
import Derived.Shelf.SlicesE.Clone
import Derived.Ground.SlgfProg
import Derived.Shelf.SlicesQ.IndexFunc
import Derived.Shelf.SlSortCmp.WholeK
import Derived.Ground.SlsfProg
import Derived.Lib.ItoaNum
import Derived.Lib.Strings
import Derived.IntWalk
import Derived.WalkSmall
import Derived.Shelf.Strings.SlTrimAscii
import Derived.Laws.RangeAny
import Derived.Laws.RangeString
import Derived.WalkSpells
import Derived.Outline
import Derived.Lib.Hide
set_option linter.unusedVariables false
set_option linter.unusedSimpArgs false
namespace Go.Proofs.zx.zJ
open Go.RowKit
structure zk (p:Prop):Prop where mk :: (out:p)
structure zL (w w':World):Prop where mk :: (out:∃ n,w' = w.drewN n)
theorem zL.refl (w:World):zL w w:=⟨⟨0,rfl⟩⟩
theorem zL.step {w w':World} (h:zL w w') (n:Nat):zL w (w'.drewN n):=by
  obtain ⟨m,rfl⟩:=h
  exact ⟨⟨m + n,World.drewN_drewN ..⟩⟩
theorem zL.grown {w w':World} (h:zL w w'):Grown w w':=by
  obtain ⟨n,rfl⟩:=h
  induction n with
  | zero=>exact Grown.refl _
  | succ n ih=>rw [← World.drew_drewN];exact Grown.drew ih
theorem zL.below {w w':World} (h:zL w w'):Below w.heap.size w w':=by
  obtain ⟨n,rfl⟩:=h
  induction n with
  | zero=>exact Below.refl _ _
  | succ n ih=>rw [← World.drew_drewN];exact ih.drew
def rd (xs:List Int) (i:Int):Int:=xs.getD i.toNat 0
def bt (s:ByteArray) (i:Int):Int:=if h:i.toNat < s.size then ((s[i.toNat]'h).toNat:Int) else 0
theorem UF (s:ByteArray) (i:Int):∀ h:i.toNat < s.size,((s[i.toNat]'h).toNat:Int) = bt s i:=fun h=>by simp [bt,h]
theorem zO {w W:World} (h:Below w.heap.size w W) (o:Obj):Below w.heap.size w (W.alloc o):=h.alloc h.size o
theorem VW {B:Nat} {w W:World} (h:Below B w W):Below B w W.drew:=⟨h.os,h.tape,h.output,h.size,h.block⟩
theorem zC {B:Nat} {w W:World} (h:Below B w W) (n:Nat):Below B w (W.drewN n):=⟨h.os,h.tape,h.output,h.size,h.block⟩
theorem zXk {B:Nat} {w w1 w2:World} (h:Below B w w1) (hB:B ≤ w1.heap.size) (k:Below w1.heap.size w1 w2):Below B w w2 :=
  h.trans ⟨k.os,k.tape,k.output,k.size,fun i hi=>k.block i (Nat.lt_of_lt_of_le hi hB)⟩
theorem zzh {w w1:World} (h:Below w.heap.size w w1) (row:Option Nat):w.grownBy w1 row:=⟨h.os,h.tape,h.output,h.size,fun i hi _=>h.block i hi⟩
theorem Je {w w1:World} (h:Below w.heap.size w w1) {a:Addr} {v:Value} (hc:w.cell? a = some v):w1.cell? a = some v:=(h.cell (World.block_lt_of_cell? w a hc)).trans hc
theorem add_plain (g j:Nat):(⟨g,0,none⟩:Addr).add j = ⟨g,j,none⟩:=by unfold Addr.add;split <;> simp_all
def jD (w:World) (k:IntKind) (A:Option Addr) (n:Nat) (xs:List Int):Prop :=
  xs.length = n ∧ n ≤ 9223372036854775807 ∧ (0 < n → ∃ ad,A = some ad ∧ ∀ j,j < n → w.cell? (ad.add j) = some (.int k (xs.getD j 0)))
theorem jD.at_ {w:World} {k:IntKind} {A:Option Addr} {n:Nat} {xs:List Int} (h:jD w k A n xs) (i:Int) (h0:0 ≤ i) (h1:i < n):∃ ad,A = some ad ∧ w.cell? (ad.add i.toNat) = some (.int k (rd xs i)):=by
  obtain ⟨ad,e,hc⟩:=h.2.2 (by omega)
  exact ⟨ad,e,hc _ (by omega)⟩
theorem jD.below {w w1:World} {k:IntKind} {A:Option Addr} {n:Nat} {xs:List Int} (h:jD w k A n xs) (hb:Below w.heap.size w w1):jD w1 k A n xs :=
  ⟨h.1,h.2.1,fun hn=>by
    obtain ⟨ad,e,hc⟩:=h.2.2 hn
    exact ⟨ad,e,fun j hj=>Je hb (hc j hj)⟩⟩
theorem zWN (W:World) (base:Nat) (e:TypeId) (size:Nat):W.ownsRow base e size (.slice none 0 0) 0 []:=⟨by simp,.inl ⟨rfl,rfl⟩⟩
theorem X0 {w:World} {base:Nat} {e:TypeId} {size n:Nat} {v:Value} {xs:List Value} (h:w.ownsRow base e size v n xs) (k:Nat) (hk:v.ownBlock = some k):base ≤ k:=by
  rcases h.2 with ⟨rfl,_⟩ | ⟨g,cap,cur,rfl,hb,_⟩
  · simp [Value.ownBlock] at hk
  · have:g = k:=by simpa [Value.ownBlock] using hk
    omega
theorem zJB {w:World} {base:Nat} {e:TypeId} {size n:Nat} {v:Value} {xs:List Value} (h:w.ownsRow base e size v n xs) (k:Nat) (hk:v.ownBlock = some k):k < w.heap.size:=by
  rcases h.2 with ⟨rfl,_⟩ | ⟨g,cap,cur,rfl,hb,hh,_⟩
  · simp [Value.ownBlock] at hk
  · have:g = k:=by simpa [Value.ownBlock] using hk
    subst this
    exact (Array.getElem?_eq_some_iff.1 hh).1
theorem mO {w w1:World} {base:Nat} {e:TypeId} {size n:Nat} {v:Value} {xs:List Value} (h:w.ownsRow base e size v n xs) (hb:Below w.heap.size w w1):w1.ownsRow base e size v n xs :=
  h.kept (zzh hb none) (by cases v.ownBlock <;> simp)
theorem zJC {w w1:World} {base:Nat} {e:TypeId} {size n:Nat} {v:Value} {xs:List Value} (h:w.ownsRow base e size v n xs) {row:Option Nat} (hg:w.grownBy w1 row) (hne:v.ownBlock = none ∨ v.ownBlock ≠ row):w1.ownsRow base e size v n xs:=h.kept hg hne
section
variable {P:Program} {ops:Array Oper} {rest:List Oper} {o:Oper} {a:Act} {Q:Exit → Act → World → Prop}
end
section
variable {P:Program}
end
section
variable {P:Program} {ops:Array Oper} {rest:List Oper} {o:Oper} {a:Act} {Q:Exit → Act → World → Prop}
end
theorem jD.XL {w:World} {k:IntKind} {A:Option Addr} {n:Nat} {xs:List Int} (h:jD w k A n xs) (i:Nat) (hi:i ≤ n):jD w k A i (xs.take i):=by
  refine ⟨by rw [List.length_take,h.1];omega,by have:=h.2.1;omega,fun hp=>?_⟩
  obtain ⟨ad,e,hc⟩:=h.2.2 (by omega)
  refine ⟨ad,e,fun j hj=>?_⟩
  rw [hc j (by omega)]
  simp [List.getD_eq_getElem?_getD,hj]
def kF {α:Type} (a b:Option α):Prop:=∀ r,a = some r → b = some r
theorem kF.refl {α:Type} (a:Option α):kF a a:=fun _ h=>h
theorem kF.none {α:Type} (b:Option α):kF Option.none b:=fun _ h=>by cases h
theorem kF.trans {α:Type} {a b c:Option α} (h:kF a b) (k:kF b c):kF a c:=fun r hr=>k r (h r hr)
theorem kF.ite {α:Type} {c:Prop} [Decidable c] {a a' b b':Option α} (h:kF a a') (k:kF b b'):kF (if c then a else b) (if c then a' else b'):=by
  split
  · exact h
  · exact k
theorem kF.bind {α β:Type} {a a':Option α} {f f':α → Option β} (h:kF a a') (k:∀ x,kF (f x) (f' x)):kF (a.bind f) (a'.bind f'):=by
  intro r hr
  obtain ⟨x,hx,hf⟩:=Option.bind_eq_some_iff.1 hr
  exact Option.bind_eq_some_iff.2 ⟨x,h x hx,k x r hf⟩
theorem kF.map {α β:Type} {a a':Option α} (f:α → β) (h:kF a a'):kF (a.map f) (a'.map f):=by
  intro r hr
  obtain ⟨x,hx,hf⟩:=Option.map_eq_some_iff.1 hr
  exact Option.map_eq_some_iff.2 ⟨x,h x hx,hf⟩
theorem aI {α:Type} {g:Nat → Option α} (h:∀ k,kF (g k) (g (k + 1))) (k:Nat):∀ j,kF (g k) (g (k + j))
  | 0=>kF.refl _
  | j + 1=>(aI h k j).trans (h (k + j))
theorem zJD {α:Type} {g:Nat → Option α} (h:∀ k,kF (g k) (g (k + 1))) {k k':Nat} (hk:k ≤ k') {r:α} (hr:g k = some r):g k' = some r:=by
  have:=aI h k (k' - k) r hr
  rwa [Nat.add_sub_cancel' hk] at this
def qx {α:Type} (R:α → List Value → Prop) (size:Nat) (ps:List α) (cs:List Value):Prop :=
  cs.length = ps.length * size ∧ ∀ j p,ps[j]? = some p → R p ((cs.drop (j * size)).take size)
theorem qx.none {α:Type} (R:α → List Value → Prop) (size:Nat):qx R size [] []:=⟨by simp,fun j p h=>by simp at h⟩
theorem qx.snoc {α:Type} {R:α → List Value → Prop} {size:Nat} {ps:List α} {cs c:List Value} {p:α} (h:qx R size ps cs) (hp:R p c) (hc:c.length = size):qx R size (ps ++ [p]) (cs ++ c):=by
  refine ⟨by rw [List.length_append,h.1,hc,List.length_append,List.length_singleton,Nat.add_mul,Nat.one_mul],fun j q hq=>?_⟩
  rcases Nat.lt_or_ge j ps.length with hj | hj
  · rw [List.getElem?_append_left hj] at hq
    have h1:j * size + size ≤ cs.length:=by rw [h.1,← Nat.succ_mul];exact Nat.mul_le_mul_right _ hj
    have h2:=h.2 j q hq
    rw [List.drop_append_of_le_length (by omega),List.take_append_of_le_length (by rw [List.length_drop];omega)]
    exact h2
  · have hj':j = ps.length:=by
      have:=(List.getElem?_eq_some_iff.1 hq).1
      rw [List.length_append,List.length_singleton] at this
      omega
    subst hj'
    have hq':p = q:=by simpa using hq
    subst hq'
    rw [← h.1,List.drop_left,← hc,List.take_length]
    exact hp
theorem qx.Yp {α:Type} {R R':α → List Value → Prop} {size:Nat} {ps:List α} {cs:List Value} (h:qx R size ps cs) (hR:∀ p c,R p c → R' p c):qx R' size ps cs:=⟨h.1,fun j p hj=>hR _ _ (h.2 j p hj)⟩
def jK {α:Type} (R:α → List Value → Prop) (size:Nat) (w:World) (A:Option Addr) (n:Nat) (ps:List α):Prop :=
  ps.length = n ∧ n ≤ 9223372036854775807 ∧ (0 < n → ∃ ad,A = some ad ∧ ∀ j p,ps[j]? = some p → ∃ c,c.length = size ∧ R p c ∧ ∀ i u,c[i]? = some u → w.cell? (ad.add (j * size + i)) = some u)
theorem jK.zfT {α:Type} {R:α → List Value → Prop} {size:Nat} {w:World} {A:Option Addr} {n:Nat} {ps:List α} (h:jK R size w A n ps) (d:α) (i:Int) (h0:0 ≤ i) (h1:i < n) :
    ∃ ad c,A = some ad ∧ c.length = size ∧ R (ps.getD i.toNat d) c ∧ ∀ j u,c[j]? = some u → w.cell? (ad.add (i.toNat * size + j)) = some u:=by
  obtain ⟨ad,e,hc⟩:=h.2.2 (by omega)
  have hl:i.toNat < ps.length:=by have:=h.1;omega
  obtain ⟨c,hs,hr,hcell⟩:=hc i.toNat _ (List.getElem?_eq_getElem hl)
  refine ⟨ad,c,e,hs,?_,hcell⟩
  rw [List.getD_eq_getElem?_getD,List.getElem?_eq_getElem hl]
  exact hr
theorem jK.Yp {α:Type} {R R':α → List Value → Prop} {size:Nat} {w w1:World} {A:Option Addr} {n:Nat} {ps:List α} (h:jK R size w A n ps) (hb:Below w.heap.size w w1) (hR:∀ p c,R p c → R' p c):jK R' size w1 A n ps :=
  ⟨h.1,h.2.1,fun hn=>by
    obtain ⟨ad,e,hc⟩:=h.2.2 hn
    refine ⟨ad,e,fun j p hj=>?_⟩
    obtain ⟨c,hs,hr,hcell⟩:=hc j p hj
    exact ⟨c,hs,hR _ _ hr,fun i u hu=>Je hb (hcell i u hu)⟩⟩
theorem zvq {α:Type} {R:α → List Value → Prop} {w:World} {base n size:Nat} {e:TypeId} {v:Value} {ps:List α} {cs:List Value} (h:w.ownsRow base e size v n cs) (hR:qx R size ps cs) (hn:ps.length = n) :
    ∃ A c,v = .slice A n c ∧ jK R size w A n ps:=by
  rcases Nat.eq_zero_or_pos n with h0 | h0
  · rcases h.2 with ⟨rfl,rfl⟩ | ⟨g,cap,cur,rfl,_⟩
    · exact ⟨none,0,rfl,hn,by omega,fun hp=>absurd hp (by omega)⟩
    · exact ⟨_,cap,rfl,hn,by omega,fun hp=>absurd hp (by omega)⟩
  · obtain ⟨g,cap,rfl,_,_⟩:=h.form h0
    have hm:n ≤ 9223372036854775807:=by
      rcases h.2 with ⟨_,h1⟩ | ⟨g',cap',cur,he,_,_,h1,h2,_⟩
      · omega
      · simp only [maxLen] at h2
        omega
    refine ⟨_,cap,rfl,hn,hm,fun _=>⟨_,rfl,fun j p hj=>⟨(cs.drop (j * size)).take size,?_,hR.2 j p hj,fun i u hu=>?_⟩⟩⟩
    · have hjl:=(List.getElem?_eq_some_iff.1 hj).1
      have h1:j * size + size ≤ cs.length:=by rw [hR.1,← Nat.succ_mul];exact Nat.mul_le_mul_right _ hjl
      rw [List.length_take,List.length_drop]
      omega
    · refine h.cells (g:=g) rfl _ u ?_
      rw [List.getElem?_take] at hu
      split at hu
      · rw [List.getElem?_drop] at hu
        exact hu
      · cases hu
theorem xO (ad:Addr) (m j:Nat) (hj:0 < j):ad.add (m + j) = ⟨(ad.add m).block,(ad.add m).off + j,none⟩:=by
  unfold Addr.add
  by_cases hm:m = 0
  · subst hm
    simp [Nat.ne_of_gt hj]
  · simp [hm,Nat.add_assoc]
section
variable {P:Program} {ops:Array Oper} {rest:List Oper} {o:Oper} {a:Act} {Q:Exit → Act → World → Prop}
theorem UU {w0 W:World} (base:Nat) (hgd:o.guard = none) (s x:Operand) (t e:TypeId) (z:Value) (size bytes:Nat)
    (ho:o.op = .call { callee:=.builtin .append,args:=#[s,x],argTypes:=#[t,t] })
    (ht:P.underlying t = some (.slice e)) (hinfo:(P.info? e).map (fun i=>(i.zero,i.size,i.bytes)) = some (some z,size,bytes)) (hz:z.cells.size = size) (hs0:0 < size) (hb0:0 < bytes)
    (v:Value) (n:Nat) (xs ys:List Value) (hs:a.eval s = v) (hx:a.eval x = .slice (some ⟨W.heap.size,0,none⟩) 1 1) (hys:ys.length = size) (h1:∀ u ∈ ys,u.oneCell' = true)
    (HO:W.ownsRow base e size v n xs) (HB:Below base w0 W) (hbase:base ≤ W.heap.size) (hl:(n + 1) * bytes ≤ 140737488355328)
    (h:∀ v1 w1,w1.ownsRow base e size v1 (n + 1) (xs ++ ys) → Below base w0 w1 → W.grownBy w1 v.ownBlock → (v1.ownBlock = v.ownBlock ∨ ∃ b,v1.ownBlock = some b ∧ W.heap.size ≤ b) → wpList P ops Q rest (a.put o.dst v1) w1) :
    wpList P ops Q (o :: rest) a (W.alloc (.cells ys.toArray e)):=by
  obtain ⟨i0,hi,hzz⟩:=Option.map_eq_some_iff.1 hinfo
  simp only [Prod.mk.injEq] at hzz
  obtain ⟨hz0,hz1,hz2⟩:=hzz
  have hlen:n + 1 ≤ 140737488355328:=Nat.le_trans (Nat.le_mul_of_pos_right _ hb0) hl
  refine wpList_append_own_at (W.alloc (.cells ys.toArray e)) hgd s x t ho base e i0 z size bytes ht hi hz0 hz1 hz2 hz hs0 v n xs hs (HO.alloc _) ⟨W.heap.size,0,none⟩ 1 1 ys hx (by rw [hys];simp)
    (by simpa using World.news_of_block (cs:=ys.toArray) (t:=e) (fr:=(0,0)) (heap_alloc_new W (.cells ys.toArray e))) h1 (by simp only [maxLen];omega) hl (by simp;omega) ?_
  intro v1 w1 hown hg _ hat
  refine h v1 w1 hown ((HB.alloc hbase _).grown hg (by simp;omega) (X0 HO)) (World.grownBy.trans (World.grownBy_alloc W _ _) hg) ?_
  rcases hat with hat | hat
  · exact .inl hat
  · exact .inr ⟨_,hat,by simp⟩
end
theorem own_ne {w:World} {base:Nat} {e t:TypeId} {size n g:Nat} {v:Value} {xs:List Value} {cs:Array Value} (h:w.ownsRow base e size v n xs) (hg:w.heap[g]? = some (.cells cs t (0,0))) (hne:e ≠ t):some g ≠ v.ownBlock:=by
  rcases h.2 with ⟨rfl,_⟩ | ⟨g',cap,cur,rfl,_,hh,_⟩
  · simp [Value.ownBlock]
  · intro he
    have:g = g':=by simpa [Value.ownBlock] using he
    subst this
    rw [hg] at hh
    injection hh with hh
    injection hh with _ ht
    exact hne ht.symm
theorem zk6 {w:World} {g:Nat} {t:TypeId} {cs:Array Value} (h:w.heap[g]? = some (.cells cs t (0,0))) (i:Nat) (u:Value):(w.setCell ⟨g,i,none⟩ u).heap[g]? = some (.cells (cs.setIfInBounds i u) t (0,0)):=by
  simp [World.setCell,Array.getElem?_modify,h]
theorem QW {w:World} {g:Nat} {t:TypeId} {cs:Array Value} (h:w.heap[g]? = some (.cells cs t (0,0))) {p:Addr} (hp:g ≠ p.block) (u:Value):(w.setCell p u).heap[g]? = some (.cells cs t (0,0)):=(Below.heap_setCell w p u g hp).trans h
theorem Zk {w:World} {g:Nat} {o:Obj} (h:w.heap[g]? = some o):g < w.heap.size:=(Array.getElem?_eq_some_iff.1 h).1
theorem zV {w:World} {g:Nat} {t:TypeId} {cs:Array Value} (h:w.heap[g]? = some (.cells cs t (0,0))) (i:Nat):w.cell? ⟨g,i,none⟩ = cs[i]?:=cell_of_row w g i cs t (0,0) h
theorem zy {w:World} {g:Nat} {t:TypeId} {cs:Array Value} (h:w.heap[g]? = some (.cells cs t (0,0))) (i:Nat):w.frozen? ⟨g,i,none⟩ = false:=by simp [World.frozen?,h]
theorem pQ {w w1:World} {g:Nat} {o:Obj} {row:Option Nat} (h:w.heap[g]? = some o) (hg:w.grownBy w1 row) (hne:some g ≠ row):w1.heap[g]? = some o:=(hg.block g (Zk h) hne).trans h
theorem zbD {w:World} {g g':Nat} {t t':TypeId} {cs cs':Array Value} (h:w.heap[g]? = some (.cells cs t (0,0))) (h':w.heap[g']? = some (.cells cs' t' (0,0))) (hne:t ≠ t'):g ≠ g':=by
  rintro rfl
  rw [h] at h'
  injection h' with h'
  injection h' with _ ht
  exact hne ht
def jL (w w':World) (g:Nat) (row:Option Nat):Prop:=w.heap.size ≤ w'.heap.size ∧ ∀ i,i < w.heap.size → i ≠ g → some i ≠ row → w'.heap[i]? = w.heap[i]?
theorem jL.refl (w:World) (g:Nat) (row:Option Nat):jL w w g row:=⟨Nat.le_refl _,fun _ _ _ _=>rfl⟩
theorem jL.of_below {w w1:World} (h:Below w.heap.size w w1) (g:Nat) (row:Option Nat):jL w w1 g row:=⟨h.size,fun i hi _ _=>h.block i hi⟩
theorem jL.trans {w w1 w2:World} {g:Nat} {row zKj:Option Nat} (h:jL w w1 g row) (k:jL w1 w2 g zKj) (hr:zKj = row ∨ ∃ b,zKj = some b ∧ w.heap.size ≤ b):jL w w2 g row :=
  ⟨Nat.le_trans h.1 k.1,fun i hi hg hn=>by
    refine (k.2 i (Nat.lt_of_lt_of_le hi h.1) hg ?_).trans (h.2 i hi hg hn)
    rcases hr with rfl | ⟨b,rfl,hb⟩
    · exact hn
    · intro e
      injection e with e
      omega⟩
theorem jL.blk {w w1:World} {g g':Nat} {row:Option Nat} {o:Obj} (h:jL w w1 g row) (hb:w.heap[g']? = some o) (hg:g' ≠ g) (hr:some g' ≠ row):w1.heap[g']? = some o:=(h.2 g' (Zk hb) hg hr).trans hb
theorem jL.own {w w1:World} {g:Nat} {row:Option Nat} {base:Nat} {e:TypeId} {size n:Nat} {v:Value} {xs:List Value} (h:jL w w1 g row) (ho:w.ownsRow base e size v n xs) (hg:v.ownBlock ≠ some g) (hr:v.ownBlock = none ∨ v.ownBlock ≠ row):w1.ownsRow base e size v n xs:=by
  obtain ⟨h1,h2⟩:=ho
  refine ⟨h1,?_⟩
  rcases h2 with h2 | ⟨b,cap,cur,rfl,hb,hh,r⟩
  · exact .inl h2
  · refine .inr ⟨b,cap,cur,rfl,hb,h.blk hh ?_ ?_,r⟩
    · intro e
      exact hg (by rw [← e];rfl)
    · rcases hr with hr | hr
      · simp [Value.ownBlock] at hr
      · exact hr
def Ev {α:Type} (g:Nat → Option α) (r:α):Prop:=∃ K,∀ k,K ≤ k → g k = some r
theorem Ev.of {α:Type} {g:Nat → Option α} {r:α} (hg:∀ k,kF (g k) (g (k + 1))) {k:Nat} (h:g k = some r):Ev g r:=⟨k,fun _ hk=>zJD hg hk h⟩
theorem Ev.now {α:Type} (r:α):Ev (fun _=>some r) r:=⟨0,fun _ _=>rfl⟩
theorem Ev.rounds {α:Type} {g:Nat → Option α} {r:α} (h:Ev g r):∃ k,g k = some r:=by
  obtain ⟨K,h⟩:=h
  exact ⟨K,h K (Nat.le_refl _)⟩
theorem Ev.bind {α β:Type} {g:Nat → Option α} {f:Nat → α → Option β} {a:α} {r:β} (h:Ev g a) (k:Ev (fun n=>f n a) r):Ev (fun n=>(g n).bind (f n)) r:=by
  obtain ⟨K,h⟩:=h
  obtain ⟨K',k⟩:=k
  refine ⟨max K K',fun n hn=>?_⟩
  have h1:=h n (by omega)
  have h2:=k n (by omega)
  simp only [h1,Option.bind_some]
  exact h2
theorem Ev.step {α:Type} {g f:Nat → Option α} {r:α} (h:∀ k,g (k + 1) = f k) (k:Ev f r):Ev g r:=by
  obtain ⟨K,k⟩:=k
  refine ⟨K + 1,fun n hn=>?_⟩
  obtain ⟨m,rfl⟩:∃ m,n = m + 1:=⟨n - 1,by omega⟩
  rw [h]
  exact k m (by omega)
theorem Ev.congr {α:Type} {g f:Nat → Option α} {r:α} (h:∀ k,g k = f k) (k:Ev f r):Ev g r:=by
  obtain ⟨K,k⟩:=k
  exact ⟨K,fun n hn=>(h n).trans (k n hn)⟩
section
variable {P:Program} {ops:Array Oper} {o:Oper} {a:Act} {Q:Exit → Act → World → Prop} {K:Act → World → Prop}
theorem aG {w0 W:World} (base:Nat) (hw:Region.wanted o (yielded ops a.tmps) = true) (s x:Operand) (t e:TypeId) (z:Value) (size bytes:Nat)
    (ho:o.op = .call { callee:=.builtin .append,args:=#[s,x],argTypes:=#[t,t] })
    (ht:P.underlying t = some (.slice e)) (hinfo:(P.info? e).map (fun i=>(i.zero,i.size,i.bytes)) = some (some z,size,bytes)) (hz:z.cells.size = size) (hs0:0 < size) (hb0:0 < bytes)
    (v:Value) (n:Nat) (xs ys:List Value) (hs:a.eval s = v) (hx:a.eval x = .slice (some ⟨W.heap.size,0,none⟩) 1 1) (hys:ys.length = size) (h1:∀ u ∈ ys,u.oneCell' = true)
    (HO:W.ownsRow base e size v n xs) (HB:Below base w0 W) (hbase:base ≤ W.heap.size) (hl:(n + 1) * bytes ≤ 140737488355328)
    (h:∀ v1 w1,w1.ownsRow base e size v1 (n + 1) (xs ++ ys) → Below base w0 w1 → W.grownBy w1 v.ownBlock → (v1.ownBlock = v.ownBlock ∨ ∃ b,v1.ownBlock = some b ∧ W.heap.size ≤ b) → K (a.put o.dst v1) w1) :
    if Region.wanted o (yielded ops a.tmps) = true then Oper.wp P o a (W.alloc (.cells ys.toArray e)) K Q else K (a.put o.dst undef) (W.alloc (.cells ys.toArray e)):=by
  obtain ⟨i0,hi,hzz⟩:=Option.map_eq_some_iff.1 hinfo
  simp only [Prod.mk.injEq] at hzz
  obtain ⟨hz0,hz1,hz2⟩:=hzz
  have hlen:n + 1 ≤ 140737488355328:=Nat.le_trans (Nat.le_mul_of_pos_right _ hb0) hl
  rw [if_pos hw]
  obtain ⟨v1,w1,hr,hown,hg,_,hat⟩:=run_append_own_at (P:=P) (W.alloc (.cells ys.toArray e)) base t o.type e i0 z size bytes ht hi hz0 hz1 hz2 hz hs0 v n xs (HO.alloc _) ⟨W.heap.size,0,none⟩ 1 1 ys (by rw [hys];simp)
    (by simpa using World.news_of_block (cs:=ys.toArray) (t:=e) (fr:=(0,0)) (heap_alloc_new W (.cells ys.toArray e))) h1 (by simp only [maxLen];omega) hl (by simp;omega)
  unfold Oper.wp execOp
  simp only [ho,resolve,invoke,builtin,Sem.run_bind,Sem.run_pure,Result.andThen_ok,List.map_toArray,List.map_cons,List.map_nil,hs,hx,hr]
  refine h v1 w1 hown ((HB.alloc hbase _).grown hg (by simp;omega) (X0 HO)) (World.grownBy.trans (World.grownBy_alloc W _ _) hg) ?_
  rcases hat with hat | hat
  · exact .inl hat
  · exact .inr ⟨_,hat,by simp⟩
end
theorem zXy {w:World} {base base':Nat} {e:TypeId} {size n:Nat} {v:Value} {xs:List Value} (h:w.ownsRow base e size v n xs) (hb:base' ≤ base):w.ownsRow base' e size v n xs:=by
  obtain ⟨h1,h2⟩:=h
  refine ⟨h1,?_⟩
  rcases h2 with h2 | ⟨g,cap,cur,rfl,hg,r⟩
  · exact .inl h2
  · exact .inr ⟨g,cap,cur,rfl,Nat.le_trans hb hg,r⟩
section
variable {α:Type} {enc:α → Value} {d:α}
def encs (enc:α → Value) (xs:List α):List Value:=xs.map enc
def X3 (d:α) (xs:List α) (i:Int):α:=xs.getD i.toNat d
def jc (enc:α → Value) (d:α) (w:World) (A:Option Addr) (n:Nat) (xs:List α):Prop :=
  xs.length = n ∧ n ≤ 9223372036854775807 ∧ (0 < n → ∃ ad,A = some ad ∧ ∀ j,j < n → w.cell? (ad.add j) = some (enc (xs.getD j d)))
theorem jc.at_ {w:World} {A:Option Addr} {n:Nat} {xs:List α} (h:jc enc d w A n xs) (i:Int) (h0:0 ≤ i) (h1:i < n):∃ ad,A = some ad ∧ w.cell? (ad.add i.toNat) = some (enc (X3 d xs i)):=by
  obtain ⟨ad,e,hc⟩:=h.2.2 (by omega)
  exact ⟨ad,e,hc _ (by omega)⟩
theorem jc.below {w w1:World} {A:Option Addr} {n:Nat} {xs:List α} (h:jc enc d w A n xs) (hb:Below w.heap.size w w1):jc enc d w1 A n xs :=
  ⟨h.1,h.2.1,fun hn=>by
    obtain ⟨ad,e,hc⟩:=h.2.2 hn
    exact ⟨ad,e,fun j hj=>Je hb (hc j hj)⟩⟩
theorem jc.XL {w:World} {A:Option Addr} {n:Nat} {xs:List α} (h:jc enc d w A n xs) (i:Nat) (hi:i ≤ n):jc enc d w A i (xs.take i):=by
  refine ⟨by rw [List.length_take,h.1];omega,by have:=h.2.1;omega,fun hp=>?_⟩
  obtain ⟨ad,e,hc⟩:=h.2.2 (by omega)
  refine ⟨ad,e,fun j hj=>?_⟩
  rw [hc j (by omega)]
  simp [List.getD_eq_getElem?_getD,hj]
end
section
variable {α:Type} {P:Program} {ops:Array Oper} {rest:List Oper} {o:Oper} {a:Act} {Q:Exit → Act → World → Prop}
end
theorem kN {w:World} {g:Nat} {o:Obj} (h:w.heap[g]? = some o) (o':Obj):(w.alloc o').heap[g]? = some o:=(Below.heap_alloc w o' g (Zk h)).trans h
theorem KY {w:World} {g:Nat} {o:Obj} (h:w.heap[g]? = some o):w.drew.heap[g]? = some o:=h
theorem zJE {w:World} {g:Nat} {o:Obj} (h:w.heap[g]? = some o) (n:Nat):(w.drewN n).heap[g]? = some o:=h
theorem yY {w w1:World} {g:Nat} {o:Obj} (h:w.heap[g]? = some o) (hb:Below w.heap.size w w1):w1.heap[g]? = some o:=(hb.block g (Zk h)).trans h
theorem uV (w:World) (o:Obj):(w.alloc o).heap[w.heap.size]? = some o:=heap_alloc_new w o
section
variable {P:Program}
end
theorem zbE {w:World} {base n m c size:Nat} {e:TypeId} {A:Option Addr} {xs:List Value} (h:w.ownsRow base e size (.slice A m c) n xs):m ≤ c:=by
  rcases h.2 with ⟨he,_⟩ | ⟨g,cap,cur,he,_,_,hnc,_⟩
  · injection he with _ h2 h3
    omega
  · injection he with _ h2 h3
    omega
def vP {α:Type} (R:α → List Value → Prop) (e:TypeId) (size:Nat) (w:World) (base:Nat) (v:Value) (ps:List α):Prop :=
  ∃ inner,w.ownsRow base e size v ps.length inner ∧ qx R size ps inner
section
variable {α:Type} {R R':α → List Value → Prop} {e:TypeId} {size:Nat} {w w1:World} {base:Nat} {v:Value} {ps:List α}
theorem vP.none_ (R:α → List Value → Prop) (e:TypeId) (size:Nat) (w:World) (base:Nat):vP R e size w base (.slice none 0 0) []:=⟨[],zWN _ _ _ _,qx.none _ _⟩
theorem vP.Yp (h:vP R e size w base v ps) (hR:∀ p c,R p c → R' p c):vP R' e size w base v ps:=by
  obtain ⟨inner,ho,hr⟩:=h
  exact ⟨inner,ho,hr.Yp hR⟩
theorem vP.below (h:vP R e size w base v ps) (hb:Below w.heap.size w w1):vP R e size w1 base v ps:=by
  obtain ⟨inner,ho,hr⟩:=h
  exact ⟨inner,mO ho hb,hr⟩
theorem vP.other (h:vP R e size w base v ps) {row:Option Nat} (hg:w.grownBy w1 row) (hne:v.ownBlock = none ∨ v.ownBlock ≠ row):vP R e size w1 base v ps:=by
  obtain ⟨inner,ho,hr⟩:=h
  exact ⟨inner,zJC ho hg hne,hr⟩
theorem vP.keep (h:vP R e size w base v ps) {g:Nat} {t:TypeId} {cells:Array Value} (hb:w.heap[g]? = some (.cells cells t (0,0))) (ht:e ≠ t) (hk:jL w w1 g none):vP R e size w1 base v ps:=by
  obtain ⟨inner,ho,hr⟩:=h
  exact ⟨inner,hk.own ho (Ne.symm (own_ne ho hb ht)) (by cases v.ownBlock <;> simp),hr⟩
theorem vP.reads (h:vP R e size w base v ps):∃ A c,v = .slice A ps.length c ∧ ps.length ≤ c ∧ jK R size w A ps.length ps:=by
  obtain ⟨inner,ho,hr⟩:=h
  obtain ⟨A,c,rfl,hrow⟩:=zvq ho hr rfl
  exact ⟨A,c,rfl,zbE ho,hrow⟩
theorem vP.zKv (h:vP R e size w base v ps) {g:Nat} {t:TypeId} {cells:Array Value} (hb:w.heap[g]? = some (.cells cells t (0,0))) (ht:e ≠ t):some g ≠ v.ownBlock:=by
  obtain ⟨inner,ho,hr⟩:=h
  exact own_ne ho hb ht
theorem vP.lit (W:World) (base:Nat) {inner:List Value} (hr:qx R size ps inner) (hb:base ≤ W.heap.size) (hm:ps.length ≤ 9223372036854775807) :
    vP R e size (W.alloc (.cells inner.toArray e)) base (.slice (some ⟨W.heap.size,0,none⟩) ps.length ps.length) ps:=by
  have h:=World.ownsRow_lit (base:=base) (e:=e) (size:=size) W inner.toArray ps.length hb (by simpa [maxLen] using hm) (by simpa using hr.1)
  exact ⟨inner,by simpa using h,hr⟩
end
section
variable {P:Program} {ops:Array Oper} {rest:List Oper} {o:Oper} {a:Act} {Q:Exit → Act → World → Prop} {α:Type} {R:α → List Value → Prop}
theorem vP.append {w0 W:World} (base:Nat) (hgd:o.guard = none) (s x:Operand) (t e:TypeId) (z:Value) (size bytes:Nat)
    (ho:o.op = .call { callee:=.builtin .append,args:=#[s,x],argTypes:=#[t,t] })
    (ht:P.underlying t = some (.slice e)) (hinfo:(P.info? e).map (fun i=>(i.zero,i.size,i.bytes)) = some (some z,size,bytes)) (hz:z.cells.size = size) (hs0:0 < size) (hb0:0 < bytes)
    (v:Value) (ps:List α) (p:α) (cs:List Value) (hs:a.eval s = v) (hx:a.eval x = .slice (some ⟨W.heap.size,0,none⟩) 1 1) (hp:R p cs) (hcs:cs.length = size) (h1:∀ u ∈ cs,u.oneCell' = true)
    (HO:vP R e size W base v ps) (HB:Below base w0 W) (hbase:base ≤ W.heap.size) (hl:(ps.length + 1) * bytes ≤ 140737488355328)
    (h:∀ v1 w1,vP R e size w1 base v1 (ps ++ [p]) → Below base w0 w1 → W.grownBy w1 v.ownBlock → (v1.ownBlock = v.ownBlock ∨ ∃ b,v1.ownBlock = some b ∧ W.heap.size ≤ b) → wpList P ops Q rest (a.put o.dst v1) w1) :
    wpList P ops Q (o :: rest) a (W.alloc (.cells cs.toArray e)):=by
  obtain ⟨inner,hown,hr⟩:=HO
  refine UU base hgd s x t e z size bytes ho ht hinfo hz hs0 hb0 v ps.length inner cs hs hx hcs h1 hown HB hbase hl ?_
  intro v1 w1 hown1 hb1 hg1 fT
  exact h v1 w1 ⟨inner ++ cs,by rw [List.length_append,List.length_singleton];exact hown1,hr.snoc hp hcs⟩ hb1 hg1 fT
end
section
variable {P:Program} {ops:Array Oper} {o:Oper} {a:Act} {Q:Exit → Act → World → Prop} {K:Act → World → Prop} {α:Type} {R:α → List Value → Prop}
end
theorem jK.zbF {α:Type} {R:α → List Value → Prop} {size:Nat} {w:World} {ad:Addr} {n:Nat} {ps:List α} (h:jK R size w (some ad) n ps) :
    ∃ inner,qx R size ps inner ∧ ∀ j u,inner[j]? = some u → w.cell? (ad.add j) = some u:=by
  have key:∀ m,m ≤ ps.length → ∃ inner,qx R size (ps.take m) inner ∧ ∀ j u,inner[j]? = some u → w.cell? (ad.add j) = some u:=by
    intro m
    induction m with
    | zero=>exact fun _=>⟨[],qx.none _ _,fun j u hu=>by simp at hu⟩
    | succ m ih =>
      intro hm
      obtain ⟨inner,hr,hc⟩:=ih (by omega)
      obtain ⟨ad',he,hcell⟩:=h.2.2 (by have:=h.1;omega)
      injection he with he
      subst he
      obtain ⟨c,hcl,hp,hcc⟩:=hcell m _ (List.getElem?_eq_getElem (show m < ps.length by omega))
      refine ⟨inner ++ c,?_,fun j u hu=>?_⟩
      · rw [List.take_succ_eq_append_getElem (show m < ps.length by omega)]
        exact hr.snoc hp hcl
      · have hil:inner.length = m * size:=by rw [hr.1,List.length_take,Nat.min_eq_left (by omega)]
        rcases Nat.lt_or_ge j inner.length with hj | hj
        · rw [List.getElem?_append_left hj] at hu
          exact hc j u hu
        · rw [List.getElem?_append_right hj] at hu
          have:=hcc (j - inner.length) u hu
          rwa [hil,Nat.add_sub_cancel' (by omega)] at this
  obtain ⟨inner,hr,hc⟩:=key ps.length (Nat.le_refl _)
  rw [List.take_length] at hr
  exact ⟨inner,hr,hc⟩
section
variable {α:Type} {P:Program}
end
section
variable {P:Program} {ops:Array Oper} {rest:List Oper} {o:Oper} {a:Act} {Q:Exit → Act → World → Prop}
end
structure Kd (α:Type) where
  sz:Nat
  E:List Nat
  K:World → α → List Value → Prop
  M:World → Nat → (Nat → Prop) → α → List Value → Prop
  jV:∀ {w x cs},K w x cs → cs.length = sz
  uD:∀ {w x cs},K w x cs → ∀ u ∈ cs,u.oneCell' = true
  jd:∀ {w w1:World} {x cs},Below w.heap.size w w1 → K w x cs → K w1 x cs
  xY:∀ {w base ok x cs},M w base ok x cs → K w x cs
  qP:∀ {w base ok ok' x cs},(∀ k,ok k → ok' k) → M w base ok x cs → M w base ok' x cs
  vF:∀ {w:World} {base ok x cs},M w base ok x cs → M w base (fun k=>ok k ∧ base ≤ k ∧ k < w.heap.size ∧ ∃ q,q ∈ E ∧ ∃ cells,w.heap[k]? = some (.cells cells q (0,0))) x cs
  uf:∀ {w w1:World} {base ok x cs},(∀ k,ok k → w1.heap[k]? = w.heap[k]?) → M w base ok x cs → M w1 base ok x cs
  je:∀ {w base base' ok x cs},base' ≤ base → M w base ok x cs → M w base' ok x cs
theorem zKk {w w1:World} {base:Nat} {e:TypeId} {size n:Nat} {v:Value} {xs:List Value} (h:w.ownsRow base e size v n xs) (hm:∀ k,v.ownBlock = some k → w1.heap[k]? = w.heap[k]?):w1.ownsRow base e size v n xs:=by
  obtain ⟨h1,h2⟩:=h
  refine ⟨h1,?_⟩
  rcases h2 with h2 | ⟨g,cap,cur,rfl,hg,hh,r⟩
  · exact .inl h2
  · exact .inr ⟨g,cap,cur,rfl,hg,(hm g (by simp [Value.ownBlock])).trans hh,r⟩
theorem U0 {w:World} {base:Nat} {e:TypeId} {size n:Nat} {v:Value} {xs:List Value} (h:w.ownsRow base e size v n xs) (k:Nat) (hk:v.ownBlock = some k):∃ cells,w.heap[k]? = some (.cells cells e (0,0)):=by
  rcases h.2 with ⟨rfl,_⟩ | ⟨g,cap,cur,rfl,hg,hh,r⟩
  · simp [Value.ownBlock] at hk
  · have:g = k:=by simpa [Value.ownBlock] using hk
    subst this
    exact ⟨cur,hh⟩
namespace Kd
def C {α:Type} (d:Kd α) (w:World) (A:Option Addr) (n:Nat) (xs:List α):Prop:=jK (d.K w) d.sz w A n xs
def R {α:Type} (d:Kd α) (e:Nat) (w:World) (base:Nat) (ok:Nat → Prop) (v:Value) (xs:List α):Prop :=
  (∀ k,v.ownBlock = some k → ok k) ∧ vP (d.M w base (fun k=>ok k ∧ some k ≠ v.ownBlock)) e d.sz w base v xs
section
variable {α:Type} {d:Kd α} {e:Nat} {w w1:World} {base:Nat} {ok ok':Nat → Prop} {v:Value} {xs:List α}
theorem za {A:Option Addr} {n:Nat} (h:d.C w A n xs) (hb:Below w.heap.size w w1):d.C w1 A n xs:=jK.Yp h hb (fun _ _ hp=>d.jd hb hp)
theorem kC (d:Kd α) (e:Nat) (w:World) (base:Nat) (ok:Nat → Prop):d.R e w base ok (.slice none 0 0) []:=⟨fun k hk=>by simp [Value.ownBlock] at hk,vP.none_ _ _ _ _ _⟩
theorem jC (h:d.R e w base ok v xs) (hok:∀ k,ok k → ok' k):d.R e w base ok' v xs:=⟨fun k hk=>hok k (h.1 k hk),h.2.Yp (fun _ _ hp=>d.qP (fun k hk=>⟨hok k hk.1,hk.2⟩) hp)⟩
theorem Zg (h:d.R e w base ok v xs):d.R e w base (fun k=>ok k ∧ base ≤ k ∧ k < w.heap.size ∧ ∃ q,q ∈ e :: d.E ∧ ∃ cells,w.heap[k]? = some (.cells cells q (0,0))) v xs:=by
  obtain ⟨h0,inner,ho,hr⟩:=h
  refine ⟨fun k hk=>?_,inner,ho,hr.Yp (fun _ _ hp=>d.qP (fun k hk=>?_) (d.vF hp))⟩
  · obtain ⟨cells,hc⟩:=U0 ho k hk
    exact ⟨h0 k hk,X0 ho k hk,zJB ho k hk,e,List.mem_cons_self,cells,hc⟩
  · obtain ⟨⟨h1,h2⟩,h3,h4,q,hq,hc⟩:=hk
    exact ⟨⟨h1,h3,h4,q,List.mem_cons_of_mem _ hq,hc⟩,h2⟩
theorem lg (h:d.R e w base ok v xs) (hm:∀ k,ok k → w1.heap[k]? = w.heap[k]?):d.R e w1 base ok v xs:=by
  obtain ⟨h0,inner,ho,hr⟩:=h
  exact ⟨h0,inner,zKk ho (fun k hk=>hm k (h0 k hk)),hr.Yp (fun _ _ hp=>d.uf (fun k hk=>hm k hk.1) hp)⟩
theorem uH {base':Nat} (h:d.R e w base ok v xs) (hb:base' ≤ base):d.R e w base' ok v xs:=by
  obtain ⟨h0,inner,ho,hr⟩:=h
  exact ⟨h0,inner,zXy ho hb,hr.Yp (fun _ _ hp=>d.je hb hp)⟩
theorem KW (h:d.R e w base ok v xs) (hm:∀ k,ok k → k < w.heap.size → w1.heap[k]? = w.heap[k]?):d.R e w1 base ok v xs :=
  jC (lg (Zg h) (fun k hk=>hm k hk.1 hk.2.2.1)) (fun _ hk=>hk.1)
theorem lu {x:α} {cs:List Value} (h:d.M w base ok x cs) (hm:∀ k,ok k → k < w.heap.size → w1.heap[k]? = w.heap[k]?):d.M w1 base ok x cs :=
  d.qP (fun _ hk=>hk.1) (d.uf (fun k hk=>hm k hk.1 hk.2.2.1) (d.vF h))
theorem jf (h:d.R e w base ok v xs) (hb:Below w.heap.size w w1):d.R e w1 base ok v xs:=KW h (fun k _ hk=>hb.block k hk)
theorem zWO {x:α} {cs:List Value} (h:d.M w base ok x cs) (hb:Below w.heap.size w w1):d.M w1 base ok x cs:=lu h (fun k _ hk=>hb.block k hk)
theorem r9 (h:d.R e w base ok v xs) {row:Option Nat} (hg:w.grownBy w1 row) (hok:∀ k,ok k → some k ≠ row):d.R e w1 base ok v xs:=KW h (fun k ho hk=>hg.block k hk (hok k ho))
theorem YE (h:d.R e w base ok v xs) {p:Addr} (hok:∀ k,ok k → k ≠ p.block) (u:Value):d.R e (w.setCell p u) base ok v xs:=KW h (fun k ho _=>Below.heap_setCell w p u k (hok k ho))
theorem zzi (h:d.R e w base ok v xs) {g t:Nat} {cells:Array Value} (hb:w.heap[g]? = some (.cells cells t (0,0))) (ht:∀ q,q ∈ e :: d.E → q ≠ t):d.R e w base (fun k=>ok k ∧ k ≠ g) v xs :=
  jC (Zg h) (fun k hk=>⟨hk.1,by
    obtain ⟨_,_,_,q,hq,cells',hc⟩:=hk
    rintro rfl
    rw [hc] at hb
    injection hb with hb
    injection hb with _ hb
    exact ht q hq hb⟩)
theorem YF (h:d.R e w base ok v xs) {g t:Nat} {cells:Array Value} (hb:w.heap[g]? = some (.cells cells t (0,0))) (ht:∀ q,q ∈ e :: d.E → q ≠ t) (j:Nat) (u:Value):d.R e (w.setCell ⟨g,j,none⟩ u) base ok v xs :=
  jC (YE (p:=⟨g,j,none⟩) (zzi h hb ht) (fun _ hk=>hk.2) u) (fun _ hk=>hk.1)
theorem zzl (h:d.R e w base ok v xs):∃ A c,v = .slice A xs.length c ∧ xs.length ≤ c ∧ d.C w A xs.length xs:=by
  obtain ⟨A,c,he,hl,hr⟩:=vP.reads h.2
  exact ⟨A,c,he,hl,hr.Yp (Below.refl _ _) (fun _ _ hp=>d.xY hp)⟩
theorem xV (h:d.R e w base ok v xs):∃ A c,v = .slice A xs.length c:=by
  obtain ⟨A,c,he,_⟩:=zzl h
  exact ⟨A,c,he⟩
theorem gQ (h:d.R e w base ok v xs):∃ inner,w.ownsRow base e d.sz v xs.length inner:=by
  obtain ⟨_,inner,ho,_⟩:=h
  exact ⟨inner,ho⟩
theorem mP (h:d.R e w base ok v xs) {g t:Nat} {cells:Array Value} (hb:w.heap[g]? = some (.cells cells t (0,0))) (ht:e ≠ t):some g ≠ v.ownBlock:=vP.zKv h.2 hb ht
end
def scalar {α:Type} (enc:α → Value) (h1:∀ x,(enc x).oneCell' = true):Kd α where
  sz:=1
  E:=[]
  K:=fun _ x cs=>cs = [enc x]
  M:=fun _ _ _ x cs=>cs = [enc x]
  jV:=fun h=>by rw [h];rfl
  uD:=fun h u hu=>by
    rw [h] at hu
    rw [List.mem_singleton.1 hu]
    exact h1 _
  jd:=fun _ h=>h
  xY:=fun h=>h
  qP:=fun _ h=>h
  vF:=fun h=>h
  uf:=fun _ h=>h
  je:=fun _ h=>h
def int (k:IntKind):Kd Int:=scalar (Value.int k) (fun _=>rfl)
def bool:Kd Bool:=scalar Value.bool (fun _=>rfl)
def string:Kd ByteArray:=scalar Value.string (fun _=>rfl)
def slice {α:Type} (e:Nat) (d:Kd α):Kd (List α) where
  sz:=1
  E:=e :: d.E
  K:=fun w xs cs=>∃ A c,cs = [.slice A xs.length c] ∧ xs.length ≤ c ∧ d.C w A xs.length xs
  M:=fun w base ok xs cs=>∃ v,cs = [v] ∧ d.R e w base ok v xs
  jV:=by
    rintro w x cs ⟨A,c,rfl,_⟩
    rfl
  uD:=by
    rintro w x cs ⟨A,c,rfl,_⟩ u hu
    rw [List.mem_singleton.1 hu]
    rfl
  jd:=by
    rintro w w1 x cs hb ⟨A,c,rfl,hl,hr⟩
    exact ⟨A,c,rfl,hl,za hr hb⟩
  xY:=by
    rintro w base ok x cs ⟨v,rfl,h⟩
    obtain ⟨A,c,rfl,hl,hr⟩:=zzl h
    exact ⟨A,c,rfl,hl,hr⟩
  qP:=by
    rintro w base ok ok' x cs hok ⟨v,rfl,h⟩
    exact ⟨v,rfl,jC h hok⟩
  vF:=by
    rintro w base ok x cs ⟨v,rfl,h⟩
    exact ⟨v,rfl,Zg h⟩
  uf:=by
    rintro w w1 base ok x cs hm ⟨v,rfl,h⟩
    exact ⟨v,rfl,lg h hm⟩
  je:=by
    rintro w base base' ok x cs hb ⟨v,rfl,h⟩
    exact ⟨v,rfl,uH h hb⟩
def pair {α β:Type} (a:Kd α) (b:Kd β):Kd (α × β) where
  sz:=a.sz + b.sz
  E:=a.E ++ b.E
  K:=fun w x cs=>∃ c0 c1,cs = c0 ++ c1 ∧ a.K w x.1 c0 ∧ b.K w x.2 c1
  M:=fun w base ok x cs=>∃ c0 c1,cs = c0 ++ c1 ∧ a.M w base ok x.1 c0 ∧ b.M w base ok x.2 c1
  jV:=by
    rintro w x cs ⟨c0,c1,rfl,h0,h1⟩
    rw [List.length_append,a.jV h0,b.jV h1]
  uD:=by
    rintro w x cs ⟨c0,c1,rfl,h0,h1⟩ u hu
    rcases List.mem_append.1 hu with hu | hu
    · exact a.uD h0 u hu
    · exact b.uD h1 u hu
  jd:=by
    rintro w w1 x cs hb ⟨c0,c1,rfl,h0,h1⟩
    exact ⟨c0,c1,rfl,a.jd hb h0,b.jd hb h1⟩
  xY:=by
    rintro w base ok x cs ⟨c0,c1,rfl,h0,h1⟩
    exact ⟨c0,c1,rfl,a.xY h0,b.xY h1⟩
  qP:=by
    rintro w base ok ok' x cs hok ⟨c0,c1,rfl,h0,h1⟩
    exact ⟨c0,c1,rfl,a.qP hok h0,b.qP hok h1⟩
  vF:=by
    rintro w base ok x cs ⟨c0,c1,rfl,h0,h1⟩
    refine ⟨c0,c1,rfl,a.qP ?_ (a.vF h0),b.qP ?_ (b.vF h1)⟩
    · rintro k ⟨h2,h3,h4,q,hq,hc⟩
      exact ⟨h2,h3,h4,q,List.mem_append_left _ hq,hc⟩
    · rintro k ⟨h2,h3,h4,q,hq,hc⟩
      exact ⟨h2,h3,h4,q,List.mem_append_right _ hq,hc⟩
  uf:=by
    rintro w w1 base ok x cs hm ⟨c0,c1,rfl,h0,h1⟩
    exact ⟨c0,c1,rfl,a.uf hm h0,b.uf hm h1⟩
  je:=by
    rintro w base base' ok x cs hb ⟨c0,c1,rfl,h0,h1⟩
    exact ⟨c0,c1,rfl,a.je hb h0,b.je hb h1⟩
def iso {α β:Type} (d:Kd α) (f:β → α):Kd β where
  sz:=d.sz
  E:=d.E
  K:=fun w x cs=>d.K w (f x) cs
  M:=fun w base ok x cs=>d.M w base ok (f x) cs
  jV:=d.jV
  uD:=d.uD
  jd:=d.jd
  xY:=d.xY
  qP:=d.qP
  vF:=d.vF
  uf:=d.uf
  je:=d.je
def bot {α:Type} (sz:Nat) (E:List Nat):Kd α where
  sz:=sz
  E:=E
  K:=fun _ _ _=>False
  M:=fun _ _ _ _ _=>False
  jV:=fun h=>h.elim
  uD:=fun h=>h.elim
  jd:=fun _ h=>h
  xY:=fun h=>h
  qP:=fun _ h=>h
  vF:=fun h=>h
  uf:=fun _ h=>h
  je:=fun _ h=>h
def upto {α:Type} (F:Kd α → Kd α) (sz:Nat) (E:List Nat):Nat → Kd α
  | 0=>bot sz E
  | n + 1=>F (upto F sz E n)
theorem UG {α:Type} {d:Kd α} {w:World} {A:Option Addr} {n:Nat} {xs:List α} (h:d.C w A n xs) (z:α) (i:Int) (h0:0 ≤ i) (h1:i < n) :
    ∃ ad c,A = some ad ∧ c.length = d.sz ∧ d.K w (xs.getD i.toNat z) c ∧ ∀ j u,c[j]? = some u → w.cell? (ad.add (i.toNat * d.sz + j)) = some u:=jK.zfT h z i h0 h1
theorem lC {α:Type} {d:Kd α} {e base:Nat} {ok xU:Nat → Prop} {W w1:World} {v v1:Value} {xs:List α} {p:α} {inner cs:List Value} (h0:∀ k,v.ownBlock = some k → ok k) (hr:qx (d.M W base (fun k=>ok k ∧ some k ≠ v.ownBlock)) d.sz xs inner) (hp:d.M W base xU p cs) (kU:∀ k,xU k → ok k ∧ some k ≠ v.ownBlock) (hfresh:∀ k,W.heap.size ≤ k → ok k)
    (hown:w1.ownsRow base e d.sz v1 (xs.length + 1) (inner ++ cs)) (hg:W.grownBy w1 v.ownBlock) (hat:v1.ownBlock = v.ownBlock ∨ ∃ b,v1.ownBlock = some b ∧ W.heap.size ≤ b):d.R e w1 base ok v1 (xs ++ [p]):=by
  have hne:∀ k,some k ≠ v.ownBlock → k < W.heap.size → some k ≠ v1.ownBlock:=by
    intro k hk hlt
    rcases hat with hat | ⟨b,hb,hle⟩
    · rw [hat];exact hk
    · rw [hb]
      intro he
      injection he with he
      omega
  have step:∀ {q:α} {c:List Value} {o:Nat → Prop},d.M W base o q c → (∀ k,o k → ok k ∧ some k ≠ v.ownBlock) → d.M w1 base (fun k=>ok k ∧ some k ≠ v1.ownBlock) q c:=by
    intro q c o hq ho
    have h1:=d.uf (w1:=w1) (fun k hk=>hg.block k hk.2.2.1 (ho k hk.1).2) (d.vF hq)
    exact d.qP (fun k hk=>⟨(ho k hk.1).1,hne k (ho k hk.1).2 hk.2.2.1⟩) h1
  refine ⟨fun k hk=>?_,inner ++ cs,by rw [List.length_append,List.length_singleton];exact hown,?_⟩
  · rcases hat with hat | ⟨b,hb,hle⟩
    · exact h0 k (hat ▸ hk)
    · rw [hb] at hk
      injection hk with hk
      exact hfresh k (by omega)
  · exact (hr.Yp (fun _ _ hq=>step hq (fun _ hk=>hk))).snoc (step hp kU) (d.jV (d.xY hp))
section
variable {P:Program} {ops:Array Oper} {rest:List Oper} {o:Oper} {a:Act} {Q:Exit → Act → World → Prop} {α:Type}
theorem gX (d:Kd α) {w0 W:World} (base:Nat) (hgd:o.guard = none) (s x:Operand) (t e:TypeId) (z:Value) (bytes:Nat)
    (ho:o.op = .call { callee:=.builtin .append,args:=#[s,x],argTypes:=#[t,t] })
    (ht:P.underlying t = some (.slice e)) (hinfo:(P.info? e).map (fun i=>(i.zero,i.size,i.bytes)) = some (some z,d.sz,bytes)) (hz:z.cells.size = d.sz) (hs0:0 < d.sz) (hb0:0 < bytes)
    (v:Value) (xs:List α) (p:α) (cs:List Value) (ok xU:Nat → Prop) (hs:a.eval s = v) (hx:a.eval x = .slice (some ⟨W.heap.size,0,none⟩) 1 1) (hp:d.M W base xU p cs) (kU:∀ k,xU k → ok k ∧ some k ≠ v.ownBlock) (hfresh:∀ k,W.heap.size ≤ k → ok k)
    (HO:d.R e W base ok v xs) (HB:Below base w0 W) (hbase:base ≤ W.heap.size) (hl:(xs.length + 1) * bytes ≤ 140737488355328)
    (h:∀ v1 w1,d.R e w1 base ok v1 (xs ++ [p]) → Below base w0 w1 → W.grownBy w1 v.ownBlock → (v1.ownBlock = v.ownBlock ∨ ∃ b,v1.ownBlock = some b ∧ W.heap.size ≤ b) → wpList P ops Q rest (a.put o.dst v1) w1) :
    wpList P ops Q (o :: rest) a (W.alloc (.cells cs.toArray e)):=by
  obtain ⟨h0,inner,hown,hr⟩:=HO
  refine UU base hgd s x t e z d.sz bytes ho ht hinfo hz hs0 hb0 v xs.length inner cs hs hx (d.jV (d.xY hp)) (d.uD (d.xY hp)) hown HB hbase hl ?_
  intro v1 w1 hown1 hb1 hg1 fT
  exact h v1 w1 (lC h0 hr hp kU hfresh hown1 hg1 fT) hb1 hg1 fT
end
section
variable {P:Program} {ops:Array Oper} {o:Oper} {a:Act} {Q:Exit → Act → World → Prop} {Kc:Act → World → Prop} {α:Type}
theorem XM (d:Kd α) {w0 W:World} (base:Nat) (hw:Region.wanted o (yielded ops a.tmps) = true) (s x:Operand) (t e:TypeId) (z:Value) (bytes:Nat)
    (ho:o.op = .call { callee:=.builtin .append,args:=#[s,x],argTypes:=#[t,t] })
    (ht:P.underlying t = some (.slice e)) (hinfo:(P.info? e).map (fun i=>(i.zero,i.size,i.bytes)) = some (some z,d.sz,bytes)) (hz:z.cells.size = d.sz) (hs0:0 < d.sz) (hb0:0 < bytes)
    (v:Value) (xs:List α) (p:α) (cs:List Value) (ok xU:Nat → Prop) (hs:a.eval s = v) (hx:a.eval x = .slice (some ⟨W.heap.size,0,none⟩) 1 1) (hp:d.M W base xU p cs) (kU:∀ k,xU k → ok k ∧ some k ≠ v.ownBlock) (hfresh:∀ k,W.heap.size ≤ k → ok k)
    (HO:d.R e W base ok v xs) (HB:Below base w0 W) (hbase:base ≤ W.heap.size) (hl:(xs.length + 1) * bytes ≤ 140737488355328)
    (h:∀ v1 w1,d.R e w1 base ok v1 (xs ++ [p]) → Below base w0 w1 → W.grownBy w1 v.ownBlock → (v1.ownBlock = v.ownBlock ∨ ∃ b,v1.ownBlock = some b ∧ W.heap.size ≤ b) → Kc (a.put o.dst v1) w1) :
    if Region.wanted o (yielded ops a.tmps) = true then Oper.wp P o a (W.alloc (.cells cs.toArray e)) Kc Q else Kc (a.put o.dst undef) (W.alloc (.cells cs.toArray e)):=by
  obtain ⟨h0,inner,hown,hr⟩:=HO
  refine aG base hw s x t e z d.sz bytes ho ht hinfo hz hs0 hb0 v xs.length inner cs hs hx (d.jV (d.xY hp)) (d.uD (d.xY hp)) hown HB hbase hl ?_
  intro v1 w1 hown1 hb1 hg1 fT
  exact h v1 w1 (lC h0 hr hp kU hfresh hown1 hg1 fT) hb1 hg1 fT
end
theorem lD {α:Type} {enc:α → Value} {d:α} {h1:∀ x,(enc x).oneCell' = true} {w:World} {A:Option Addr} {n:Nat} {xs:List α} (h:(scalar enc h1).C w A n xs):jc enc d w A n xs:=by
  refine ⟨h.1,h.2.1,fun hn=>?_⟩
  obtain ⟨ad,e,hc⟩:=h.2.2 hn
  refine ⟨ad,e,fun j hj=>?_⟩
  have hl:j < xs.length:=by have:=h.1;omega
  obtain ⟨c,_,hK,hcell⟩:=hc j _ (List.getElem?_eq_getElem hl)
  have hK':c = [enc xs[j]]:=hK
  subst hK'
  have:=hcell 0 _ rfl
  simpa [scalar,List.getD_eq_getElem?_getD,List.getElem?_eq_getElem hl] using this
end Kd
namespace Kd
section
variable {α:Type} {F:Kd α → Kd α} {sz:Nat} {E:List Nat} {hs:∀ n,(upto F sz E n).sz = sz} {hE:∀ n q,q ∈ (upto F sz E n).E → q ∈ E}
end
end Kd
namespace Kd
end Kd
namespace Kd
section
variable {α β:Type} {d:Kd α} {d':Kd β} {e e':Nat} {w w1 W:World} {base b b':Nat} {ok ok' okv oku:Nat → Prop} {v u:Value} {xs:List α} {ys:List β}
theorem zk7 (h:d.R e w base ok v xs) (o:Obj):d.R e (w.alloc o) base ok v xs:=jf h (zO (Below.refl _ _) o)
theorem lF (h:d.R e w base ok v xs):d.R e w.drew base ok v xs:=jf h (VW (Below.refl _ _))
theorem zk8 (h:d.R e w base ok v xs) (m:Nat):d.R e (w.drewN m) base ok v xs:=jf h (zC (Below.refl _ _) m)
theorem YG {A:Option Addr} {n:Nat} (h:d.C w A n xs) (o:Obj):d.C (w.alloc o) A n xs:=za h (zO (Below.refl _ _) o)
theorem Va {A:Option Addr} {n:Nat} (h:d.C w A n xs):d.C w.drew A n xs:=za h (VW (Below.refl _ _))
theorem YH {A:Option Addr} {n:Nat} (h:d.C w A n xs) (m:Nat):d.C (w.drewN m) A n xs:=za h (zC (Below.refl _ _) m)
theorem lG (d:Kd α) (w:World):d.C w none ([]:List α).length []:=⟨rfl,by simp,fun h=>absurd h (Nat.lt_irrefl 0)⟩
theorem uo {A:Option Addr} {n c:Nat} (h:d.R e w base ok (.slice A n c) xs):n = xs.length ∧ n ≤ c ∧ d.C w A xs.length xs:=by
  obtain ⟨A',c',he,hl,hr⟩:=zzl h
  injection he with h1 h2 h3
  subst h1
  exact ⟨h2,by omega,hr⟩
theorem zvm (h:d.R e w base ok v xs):∀ k,v.ownBlock = some k → k < w.heap.size:=by
  obtain ⟨inner,ho⟩:=gQ h
  exact zJB ho
theorem Pv (h:d.R e w base ok v xs):∀ k,v.ownBlock = some k → base ≤ k:=by
  obtain ⟨inner,ho⟩:=gQ h
  exact X0 ho
theorem zJF (h:d.R e w base ok v xs) (hp:0 < xs.length):∃ g cap,v = .slice (some ⟨g,0,none⟩) xs.length cap ∧ base ≤ g ∧ g < w.heap.size ∧ ∃ cells,w.heap[g]? = some (.cells cells e (0,0)):=by
  obtain ⟨inner,ho⟩:=gQ h
  obtain ⟨g,cap,he,hb,hl⟩:=ho.form hp
  obtain ⟨cells,hc⟩:=U0 ho g (by rw [he];simp [Value.ownBlock])
  exact ⟨g,cap,he,hb,hl,cells,hc⟩
end
section
variable {w W:World} {A:Option Addr} {n:Nat}
theorem XB {k:IntKind} {xs:List Int} (h:(Kd.int k).C w A n xs) (i:Int) (h0:0 ≤ i) (h1:i < n):∃ ad,A = some ad ∧ w.cell? (ad.add i.toNat) = some (.int k (rd xs i)) :=
  jc.at_ (lD (enc:=Value.int k) (d:=(0:Int)) (h1:=fun _=>rfl) h) i h0 h1
theorem U1 {xs:List ByteArray} (h:Kd.string.C w A n xs) (i:Int) (h0:0 ≤ i) (h1:i < n):∃ ad,A = some ad ∧ w.cell? (ad.add i.toNat) = some (.string (X3 ByteArray.empty xs i)) :=
  jc.at_ (lD (enc:=Value.string) (d:=ByteArray.empty) (h1:=fun _=>rfl) h) i h0 h1
variable {α:Type} {enc:α → Value} {h1:∀ x,(enc x).oneCell' = true} {e base g cap:Nat} {ok:Nat → Prop} {xs:List α}
end
section
variable {P:Program} {ops:Array Oper} {rest:List Oper} {o:Oper} {a:Act} {Q:Exit → Act → World → Prop}
theorem zjN {W w1:World} {v:Value} (hgd:o.guard = none) (hrun:(execOp a.eval o).run P W = .ok (.value v) w1) (h:wpList P ops Q rest (a.put o.dst v) w1):wpList P ops Q (o :: rest) a W:=by
  refine wpList_plain hgd fun K hK=>?_
  unfold Oper.wp
  rw [hrun]
  exact hK _ _ h
variable {α:Type}
theorem WQ (d:Kd α) {w0 W:World} (base e:Nat) (hgd:o.guard = none) {N:Tmp} (_hd:o.dst = some N) {xs:List α} {inner:List Value} {ok xU:Nat → Prop}
    (hrun:(execOp a.eval o).run P W = .ok (.value (.slice (some ⟨W.heap.size,0,none⟩) xs.length xs.length)) (W.alloc (.cells inner.toArray e)))
    (hrep:qx (d.M W base xU) d.sz xs inner) (hok:∀ k,xU k → ok k) (hfresh:ok W.heap.size) (HB:Below base w0 W) (hbase:base ≤ W.heap.size) (hm:xs.length ≤ 9223372036854775807)
    (h:∀ v1 w1,d.R e w1 base ok v1 xs → Below base w0 w1 → W.grownBy w1 none → (∃ b,v1.ownBlock = some b ∧ W.heap.size ≤ b) → wpList P ops Q rest (a.put o.dst v1) w1):wpList P ops Q (o :: rest) a W:=by
  refine zjN hgd hrun (h _ _ ⟨fun k hk=>?_,inner,?_,?_⟩ (HB.alloc hbase _) (World.grownBy_alloc W _ none) ⟨W.heap.size,by simp [Value.ownBlock],Nat.le_refl _⟩)
  · have:W.heap.size = k:=by simpa [Value.ownBlock] using hk
    subst this
    exact hfresh
  · have h2:=World.ownsRow_lit (base:=base) (e:=e) (size:=d.sz) W inner.toArray xs.length hbase (by simpa [maxLen] using hm) (by simpa using hrep.1)
    simpa using h2
  · refine hrep.Yp (fun p c hp=>d.qP (fun k hk=>⟨hok k hk.1,fun he=>?_⟩) (zWO (d.vF hp) (zO (Below.refl _ _) _)))
    have h3:k = W.heap.size:=by simpa [Value.ownBlock] using he
    have:=hk.2.2.1
    omega
end
end Kd
section
variable {P:Program}
end
def zbG (w:World) (base:Nat) (e:TypeId) (size:Nat) (v:Value) (n:Nat) (xs:List Value):Prop :=
  xs.length = n * size ∧
  ((n = 0 ∧ ∃ A,v = .slice A 0 0 ∧ ∀ a,A = some a → base ≤ a.block ∧ ∃ cur,w.heap[a.block]? = some (.cells cur e (0,0))) ∨
   ∃ g off cap cur,v = .slice (some ⟨g,off * size,none⟩) n cap ∧ base ≤ g ∧ w.heap[g]? = some (.cells cur e (0,0)) ∧ n ≤ cap ∧ off + cap ≤ maxLen ∧ cur.size = (off + cap) * size ∧ (cur.toList.drop (off * size)).take (n * size) = xs)
section
variable {w w1:World} {base n size:Nat} {e:TypeId} {v:Value} {xs:List Value}
theorem zKy (h:w.ownsRow base e size v n xs):zbG w base e size v n xs:=by
  obtain ⟨h1,h2⟩:=h
  refine ⟨h1,?_⟩
  rcases h2 with ⟨rfl,h0⟩ | ⟨g,cap,cur,rfl,hb,hh,hnc,hcm,hcs,ht⟩
  · exact .inl ⟨h0,none,rfl,fun a ha=>by cases ha⟩
  · exact .inr ⟨g,0,cap,cur,by rw [Nat.zero_mul],hb,hh,hnc,by rw [Nat.zero_add];exact hcm,by rw [Nat.zero_add];exact hcs,by rw [Nat.zero_mul,List.drop_zero];exact ht⟩
theorem zJG (g o j:Nat):(⟨g,o,none⟩:Addr).add j = ⟨g,o + j,none⟩:=by unfold Addr.add;split <;> simp_all
theorem Ka {g:Nat}:∀ (vs:List Value) (o:Nat) {w:World} (k:Nat),k ≠ g → (w.setCells g o vs).heap[k]? = w.heap[k]?
  | [],_,_,_,_=>rfl
  | v :: r,o,w,k,hk=>by
    rw [World.setCells,Ka r (o + 1) k hk]
    exact Below.heap_setCell w ⟨g,o,none⟩ v k hk
theorem mD (g:Nat):∀ (vs:List Value) (o:Nat) (w:World),(w.setCells g o vs).os = w.os ∧ (w.setCells g o vs).tape = w.tape ∧ (w.setCells g o vs).output = w.output ∧ (w.setCells g o vs).heap.size = w.heap.size
  | [],_,_=>⟨rfl,rfl,rfl,rfl⟩
  | v :: r,o,w=>by
    obtain ⟨h1,h2,h3,h4⟩:=mD g r (o + 1) (w.setCell ⟨g,o,none⟩ v)
    rw [World.setCells]
    exact ⟨h1,h2,h3,by rw [h4];simp [World.setCell]⟩
theorem mR {g:Nat} {e:TypeId}:∀ (vs:List Value) (o:Nat) (w:World) (cur:Array Value),w.heap[g]? = some (.cells cur e (0,0)) → o + vs.length ≤ cur.size →
    ∃ cur',(w.setCells g o vs).heap[g]? = some (.cells cur' e (0,0)) ∧ cur'.size = cur.size ∧ cur'.toList = cur.toList.take o ++ vs ++ cur.toList.drop (o + vs.length)
  | [],o,w,cur,h,_=>⟨cur,h,rfl,by simp⟩
  | v :: r,o,w,cur,h,hl=>by
    have h2:=zk6 h o v
    simp only [List.length_cons] at hl
    obtain ⟨cur',h3,h4,h5⟩:=mR r (o + 1) (w.setCell ⟨g,o,none⟩ v) _ h2 (by simp;omega)
    refine ⟨cur',h3,by rw [h4];simp,?_⟩
    rw [h5,Array.toList_setIfInBounds]
    have ho:o < cur.toList.length:=by rw [Array.length_toList];omega
    rw [List.take_set,List.drop_set_of_lt (by omega)]
    simp only [List.length_cons]
    rw [show o + 1 + r.length = o + (r.length + 1) by omega]
    congr 1
    rw [List.take_succ_eq_append_getElem ho,List.set_append_right _ _ (by rw [List.length_take];omega)]
    have ho':o < cur.size:=by omega
    simp [Nat.min_eq_left (Nat.le_of_lt ho')]
end
section
variable {P:Program}
end
namespace Kd
def Q {α:Type} (d:Kd α) (e:Nat) (w:World) (base:Nat) (ok:Nat → Prop) (v:Value) (xs:List α):Prop :=
  (∀ k,v.ownBlock = some k → ok k) ∧ ∃ inner,zbG w base e d.sz v xs.length inner ∧ qx (d.M w base (fun k=>ok k ∧ some k ≠ v.ownBlock)) d.sz xs inner
section
variable {α:Type} {d:Kd α} {e:Nat} {w w1 W:World} {base:Nat} {ok ok':Nat → Prop} {v:Value} {xs:List α}
theorem zbH (h:d.R e w base ok v xs):d.Q e w base ok v xs:=by
  obtain ⟨h0,inner,ho,hr⟩:=h
  exact ⟨h0,inner,zKy ho,hr⟩
theorem zXw (d:Kd α) (e:Nat) (w:World) (base:Nat) (ok:Nat → Prop):d.Q e w base ok (.slice none 0 0) []:=zbH (kC d e w base ok)
end
section
variable {P:Program} {ops:Array Oper} {rest:List Oper} {o:Oper} {a:Act} {Q':Exit → Act → World → Prop} {Kc:Act → World → Prop} {α:Type}
end
end Kd
namespace Kd
section
variable {α:Type} {d:Kd α} {e e':Nat} {w w1 W:World} {base:Nat} {ok:Nat → Prop} {u v:Value} {xs:List α}
theorem gJ (hu:d.R e W base ok u xs) (hbase:∀ k,v.ownBlock = some k → W.heap.size ≤ k) (hb:Below W.heap.size W w1):d.R e w1 base (fun k=>ok k ∧ some k ≠ v.ownBlock) u xs :=
  jC (lg (Zg hu) (fun k hk=>hb.block k hk.2.2.1)) (fun k hk=>⟨hk.1,fun he=>by have:=hbase k he.symm;have:=hk.2.2.1;omega⟩)
theorem lH (h:d.R e w1 W.heap.size ok v xs) (hlt:∀ k,u.ownBlock = some k → k < W.heap.size):d.R e w1 W.heap.size (fun k=>ok k ∧ some k ≠ u.ownBlock) v xs :=
  jC (Zg h) (fun k hk=>⟨hk.1,fun he=>by have:=hlt k he.symm;have:=hk.2.1;omega⟩)
theorem fresh' (hlt:∀ k,u.ownBlock = some k → k < W.heap.size):∀ k,W.heap.size ≤ k → some k ≠ u.ownBlock:=fun k hk he=>by have:=hlt k he.symm;omega
end
end Kd
theorem Pk {α:Type} (a seg:List α) (o:Nat) (h:o + seg.length ≤ a.length) (q:Nat) :
    (a.take o ++ seg ++ a.drop (o + seg.length))[q]? = if q < o then a[q]? else if q < o + seg.length then seg[q - o]? else a[q]?:=by
  have hl:(a.take o).length = o:=by rw [List.length_take];omega
  rw [List.append_assoc]
  by_cases h1:q < o
  · rw [if_pos h1,List.getElem?_append_left (by omega),List.getElem?_take,if_pos h1]
  · rw [if_neg h1,List.getElem?_append_right (by omega),hl]
    by_cases h2:q < o + seg.length
    · rw [if_pos h2,List.getElem?_append_left (by omega)]
    · rw [if_neg h2,List.getElem?_append_right (by omega),List.getElem?_drop]
      congr 1
      omega
namespace Kd
section
variable {α:Type} {d:Kd α} {e base g n cap:Nat} {ok xU:Nat → Prop} {W:World} {xs:List α}
theorem zvn (h:d.R e W base ok (.slice (some ⟨g,0,none⟩) n cap) xs) (z:α) (i:Int) (h0:0 ≤ i) (h1:i < n) :
    ∃ c,c.length = d.sz ∧ d.M W base (fun k=>ok k ∧ k ≠ g) (xs.getD i.toNat z) c ∧ (∀ j u,c[j]? = some u → W.cell? ⟨g,i.toNat * d.sz + j,none⟩ = some u) ∧ ∀ j,W.frozen? ⟨g,i.toNat * d.sz + j,none⟩ = false:=by
  obtain ⟨hn,hnc,hC⟩:=uo h
  obtain ⟨_,inner,ho,hr⟩:=h
  have hil:i.toNat < xs.length:=by omega
  have hseg:i.toNat * d.sz + d.sz ≤ inner.length:=by rw [hr.1,← Nat.succ_mul];exact Nat.mul_le_mul_right _ hil
  have hM:=hr.2 i.toNat _ (List.getElem?_eq_getElem hil)
  refine ⟨(inner.drop (i.toNat * d.sz)).take d.sz,by rw [List.length_take,List.length_drop];omega,?_,fun j u hu=>?_,fun j=>?_⟩
  · rw [List.getD_eq_getElem?_getD,List.getElem?_eq_getElem hil]
    exact d.qP (fun k hk=>⟨hk.1,fun he=>hk.2 (by rw [he];simp [Value.ownBlock])⟩) hM
  · rw [List.getElem?_take] at hu
    split at hu
    · rw [List.getElem?_drop] at hu
      have:=ho.cells (g:=g) (by simp [Value.ownBlock]) _ u hu
      rwa [add_plain] at this
    · cases hu
  · obtain ⟨cells,hc⟩:=U0 ho g (by simp [Value.ownBlock])
    exact zy hc _
theorem zY7 (h:d.R e W base ok (.slice (some ⟨g,0,none⟩) n cap) xs) (i:Int) (h0:0 ≤ i) (h1:i < n) {c seg:List Value} {j:Nat} (hcl:c.length = d.sz) (hcc:∀ j u,c[j]? = some u → W.cell? ⟨g,i.toNat * d.sz + j,none⟩ = some u)
    (hj:j + seg.length ≤ d.sz) {x':α} (hM:d.M W base xU x' (c.take j ++ seg ++ c.drop (j + seg.length))) (kU:∀ k,xU k → ok k ∧ k ≠ g) :
    d.R e (W.setCells g (i.toNat * d.sz + j) seg) base ok (.slice (some ⟨g,0,none⟩) n cap) (xs.set i.toNat x') ∧ W.grownBy (W.setCells g (i.toNat * d.sz + j) seg) (some g):=by
  obtain ⟨hn,hnc,_⟩:=uo h
  obtain ⟨hok,inner,ho,hr⟩:=h
  have hil:i.toNat < xs.length:=by omega
  have hseg:i.toNat * d.sz + d.sz ≤ inner.length:=by rw [hr.1,← Nat.succ_mul];exact Nat.mul_le_mul_right _ hil
  have hin:inner.length = n * d.sz:=by rw [hr.1,hn]
  obtain ⟨ho1,ho2⟩:=ho
  rcases ho2 with ⟨hv,_⟩ | ⟨g',cap',cur,hv,hb,hh,hnc',hcm,hcs,ht⟩
  · cases hv
  injection hv with ha _ hc
  injection ha with ha
  injection ha with hg
  subst hg;subst hc
  have hfit:i.toNat * d.sz + j + seg.length ≤ cur.size:=by
    have:n * d.sz ≤ cap * d.sz:=Nat.mul_le_mul_right _ hnc
    omega
  obtain ⟨cur',h3,h4,h5⟩:=mR seg (i.toNat * d.sz + j) W cur hh hfit
  obtain ⟨s1,s2,s3,s4⟩:=mD g seg (i.toNat * d.sz + j) W
  have zvo:∀ k,k ≠ g → (W.setCells g (i.toNat * d.sz + j) seg).heap[k]? = W.heap[k]?:=fun k hk=>Ka seg _ k hk
  have hcin:∀ q,q < d.sz → c[q]? = inner[i.toNat * d.sz + q]?:=by
    intro q hq
    have hq':q < c.length:=by omega
    have h6:=hcc q _ (List.getElem?_eq_getElem hq')
    rw [cell_of_row W g _ cur e (0,0) hh] at h6
    rw [List.getElem?_eq_getElem hq',← h6,← ht,List.getElem?_take,if_pos (by rw [← hn];omega),Array.getElem?_toList]
  refine ⟨⟨hok,inner.take (i.toNat * d.sz + j) ++ seg ++ inner.drop (i.toNat * d.sz + j + seg.length),⟨?_,.inr ⟨g,cap,cur',by rw [List.length_set,hn],hb,h3,by rw [List.length_set,← hn];exact hnc,hcm,by rw [h4,hcs],?_⟩⟩,?_⟩,
    ⟨s1,s2,s3,by rw [s4];exact Nat.le_refl _,fun k _ hk=>zvo k (fun he=>hk (by rw [he]))⟩⟩
  · rw [List.length_set]
    simp only [List.length_append,List.length_take,List.length_drop]
    rw [hr.1] at hseg ⊢
    omega
  · rw [List.length_set,← hn]
    apply List.ext_getElem?
    intro q
    rw [List.getElem?_take,h5]
    rw [Pk cur.toList seg (i.toNat * d.sz + j) (by rw [Array.length_toList];omega) q,Pk inner seg (i.toNat * d.sz + j) (by omega) q]
    have hcur:∀ q,q < n * d.sz → cur.toList[q]? = inner[q]?:=by
      intro q hq
      rw [← ht,List.getElem?_take,if_pos (by rw [← hn];exact hq)]
    by_cases hq:q < n * d.sz
    · rw [if_pos hq,hcur q hq]
    · rw [if_neg hq,if_neg (by omega),if_neg (by omega),List.getElem?_eq_none (by omega)]
  · refine ⟨?_,fun m p hm=>?_⟩
    · rw [List.length_set]
      simp only [List.length_append,List.length_take,List.length_drop]
      rw [hr.1] at hseg ⊢
      omega
    · have hml:m < xs.length:=by
        have:=(List.getElem?_eq_some_iff.1 hm).1
        rwa [List.length_set] at this
      have zor:m * d.sz + d.sz ≤ inner.length:=by rw [hr.1,← Nat.succ_mul];exact Nat.mul_le_mul_right _ hml
      have hgo:some g = (Value.slice (some ⟨g,0,none⟩) n cap).ownBlock:=by simp [Value.ownBlock]
      by_cases aT:m = i.toNat
      · subst aT
        rw [List.getElem?_set_self (by omega)] at hm
        injection hm with hm
        subst hm
        have hcells:((inner.take (i.toNat * d.sz + j) ++ seg ++ inner.drop (i.toNat * d.sz + j + seg.length)).drop (i.toNat * d.sz)).take d.sz = c.take j ++ seg ++ c.drop (j + seg.length):=by
          apply List.ext_getElem?
          intro q
          rw [List.getElem?_take,List.getElem?_drop,Pk inner seg _ (by omega),Pk c seg j (by omega) q]
          by_cases hq:q < d.sz
          · rw [if_pos hq,hcin q hq]
            by_cases hq1:q < j
            · rw [if_pos (by omega),if_pos hq1]
            · rw [if_neg (by omega),if_neg hq1]
              by_cases hq2:q < j + seg.length
              · rw [if_pos (by omega),if_pos hq2]
                congr 1
                omega
              · rw [if_neg (by omega),if_neg hq2]
          · rw [if_neg hq,if_neg (by omega),if_neg (by omega),List.getElem?_eq_none (by omega)]
        rw [hcells]
        refine d.qP (fun k hk=>?_) (d.uf (w1:=W.setCells g (i.toNat * d.sz + j) seg) (fun k hk=>zvo k (kU k hk).2) hM)
        exact ⟨(kU k hk).1,fun he=>(kU k hk).2 (by rw [← hgo] at he;injection he)⟩
      · rw [List.getElem?_set_ne (by omega)] at hm
        have hold:=hr.2 m p hm
        have hcells:((inner.take (i.toNat * d.sz + j) ++ seg ++ inner.drop (i.toNat * d.sz + j + seg.length)).drop (m * d.sz)).take d.sz = (inner.drop (m * d.sz)).take d.sz:=by
          apply List.ext_getElem?
          intro q
          rw [List.getElem?_take,List.getElem?_take,List.getElem?_drop,List.getElem?_drop,Pk inner seg _ (by omega)]
          by_cases hq:q < d.sz
          · rw [if_pos hq,if_pos hq]
            rcases Nat.lt_or_gt_of_ne aT with hlt | hgt
            · have:m * d.sz + d.sz ≤ i.toNat * d.sz:=by rw [← Nat.succ_mul];exact Nat.mul_le_mul_right _ hlt
              rw [if_pos (by omega)]
            · have:i.toNat * d.sz + d.sz ≤ m * d.sz:=by rw [← Nat.succ_mul];exact Nat.mul_le_mul_right _ hgt
              rw [if_neg (by omega),if_neg (by omega)]
          · rw [if_neg hq,if_neg hq]
        rw [hcells]
        refine d.uf (fun k hk=>zvo k (fun he=>hk.2 (by rw [he];exact hgo))) hold
end
end Kd
namespace Kd
section
variable {α:Type} {F:Kd α → Kd α} {sz:Nat} {E:List Nat} {hs:∀ n,(upto F sz E n).sz = sz} {hE:∀ n q,q ∈ (upto F sz E n).E → q ∈ E}
end
end Kd
namespace Kd
theorem zkR {α:Type} {R:α → List Value → Prop} {size:Nat} {ps qs:List α} {cs ds:List Value} (h:qx R size ps cs) (h':qx R size qs ds):qx R size (ps ++ qs) (cs ++ ds):=by
  refine ⟨by rw [List.length_append,List.length_append,h.1,h'.1,Nat.add_mul],fun j p hj=>?_⟩
  rcases Nat.lt_or_ge j ps.length with hlt | hge
  · rw [List.getElem?_append_left hlt] at hj
    have hle:j * size + size ≤ cs.length:=by rw [h.1,← Nat.succ_mul];exact Nat.mul_le_mul_right _ hlt
    rw [List.drop_append_of_le_length (by omega),List.take_append_of_le_length (by rw [List.length_drop];omega)]
    exact h.2 j p hj
  · rw [List.getElem?_append_right hge] at hj
    have h2:=h'.2 (j - ps.length) p hj
    have hle:ps.length * size ≤ j * size:=Nat.mul_le_mul_right _ hge
    rw [List.drop_append,List.drop_eq_nil_of_le (by rw [h.1];exact hle),List.nil_append,h.1,← Nat.sub_mul]
    exact h2
section
variable {P:Program} {ops:Array Oper} {rest:List Oper} {o:Oper} {a:Act} {Q:Exit → Act → World → Prop} {α:Type}
theorem mE (d:Kd α) {Rr:α → List Value → Prop} {w0 W:World} (base:Nat) (hgd:o.guard = none) (s x:Operand) (t e:TypeId) (z:Value) (bytes:Nat)
    (ho:o.op = .call { callee:=.builtin .append,args:=#[s,x],argTypes:=#[t,t] })
    (ht:P.underlying t = some (.slice e)) (hinfo:(P.info? e).map (fun i=>(i.zero,i.size,i.bytes)) = some (some z,d.sz,bytes)) (hz:z.cells.size = d.sz) (hs0:0 < d.sz) (hb0:0 < bytes)
    (v:Value) (xs ys:List α) (A:Option Addr) (m c:Nat) (ok xU:Nat → Prop) (hs:a.eval s = v) (hx:a.eval x = .slice A m c)
    (HO:d.R e W base ok v xs) (HR:jK Rr d.sz W A m ys) (hKM:∀ x cs,Rr x cs → d.M W base xU x cs) (kU:∀ k,xU k → ok k ∧ some k ≠ v.ownBlock) (hfresh:∀ k,W.heap.size ≤ k → ok k)
    (HB:Below base w0 W) (hbase:base ≤ W.heap.size) (hl:(xs.length + m) * bytes ≤ 140737488355328)
    (h:∀ v1 w1,d.R e w1 base ok v1 (xs ++ ys) → Below base w0 w1 → W.grownBy w1 v.ownBlock → (v1.ownBlock = v.ownBlock ∨ ∃ b,v1.ownBlock = some b ∧ W.heap.size ≤ b) → wpList P ops Q rest (a.put o.dst v1) w1) :
    wpList P ops Q (o :: rest) a W:=by
  obtain ⟨i0,hi,hzz⟩:=Option.map_eq_some_iff.1 hinfo
  simp only [Prod.mk.injEq] at hzz
  obtain ⟨hz0,hz1,hz2⟩:=hzz
  have hm:ys.length = m:=HR.1
  have hlen:xs.length + m ≤ 140737488355328:=Nat.le_trans (Nat.le_mul_of_pos_right _ hb0) hl
  obtain ⟨hok,inner,hown,hr⟩:=HO
  have hrun:∃ v1 w1,(Builtin.append_ #[t,t] o.type #[v,.slice A m c]).run P W = .ok v1 w1 ∧ d.R e w1 base ok v1 (xs ++ ys) ∧ W.grownBy w1 v.ownBlock ∧ (v1.ownBlock = v.ownBlock ∨ ∃ b,v1.ownBlock = some b ∧ W.heap.size ≤ b):=by
    rcases A with _ | ad
    · have h0:m = 0:=by
        rcases Nat.eq_zero_or_pos m with h0 | h0
        · exact h0
        · obtain ⟨ad,h,_⟩:=HR.2.2 h0
          cases h
      subst h0
      obtain rfl:ys = []:=List.eq_nil_of_length_eq_zero hm
      refine ⟨v,W,?_,by rw [List.append_nil];exact ⟨hok,inner,hown,hr⟩,World.grownBy.refl W _,.inl rfl⟩
      rcases hown.2 with ⟨rfl,hn⟩ | ⟨g,cap,cur,rfl,_,_,hnc,_⟩
      · simp [Builtin.append_,run_underlying ht,sizeOf,typeInfo,hi,Builtin.lenOf,Builtin.firstCells]
      · simp [Builtin.append_,run_underlying ht,sizeOf,typeInfo,hi,Builtin.lenOf,Builtin.firstCells,hnc,storeCells]
    · obtain ⟨news,hnr,hnc⟩:=jK.zbF HR
      have hnM:qx (d.M W base xU) d.sz ys news:=hnr.Yp (fun p c hp=>hKM p c hp)
      have hone:∀ u ∈ news,u.oneCell' = true:=by
        intro u hu
        obtain ⟨q,hq,rfl⟩:=List.mem_iff_getElem.1 hu
        have hql:q / d.sz < ys.length:=by
          rw [Nat.div_lt_iff_lt_mul hs0]
          rw [← hnM.1]
          exact hq
        have hc:=hnM.2 (q / d.sz) _ (List.getElem?_eq_getElem hql)
        refine d.uD (d.xY hc) _ ?_
        rw [List.mem_iff_getElem?]
        refine ⟨q % d.sz,?_⟩
        rw [List.getElem?_take,if_pos (Nat.mod_lt _ hs0),List.getElem?_drop,Nat.mul_comm,Nat.div_add_mod,List.getElem?_eq_getElem hq]
      obtain ⟨v1,w1,hrun,h2,hg,_,hat⟩:=run_append_own_at (P:=P) W base t o.type e i0 z d.sz bytes ht hi hz0 hz1 hz2 hz hs0 v xs.length inner hown ad m c news (by rw [hnM.1,hm]) hnc hone (by simp only [maxLen];omega) hl hbase
      have hat':v1.ownBlock = v.ownBlock ∨ ∃ b,v1.ownBlock = some b ∧ W.heap.size ≤ b:=by
        rcases hat with hat | hat
        · exact .inl hat
        · exact .inr ⟨_,hat,Nat.le_refl _⟩
      have hne:∀ k,some k ≠ v.ownBlock → k < W.heap.size → some k ≠ v1.ownBlock:=by
        intro k hk hlt
        rcases hat' with hat | ⟨b,hb,hle⟩
        · rw [hat];exact hk
        · rw [hb]
          intro he
          injection he with he
          omega
      have step:∀ {q:α} {c:List Value} {o:Nat → Prop},d.M W base o q c → (∀ k,o k → ok k ∧ some k ≠ v.ownBlock) → d.M w1 base (fun k=>ok k ∧ some k ≠ v1.ownBlock) q c:=by
        intro q c o hq ho
        have h1:=d.uf (w1:=w1) (fun k hk=>hg.block k hk.2.2.1 (ho k hk.1).2) (d.vF hq)
        exact d.qP (fun k hk=>⟨(ho k hk.1).1,hne k (ho k hk.1).2 hk.2.2.1⟩) h1
      refine ⟨v1,w1,hrun,⟨fun k hk=>?_,inner ++ news,by rw [List.length_append,hm];exact h2,zkR (hr.Yp (fun _ _ hq=>step hq (fun _ hk=>hk))) (hnM.Yp (fun _ _ hq=>step hq kU))⟩,hg,hat'⟩
      rcases hat' with hat | ⟨b,hb,hle⟩
      · exact hok k (hat ▸ hk)
      · rw [hb] at hk
        injection hk with hk
        exact hfresh k (by omega)
  obtain ⟨v1,w1,hr1,h1,hg,hat⟩:=hrun
  refine wpList_plain hgd fun K hK=>?_
  unfold Oper.wp execOp
  simp only [ho,resolve,invoke,builtin,Sem.run_bind,Sem.run_pure,Result.andThen_ok,List.map_toArray,List.map_cons,List.map_nil,hs,hx,hr1]
  exact hK _ _ (h v1 w1 h1 (HB.grown hg hbase (X0 hown)) hg hat)
end
end Kd
theorem zvx {P:Program} {w:World} {g o:Nat} {e:TypeId} {cur:Array Value} (t:TypeId) (u:Value) (seg:List Value) (hh:w.heap[g]? = some (.cells cur e (0,0))) (hu:u.cells.toList = seg) (ht:(P.info? t).map (·.size) = some seg.length)
    (hfit:o + seg.length ≤ cur.size) (h1:∀ q ∈ seg,q.oneCell' = true):(Instr.storeAt t (.pointer (some ⟨g,o,none⟩)) u).run P w = .ok () (w.setCells g o seg):=by
  obtain ⟨i,hi,hsz⟩:=Option.map_eq_some_iff.1 ht
  have hc:u.cells.size = i.size:=by rw [hsz,← hu,Array.length_toList]
  have hst:=run_storeCells_cells (P:=P) g o seg 0 w (fun j hj=>by rw [cell_of_row w g _ cur e (0,0) hh];simp;omega) (fun j _=>zy hh _) h1
  simp only [Nat.add_zero] at hst
  simp [Instr.storeAt,Instr.sureAddr,storeVar,sizeOf,typeInfo,hi,hc,hu,hst]
theorem zdC {P:Program} {ops:Array Oper} {rest:List Oper} {o:Oper} {a:Act} {Q:Exit → Act → World → Prop} {W:World} (op:Op) (_ho:o.op = op) (h:wpList P ops Q (o :: rest) a W):wpList P ops Q (o :: rest) a W:=h
namespace Kd
section
variable {P:Program} {ops:Array Oper} {rest:List Oper} {o:Oper} {a:Act} {Q:Exit → Act → World → Prop} {α:Type}
theorem zWP (d:Kd α) {w0 W:World} (base:Nat) (hN:o.dst = none) (hgd:o.guard = none) (t:TypeId) (p x:Operand) (ho:o.op = .store t p x) (e:TypeId) {g n cap o':Nat} (i:Int) (j:Nat) (xs:List α) (x':α) (u:Value) (seg c:List Value) (ok xU:Nat → Prop)
    (zXZ:a.eval p = .pointer (some ⟨g,o',none⟩)) (hoff:o' = i.toNat * d.sz + j) (hx:a.eval x = u) (hu:u.cells.toList = seg) (ht:(P.info? t).map (·.size) = some seg.length) (h1:∀ q ∈ seg,q.oneCell' = true)
    (HO:d.R e W base ok (.slice (some ⟨g,0,none⟩) n cap) xs) (h0:0 ≤ i) (hi:i < n) (hcl:c.length = d.sz) (hcc:∀ j u,c[j]? = some u → W.cell? ⟨g,i.toNat * d.sz + j,none⟩ = some u)
    (hj:j + seg.length ≤ d.sz) (hM:d.M W base xU x' (c.take j ++ seg ++ c.drop (j + seg.length))) (kU:∀ k,xU k → ok k ∧ k ≠ g) (HB:Below base w0 W)
    (h:∀ w1,d.R e w1 base ok (.slice (some ⟨g,0,none⟩) n cap) (xs.set i.toNat x') → Below base w0 w1 → W.grownBy w1 (some g) → wpList P ops Q rest a w1):wpList P ops Q (o :: rest) a W:=by
  subst hoff
  obtain ⟨hrow,hg⟩:=zY7 HO i h0 hi hcl hcc hj hM kU
  have hbg:base ≤ g:=Pv HO g (by simp [Value.ownBlock])
  have hnx:n = xs.length:=(uo HO).1
  obtain ⟨_,inner,hown,hr⟩:=HO
  have hil:i.toNat < n:=by omega
  have hB:Below base w0 (W.setCells g (i.toNat * d.sz + j) seg):=HB.trans ⟨hg.os,hg.tape,hg.output,hg.size,fun k hk=>by
    have hlt:k < W.heap.size ∨ W.heap.size ≤ k:=Nat.lt_or_ge _ _
    rcases hlt with hlt | hge
    · exact hg.block k hlt (fun he=>by injection he with he;omega)
    · exact Ka seg _ k (by omega)⟩
  refine wpList_plain hgd fun K hK=>?_
  have hrun:(Instr.storeAt t (.pointer (some ⟨g,i.toNat * d.sz + j,none⟩)) u).run P W = .ok () (W.setCells g (i.toNat * d.sz + j) seg):=by
    rcases hown.2 with ⟨hv,_⟩ | ⟨g',cap',cur,hv,hb,hh,hnc,hcm,hcs,_⟩
    · cases hv
    injection hv with ha _ hc
    injection ha with ha
    injection ha with hg'
    subst hg';subst hc
    refine zvx t u seg hh hu ht ?_ h1
    have h2:i.toNat * d.sz + d.sz ≤ n * d.sz:=by rw [← Nat.succ_mul];exact Nat.mul_le_mul_right _ hil
    have h3:n * d.sz ≤ cap * d.sz:=Nat.mul_le_mul_right _ (by omega)
    omega
  unfold Oper.wp execOp
  simp only [ho,zXZ,hx,Sem.run_bind,Sem.run_pure,Result.andThen_ok,hrun]
  show K (a.put o.dst undef) _
  rw [hN]
  exact hK a _ (h _ hrow hB hg)
end
end Kd
theorem add_add (a:Addr) (i j:Nat):(a.add i).add j = a.add (i + j):=by
  unfold Addr.add
  by_cases h1:i = 0 <;> by_cases h2:j = 0 <;> simp [h1,h2,Nat.add_assoc]
namespace Kd
section
variable {α:Type} {k:Kd α} {w:World} {A:Option Addr} {xs:List α} {m c:Nat}
end
end Kd
section
variable {P:Program}
end
theorem zI {w W:World} (h:Below w.heap.size w W):w.heap.size ≤ W.heap.size:=h.size
theorem zF {w W w2:World} (h:Below w.heap.size w W) (k:Below W.heap.size W w2):Below w.heap.size w w2:=zXk h h.size k
theorem jD.nil (W:World) (k:IntKind):jD W k none ([]:List Int).length []:=⟨rfl,by simp,fun h=>absurd h (Nat.lt_irrefl 0)⟩
theorem jD.drewN {W:World} {k:IntKind} {A:Option Addr} {n:Nat} {xs:List Int} (h:jD W k A n xs) (m:Nat):jD (W.drewN m) k A n xs:=h
theorem qw {w W:World} {g j:Nat} {v:Value} (h:Below w.heap.size w W) (hg:w.heap.size ≤ g):Below w.heap.size w (W.setCell ⟨g,j,none⟩ v):=h.setCell hg _
theorem zjO {w W:World} {g:Nat} (h:jL w W g none) {a:Addr} {v:Value} (hc:w.cell? a = some v) (hne:a.block ≠ g):W.cell? a = some v:=by
  have:=h.2 a.block (World.block_lt_of_cell? w a hc) hne (by simp)
  simpa [World.cell?,this] using hc
theorem add_block (a:Addr) (i:Nat):(a.add i).block = a.block:=by unfold Addr.add;split <;> rfl
theorem jc.nil {α:Type} (enc:α → Value) (d:α) (W:World):jc enc d W none ([]:List α).length []:=⟨rfl,by simp,fun h=>absurd h (Nat.lt_irrefl 0)⟩
theorem jc.drewN {α:Type} {enc:α → Value} {d:α} {W:World} {A:Option Addr} {n:Nat} {xs:List α} (h:jc enc d W A n xs) (m:Nat):jc enc d (W.drewN m) A n xs:=h
theorem jD.keep {w W:World} {k:IntKind} {A:Option Addr} {n g:Nat} {xs:List Int} (h:jD w k A n xs) (hk:jL w W g none) (hf:∀ ad,A = some ad → 0 < n → ad.block ≠ g):jD W k A n xs :=
  ⟨h.1,h.2.1,fun hn=>by
    obtain ⟨ad,e,hc⟩:=h.2.2 hn
    exact ⟨ad,e,fun j hj=>zjO hk (hc j hj) (by rw [add_block];exact hf ad e hn)⟩⟩
theorem jc.keep {α:Type} {enc:α → Value} {d:α} {w W:World} {A:Option Addr} {n g:Nat} {xs:List α} (h:jc enc d w A n xs) (hk:jL w W g none) (hf:∀ ad,A = some ad → 0 < n → ad.block ≠ g):jc enc d W A n xs :=
  ⟨h.1,h.2.1,fun hn=>by
    obtain ⟨ad,e,hc⟩:=h.2.2 hn
    exact ⟨ad,e,fun j hj=>zjO hk (hc j hj) (by rw [add_block];exact hf ad e hn)⟩⟩
theorem vY {w:World} {g:Nat} {t:TypeId} {cs cs':Array Value} (h:w.heap[g]? = some (.cells cs t (0,0))) (i:Nat) (u:Value) (e:cs.setIfInBounds i u = cs'):(w.setCell ⟨g,i,none⟩ u).heap[g]? = some (.cells cs' t (0,0)):=e ▸ zk6 h i u
theorem zP {base:Nat} {w W:World} (h:Below base w W):Below base w W.drew:=h.drew
namespace Kd
section
variable {α β:Type} {d:Kd α} {d':Kd β} {e e' base base' n:Nat} {ok ok':Nat → Prop} {w W w1 W1:World} {v u:Value} {xs:List α} {ys:List β} {A:Option Addr} {c:Nat}
end
section
variable {α:Type} {enc:α → Value} {h1:∀ x,(enc x).oneCell' = true} {w W:World} {A:Option Addr} {n g:Nat} {xs:List α}
end
end Kd
namespace Kd
section
variable {α:Type} {d:Kd α} {e base g:Nat} {ok:Nat → Prop} {w w1:World} {v:Value} {xs:List α} {o:Obj}
end
end Kd
section
variable {P:Program} {ops:Array Oper} {rest:List Oper} {o:Oper} {a:Act} {Q:Exit → Act → World → Prop}
theorem qm {W:World} (hgd:o.guard = none) {N:Tmp} (_hd:o.dst = some N) {cs:Array Value} {t:TypeId}
    (hrun:(execOp a.eval o).run P W = .ok (.value (.pointer (some ⟨W.heap.size,0,none⟩))) (W.alloc (.cells cs t (0,0))))
    (h:∀ g,g = W.heap.size → ∀ w1,w1.heap[g]? = some (.cells cs t (0,0)) → Below W.heap.size W w1 → wpList P ops Q rest (a.put o.dst (.pointer (some ⟨g,0,none⟩))) w1):wpList P ops Q (o :: rest) a W :=
  Kd.zjN hgd hrun (h _ rfl _ (uV W _) (zO (Below.refl _ _) _))
end
namespace Kd
section
variable {α:Type} {enc:α → Value} {h1:∀ x,(enc x).oneCell' = true} {e base g n cap:Nat} {ok:Nat → Prop} {W:World} {xs:List α}
end
end Kd
section
variable {P:Program} {ops:Array Oper} {rest:List Oper} {o:Oper} {a:Act} {Q:Exit → Act → World → Prop}
end
namespace Kd
section
variable {α:Type} {enc:α → Value} {h1:∀ x,(enc x).oneCell' = true} {e base g n cap:Nat} {ok:Nat → Prop} {W:World} {xs:List α}
end
end Kd
section
variable {P:Program} {ops:Array Oper} {rest:List Oper} {o:Oper} {a:Act} {Q:Exit → Act → World → Prop} {W:World}
theorem qY {N:Tmp} (_hN:o.dst = some N) (h:wpList P ops Q (o :: rest) a W):wpList P ops Q (o :: rest) a W:=h
end
section
variable {P:Program} {ops:Array Oper} {o:Oper} {a:Act} {Q:Exit → Act → World → Prop} {Kc:Act → World → Prop}
namespace Kd
variable {α:Type}
end Kd
end
inductive zvp (P:Program) (tmps:Array Value) (w:World):List ResultVar → List Value → Prop where
  | nil:zvp P tmps w [] []
  | tmp {u:Tmp} {rs:List ResultVar} {vs:List Value} (h:zvp P tmps w rs vs):zvp P tmps w (.tmp u :: rs) (tmps.getD u undef :: vs)
  | cell {p:Tmp} {ty:TypeId} {rs:List ResultVar} {vs:List Value} (g:Nat) (t:TypeId) (cs:Array Value) (fr:Nat × Nat) (d:TypeDesc)
      (hp:tmps.getD p undef = .pointer (some ⟨g,0,none⟩)) (hg:w.heap[g]? = some (.cells cs t fr))
      (hu:P.underlying ty = some d) (hd:(match d with | .struct _ | .array _ _=>true | _=>false) = true) (hi:(P.info? ty).map (·.size) = some cs.size)
      (h:zvp P tmps w rs vs):zvp P tmps w (.cell p ty :: rs) (.agg cs :: vs)
section
variable {P:Program} {tmps:Array Value} {w:World}
end
namespace Kd
section
variable {P:Program} {α:Type}
end
section
variable {P:Program} {ops:Array Oper} {rest:List Oper} {o:Oper} {a:Act} {Q:Exit → Act → World → Prop} {Kc:Act → World → Prop} {α:Type}
end
end Kd
end Go.Proofs.zx.zJ
namespace Go.Proofs.zx.zu
section
variable {P:Program} {ops:Array Oper} {Q:Exit → Act → World → Prop} {md:Region.Mode} {S:World → Prop} {ds:List Nat}
def Region.YZ (md:Region.Mode) (ops:Array Oper) (i:Nat):Nat → Nat → Bool
 | 0,_=>false
 | fuel + 1,d=>match ops[d]? with
  | some o=>o.after.any fun e=>Region.binds md e && (e.on == i || Region.YZ md ops i fuel e.on)
  | none=>false
def Region.Py (md:Region.Mode) (ops:Array Oper) (listed:Array Bool):Bool :=
 (List.range ops.size).all fun j=>!listed.getD j false || match ops[j]? with
  | some o=>o.after.all fun e=>!Region.binds md e || listed.getD e.on false
  | none=>true
def Region.lastB (md:Region.Mode) (ops:Array Oper) (listed:Array Bool) (ds:List Nat) (i:Nat):Bool :=
 ds.all fun d=>listed.getD d true || Region.YZ md ops i ops.size d
def pF (md:Region.Mode) (ops:Array Oper) (listed:Array Bool):Prop :=
 ∀ j oj,ops[j]? = some oj → listed.getD j false = true → ∀ e ∈ oj.after,Region.binds md e = true → listed.getD e.on false = true
theorem Region.zvr {listed:Array Bool} (h:Region.Py md ops listed = true):pF md ops listed:=by
 intro j oj hj hl e he hb
 have hlt:j < ops.size:=(Array.getElem?_eq_some_iff.1 hj).1
 have h1:=List.all_eq_true.1 h j (List.mem_range.2 hlt)
 simp only [hl,hj,Bool.not_true,Bool.false_or] at h1
 have h2:=Array.all_eq_true_iff_forall_mem.1 h1 e he
 simpa [hb] using h2
theorem pF.set {listed:Array Bool} {i:Nat} (h:pF md ops listed) (hi:i ∈ Region.ready md ops listed):pF md ops (listed.setIfInBounds i true):=by
 obtain ⟨_,oi,hoi,hall⟩:=mem_ready.1 hi
 intro j oj hj hl e he hb
 by_cases hij:i = j
 ·subst hij
  have:oj = oi:=Option.some.inj (hj.symm.trans hoi)
  subst this
  exact getD_set_true (hall e he hb)
 ·rw [getD_set_ne false hij] at hl
  exact getD_set_true (h j oj hj hl e he hb)
theorem Region.mU {listed:Array Bool} {i:Nat} (hc:pF md ops listed):∀ (fuel d:Nat),Region.YZ md ops i fuel d = true → listed.getD d false = true → listed.getD i false = true
 | 0,_,h,_=>by simp [Region.YZ] at h
 | fuel + 1,d,h,hl=>by
  unfold Region.YZ at h
  cases ho:ops[d]? with
  | none=>rw [ho] at h;simp at h
  | some o =>
   rw [ho] at h
   obtain ⟨e,he,h1⟩:=Array.any_eq_true'.1 h
   simp only [Bool.and_eq_true,Bool.or_eq_true,beq_iff_eq] at h1
   have hle:=hc d o ho hl e he h1.1
   rcases h1.2 with h2 | h2
   ·rw [← h2];exact hle
   ·exact Region.mU hc fuel e.on h2 hle
theorem Region.lI {listed:Array Bool} {i d fuel:Nat} (hc:pF md ops listed) (hr:Region.YZ md ops i fuel d = true) (hun:listed.getD i true = false):d ∉ Region.ready md ops listed:=by
 intro hd
 obtain ⟨_,o,ho,hall⟩:=mem_ready.1 hd
 have hi:listed.getD i false = true:=by
  cases fuel with
  | zero=>simp [Region.YZ] at hr
  | succ n =>
   unfold Region.YZ at hr
   rw [ho] at hr
   obtain ⟨e,he,h1⟩:=Array.any_eq_true'.1 hr
   simp only [Bool.and_eq_true,Bool.or_eq_true,beq_iff_eq] at h1
   have hle:=hall e he h1.1
   rcases h1.2 with h2 | h2
   ·rw [← h2];exact hle
   ·exact Region.mU hc n e.on h2 hle
 rcases Nat.lt_or_ge i listed.size with h' | h'
 ·simp [h'] at hun hi
  rw [hun] at hi
  cases hi
 ·simp [Array.getElem?_eq_none h'] at hun
def yK (P:Program) (md:Region.Mode) (ops:Array Oper) (Q:Exit → Act → World → Prop) (S:World → Prop) (ds:List Nat):Nat → Array Bool → Act → World → Prop
 | 0,listed,a,w=>Region.ready md ops listed = [] ∧ Q .normal a w
 | fuel + 1,listed,a,w =>
  (Region.ready md ops listed = [] → Q .normal a w) ∧
  ∀ i ∈ Region.ready md ops listed,wpOp P ops Q i (fun a' w'=>(i ∉ ds → S w → S w') ∧ yK P md ops Q S ds fuel (listed.setIfInBounds i true) a' w') a w
theorem mF:∀ (fuel:Nat) (listed:Array Bool) (a:Act) (w:World),yK P md ops Q S ds fuel listed a w → wpAny P md ops Q fuel listed a w
 | 0,_,_,_,h=>h
 | fuel + 1,_,_,_,h=>⟨h.1,fun i hi=>wpOp_mono (fun a' w' h'=>mF fuel _ a' w' h'.2) (h.2 i hi)⟩
theorem lM {i:Nat} {oi:Oper} {v:Value} (hi:ops[i]? = some oi) (hsel:∀ (j:Nat) (o:Oper) cs b,ops[j]? = some o → o.op ≠ .select cs b)
  (hQ:∀ c a w,Q (.panic c) (a.put oi.dst v) w → Q (.panic c) a w) (n:Nat) :
  ∀ (fuel:Nat) (listed:Array Bool) (a:Act) (w:World),
   (∀ j oj,ops[j]? = some oj → j ≠ i → listed.getD j true = false → (∀ e ∈ oj.after,Region.binds md e = true → e.on ≠ i) → oi.apart ops oj = true) →
   pF md ops listed → (∀ d ∈ ds,listed.getD d true = false → Region.YZ md ops i n d = true) →
   i ∈ Region.ready md ops listed → YieldsIf P ops S oi v a → S w →
   yK P md ops Q S ds fuel (listed.setIfInBounds i true) (a.put oi.dst v) w → yK P md ops Q S ds (fuel + 1) listed a w:=by
 intro fuel
 induction fuel with
 | zero =>
  intro listed a w _ _ _ hr hy hS H
  refine ⟨fun h=>(by rw [h] at hr;cases hr),fun j hj=>?_⟩
  by_cases hji:j = i
  ·subst hji;exact hy.wpOp hi hS ⟨fun _ h=>h,H⟩
  ·have:=ready_mono hj hji
   rw [H.1] at this
   cases this
 | succ fuel ih =>
  intro listed a w hfree hc hd hr hy hS H
  refine ⟨fun h=>(by rw [h] at hr;cases hr),fun j hj=>?_⟩
  by_cases hji:j = i
  ·subst hji;exact hy.wpOp hi hS ⟨fun _ h=>h,H⟩
  ·have h1:=H.2 j (ready_mono hj hji)
   obtain ⟨hjun,oj,hoj,hall⟩:=mem_ready.1 hj
   have zzm:=(mem_ready.1 hr).1
   have hnot:∀ e ∈ oj.after,Region.binds md e = true → e.on ≠ i:=fun e he hb heq=>by
    have h1:=hall e he hb
    rw [heq] at h1
    rcases Nat.lt_or_ge i listed.size with h' | h'
    ·simp [h'] at zzm h1;rw [zzm] at h1;cases h1
    ·simp [Array.getElem?_eq_none h'] at h1
   have hjd:j ∉ ds:=fun hm=>Region.lI hc (hd j hm hjun) zzm hj
   have h2:=wpOp_putIf hoj (hfree j oj hoj hji hjun hnot) (fun cs b=>hsel i oi cs b hi) (fun cs b=>hsel j oj cs b hoj) hQ hy h1
   have hfree':∀ k ok,ops[k]? = some ok → k ≠ i → (listed.setIfInBounds j true).getD k true = false →
     (∀ e ∈ ok.after,Region.binds md e = true → e.on ≠ i) → oi.apart ops ok = true:=fun k ok hk hki hun hno=>by
    refine hfree k ok hk hki ?_ hno
    by_cases hjk:j = k
    ·subst hjk;exact hjun
    ·rw [getD_set_ne true hjk] at hun;exact hun
   have hd':∀ d ∈ ds,(listed.setIfInBounds j true).getD d true = false → Region.YZ md ops i n d = true:=fun d hm hun=>by
    refine hd d hm ?_
    by_cases hjk:j = d
    ·subst hjk;exact hjun
    ·rw [getD_set_ne true hjk] at hun;exact hun
   refine wpOp_mono (fun a' w' h3=>⟨h3.2.1,ih (listed.setIfInBounds j true) a' w' hfree' (hc.set hj) hd' (ready_mono hr (Ne.symm hji)) h3.1 (h3.2.1 hjd hS) ?_⟩) h2
   rw [Array.setIfInBounds_comm _ _ hji]
   exact h3.2.2
theorem zvj {i:Nat} {oi:Oper} {v:Value} (hi:ops[i]? = some oi) (hsel:∀ (j:Nat) (o:Oper) cs b,ops[j]? = some o → o.op ≠ .select cs b)
  (hQ:∀ c a w,Q (.panic c) (a.put oi.dst v) w → Q (.panic c) a w) :
  ∀ (fuel:Nat) (listed:Array Bool) (a:Act) (w:World),
   (∀ j oj,ops[j]? = some oj → j ≠ i → listed.getD j true = false → (∀ e ∈ oj.after,Region.binds md e = true → e.on ≠ i) → oi.apart ops oj = true) →
   i ∈ Region.ready md ops listed → Yields P ops oi v a →
   yK P md ops Q S ds fuel (listed.setIfInBounds i true) (a.put oi.dst v) w → yK P md ops Q S ds (fuel + 1) listed a w:=by
 intro fuel
 induction fuel with
 | zero =>
  intro listed a w _ hr hy H
  refine ⟨fun h=>(by rw [h] at hr;cases hr),fun j hj=>?_⟩
  by_cases hji:j = i
  ·subst hji;exact (hy.yieldsIf (S:=fun _=>True)).wpOp hi trivial ⟨fun _ h=>h,H⟩
  ·have:=ready_mono hj hji
   rw [H.1] at this
   cases this
 | succ fuel ih =>
  intro listed a w hfree hr hy H
  refine ⟨fun h=>(by rw [h] at hr;cases hr),fun j hj=>?_⟩
  by_cases hji:j = i
  ·subst hji;exact (hy.yieldsIf (S:=fun _=>True)).wpOp hi trivial ⟨fun _ h=>h,H⟩
  ·have h1:=H.2 j (ready_mono hj hji)
   obtain ⟨hjun,oj,hoj,hall⟩:=mem_ready.1 hj
   have zzm:=(mem_ready.1 hr).1
   have hnot:∀ e ∈ oj.after,Region.binds md e = true → e.on ≠ i:=fun e he hb heq=>by
    have h1:=hall e he hb
    rw [heq] at h1
    rcases Nat.lt_or_ge i listed.size with h' | h'
    ·simp [h'] at zzm h1;rw [zzm] at h1;cases h1
    ·simp [Array.getElem?_eq_none h'] at h1
   have h2:=wpOp_put hoj (hfree j oj hoj hji hjun hnot) (fun cs b=>hsel i oi cs b hi) (fun cs b=>hsel j oj cs b hoj) hQ hy h1
   have hfree':∀ k ok,ops[k]? = some ok → k ≠ i → (listed.setIfInBounds j true).getD k true = false →
     (∀ e ∈ ok.after,Region.binds md e = true → e.on ≠ i) → oi.apart ops ok = true:=fun k ok hk hki hun hno=>by
    refine hfree k ok hk hki ?_ hno
    by_cases hjk:j = k
    ·subst hjk;exact hjun
    ·rw [getD_set_ne true hjk] at hun;exact hun
   refine wpOp_mono (fun a' w' h3=>⟨h3.2.1,ih (listed.setIfInBounds j true) a' w' hfree' (ready_mono hr (Ne.symm hji)) h3.1 ?_⟩) h2
   rw [Array.setIfInBounds_comm _ _ hji]
   exact h3.2.2
theorem zzn {i:Nat} {oi:Oper} {v:Value} {fuel:Nat} {listed:Array Bool} {a:Act} {w:World} (hi:ops[i]? = some oi)
  (hs:Region.noSelect ops = true) (hf:Region.free md ops listed i = true) (hr:(Region.ready md ops listed).contains i = true)
  (hc:Region.Py md ops listed = true) (hl:Region.lastB md ops listed ds i = true)
  (hQ:∀ c a w,Q (.panic c) (a.put oi.dst v) w → Q (.panic c) a w) (hy:YieldsIf P ops S oi v a) (hS:S w)
  (h:yK P md ops Q S ds fuel (listed.setIfInBounds i true) (a.put oi.dst v) w):yK P md ops Q S ds (fuel + 1) listed a w :=
 lM hi (Region.noSelect_spec hs) hQ ops.size fuel listed a w (Region.free_spec hi hf) (Region.zvr hc)
  (fun d hm hun=>by have:=List.all_eq_true.1 hl d hm;rw [hun] at this;simpa using this) (by simpa using hr) hy hS h
theorem zvv {rs:List Nat} {fuel:Nat} {listed:Array Bool} {a:Act} {w:World} (hr:Region.ready md ops listed = rs) (hne:rs ≠ [])
  (h:∀ i ∈ rs,wpOp P ops Q i (fun a' w'=>(i ∉ ds → S w → S w') ∧ yK P md ops Q S ds fuel (listed.setIfInBounds i true) a' w') a w):yK P md ops Q S ds (fuel + 1) listed a w :=
 ⟨fun h0=>absurd (hr ▸ h0) hne,hr ▸ h⟩
theorem zzo {listed:Array Bool} {a:Act} {w:World} (hr:Region.ready md ops listed = []) (h:Q .normal a w) :
  ∀ fuel,yK P md ops Q S ds fuel listed a w
 | 0=>⟨hr,h⟩
 | _ + 1=>⟨fun _=>h,by rw [hr];simp⟩
theorem zzp {id:Nat} {a:Act} {w:World} (hm:P.follows .mixedOrders = true)
  (h:yK P .any ops Q S ds ops.size (Array.replicate ops.size false) a { w with drawn:=w.drawn + 1 }):(Code.region id ops true).wp P Q a w :=
 wp_region_any hm (mF _ _ _ _ h)
end
section
variable {P:Program} {ops:Array Oper} {Q:Exit → Act → World → Prop} {md:Region.Mode} {S:World → Prop} {ds:List Nat}
def jT (P:Program) (md:Region.Mode) (ops:Array Oper) (Q:Exit → Act → World → Prop) (S:World → Prop) (ds:List Nat) (fuel:Nat) (listed:Array Bool) (a:Act) (w:World) (rs:List Nat):Prop :=
 ∀ i ∈ rs,wpOp P ops Q i (fun a' w'=>(i ∉ ds → S w → S w') ∧ yK P md ops Q S ds fuel (listed.setIfInBounds i true) a' w') a w
theorem jT.nil {fuel:Nat} {listed:Array Bool} {a:Act} {w:World}:jT P md ops Q S ds fuel listed a w []:=fun _ h=>by cases h
theorem jT.cons {fuel:Nat} {listed:Array Bool} {a:Act} {w:World} {i:Nat} {o:Oper} {rs:List Nat} (ho:ops[i]? = some o) (hd:i ∉ ds)
  (h:∀ K':Act → World → Prop,Shut (∀ a w,S w → (S w → yK P md ops Q S ds fuel (listed.setIfInBounds i true) a w) → K' a w) → if Region.wanted o (yielded ops a.tmps) = true then Oper.wp P o a w K' Q else K' (a.put o.dst undef) w)
  (hs:jT P md ops Q S ds fuel listed a w rs):jT P md ops Q S ds fuel listed a w (i :: rs):=fun j hj=>by
 rcases List.mem_cons.1 hj with rfl | hj
 ·exact wpOp_step ho (fun K' hK=>h K' (fun a w hS hW=>hK a w ⟨fun _ _=>hS,hW hS⟩))
 ·exact hs j hj
theorem jT.zJH {fuel:Nat} {listed:Array Bool} {a:Act} {w:World} {i:Nat} {o:Oper} {rs:List Nat} (ho:ops[i]? = some o) (hd:i ∈ ds)
  (h:∀ K':Act → World → Prop,Shut (∀ a w,yK P md ops Q S ds fuel (listed.setIfInBounds i true) a w → K' a w) → if Region.wanted o (yielded ops a.tmps) = true then Oper.wp P o a w K' Q else K' (a.put o.dst undef) w)
  (hs:jT P md ops Q S ds fuel listed a w rs):jT P md ops Q S ds fuel listed a w (i :: rs):=fun j hj=>by
 rcases List.mem_cons.1 hj with rfl | hj
 ·exact wpOp_step ho (fun K' hK=>h K' (fun a w hW=>hK a w ⟨fun hn=>absurd hd hn,hW⟩))
 ·exact hs j hj
theorem WX {rs:List Nat} {fuel:Nat} {listed:Array Bool} {a:Act} {w:World} (hr:Region.ready md ops listed = rs) (hne:rs ≠ [])
  (h:jT P md ops Q S ds fuel listed a w rs):yK P md ops Q S ds (fuel + 1) listed a w:=zvv hr hne h
theorem pG {id n:Nat} {a:Act} {w:World} (l:Array Bool) (hm:P.follows .mixedOrders = true) (hn:ops.size = n) (hl:Array.replicate n false = l) (hS:S w.drew)
  (h:S w.drew → yK P .any ops Q S ds n l a w.drew):(Code.region id ops true).wp P Q a w:=by
 subst hn
 subst hl
 exact zzp hm (h hS)
def takeB (md:Region.Mode) (ops:Array Oper) (ds:List Nat) (l l':Array Bool) (i:Nat):Bool :=
 Region.noSelect ops && Region.free md ops l i && (Region.ready md ops l).contains i && Region.Py md ops l && Region.lastB md ops l ds i && (l.setIfInBounds i true == l')
theorem XL {i:Nat} {N:Option Tmp} {oi:Oper} {v:Value} {fuel:Nat} {l:Array Bool} {a:Act} {w:World} (l':Array Bool) (hi:ops[i]? = some oi) (hN:oi.dst = N) (hc:takeB md ops ds l l' i = true)
  (hQ:∀ c a w,Q (.panic c) (a.put oi.dst v) w → Q (.panic c) a w) (hy:YieldsIf P ops S oi v a) (hS:S w) {a':Act} (ha:a.put N v = a')
  (h:yK P md ops Q S ds fuel l' a' w):yK P md ops Q S ds (fuel + 1) l a w:=by
 subst ha
 subst hN
 simp only [takeB,Bool.and_eq_true,beq_iff_eq] at hc
 obtain ⟨⟨⟨⟨⟨h1,h2⟩,h3⟩,h4⟩,h5⟩,h6⟩:=hc
 subst h6
 exact zzn hi h1 h2 h3 h4 h5 hQ hy hS h
def zXQ (md:Region.Mode) (ops:Array Oper) (l l':Array Bool) (i:Nat):Bool :=
 Region.noSelect ops && Region.free md ops l i && (Region.ready md ops l).contains i && (l.setIfInBounds i true == l')
theorem xk {i:Nat} {N:Option Tmp} {oi:Oper} {v:Value} {fuel:Nat} {l:Array Bool} {a:Act} {w:World} (l':Array Bool) (hi:ops[i]? = some oi) (hN:oi.dst = N) (hc:zXQ md ops l l' i = true)
  (hQ:∀ c a w,Q (.panic c) (a.put oi.dst v) w → Q (.panic c) a w) (hy:Yields P ops oi v a) {a':Act} (ha:a.put N v = a')
  (h:yK P md ops Q S ds fuel l' a' w):yK P md ops Q S ds (fuel + 1) l a w:=by
 subst ha
 subst hN
 simp only [zXQ,Bool.and_eq_true,beq_iff_eq] at hc
 obtain ⟨⟨⟨h1,h2⟩,h3⟩,h6⟩:=hc
 subst h6
 exact zvj hi (Region.noSelect_spec h1) hQ fuel l a w (Region.free_spec hi h2) (by simpa using h3) hy h
def Pw (md:Region.Mode) (ops:Array Oper) (l l':Array Bool) (i:Nat):Bool:=(Region.ready md ops l == [i]) && (l.setIfInBounds i true == l')
theorem Yr {i:Nat} {N:Option Tmp} {oi:Oper} {fuel:Nat} {l:Array Bool} {a:Act} {w:World} (l':Array Bool) (hi:ops[i]? = some oi) (hN:oi.dst = N) (hc:Pw md ops l l' i = true) (hd:i ∉ ds)
  (h:∀ K:Act → World → Prop,Shut (∀ a' w',S w' → (S w' → yK P md ops Q S ds fuel l' a' w') → K a' w') → if Region.wanted oi (yielded ops a.tmps) = true then Oper.wp P oi a w K Q else K (a.put N undef) w) :
  yK P md ops Q S ds (fuel + 1) l a w:=by
 subst hN
 simp only [Pw,Bool.and_eq_true,beq_iff_eq] at hc
 obtain ⟨h1,h2⟩:=hc
 subst h2
 exact WX h1 (by simp) (jT.cons hi hd (fun K hK=>h K hK) jT.nil)
theorem sj {i:Nat} {N:Option Tmp} {oi:Oper} {fuel:Nat} {l:Array Bool} {a:Act} {w:World} (l':Array Bool) (hi:ops[i]? = some oi) (hN:oi.dst = N) (hc:Pw md ops l l' i = true) (hd:i ∈ ds)
  (h:∀ K:Act → World → Prop,Shut (∀ a' w',yK P md ops Q S ds fuel l' a' w' → K a' w') → if Region.wanted oi (yielded ops a.tmps) = true then Oper.wp P oi a w K Q else K (a.put N undef) w) :
  yK P md ops Q S ds (fuel + 1) l a w:=by
 subst hN
 simp only [Pw,Bool.and_eq_true,beq_iff_eq] at hc
 obtain ⟨h1,h2⟩:=hc
 subst h2
 exact WX h1 (by simp) (jT.zJH hi hd (fun K hK=>h K hK) jT.nil)
theorem um {l:Array Bool} {a:Act} {w:World} {n:Nat} (hr:(Region.ready md ops l == []) = true) (h:Q .normal a w):yK P md ops Q S ds n l a w:=zzo (by simpa using hr) h n
theorem YI {fuel:Nat} {l:Array Bool} {a a':Act} {w:World} (ha:a = a') (h:yK P md ops Q S ds fuel l a' w):yK P md ops Q S ds fuel l a w:=by
 subst ha
 exact h
theorem call_ {oi:Oper} {N:Option Tmp} {a:Act} {w:World} {K:Act → World → Prop} (f:FuncId) (args:Array Value) (hw:Region.wanted oi (yielded ops a.tmps) = true) (hN:oi.dst = N) (hrun:(execOp a.eval oi).run P w = .ok (.enter f args) w)
  (h:Calls P f args w fun e w'=>∃ v,e = .returned v ∧ K (a.put N v) w'):if Region.wanted oi (yielded ops a.tmps) = true then Oper.wp P oi a w K Q else K (a.put N undef) w:=by
 rw [if_pos hw]
 subst hN
 unfold Oper.wp
 rw [hrun,Oper.upon_enter]
 refine h.mono fun e w'' hh=>?_
 obtain ⟨v,rfl,hk⟩:=hh
 exact hk
theorem pV {f:FuncId} {fn:Func} (hf:P.funcs[f]? = some fn) (hname:(fn.name == "runtime.NumGoroutine") = false) (hb:fn.body.isSome = true) (args:Array Value) (w:World):(callFunc f args).run P w = .ok (.enter f args) w:=by
 have h1:fn.name ≠ "runtime.NumGoroutine":=by simpa using hname
 obtain ⟨c,hc⟩:=Option.isSome_iff_exists.1 hb
 simp [callFunc,hf,h1,hc]
theorem YL {oi:Oper} {N:Option Tmp} {a:Act} {w:World} {K:Act → World → Prop} {f:FuncId} {fn:Func} {zq:Array Operand} {ts:Array TypeId} (hf:P.funcs[f]? = some fn) (hname:(fn.name == "runtime.NumGoroutine") = false) (hb:fn.body.isSome = true) (args:Array Value)
  (hw:Region.wanted oi (yielded ops a.tmps) = true) (hN:oi.dst = N) (hop:oi.op = .call { callee:=.value (.func f),args:=zq,argTypes:=ts }) (hargs:zq.map a.eval = args)
  (h:Calls P f args w fun e w'=>∃ v,e = .returned v ∧ K (a.put N v) w'):if Region.wanted oi (yielded ops a.tmps) = true then Oper.wp P oi a w K Q else K (a.put N undef) w:=by
 refine call_ f args hw hN ?_ h
 have he:=pV hf hname hb args w
 unfold execOp
 simp [hop,resolve,Deferred.ofValue,invoke,Act.eval,hargs,he]
theorem zbI {rest:List Oper} {oi:Oper} {a:Act} {w:World} (N:Option Tmp) (hd:oi.dst = N) (hg:oi.guard = none) {f:FuncId} {fn:Func} {zq:Array Operand} {ts:Array TypeId} (hf:P.funcs[f]? = some fn) (hname:(fn.name == "runtime.NumGoroutine") = false) (hb:fn.body.isSome = true) (args:Array Value)
  (hop:oi.op = .call { callee:=.value (.func f),args:=zq,argTypes:=ts }) (hargs:zq.map a.eval = args)
  (h:Calls P f args w fun e w'=>∃ v,e = .returned v ∧ wpList P ops Q rest (a.put N v) w'):wpList P ops Q (oi :: rest) a w:=by
 refine wpList_plain hg fun K hK=>?_
 have he:=pV hf hname hb args w
 have hrun:(execOp a.eval oi).run P w = .ok (.enter f args) w:=by
  unfold execOp
  simp [hop,resolve,Deferred.ofValue,invoke,Act.eval,hargs,he]
 unfold Oper.wp
 rw [hrun,Oper.upon_enter]
 refine h.mono fun e w'' hh=>?_
 obtain ⟨v,rfl,hk⟩:=hh
 subst hd
 exact hK _ _ hk
theorem lN {oi:Oper} {N:Option Tmp} {a:Act} {w w1:World} {v:Value} {K:Act → World → Prop} (hw:Region.wanted oi (yielded ops a.tmps) = true) (hN:oi.dst = N) (hrun:(execOp a.eval oi).run P w = .ok (.value v) w1)
  (h:K (a.put N v) w1):if Region.wanted oi (yielded ops a.tmps) = true then Oper.wp P oi a w K Q else K (a.put N undef) w:=by
 rw [if_pos hw]
 subst hN
 unfold Oper.wp
 rw [hrun]
 exact h
theorem WJ {oi:Oper} {a:Act} {w w1:World} {K:Act → World → Prop} (hw:Region.wanted oi (yielded ops a.tmps) = true) (hN:oi.dst = none) (hrun:(execOp a.eval oi).run P w = .ok .skip w1)
  (h:K a w1):if Region.wanted oi (yielded ops a.tmps) = true then Oper.wp P oi a w K Q else K (a.put none undef) w:=by
 rw [if_pos hw]
 unfold Oper.wp
 rw [hrun]
 show K (a.put oi.dst undef) w1
 rw [hN]
 exact h
theorem qR (n:Int):IntKind.i64.wrap n = Go.RowKit.wrap64 n:=by unfold Go.RowKit.wrap64;exact IntKind.wrap_i64 n
theorem qU (n:Int):IntKind.i32.wrap n = Go.RowKit.wrap32 n:=by unfold Go.RowKit.wrap32;exact IntKind.wrap_i32 n
end
end Go.Proofs.zx.zu
namespace Go.Proofs.zx.zu
open Go.Proofs.zx.zJ (zk)
def JD (md:Region.Mode) (o:Oper):List Nat:=(o.after.toList.filter (fun e=>Region.binds md e)).map (fun e=>e.on)
def zzr (md:Region.Mode) (ops:Array Oper) (i:Nat) (oi:Oper):List Nat:=(List.range ops.size).filter fun j=>!(j == i) && match ops[j]? with
 | some oj=>!(oj.after.any (fun e=>Region.binds md e && e.on == i) || oi.apart ops oj)
 | none=>false
def q9 (md:Region.Mode) (ops:Array Oper):Bool × List (List Nat × List Nat):=(Region.noSelect ops,(List.range ops.size).map fun i=>match ops[i]? with
 | some o=>(JD md o,zzr md ops i o)
 | none=>([],[]))
def Qa (T:List (List Nat × List Nat)) (l:List Bool) (i:Nat):Bool:=!l.getD i true && match T[i]? with
 | some r=>r.1.all (fun j=>l.getD j false)
 | none=>false
def U2 (T:List (List Nat × List Nat)) (l:List Bool):List Nat:=(List.range T.length).filter (Qa T l)
def lS (T:List (List Nat × List Nat)) (l:List Bool) (i:Nat):Bool:=match T[i]? with
 | some r=>r.2.all (fun j=>l.getD j true)
 | none=>false
def sw (T:List (List Nat × List Nat)) (l:List Bool):Bool:=(List.range T.length).all fun j=>!l.getD j false || match T[j]? with
 | some r=>r.1.all (fun k=>l.getD k false)
 | none=>true
def PZ (T:List (List Nat × List Nat)) (i:Nat):Nat → Nat → Bool
 | 0,_=>false
 | fuel + 1,d=>match T[d]? with
  | some r=>r.1.any fun j=>j == i || PZ T i fuel j
  | none=>false
def lastT (T:List (List Nat × List Nat)) (l:List Bool) (ds:List Nat) (i:Nat):Bool:=ds.all fun d=>l.getD d true || PZ T i T.length d
section
variable {md:Region.Mode} {ops:Array Oper} {T:Bool × List (List Nat × List Nat)} {l l' li lj lk:Array Bool} {ds:List Nat} {i j k:Nat}
theorem gd (l:Array Bool) (j:Nat) (b:Bool):l.getD j b = l.toList.getD j b:=by simp [Array.getD_eq_getD_getElem?,List.getD_eq_getElem?_getD]
theorem zjP (o:Oper) (p:Nat → Bool):o.after.all (fun e=>!Region.binds md e || p e.on) = (JD md o).all p:=by
 unfold JD
 rw [← Array.all_toList]
 induction o.after.toList with
 | nil=>rfl
 | cons e r ih =>
  rw [List.all_cons,ih,List.filter_cons]
  cases h:Region.binds md e <;> simp
theorem zJI (o:Oper) (p:Nat → Bool):o.after.any (fun e=>Region.binds md e && p e.on) = (JD md o).any p:=by
 unfold JD
 rw [← Array.any_toList]
 induction o.after.toList with
 | nil=>rfl
 | cons e r ih =>
  rw [List.any_cons,ih,List.filter_cons]
  cases h:Region.binds md e <;> simp
theorem UH:(q9 md ops).2.length = ops.size:=by simp [q9]
theorem WV {o:Oper} (h:ops[i]? = some o):(q9 md ops).2[i]? = some (JD md o,zzr md ops i o):=by
 have hi:=(Array.getElem?_eq_some_iff.1 h).1
 unfold q9
 rw [List.getElem?_map,List.getElem?_range hi,Option.map_some,h]
theorem WK (h:ops[i]? = none):(q9 md ops).2[i]? = none:=by
 have hi:ops.size ≤ i:=Array.getElem?_eq_none_iff.1 h
 exact List.getElem?_eq_none (by rw [UH];exact hi)
theorem zXX:Qa (q9 md ops).2 l.toList i = (!l.getD i true && ((ops[i]?).map (·.after.all fun e=>!Region.binds md e || l.getD e.on false)).getD false):=by
 unfold Qa
 rw [gd]
 cases h:ops[i]? with
 | none=>rw [WK h];rfl
 | some o =>
  rw [WV h]
  simp only [Option.map_some,Option.getD_some]
  rw [← zjP]
  simp only [gd]
theorem ready_eq:Region.ready md ops l = U2 (q9 md ops).2 l.toList:=by
 unfold Region.ready U2
 rw [UH]
 refine List.filter_congr (fun i _=>?_)
 rw [zXX]
theorem free_eq:Region.free md ops l i = lS (q9 md ops).2 l.toList i:=by
 unfold Region.free lS
 cases h:ops[i]? with
 | none=>rw [WK h]
 | some oi =>
  rw [WV h]
  simp only [zzr]
  rw [List.all_filter]
  congr 1
  funext j
  rw [gd]
  cases hj:ops[j]? with
  | none=>cases (j == i) <;> cases (l.toList.getD j true) <;> simp
  | some oj =>
   cases (j == i) <;> cases (l.toList.getD j true) <;> cases (oj.after.any (fun e=>Region.binds md e && e.on == i) || oi.apart ops oj) <;> simp_all
theorem zJL:Region.Py md ops l = sw (q9 md ops).2 l.toList:=by
 unfold Region.Py sw
 rw [UH]
 congr 1
 funext j
 rw [gd]
 cases h:ops[j]? with
 | none=>rw [WK h]
 | some o =>
  rw [WV h]
  simp only
  rw [← zjP]
  simp only [gd]
theorem zvs:∀ (fuel d:Nat),Region.YZ md ops i fuel d = PZ (q9 md ops).2 i fuel d
 | 0,_=>rfl
 | fuel + 1,d=>by
  unfold Region.YZ PZ
  cases h:ops[d]? with
  | none=>rw [WK h]
  | some o =>
   rw [WV h]
   simp only
   rw [← zJI]
   congr 1
   funext e
   rw [zvs fuel]
theorem zWR:Region.lastB md ops l ds i = lastT (q9 md ops).2 l.toList ds i:=by
 unfold Region.lastB lastT
 rw [UH]
 congr 1
 funext d
 rw [gd,zvs]
theorem aU (h:Qa T.2 l.toList i = true) (hT:q9 md ops = T):(Region.ready md ops l).contains i = true:=by
 subst hT
 rw [ready_eq]
 unfold U2
 rw [List.contains_iff_mem,List.mem_filter,List.mem_range]
 refine ⟨?_,h⟩
 unfold Qa at h
 rw [Bool.and_eq_true] at h
 cases hq:(q9 md ops).2[i]? with
 | none=>rw [hq] at h;simp at h
 | some r=>exact (List.getElem?_eq_some_iff.1 hq).1
theorem zvt (h:(l.toList.set i true == l'.toList) = true):(l.setIfInBounds i true == l') = true:=by
 rw [beq_iff_eq] at h ⊢
 apply Array.ext'
 rw [Array.toList_setIfInBounds]
 exact h
def fU (T:Bool × List (List Nat × List Nat)) (l l':List Bool) (i:Nat):Bool:=T.1 && lS T.2 l i && Qa T.2 l i && (l.set i true == l')
theorem qD (hT:q9 md ops = T) (h:fU T l.toList l'.toList i = true):zXQ md ops l l' i = true:=by
 simp only [fU,Bool.and_eq_true] at h
 obtain ⟨⟨⟨h1,h2⟩,h3⟩,h4⟩:=h
 have h5:=aU h3 hT
 have h6:=zvt h4
 subst hT
 simp only [zXQ,Bool.and_eq_true]
 exact ⟨⟨⟨h1,by rw [free_eq];exact h2⟩,h5⟩,h6⟩
def zXJ (T:Bool × List (List Nat × List Nat)) (ds:List Nat) (l l':List Bool) (i:Nat):Bool:=T.1 && lS T.2 l i && Qa T.2 l i && sw T.2 l && lastT T.2 l ds i && (l.set i true == l')
theorem sZ (hT:q9 md ops = T) (h:zXJ T ds l.toList l'.toList i = true):takeB md ops ds l l' i = true:=by
 simp only [zXJ,Bool.and_eq_true] at h
 obtain ⟨⟨⟨⟨⟨h1,h2⟩,h3⟩,h4⟩,h5⟩,h6⟩:=h
 have h7:=aU h3 hT
 have h8:=zvt h6
 subst hT
 simp only [takeB,Bool.and_eq_true]
 exact ⟨⟨⟨⟨⟨h1,by rw [free_eq];exact h2⟩,h7⟩,by rw [zJL];exact h4⟩,by rw [zWR];exact h5⟩,h8⟩
theorem jY (hT:q9 md ops = T) (h:(U2 T.2 l.toList == [i] && l.toList.set i true == l'.toList) = true):Pw md ops l l' i = true:=by
 simp only [Bool.and_eq_true] at h
 obtain ⟨h1,h2⟩:=h
 subst hT
 simp only [Pw,Bool.and_eq_true]
 exact ⟨by rw [ready_eq];exact h1,zvt h2⟩
theorem xK (hT:q9 md ops = T) (h:(U2 T.2 l.toList == []) = true):(Region.ready md ops l == []) = true:=by
 subst hT
 rw [ready_eq]
 exact h
def upM (B:List Nat) (d:Nat):List Nat → Nat
 | []=>0
 | n :: r=>(2 ^ n ||| (if n < d then B.getD n 0 else 0)) ||| upM B d r
def xC (T:List (List Nat × List Nat)) (B:List Nat):Bool:=(List.range T.length).all fun d=>match T[d]? with
 | some r=>(B.getD d 0 ||| upM B d r.1) == upM B d r.1
 | none=>false
theorem zk9 {B:List Nat} {d i:Nat}:∀ {ns:List Nat},(upM B d ns).testBit i = true → ∃ n ∈ ns,n = i ∨ (n < d ∧ (B.getD n 0).testBit i = true)
 | [],h=>by simp [upM] at h
 | n :: r,h=>by
  unfold upM at h
  rw [Nat.testBit_or,Nat.testBit_or,Bool.or_eq_true,Bool.or_eq_true] at h
  rcases h with (h | h) | h
  ·rw [Nat.testBit_two_pow] at h
   exact ⟨n,List.mem_cons_self,.inl (by simpa using h)⟩
  ·by_cases hn:n < d
   ·rw [if_pos hn] at h
    exact ⟨n,List.mem_cons_self,.inr ⟨hn,h⟩⟩
   ·rw [if_neg hn] at h
    simp at h
  ·obtain ⟨m,hm,h2⟩:=zk9 h
   exact ⟨m,List.mem_cons_of_mem _ hm,h2⟩
theorem zjR {T:List (List Nat × List Nat)} {B:List Nat} (hB:xC T B = true):∀ (fuel d:Nat),d < fuel → d < T.length → (B.getD d 0).testBit i = true → PZ T i fuel d = true
 | 0,d,h,_,_=>by omega
 | fuel + 1,d,h,hd,hb=>by
  have h1:=List.all_eq_true.1 hB d (List.mem_range.2 hd)
  cases hr:T[d]? with
  | none=>rw [hr] at h1;simp at h1
  | some r =>
   rw [hr] at h1
   simp only [beq_iff_eq] at h1
   have h2:(upM B d r.1).testBit i = true:=by rw [← h1,Nat.testBit_or,hb,Bool.true_or]
   obtain ⟨n,hn,h3⟩:=zk9 h2
   unfold PZ
   rw [hr]
   simp only
   rw [List.any_eq_true]
   refine ⟨n,hn,?_⟩
   rcases h3 with rfl | ⟨h4,h5⟩
   ·simp
   ·rw [zjR hB fuel n (by omega) (by omega) h5,Bool.or_true]
def zY8 (T:List (List Nat × List Nat)) (B:List Nat) (l:List Bool) (ds:List Nat) (i:Nat):Bool:=ds.all fun d=>l.getD d true || (decide (d < T.length) && (B.getD d 0).testBit i)
def lT (T:Bool × List (List Nat × List Nat)) (B:List Nat) (ds:List Nat) (l l':List Bool) (i:Nat):Bool:=T.1 && lS T.2 l i && Qa T.2 l i && sw T.2 l && zY8 T.2 B l ds i && (l.set i true == l')
theorem X4 {B:List Nat} (hT:q9 md ops = T) (hB:xC T.2 B = true) (h:lT T B ds l.toList l'.toList i = true):takeB md ops ds l l' i = true:=by
 refine sZ hT ?_
 simp only [lT,zXJ,Bool.and_eq_true] at h ⊢
 obtain ⟨⟨⟨⟨⟨h1,h2⟩,h3⟩,h4⟩,h5⟩,h6⟩:=h
 refine ⟨⟨⟨⟨⟨h1,h2⟩,h3⟩,h4⟩,?_⟩,h6⟩
 unfold zY8 at h5
 unfold lastT
 rw [List.all_eq_true] at h5 ⊢
 intro d hd
 have h7:=h5 d hd
 rw [Bool.or_eq_true,Bool.and_eq_true,decide_eq_true_eq] at h7
 rcases h7 with h7 | ⟨h8,h9⟩
 ·rw [h7,Bool.true_or]
 ·rw [zjR hB _ d h8 h8 h9,Bool.or_true]
theorem Z5 {P:Program} {Q:Exit → Act → World → Prop} {S:World → Prop} {n:Nat} {a:Act} {w:World} {B:List Nat} (hT:q9 md ops = T) (hB:xC T.2 B = true) (h:zk (q9 md ops = T) → zk (xC T.2 B = true) → yK P md ops Q S ds n l a w):yK P md ops Q S ds n l a w:=h ⟨hT⟩ ⟨hB⟩
theorem gV {P:Program} {Q:Exit → Act → World → Prop} {S:World → Prop} {n:Nat} {a:Act} {w:World} (hT:q9 md ops = T) (h:zk (q9 md ops = T) → yK P md ops Q S ds n l a w):yK P md ops Q S ds n l a w:=h ⟨hT⟩
end
def UL:Code → Nat → Option (Array Oper)
 | .region id ops _,k=>if id == k then some ops else none
 | .seq a b,k=>match UL a k with
  | some o=>some o
  | none=>UL b k
 | .cond _ a b,k=>match UL a k with
  | some o=>some o
  | none=>UL b k
 | .block _ c,k=>UL c k
 | .loop c,k=>UL c k
 | .scope c,k=>UL c k
 | .rangeFunc _ _ a b,k=>match UL a k with
  | some o=>some o
  | none=>UL b k
 | _,_=>none
def opsOf (f:Func) (k:Nat):Array Oper:=((f.body.bind fun c=>UL c k)).getD #[]
end Go.Proofs.zx.zu
namespace Go.Proofs.zx.zu
section
variable {P:Program} {ops:Array Oper} {Q:Exit → Act → World → Prop} {md:Region.Mode} {S:World → Prop} {ds:List Nat} {T:Bool × List (List Nat × List Nat)}
end
end Go.Proofs.zx.zu
namespace Go.Proofs.zx.zJ
open Go.RowKit
namespace Kd
section
variable {α:Type} {d:Kd α} {e base g o n cap:Nat} {ok xU:Nat → Prop} {w W:World} {v:Value} {xs:List α}
end
section
variable {α:Type} {enc:α → Value} {h1:∀ x,(enc x).oneCell' = true} {e base g o n cap:Nat} {ok:Nat → Prop} {W:World} {xs:List α}
end
end Kd
end Go.Proofs.zx.zJ
namespace Go.Proofs.zx.zJ
open Go.RowKit
namespace Kd
def tag {α:Type} (f:Nat → Nat) (d:Kd α):Kd (α × Nat) where
  sz:=d.sz
  E:=d.E
  K:=fun w x cs=>d.K w x.1 cs
  M:=fun w base ok x cs=>d.M w base (fun k=>ok k ∧ f k = x.2) x.1 cs
  jV:=fun h=>d.jV h
  uD:=fun h=>d.uD h
  jd:=fun hb h=>d.jd hb h
  xY:=fun h=>d.xY h
  qP:=fun hok h=>d.qP (fun k hk=>⟨hok k hk.1,hk.2⟩) h
  vF:=fun h=>d.qP (fun _ hk=>⟨⟨hk.1.1,hk.2⟩,hk.1.2⟩) (d.vF h)
  uf:=fun hm h=>d.uf (fun k hk=>hm k hk.1) h
  je:=fun hb h=>d.je hb h
def bare {α:Type} (d:Kd α):Kd α where
  sz:=d.sz
  E:=d.E
  K:=d.K
  M:=fun w base _ x cs=>d.M w base (fun _=>False) x cs
  jV:=fun h=>d.jV h
  uD:=fun h=>d.uD h
  jd:=fun hb h=>d.jd hb h
  xY:=fun h=>d.xY h
  qP:=fun _ h=>h
  vF:=fun h=>h
  uf:=fun _ h=>d.uf (fun _ hk=>hk.elim) h
  je:=fun hb h=>d.je hb h
def raw (sz:Nat):Kd (List Value) where
  sz:=sz
  E:=[]
  K:=fun _ x cs=>cs = x ∧ cs.length = sz ∧ ∀ u ∈ cs,u.oneCell' = true
  M:=fun _ _ _ x cs=>cs = x ∧ cs.length = sz ∧ ∀ u ∈ cs,u.oneCell' = true
  jV:=fun h=>h.2.1
  uD:=fun h=>h.2.2
  jd:=fun _ h=>h
  xY:=fun h=>h
  qP:=fun _ h=>h
  vF:=fun h=>h
  uf:=fun _ h=>h
  je:=fun _ h=>h
def S {α:Type} (d:Kd α) (e:Nat) (w:World) (base:Nat) (ok:Nat → Prop) (v:Value) (xs:List α):Prop:=∃ f,(tag f d).R e w base ok v xs.zipIdx
section
variable {α β:Type} {d:Kd α} {d':Kd β} {e e':Nat} {w w1 W:World} {base b:Nat} {ok ok' okv oku:Nat → Prop} {u v:Value} {xs:List α} {ys:List β}
theorem U3 {xs:List α} {j:Nat} {p:α} (h:xs[j]? = some p):xs.zipIdx[j]? = some (p,j):=by rw [List.getElem?_zipIdx,h,Nat.zero_add];rfl
theorem S_R (h:S d e w base ok v xs):d.R e w base ok v xs:=by
  obtain ⟨f,h0,inner,ho,hr⟩:=h
  rw [List.length_zipIdx] at ho
  exact ⟨h0,inner,ho,by have:=hr.1;rw [List.length_zipIdx] at this;exact this,fun j p hj=>d.qP (fun _ hk=>hk.1) (hr.2 j (p,j) (U3 hj))⟩
theorem zJM {ad:Addr} {n cap:Nat} (h:d.R e w base ok (.slice (some ad) n cap) xs):∃ g,ad = ⟨g,0,none⟩:=by
  obtain ⟨_,inner,ho,hr⟩:=h
  rcases ho.2 with ⟨hv,_⟩ | ⟨g,cap',cur,hv,_⟩
  · cases hv
  · injection hv with ha _ _
    injection ha with ha
    exact ⟨g,ha⟩
theorem zbL {ad:Addr} {n cap:Nat} (h:d.R e W base ok (.slice (some ad) n cap) xs) (z:α) (i:Int) (h0:0 ≤ i) (h1:i < n) :
    ∃ c,c.length = d.sz ∧ d.M W base (fun k=>ok k ∧ some k ≠ (Value.slice (some ad) n cap).ownBlock) (xs.getD i.toNat z) c ∧ ∀ j u,c[j]? = some u → W.cell? (ad.add (i.toNat * d.sz + j)) = some u:=by
  obtain ⟨g,rfl⟩:=zJM h
  obtain ⟨c,hcl,hM,hcc,_⟩:=zvn h z i h0 h1
  refine ⟨c,hcl,d.qP (fun k hk=>⟨hk.1,fun he=>hk.2 (by simpa [Value.ownBlock] using he)⟩) hM,fun j u hu=>?_⟩
  rw [zJG,Nat.zero_add]
  exact hcc j u hu
theorem zY9 (h:d.R e w base ok v xs):v.cells.toList = [v] ∧ v.oneCell' = true:=by
  obtain ⟨A,c,rfl⟩:=xV h
  exact ⟨rfl,rfl⟩
theorem zWS (hE:d.E = []) (h:d.R e w base ok v xs):d.R e w base (fun k=>some k = v.ownBlock) v xs:=by
  obtain ⟨h0,inner,ho,hr⟩:=h
  refine ⟨fun k hk=>hk.symm,inner,ho,hr.Yp (fun p c hp=>d.qP (fun k hk=>?_) (d.vF hp))⟩
  obtain ⟨_,_,_,q,hq,_⟩:=hk
  rw [hE] at hq
  cases hq
theorem gK (d:Kd α) (e:Nat) (w:World) (base:Nat) (ok:Nat → Prop):S d e w base ok (.slice none 0 0) []:=⟨fun _=>0,kC _ _ _ _ _⟩
theorem lU (h:S d e w base ok v xs) (hok:∀ k,ok k → ok' k):S d e w base ok' v xs:=by
  obtain ⟨f,h⟩:=h
  exact ⟨f,jC h hok⟩
theorem sQ (h:S d e w base ok v xs):S d e w base (fun k=>ok k ∧ base ≤ k ∧ k < w.heap.size ∧ ∃ q,q ∈ e :: d.E ∧ ∃ cells,w.heap[k]? = some (.cells cells q (0,0))) v xs:=by
  obtain ⟨f,h⟩:=h
  exact ⟨f,Zg h⟩
theorem zbM (h:S d e w base ok v xs) (hm:∀ k,ok k → w1.heap[k]? = w.heap[k]?):S d e w1 base ok v xs:=by
  obtain ⟨f,h⟩:=h
  exact ⟨f,lg h hm⟩
theorem YM {base':Nat} (h:S d e w base ok v xs) (hb:base' ≤ base):S d e w base' ok v xs:=by
  obtain ⟨f,h⟩:=h
  exact ⟨f,uH h hb⟩
theorem zbN (h:S d e w base ok v xs) (hm:∀ k,ok k → k < w.heap.size → w1.heap[k]? = w.heap[k]?):S d e w1 base ok v xs :=
  lU (zbM (sQ h) (fun k hk=>hm k hk.1 hk.2.2.1)) (fun _ hk=>hk.1)
theorem kM (h:S d e w base ok v xs) (hb:Below w.heap.size w w1):S d e w1 base ok v xs:=zbN h (fun k _ hk=>hb.block k hk)
theorem Qb (h:S d e w base ok v xs) (o:Obj):S d e (w.alloc o) base ok v xs:=kM h (zO (Below.refl _ _) o)
theorem U4 (h:S d e w base ok v xs):S d e w.drew base ok v xs:=kM h (VW (Below.refl _ _))
theorem Qc (h:S d e w base ok v xs) (m:Nat):S d e (w.drewN m) base ok v xs:=kM h (zC (Below.refl _ _) m)
theorem zvu (h:(bare d).R e w base ok v xs):S d e w base ok v xs:=by
  obtain ⟨h0,inner,ho,hr⟩:=h
  refine ⟨fun _=>0,h0,inner,by rw [List.length_zipIdx];exact ho,by rw [List.length_zipIdx];exact hr.1,fun j p hj=>?_⟩
  rw [List.getElem?_zipIdx,Nat.zero_add] at hj
  obtain ⟨x,hx,rfl⟩:=Option.map_eq_some_iff.1 hj
  exact d.qP (fun _ hk=>hk.elim) (hr.2 j x hx)
theorem zdD {f f':Nat → Nat} {zs:List (α × Nat)} (h:(tag f d).R e w base ok v zs) (hf:∀ k,ok k → k < w.heap.size → f' k = f k):(tag f' d).R e w base ok v zs:=by
  obtain ⟨h0,inner,ho,hr⟩:=Zg h
  exact ⟨fun k hk=>(h0 k hk).1,inner,ho,hr.1,fun j p hj=>d.qP (fun k hk=>⟨⟨hk.1.1.1,hk.1.2⟩,(hf k hk.1.1.1 hk.1.1.2.2.1).trans hk.2⟩) (hr.2 j p hj)⟩
end
section
variable {α β:Type} {d:Kd α} {d':Kd β} {e e' g:Nat} {w w1 W:World} {base b:Nat} {ok ok' okv oku:Nat → Prop} {u v:Value} {xs:List α} {ys:List β}
theorem zvA (h:S d e w base ok v xs) (hp:0 < xs.length):∃ g cap,v = .slice (some ⟨g,0,none⟩) xs.length cap ∧ base ≤ g ∧ g < w.heap.size ∧ ∃ cells,w.heap[g]? = some (.cells cells e (0,0)):=zJF (S_R h) hp
theorem Qd (h:S d e w base ok v xs):∃ A c,v = .slice A xs.length c:=xV (S_R h)
theorem Za {A:Option Addr} {n c:Nat} (h:S d e w base ok (.slice A n c) xs):n = xs.length ∧ n ≤ c ∧ d.C w A xs.length xs:=uo (S_R h)
theorem zdE {ad:Addr} {n cap:Nat} (h:S d e W base ok (.slice (some ad) n cap) xs) (z:α) (i:Int) (h0:0 ≤ i) (h1:i < n) :
    ∃ c,c.length = d.sz ∧ d.M W base (fun k=>ok k ∧ some k ≠ (Value.slice (some ad) n cap).ownBlock) (xs.getD i.toNat z) c ∧ ∀ j u,c[j]? = some u → W.cell? (ad.add (i.toNat * d.sz + j)) = some u:=zbL (S_R h) z i h0 h1
theorem zKw (xs:List α) (p:α):(xs ++ [p]).zipIdx = xs.zipIdx ++ [(p,xs.length)]:=by rw [List.zipIdx_append];simp
end
section
open Classical in
theorem zdF {α:Type} {d:Kd α} {e base:Nat} {okv:Nat → Prop} {w:World} {v:Value} {xs:List α} (h:S d e w base okv v xs) (m:Nat) (xU:Nat → Prop) (hap:∀ k,xU k → ¬ okv k):∃ f,(∀ k,xU k → f k = m) ∧ (tag f d).R e w base okv v xs.zipIdx:=by
  obtain ⟨f,h⟩:=h
  exact ⟨fun k=>if xU k then m else f k,fun k hk=>if_pos hk,zdD h (fun k hk _=>if_neg (fun h2=>hap k h2 hk))⟩
variable {P:Program} {ops:Array Oper} {rest:List Oper} {o:Oper} {a:Act} {Q:Exit → Act → World → Prop} {Kc:Act → World → Prop} {α:Type}
theorem zKZ (d:Kd α) {w0 W:World} (base:Nat) (hgd:o.guard = none) (s x:Operand) (t e:TypeId) (z:Value) (bytes:Nat)
    (ho:o.op = .call { callee:=.builtin .append,args:=#[s,x],argTypes:=#[t,t] })
    (ht:P.underlying t = some (.slice e)) (hinfo:(P.info? e).map (fun i=>(i.zero,i.size,i.bytes)) = some (some z,d.sz,bytes)) (hz:z.cells.size = d.sz) (hs0:0 < d.sz) (hb0:0 < bytes)
    (v:Value) (xs:List α) (p:α) (cs:List Value) (ok xU:Nat → Prop) (hs:a.eval s = v) (hx:a.eval x = .slice (some ⟨W.heap.size,0,none⟩) 1 1) (hp:d.M W base xU p cs) (kU:∀ k,xU k → ok k ∧ some k ≠ v.ownBlock) (hfresh:∀ k,W.heap.size ≤ k → ok k)
    (HO:S d e W base (fun k=>ok k ∧ ¬ xU k) v xs) (HB:Below base w0 W) (hbase:base ≤ W.heap.size) (hl:(xs.length + 1) * bytes ≤ 140737488355328)
    (h:∀ v1 w1,S d e w1 base ok v1 (xs ++ [p]) → Below base w0 w1 → W.grownBy w1 v.ownBlock → (v1.ownBlock = v.ownBlock ∨ ∃ b,v1.ownBlock = some b ∧ W.heap.size ≤ b) → wpList P ops Q rest (a.put o.dst v1) w1) :
    wpList P ops Q (o :: rest) a (W.alloc (.cells cs.toArray e)):=by
  obtain ⟨f,hf,hR⟩:=zdF HO xs.length xU (fun _ hk h2=>h2.2 hk)
  refine gX (tag f d) base hgd s x t e z bytes ho ht hinfo hz hs0 hb0 v xs.zipIdx (p,xs.length) cs ok xU hs hx (d.qP (fun k hk=>⟨hk,hf k hk⟩) hp) kU hfresh (jC hR (fun _ hk=>hk.1)) HB hbase (by rw [List.length_zipIdx];exact hl) ?_
  intro v1 w1 hr
  rw [← zKw] at hr
  exact h v1 w1 ⟨f,hr⟩
end
def gap {α:Type} (f:Nat → Nat) (d:Kd α) (i:Nat) (c:List Value):Kd (α × Nat) where
  sz:=d.sz
  E:=d.E
  K:=fun w x cs=>(x.2 = i → cs = c ∧ cs.length = d.sz ∧ ∀ u ∈ cs,u.oneCell' = true) ∧ (x.2 ≠ i → d.K w x.1 cs)
  M:=fun w base ok x cs=>(x.2 = i → cs = c ∧ cs.length = d.sz ∧ ∀ u ∈ cs,u.oneCell' = true) ∧ (x.2 ≠ i → d.M w base (fun k=>ok k ∧ f k = x.2) x.1 cs)
  jV:=fun {w x cs} h=>by
    by_cases hx:x.2 = i
    · exact (h.1 hx).2.1
    · exact d.jV (h.2 hx)
  uD:=fun {w x cs} h=>by
    by_cases hx:x.2 = i
    · exact (h.1 hx).2.2
    · exact d.uD (h.2 hx)
  jd:=fun hb h=>⟨h.1,fun hx=>d.jd hb (h.2 hx)⟩
  xY:=fun h=>⟨h.1,fun hx=>d.xY (h.2 hx)⟩
  qP:=fun hok h=>⟨h.1,fun hx=>d.qP (fun k hk=>⟨hok k hk.1,hk.2⟩) (h.2 hx)⟩
  vF:=fun h=>⟨h.1,fun hx=>d.qP (fun _ hk=>⟨⟨hk.1.1,hk.2⟩,hk.1.2⟩) (d.vF (h.2 hx))⟩
  uf:=fun hm h=>⟨h.1,fun hx=>d.uf (fun k hk=>hm k hk.1) (h.2 hx)⟩
  je:=fun hb h=>⟨h.1,fun hx=>d.je hb (h.2 hx)⟩
def H {α:Type} (d:Kd α) (e:Nat) (w:World) (base:Nat) (ok:Nat → Prop) (v:Value) (xs:List α) (i:Int) (uX:Nat → Prop) (c:List Value):Prop :=
  (∀ k,uX k → ok k) ∧ ∃ f,(gap f d i.toNat c).R e w base (fun k=>ok k ∧ ¬ uX k) v xs.zipIdx
section
variable {α β:Type} {d:Kd α} {e e' g n cap:Nat} {w w1 W:World} {base:Nat} {ok ok' uX xU:Nat → Prop} {u v:Value} {xs:List α} {i:Int} {c:List Value}
theorem nk (h:S d e W base ok (.slice (some ⟨g,0,none⟩) n cap) xs) (z:α) (i:Int) (h0:0 ≤ i) (h1:i < n) :
    ∃ (uX:Nat → Prop) (c:List Value),c.length = d.sz ∧ d.M W base uX (xs.getD i.toNat z) c ∧ (∀ j u,c[j]? = some u → W.cell? ⟨g,i.toNat * d.sz + j,none⟩ = some u) ∧ (∀ k,uX k → ok k ∧ k ≠ g) ∧ H d e W base ok (.slice (some ⟨g,0,none⟩) n cap) xs i uX c:=by
  obtain ⟨f,hR⟩:=h
  have hn:=(uo hR).1
  rw [List.length_zipIdx] at hn
  have hgo:some g = (Value.slice (some ⟨g,0,none⟩) n cap).ownBlock:=by simp [Value.ownBlock]
  obtain ⟨hok0,inner,ho,hr⟩:=hR
  have hil:i.toNat < xs.length:=by omega
  have hlen:inner.length = xs.length * d.sz:=by have:=hr.1;rw [List.length_zipIdx] at this;exact this
  have hseg:i.toNat * d.sz + d.sz ≤ inner.length:=by rw [hlen,← Nat.succ_mul];exact Nat.mul_le_mul_right _ hil
  have hM:=hr.2 i.toNat _ (U3 (List.getElem?_eq_getElem hil))
  have hkg:∀ k,some k ≠ (Value.slice (some ⟨g,0,none⟩) n cap).ownBlock → k ≠ g:=fun k hk he=>hk (by rw [he];exact hgo)
  refine ⟨fun k=>(ok k ∧ k ≠ g) ∧ f k = i.toNat,(inner.drop (i.toNat * d.sz)).take d.sz,by rw [List.length_take,List.length_drop];omega,?_,fun j u hu=>?_,fun k hk=>hk.1,fun k hk=>hk.1.1,f,fun k hk=>⟨hok0 k hk,fun h2=>h2.1.2 ?_⟩,inner,ho,hr.1,fun m p hm=>?_⟩
  · rw [List.getD_eq_getElem?_getD,List.getElem?_eq_getElem hil]
    exact d.qP (fun k hk=>⟨⟨hk.1.1,hkg k hk.1.2⟩,hk.2⟩) hM
  · rw [List.getElem?_take] at hu
    split at hu
    · rw [List.getElem?_drop] at hu
      have:=ho.cells (g:=g) hgo.symm _ u hu
      rwa [add_plain] at this
    · cases hu
  · rw [← hgo] at hk;injection hk with hk;exact hk.symm
  · have hold:=hr.2 m p hm
    have hp2:p.2 = m:=by
      rw [List.getElem?_zipIdx,Nat.zero_add] at hm
      obtain ⟨q,_,rfl⟩:=Option.map_eq_some_iff.1 hm
      rfl
    refine ⟨fun hx=>?_,fun hx=>d.qP (fun k hk=>⟨⟨⟨hk.1.1,fun h2=>hx ?_⟩,hk.1.2⟩,hk.2⟩) hold⟩
    · have aT:m = i.toNat:=by omega
      subst aT
      exact ⟨rfl,d.jV (d.xY hM),d.uD (d.xY hM)⟩
    · rw [← hk.2];exact h2.2
open Classical in
theorem zJN (h:H d e w base ok v xs i uX c) {x':α} (hM:d.M w base xU x' c) (hok:∀ k,xU k → uX k):S d e w base ok v (xs.set i.toNat x'):=by
  obtain ⟨ho,f,h0,inner,hown,hr⟩:=h
  refine ⟨fun k=>if uX k then i.toNat else f k,fun k hk=>(h0 k hk).1,inner,by rw [List.length_zipIdx,List.length_set];rw [List.length_zipIdx] at hown;exact hown,by have:=hr.1;rw [List.length_zipIdx] at this;rw [List.length_zipIdx,List.length_set];exact this,fun m p hm=>?_⟩
  rw [List.getElem?_zipIdx,Nat.zero_add] at hm
  obtain ⟨q,hq,rfl⟩:=Option.map_eq_some_iff.1 hm
  have hml:m < xs.length:=by
    have:=(List.getElem?_eq_some_iff.1 hq).1
    rwa [List.length_set] at this
  by_cases aT:m = i.toNat
  · subst aT
    rw [List.getElem?_set_self hml] at hq
    injection hq with hq
    subst hq
    have hc:=((hr.2 i.toNat _ (U3 (List.getElem?_eq_getElem hml))).1 rfl).1
    show d.M w base _ x' ((inner.drop (i.toNat * d.sz)).take d.sz)
    rw [show (inner.drop (i.toNat * d.sz)).take d.sz = c from hc]
    exact d.qP (fun k hk=>⟨⟨ho k (hok k hk),fun he=>(h0 k he.symm).2 (hok k hk)⟩,if_pos (hok k hk)⟩) hM
  · rw [List.getElem?_set_ne (Ne.symm aT)] at hq
    exact d.qP (fun k hk=>⟨⟨hk.1.1.1,hk.1.2⟩,(if_neg hk.1.1.2).trans hk.2⟩) ((hr.2 m (q,m) (U3 hq)).2 aT)
theorem zyz (h:H d e w base ok v xs i uX c):H d e w base ok v xs i (fun k=>uX k ∨ ok k ∧ w.heap.size ≤ k) c:=by
  obtain ⟨ho,f,h⟩:=h
  exact ⟨fun k hk=>hk.elim (ho k) (fun h2=>h2.1),f,jC (Zg h) (fun k hk=>⟨hk.1.1,fun h2=>h2.elim hk.1.2 (fun h3=>by have:=hk.2.2.1;omega)⟩)⟩
theorem zJO (h:H d e w base ok v xs i uX c) (hm:∀ k,ok k → ¬ uX k → k < w.heap.size → w1.heap[k]? = w.heap[k]?):H d e w1 base ok v xs i uX c:=by
  obtain ⟨ho,f,h⟩:=h
  exact ⟨ho,f,KW h (fun k hk hlt=>hm k hk.1 hk.2 hlt)⟩
theorem zWT (h:H d e w base ok v xs i uX c) {row:Option Nat} (hg:w.grownBy w1 row) (hrow:∀ k,row = some k → uX k):H d e w1 base ok v xs i uX c :=
  zJO h (fun k _ hn hlt=>hg.block k hlt (fun he=>hn (hrow k he.symm)))
theorem zyq (h:H d e w base ok v xs i uX c) (hb:Below w.heap.size w w1):H d e w1 base ok v xs i uX c:=zJO h (fun k _ _ hlt=>hb.block k hlt)
theorem zJP (h:H d e w base ok v xs i uX c) (hok:∀ k,ok k → ok' k):H d e w base ok' v xs i uX c:=by
  obtain ⟨ho,f,h⟩:=h
  exact ⟨fun k hk=>hok k (ho k hk),f,jC h (fun k hk=>⟨hok k hk.1,hk.2⟩)⟩
theorem zbO {l7:Nat → Prop} (h:H d e w base (fun k=>ok k ∧ ¬ l7 k) v xs i uX c) (hg:∀ k,l7 k → ok k):H d e w base ok v xs i (fun k=>uX k ∨ l7 k) c:=by
  obtain ⟨ho,f,h⟩:=h
  exact ⟨fun k hk=>hk.elim (fun h2=>(ho k h2).1) (hg k),f,jC h (fun k hk=>⟨hk.1.1,fun h2=>h2.elim hk.2 hk.1.2⟩)⟩
theorem zXV (h:H d e W base ok (.slice (some ⟨g,0,none⟩) n cap) xs i uX c) (h0:0 ≤ i) (h1:i < n) :
    ∃ rows:List (List Value),rows.length = xs.length ∧ (raw d.sz).R e W base (fun _=>True) (.slice (some ⟨g,0,none⟩) n cap) rows ∧ c.length = d.sz ∧ (∀ u ∈ c,u.oneCell' = true) ∧ (∀ j u,c[j]? = some u → W.cell? ⟨g,i.toNat * d.sz + j,none⟩ = some u) ∧
      ∀ w1 c',W.grownBy w1 (some g) → (raw d.sz).R e w1 base (fun _=>True) (.slice (some ⟨g,0,none⟩) n cap) (rows.set i.toNat c') → H d e w1 base ok (.slice (some ⟨g,0,none⟩) n cap) xs i uX c':=by
  obtain ⟨hoo,f,hR⟩:=h
  have hn:=(uo hR).1
  rw [List.length_zipIdx] at hn
  have hgo:some g = (Value.slice (some ⟨g,0,none⟩) n cap).ownBlock:=by simp [Value.ownBlock]
  obtain ⟨hok0,inner,ho,hr⟩:=hR
  have hil:i.toNat < xs.length:=by omega
  have hlen:inner.length = xs.length * d.sz:=by have:=hr.1;rw [List.length_zipIdx] at this;exact this
  have hkg:∀ k,some k ≠ (Value.slice (some ⟨g,0,none⟩) n cap).ownBlock → k ≠ g:=fun k hk he=>hk (by rw [he];exact hgo)
  have hci:=(hr.2 i.toNat _ (U3 (List.getElem?_eq_getElem hil))).1 rfl
  rw [hci.1] at hci
  have hc:=((hr.2 i.toNat _ (U3 (List.getElem?_eq_getElem hil))).1 rfl).1
  refine ⟨(List.range xs.length).map fun j=>(inner.drop (j * d.sz)).take d.sz,by rw [List.length_map,List.length_range],⟨fun _ _=>trivial,inner,?_,?_,fun j p hj=>?_⟩,hci.2.1,hci.2.2,fun j u hu=>?_,fun w1 c' hg hraw=>?_⟩
  · rw [List.length_map,List.length_range];rw [List.length_zipIdx] at ho;exact ho
  · rw [List.length_map,List.length_range];exact hlen
  · rw [List.getElem?_map] at hj
    obtain ⟨j',hj',rfl⟩:=Option.map_eq_some_iff.1 hj
    obtain ⟨hl,he⟩:=List.getElem?_eq_some_iff.1 hj'
    rw [List.getElem_range] at he
    subst he
    rw [List.length_range] at hl
    have hm:=(gap f d i.toNat c).xY (hr.2 j _ (U3 (List.getElem?_eq_getElem hl)))
    exact ⟨rfl,(gap f d i.toNat c).jV hm,(gap f d i.toNat c).uD hm⟩
  · rw [← hc,List.getElem?_take] at hu
    split at hu
    · rw [List.getElem?_drop] at hu
      have:=ho.cells (g:=g) hgo.symm _ u hu
      rwa [add_plain] at this
    · cases hu
  · obtain ⟨_,l8,ho',hr'⟩:=hraw
    have hl':l8.length = xs.length * d.sz:=by have:=hr'.1;rw [List.length_set,List.length_map,List.length_range] at this;exact this
    rw [List.length_set,List.length_map,List.length_range] at ho'
    refine ⟨hoo,f,hok0,l8,by rw [List.length_zipIdx];exact ho',by rw [List.length_zipIdx];exact hl',fun m p hm=>?_⟩
    rw [List.getElem?_zipIdx,Nat.zero_add] at hm
    obtain ⟨q,hq,rfl⟩:=Option.map_eq_some_iff.1 hm
    have hml:m < xs.length:=(List.getElem?_eq_some_iff.1 hq).1
    have hold:=hr.2 m (q,m) (U3 hq)
    refine ⟨fun hx=>?_,fun hx=>?_⟩
    · have hx':m = i.toNat:=hx
      subst hx'
      exact hr'.2 i.toNat c' (List.getElem?_set_self (by rw [List.length_map,List.length_range];exact hml))
    · have hx':m ≠ i.toNat:=hx
      have hcm:=(hr'.2 m ((inner.drop (m * d.sz)).take d.sz) (by
        rw [List.getElem?_set_ne (Ne.symm hx'),List.getElem?_map,List.getElem?_eq_getElem (by rw [List.length_range];exact hml),List.getElem_range]
        rfl)).1
      show d.M w1 base _ q ((l8.drop (m * d.sz)).take d.sz)
      rw [show (l8.drop (m * d.sz)).take d.sz = _ from hcm]
      exact d.qP (fun k hk=>hk.1) (d.uf (w1:=w1) (fun k hk=>hg.block k hk.2.2.1 (fun he=>hkg k hk.1.1.2 (by injection he))) (d.vF (hold.2 hx)))
theorem zdG (h:H d e W base ok (.slice (some ⟨g,0,none⟩) n cap) xs i uX c) (h0:0 ≤ i) (h1:i < n) {seg:List Value} {j:Nat} (hj:j + seg.length ≤ d.sz) (hone:∀ q ∈ seg,q.oneCell' = true) :
    H d e (W.setCells g (i.toNat * d.sz + j) seg) base ok (.slice (some ⟨g,0,none⟩) n cap) xs i uX (c.take j ++ seg ++ c.drop (j + seg.length)) ∧ W.grownBy (W.setCells g (i.toNat * d.sz + j) seg) (some g):=by
  obtain ⟨rows,_,hraw,hcl,hco,hcc,hback⟩:=zXV h h0 h1
  obtain ⟨h2,h3⟩:=zY7 hraw i h0 h1 (c:=c) (seg:=seg) (j:=j) (x':=c.take j ++ seg ++ c.drop (j + seg.length)) (xU:=fun _=>False) hcl hcc hj
    ⟨rfl,by
      show (c.take j ++ seg ++ c.drop (j + seg.length)).length = d.sz
      simp only [List.length_append,List.length_take,List.length_drop];omega,fun u hu=>by
      rcases List.mem_append.1 hu with hu | hu
      · rcases List.mem_append.1 hu with hu | hu
        · exact hco u (List.mem_of_mem_take hu)
        · exact hone u hu
      · exact hco u (List.mem_of_mem_drop hu)⟩ (fun _ hk=>hk.elim)
  exact ⟨hback _ _ h3 h2,h3⟩
theorem zdH {l7:Nat → Prop} (hH:H d e W base (fun k=>ok k ∧ ¬ l7 k) (.slice (some ⟨g,0,none⟩) n cap) xs i uX c) (h0:0 ≤ i) (h1:i < n) {seg:List Value} {j:Nat} (hj:j + seg.length ≤ d.sz)
    {x':α} (hM:d.M W base xU x' (c.take j ++ seg ++ c.drop (j + seg.length))) (kU:∀ k,xU k → uX k ∨ l7 k) (hg:∀ k,l7 k → ok k ∧ k ≠ g) :
    S d e (W.setCells g (i.toNat * d.sz + j) seg) base ok (.slice (some ⟨g,0,none⟩) n cap) (xs.set i.toNat x') ∧ W.grownBy (W.setCells g (i.toNat * d.sz + j) seg) (some g):=by
  have hne:∀ k,uX k ∨ l7 k → k ≠ g:=by
    intro k hk he
    subst he
    rcases hk with hk | hk
    · obtain ⟨_,f,hR⟩:=hH
      exact (hR.1 k (by simp [Value.ownBlock])).2 hk
    · exact (hg k hk).2 rfl
  obtain ⟨h2,h3⟩:=zdG (zbO hH (fun k hk=>(hg k hk).1)) h0 h1 hj (fun q hq=>d.uD (d.xY hM) q (List.mem_append_left _ (List.mem_append_right _ hq)))
  exact ⟨zJN h2 (lu hM (fun k hk hlt=>h3.block k hlt (fun he=>hne k (kU k hk) (by injection he)))) kU,h3⟩
end
section
variable {P:Program} {ops:Array Oper} {rest:List Oper} {o:Oper} {a:Act} {Q:Exit → Act → World → Prop} {α:Type}
theorem zWU (d:Kd α) {w0 W:World} (base:Nat) (hN:o.dst = none) (hgd:o.guard = none) (t:TypeId) (p x:Operand) (ho:o.op = .store t p x) (e:TypeId) {g n cap o':Nat} (i:Int) (j:Nat) (xs:List α) (x':α) (u:Value) (seg c:List Value) (ok uX xU:Nat → Prop)
    (zXZ:a.eval p = .pointer (some ⟨g,o',none⟩)) (hoff:o' = i.toNat * d.sz + j) (hx:a.eval x = u) (hu:u.cells.toList = seg) (ht:(P.info? t).map (·.size) = some seg.length) (hone:∀ q ∈ seg,q.oneCell' = true)
    (HO:H d e W base ok (.slice (some ⟨g,0,none⟩) n cap) xs i uX c) (h0:0 ≤ i) (hi:i < n)
    (hj:j + seg.length ≤ d.sz) (hM:d.M W base xU x' (c.take j ++ seg ++ c.drop (j + seg.length))) (kU:∀ k,xU k → uX k) (HB:Below base w0 W)
    (h:∀ w1,S d e w1 base ok (.slice (some ⟨g,0,none⟩) n cap) (xs.set i.toNat x') → Below base w0 w1 → W.grownBy w1 (some g) → wpList P ops Q rest a w1):wpList P ops Q (o :: rest) a W:=by
  obtain ⟨rows,_,hraw,hcl,hco,hcc,hback⟩:=zXV HO h0 hi
  have hgo:some g = (Value.slice (some ⟨g,0,none⟩) n cap).ownBlock:=by simp [Value.ownBlock]
  have hng:∀ k,uX k → k ≠ g:=by
    intro k hk he
    subst he
    obtain ⟨_,f,hR⟩:=HO
    exact (hR.1 k hgo.symm).2 hk
  refine zWP (raw d.sz) base hN hgd t p x ho e i j rows (c.take j ++ seg ++ c.drop (j + seg.length)) u seg c (fun _=>True) (fun _=>False) zXZ hoff hx hu ht hone hraw h0 hi hcl hcc hj
    ⟨rfl,d.jV (d.xY hM),d.uD (d.xY hM)⟩ (fun _ hk=>hk.elim) HB ?_
  intro w1 hr hb hg
  exact h w1 (zJN (hback w1 _ hg hr) (lu hM (fun k hk hlt=>hg.block k hlt (fun he=>hng k (kU k hk) (by injection he)))) kU) hb hg
end
end Kd
end Go.Proofs.zx.zJ
namespace Go.Proofs.zx.zJ
open Go.RowKit
namespace Kd
section
variable {α:Type} {n:Nat} {d:Kd α} {hs:0 < d.sz} {w:World} {base:Nat} {ok:Nat → Prop} {xs:List α} {cs:List Value}
end
section
variable {α:Type} {n:Nat} {enc:α → Value} {h1:∀ x,(enc x).oneCell' = true} {hs:0 < (scalar enc h1).sz} {w:World} {base:Nat} {ok:Nat → Prop} {xs:List α} {cs:List Value}
end
end Kd
end Go.Proofs.zx.zJ
namespace Go.Proofs.zx.zJ
open Go.RowKit
section
variable {P:Program}
end
namespace Kd
section
variable {P:Program} {ops:Array Oper} {rest:List Oper} {o:Oper} {a:Act} {Q:Exit → Act → World → Prop} {Kc:Act → World → Prop} {α:Type}
end
section
variable {α:Type} {d:Kd α} {e:Nat} {w:World} {base:Nat} {ok:Nat → Prop} {v:Value} {xs:List α}
end
section
variable {P:Program} {ops:Array Oper} {rest:List Oper} {o:Oper} {a:Act} {Q:Exit → Act → World → Prop} {Kc:Act → World → Prop} {α:Type}
end
end Kd
end Go.Proofs.zx.zJ
namespace Go.Proofs.zx.zJ
open Go.RowKit
namespace Kd
structure Heap {α:Type} (d:Kd α):Prop where
 K:∀ {w w1:World} {x:α} {cs:List Value},(∀ k,k < w.heap.size → w1.heap[k]? = w.heap[k]?) → d.K w x cs → d.K w1 x cs
theorem zJR {w w1:World} (hb:∀ k,k < w.heap.size → w1.heap[k]? = w.heap[k]?) {a:Addr} {v:Value} (h:w.cell? a = some v):w1.cell? a = some v:=by
 have:=hb a.block (World.block_lt_of_cell? w a h)
 simpa [World.cell?,this] using h
theorem Heap.C {α:Type} {d:Kd α} (hd:Heap d) {w w1:World} {A:Option Addr} {n:Nat} {xs:List α} (hb:∀ k,k < w.heap.size → w1.heap[k]? = w.heap[k]?) (h:d.C w A n xs):d.C w1 A n xs :=
 ⟨h.1,h.2.1,fun hn=>by
  obtain ⟨ad,e,hc⟩:=h.2.2 hn
  refine ⟨ad,e,fun j p hj=>?_⟩
  obtain ⟨c,hs,hr,hcell⟩:=hc j p hj
  exact ⟨c,hs,hd.K hb hr,fun i u hu=>zJR hb (hcell i u hu)⟩⟩
theorem Ke (k:IntKind):Heap (Kd.int k):=⟨fun _ h=>h⟩
theorem fq:Heap Kd.string:=⟨fun _ h=>h⟩
theorem zXK {α:Type} {d:Kd α} (e:Nat) (hd:Heap d):Heap (slice e d):=⟨by
 rintro w w1 x cs hb ⟨A,c,rfl,hl,hr⟩
 exact ⟨A,c,rfl,hl,hd.C hb hr⟩⟩
theorem Qe {α β:Type} {a:Kd α} {b:Kd β} (ha:Heap a) (hb':Heap b):Heap (pair a b):=⟨by
 rintro w w1 x cs hb ⟨c0,c1,rfl,h0,h1⟩
 exact ⟨c0,c1,rfl,ha.K hb h0,hb'.K hb h1⟩⟩
theorem zKQ {α β:Type} {d:Kd α} (f:β → α) (hd:Heap d):Heap (iso d f):=⟨fun hb h=>hd.K hb h⟩
section
variable {α:Type} {d:Kd α} {e base g n c:Nat} {ok:Nat → Prop} {w w0 W:World} {A:Option Addr} {xs:List α}
end
end Kd
end Go.Proofs.zx.zJ
namespace Go.Proofs.zx.zJ
open Go.RowKit
def Kept (w W:World) (S:Nat → Prop):Prop:=w.heap.size ≤ W.heap.size ∧ ∀ i,i < w.heap.size → ¬ S i → W.heap[i]? = w.heap[i]?
section
variable {w W W2:World} {S S2 S':Nat → Prop}
theorem Kept.refl (w:World) (S:Nat → Prop):Kept w w S:=⟨Nat.le_refl _,fun _ _ _=>rfl⟩
theorem Kept.of_below (h:Below w.heap.size w W) (S:Nat → Prop):Kept w W S:=⟨h.size,fun i hi _=>h.block i hi⟩
theorem Kept.mono (h:Kept w W S) (hs:∀ k,S k → S' k):Kept w W S':=⟨h.1,fun i hi hn=>h.2 i hi (fun hk=>hn (hs i hk))⟩
theorem Kept.then_ (h:Kept w W S) (k:Kept W W2 S2) (hs:∀ k,S2 k → S k ∨ w.heap.size ≤ k):Kept w W2 S :=
 ⟨Nat.le_trans h.1 k.1,fun i hi hn=>(k.2 i (Nat.lt_of_lt_of_le hi h.1) (fun h2=>(hs i h2).elim hn (fun h3=>by omega))).trans (h.2 i hi hn)⟩
theorem Kept.below (h:Kept w W S) (hb:Below W.heap.size W W2):Kept w W2 S:=h.then_ (Kept.of_below hb (fun _=>False)) (fun _ hk=>hk.elim)
theorem Kept.alloc (h:Kept w W S) (o:Obj):Kept w (W.alloc o) S:=h.below (zO (Below.refl _ _) o)
theorem Kept.drew (h:Kept w W S):Kept w W.drew S:=h
theorem Kept.drewN (h:Kept w W S) (m:Nat):Kept w (W.drewN m) S:=h
theorem Kept.setCell (h:Kept w W S) {p:Addr} (hp:S p.block ∨ w.heap.size ≤ p.block) (u:Value):Kept w (W.setCell p u) S :=
 h.then_ (S2:=fun k=>k = p.block) ⟨by simp [World.setCell],fun i _ hn=>Below.heap_setCell W p u i hn⟩ (fun k hk=>by rw [hk];exact hp)
theorem Kept.keep {g:Nat} (h:jL w W g none) (k:Kept W W2 S2) (hs:∀ k,S2 k → w.heap.size ≤ k):jL w W2 g none :=
 ⟨Nat.le_trans h.1 k.1,fun i hi hg hr=>(k.2 i (Nat.lt_of_lt_of_le hi h.1) (fun h2=>by have:=hs i h2;omega)).trans (h.2 i hi hg hr)⟩
end
namespace Kd
section
variable {α:Type} {d:Kd α} {e base n c:Nat} {ok uX S S2:Nat → Prop} {w w0 W W1 W2:World} {v:Value} {A:Option Addr} {xs:List α} {i:Int} {cs:List Value}
theorem l9 (h:d.R e W base ok v xs) (hk:Kept W W2 S) (hne:∀ k,ok k → ¬ S k):d.R e W2 base ok v xs:=KW h (fun k ho hlt=>hk.2 k hlt (hne k ho))
end
end Kd
end Go.Proofs.zx.zJ
namespace Go.Proofs.zx.zJ
open Go.RowKit
def Zq (P:World → Prop) (W:World) (ok:Nat → Prop):Prop:=∀ W':World,(∀ k,ok k → k < W.heap.size → W'.heap[k]? = W.heap[k]?) → P W'
theorem zW0 {W W1:World} {k:Nat} (h:W1.heap[k]? = W.heap[k]?) (hlt:k < W.heap.size):k < W1.heap.size:=by
 rw [Array.getElem?_eq_getElem hlt] at h
 exact (Array.getElem?_eq_some_iff.1 h).1
namespace Zq
variable {P Q:World → Prop} {W W1:World} {ok ok':Nat → Prop}
theorem now (h:Zq P W ok):P W:=h W (fun _ _ _=>rfl)
theorem mono (h:Zq P W ok) (hok:∀ k,ok k → ok' k):Zq P W ok':=fun W' hW=>h W' (fun k hk hlt=>hW k (hok k hk) hlt)
theorem bound (h:Zq P W ok):Zq P W (fun k=>ok k ∧ k < W.heap.size):=fun W' hW=>h W' (fun k hk hlt=>hW k ⟨hk,hlt⟩ hlt)
theorem step (h:Zq P W ok) (hm:∀ k,ok k → k < W.heap.size → W1.heap[k]? = W.heap[k]?):Zq P W1 ok:=fun W' hW=>h W' (fun k hk hlt=>(hW k hk (zW0 (hm k hk hlt) hlt)).trans (hm k hk hlt))
theorem imp (h:Zq P W ok) (hi:∀ W',P W' → Q W'):Zq Q W ok:=fun W' hW=>hi W' (h W' hW)
end Zq
namespace Kd
def F {α:Type} (d:Kd α) (W:World) (ok:Nat → Prop) (A:Option Addr) (n:Nat) (xs:List α):Prop:=Zq (fun W=>d.C W A n xs) W ok
def FK {α:Type} (d:Kd α) (W:World) (ok:Nat → Prop) (x:α) (c:List Value):Prop:=Zq (fun W=>d.K W x c) W ok
section
variable {α β:Type} {d:Kd α} {e base n n' cc g N:Nat} {ok ok' xU S:Nat → Prop} {w w0 w1 W W1:World} {A A':Option Addr} {u v v1:Value} {xs:List α} {xs':List β} {d':Kd β} {x:α} {c:List Value}
theorem zWz (h:F d W ok A n xs):d.C W A n xs:=Zq.now h
theorem zJS (h:F d W ok A n xs) (hok:∀ k,ok k → ok' k):F d W ok' A n xs:=Zq.mono h hok
theorem zW1 (h:F d W ok A n xs):F d W (fun k=>ok k ∧ k < W.heap.size) A n xs:=Zq.bound h
theorem zbP (h:F d W ok A n xs) (hm:∀ k,ok k → k < W.heap.size → W1.heap[k]? = W.heap[k]?):F d W1 ok A n xs:=Zq.step h hm
theorem JE (h:F d W ok A n xs) (hb:Below W.heap.size W W1):F d W1 ok A n xs:=zbP h (fun k _ hlt=>hb.block k hlt)
theorem zW2 (h:F d W ok A n xs) (o:Obj):F d (W.alloc o) ok A n xs:=JE h (zO (Below.refl _ _) o)
theorem zbR (h:F d W ok A n xs):F d W.drew ok A n xs:=JE h (VW (Below.refl _ _))
theorem zW3 (h:F d W ok A n xs) (m:Nat):F d (W.drewN m) ok A n xs:=JE h (zC (Below.refl _ _) m)
theorem zdI (d:Kd α) (W:World) (ok:Nat → Prop):F d W ok none ([]:List α).length []:=fun W' _=>lG d W'
theorem zW4 (h:F d W (fun k=>ok k ∧ some k ≠ v.ownBlock) A n xs) (hg:W.grownBy W1 v.ownBlock) (hat:v1.ownBlock = v.ownBlock ∨ ∃ b,v1.ownBlock = some b ∧ W.heap.size ≤ b):F d W1 (fun k=>ok k ∧ some k ≠ v1.ownBlock) A n xs:=by
 refine zJS (Zq.step (zW1 h) (fun k hk hlt=>hg.block k hlt hk.1.2)) (fun k hk=>⟨hk.1.1,?_⟩)
 rcases hat with hat | ⟨b,hb,hle⟩
 ·rw [hat];exact hk.1.2
 ·rw [hb]
  intro he
  injection he with he
  have:=hk.2
  omega
theorem C_F (hd:Heap d) (h:d.C w A n xs):F d w (fun k=>k < w.heap.size) A n xs:=fun _ hW=>hd.C (fun k hlt=>hW k hlt hlt) h
theorem Kg (h:FK d W ok x c):d.K W x c:=Zq.now h
theorem JF (h:FK d W ok x c) (hok:∀ k,ok k → ok' k):FK d W ok' x c:=Zq.mono h hok
theorem zvB (h:FK d W ok x c):FK d W (fun k=>ok k ∧ k < W.heap.size) x c:=Zq.bound h
theorem zyx (h:FK d W ok x c) (hm:∀ k,ok k → k < W.heap.size → W1.heap[k]? = W.heap[k]?):FK d W1 ok x c:=Zq.step h hm
theorem zW5 (h:d.M W base ok x c):FK d W ok x c:=fun _ hW=>d.xY (lu h hW)
theorem emptied (W:World) (g:Nat):∃ W':World,(∀ k,k ≠ g → W'.heap[k]? = W.heap[k]?) ∧ ∀ a:Addr,a.block = g → W'.cell? a = none:=by
 refine ⟨{ W with heap:=W.heap.setIfInBounds g (.cells #[] 0) },fun k hk=>by simp [Ne.symm hk],fun a ha=>?_⟩
 subst ha
 by_cases hlt:a.block < W.heap.size
 ·simp [World.cell?,hlt]
 ·simp [World.cell?,hlt]
end
end Kd
end Go.Proofs.zx.zJ
namespace Go.Proofs.zx.zJ
open Go.RowKit
namespace Kd
def chunks (sz:Nat) (n:Nat) (inner:List Value):List (List Value):=(List.range n).map fun j=>(inner.drop (j * sz)).take sz
theorem YQ (sz n:Nat) (inner:List Value):(chunks sz n inner).length = n:=by simp [chunks]
theorem zJT {sz n:Nat} {inner:List Value} {j:Nat} (hj:j < n):(chunks sz n inner)[j]? = some ((inner.drop (j * sz)).take sz):=by simp [chunks,hj]
theorem oz {sz n:Nat} {inner:List Value} {j:Nat} {c:List Value} (h:(chunks sz n inner)[j]? = some c):c = (inner.drop (j * sz)).take sz:=by
 have hj:j < n:=by have:=(List.getElem?_eq_some_iff.1 h).1;rwa [YQ] at this
 rw [zJT hj] at h
 injection h with h
 exact h.symm
theorem zKX {α:Type} {Rr:α → List Value → Prop} {sz:Nat} {xs:List α} {inner:List Value} (h:qx Rr sz xs inner) (hR:∀ x c,Rr x c → c.length = sz ∧ ∀ u ∈ c,u.oneCell' = true):qx (fun x cs=>cs = x ∧ cs.length = sz ∧ ∀ u ∈ cs,u.oneCell' = true) sz (chunks sz xs.length inner) inner:=by
 refine ⟨by rw [YQ];exact h.1,fun j p hj=>?_⟩
 have hjl:j < xs.length:=by have:=(List.getElem?_eq_some_iff.1 hj).1;rwa [YQ] at this
 have hp:=oz hj
 exact ⟨hp.symm,hR _ _ (h.2 j _ (List.getElem?_eq_getElem hjl))⟩
section
variable {α:Type} {d:Kd α} {e base n cc g:Nat} {ok ok' xU S:Nat → Prop} {w w1 W W1:World} {A:Option Addr} {u v v1:Value} {xs:List α} {x:α} {c:List Value}
theorem zdL (h:F d W ok A n xs) (z:α) (i:Int) (h0:0 ≤ i) (h1:i < n) :
  ∃ ad c,A = some ad ∧ c.length = d.sz ∧ FK d W ok (xs.getD i.toNat z) c ∧ (∀ j u,c[j]? = some u → W.cell? (ad.add (i.toNat * d.sz + j)) = some u) ∧ (0 < d.sz → ok ad.block):=by
 obtain ⟨ad,c,rfl,hcl,hK,hcc⟩:=UG (zWz h) z i h0 h1
 have hin:0 < d.sz → ok ad.block:=by
  intro hs
  by_cases hk:ok ad.block
  ·exact hk
  ·obtain ⟨W',h2,h3⟩:=emptied W ad.block
   obtain ⟨ad',c',he,hcl',_,zKJ⟩:=UG (h W' (fun k hk' _=>h2 k (fun e=>hk (e ▸ hk')))) z i h0 h1
   injection he with he
   subst he
   have h4:=zKJ 0 _ (List.getElem?_eq_getElem (by omega))
   rw [h3 _ (add_block _ _)] at h4
   cases h4
 refine ⟨ad,c,rfl,hcl,fun W' hW=>?_,hcc,hin⟩
 obtain ⟨ad',c',he,hcl',hK',zKJ⟩:=UG (h W' hW) z i h0 h1
 injection he with he
 subst he
 have hc:c = c':=by
  apply List.ext_getElem?
  intro j
  by_cases hj:j < d.sz
  ·have hb:W'.heap[ad.block]? = W.heap[ad.block]?:=by
    have h5:=hcc j _ (List.getElem?_eq_getElem (by omega))
    have h6:=World.block_lt_of_cell? W _ h5
    rw [add_block] at h6
    exact hW _ (hin (by omega)) h6
   have h5:=hcc j _ (List.getElem?_eq_getElem (by omega))
   have h6:=zKJ j _ (List.getElem?_eq_getElem (by omega))
   have h7:W'.cell? (ad.add (i.toNat * d.sz + j)) = W.cell? (ad.add (i.toNat * d.sz + j)):=by simp [World.cell?,add_block,hb]
   rw [h7,h5] at h6
   rw [List.getElem?_eq_getElem (by omega),List.getElem?_eq_getElem (by omega)]
   exact h6
  ·rw [List.getElem?_eq_none (by omega),List.getElem?_eq_none (by omega)]
 rw [hc]
 exact hK'
def N {α:Type} (d:Kd α) (e:Nat) (w:World) (base:Nat) (ok:Nat → Prop) (v:Value) (xs:List α):Prop :=
 (∀ k,v.ownBlock = some k → ok k) ∧ ∃ rows:List (List Value),rows.length = xs.length ∧ (raw d.sz).R e w base (fun k=>some k = v.ownBlock) v rows ∧ ∀ (j:Nat) (x:α) (c:List Value),xs[j]? = some x → rows[j]? = some c → FK d w (fun k=>ok k ∧ some k ≠ v.ownBlock) x c
theorem zJU {sz:Nat} {rows:List (List Value)} (h:(raw sz).R e w base ok v rows):(raw sz).R e w base (fun k=>some k = v.ownBlock) v rows:=zWS rfl h
theorem zW6 {sz:Nat} {rows:List (List Value)} (h:(raw sz).R e w base ok v rows):(raw sz).R e w base (fun _=>True) v rows:=jC h (fun _ _=>trivial)
theorem R_N (h:d.R e w base ok v xs):N d e w base ok v xs:=by
 obtain ⟨h0,inner,ho,hr⟩:=h
 refine ⟨h0,chunks d.sz xs.length inner,YQ _ _ _,⟨fun k hk=>hk.symm,inner,by rw [YQ];exact ho,zKX hr (fun x c hp=>⟨d.jV (d.xY hp),d.uD (d.xY hp)⟩)⟩,fun j x c hx hc=>?_⟩
 rw [oz hc]
 exact zW5 (hr.2 j x hx)
theorem S_N (h:Kd.S d e w base ok v xs):N d e w base ok v xs:=R_N (S_R h)
theorem zXY (d:Kd α) (e:Nat) (w:World) (base:Nat) (ok:Nat → Prop):N d e w base ok (.slice none 0 0) []:=R_N (kC _ _ _ _ _)
theorem wI (h:N d e w base ok v xs) (hok:∀ k,ok k → ok' k):N d e w base ok' v xs:=by
 obtain ⟨h0,rows,hl,hR,hf⟩:=h
 exact ⟨fun k hk=>hok k (h0 k hk),rows,hl,hR,fun j x c hx hc=>JF (hf j x c hx hc) (fun k hk=>⟨hok k hk.1,hk.2⟩)⟩
theorem zXW (h:N d e w base ok v xs):∀ k,v.ownBlock = some k → k < w.heap.size:=by
 obtain ⟨_,rows,_,hR,_⟩:=h
 exact zvm hR
theorem oq (h:N d e w base ok v xs):∀ k,v.ownBlock = some k → base ≤ k:=by
 obtain ⟨_,rows,_,hR,_⟩:=h
 exact Pv hR
theorem zyj (h:N d e w base ok v xs):N d e w base (fun k=>ok k ∧ k < w.heap.size) v xs:=by
 have hlt:=zXW h
 obtain ⟨h0,rows,hl,hR,hf⟩:=h
 exact ⟨fun k hk=>⟨h0 k hk,hlt k hk⟩,rows,hl,hR,fun j x c hx hc=>JF (zvB (hf j x c hx hc)) (fun k hk=>⟨⟨hk.1.1,hk.2⟩,hk.1.2⟩)⟩
theorem sJ {base':Nat} (h:N d e w base ok v xs) (hb:base' ≤ base):N d e w base' ok v xs:=by
 obtain ⟨h0,rows,hl,hR,hf⟩:=h
 exact ⟨h0,rows,hl,uH hR hb,hf⟩
theorem zvC (h:N d e w base ok v xs) (hm:∀ k,ok k → k < w.heap.size → w1.heap[k]? = w.heap[k]?):N d e w1 base ok v xs:=by
 obtain ⟨h0,rows,hl,hR,hf⟩:=h
 exact ⟨h0,rows,hl,KW hR (fun k hk hlt=>hm k (h0 k hk.symm) hlt),fun j x c hx hc=>zyx (hf j x c hx hc) (fun k hk hlt=>hm k hk.1 hlt)⟩
theorem uK (h:N d e w base ok v xs) (hb:Below w.heap.size w w1):N d e w1 base ok v xs:=zvC h (fun k _ hk=>hb.block k hk)
theorem uI (h:N d e w base ok v xs) (o:Obj):N d e (w.alloc o) base ok v xs:=uK h (zO (Below.refl _ _) o)
theorem uJ (h:N d e w base ok v xs):N d e w.drew base ok v xs:=uK h (VW (Below.refl _ _))
theorem uL (h:N d e w base ok v xs) (m:Nat):N d e (w.drewN m) base ok v xs:=uK h (zC (Below.refl _ _) m)
theorem zvD (h:N d e W base ok v xs) (hbase:∀ k,u.ownBlock = some k → W.heap.size ≤ k) (hb:Below W.heap.size W w1):N d e w1 base (fun k=>ok k ∧ some k ≠ u.ownBlock) v xs :=
 wI (uK (zyj h) hb) (fun k hk=>⟨hk.1,fun he=>by have:=hbase k he.symm;have:=hk.2;omega⟩)
theorem zW7 (h:N d e W base (fun k=>ok k ∧ some k ≠ u.ownBlock) v xs) {u1:Value} (hg:W.grownBy w1 u.ownBlock) (hat:u1.ownBlock = u.ownBlock ∨ ∃ b,u1.ownBlock = some b ∧ W.heap.size ≤ b):N d e w1 base (fun k=>ok k ∧ some k ≠ u1.ownBlock) v xs:=by
 refine wI (zvC (zyj h) (fun k hk hlt=>hg.block k hlt hk.1.2)) (fun k hk=>⟨hk.1.1,?_⟩)
 rcases hat with hat | ⟨b,hb,hle⟩
 ·rw [hat];exact hk.1.2
 ·rw [hb]
  intro he
  injection he with he
  have:=hk.2
  omega
theorem V4 (h:N d e w base ok v xs):∃ A c,v = .slice A xs.length c:=by
 obtain ⟨_,rows,hl,hR,_⟩:=h
 obtain ⟨A,c,he⟩:=xV hR
 exact ⟨A,c,by rw [he,hl]⟩
theorem zbS (h:N d e w base ok v xs) (hp:0 < xs.length):∃ g cap,v = .slice (some ⟨g,0,none⟩) xs.length cap ∧ base ≤ g ∧ g < w.heap.size ∧ ∃ cells,w.heap[g]? = some (.cells cells e (0,0)):=by
 obtain ⟨_,rows,hl,hR,_⟩:=h
 rw [← hl] at hp ⊢
 exact zJF hR hp
theorem vv {n c:Nat} (h:N d e w base ok (.slice A n c) xs):n = xs.length ∧ n ≤ c ∧ d.C w A xs.length xs:=by
 obtain ⟨_,rows,hl,hR,hf⟩:=h
 obtain ⟨hn,hc,hC⟩:=uo hR
 refine ⟨by omega,hc,?_⟩
 rw [hl] at hC
 refine ⟨rfl,hC.2.1,fun hp=>?_⟩
 obtain ⟨ad,he,hcell⟩:=hC.2.2 hp
 refine ⟨ad,he,fun j p hj=>?_⟩
 have hjl:j < rows.length:=by have:=(List.getElem?_eq_some_iff.1 hj).1;omega
 obtain ⟨c',hcl,hK,hcc⟩:=hcell j _ (List.getElem?_eq_getElem hjl)
 have hk:=Kg (hf j p _ hj (List.getElem?_eq_getElem hjl))
 refine ⟨c',hcl,?_,hcc⟩
 rw [show c' = rows[j] from hK.1]
 exact hk
theorem N_F {n:Nat} (h:N d e w base ok (.slice A n cc) xs):F d w ok A n xs:=fun W' hW=>by
 have h2:=vv (zvC h hW)
 rw [h2.1]
 exact h2.2.2
theorem zJ0 {n cap:Nat} (h:N d e W base ok (.slice (some ⟨g,0,none⟩) n cap) xs) (z:α) (i:Int) (h0:0 ≤ i) (h1:i < n) :
  ∃ c,c.length = d.sz ∧ FK d W (fun k=>ok k ∧ k ≠ g) (xs.getD i.toNat z) c ∧ (∀ j u,c[j]? = some u → W.cell? ⟨g,i.toNat * d.sz + j,none⟩ = some u) ∧ ∀ j,W.frozen? ⟨g,i.toNat * d.sz + j,none⟩ = false:=by
 obtain ⟨_,rows,hl,hR,hf⟩:=h
 have hn:=(uo hR).1
 obtain ⟨c,hcl,hM,hcc,hfr⟩:=zvn hR [] i h0 h1
 have hil:i.toNat < rows.length:=by omega
 have zbT:i.toNat < xs.length:=by omega
 have hc:c = rows[i.toNat]:=by
  have h2:=hM.1
  rwa [List.getD_eq_getElem?_getD,List.getElem?_eq_getElem hil] at h2
 refine ⟨c,hcl,?_,hcc,hfr⟩
 rw [List.getD_eq_getElem?_getD,List.getElem?_eq_getElem zbT]
 exact JF (hf _ _ _ (List.getElem?_eq_getElem zbT) (by rw [hc];exact List.getElem?_eq_getElem hil)) (fun k hk=>⟨hk.1,fun he=>hk.2 (by rw [he];simp [Value.ownBlock])⟩)
theorem UM {ad:Addr} {n cap:Nat} (h:N d e W base ok (.slice (some ad) n cap) xs) (z:α) (i:Int) (h0:0 ≤ i) (h1:i < n) :
  ∃ c,c.length = d.sz ∧ FK d W (fun k=>ok k ∧ some k ≠ (Value.slice (some ad) n cap).ownBlock) (xs.getD i.toNat z) c ∧ ∀ j u,c[j]? = some u → W.cell? (ad.add (i.toNat * d.sz + j)) = some u:=by
 obtain ⟨g,rfl⟩:∃ g,ad = ⟨g,0,none⟩:=by
  obtain ⟨_,rows,_,hR,_⟩:=h
  exact zJM hR
 obtain ⟨c,hcl,hM,hcc,_⟩:=zJ0 h z i h0 h1
 refine ⟨c,hcl,JF hM (fun k hk=>⟨hk.1,fun he=>hk.2 (by simpa [Value.ownBlock] using he)⟩),fun j u hu=>?_⟩
 rw [zJG,Nat.zero_add]
 exact hcc j u hu
end
end Kd
end Go.Proofs.zx.zJ
namespace Go.Proofs.zx.zJ
open Go.RowKit
namespace Kd
section
variable {α:Type} {d:Kd α} {W:World} {g n:Nat} {S ok:Nat → Prop} {A:Option Addr} {ad:Addr} {xs:List α}
end
end Kd
end Go.Proofs.zx.zJ
namespace Go.Proofs.zx.zJ
open Go.RowKit
section
variable {w w' u:World} {m B g:Nat} {o:Obj} {row:Option Nat} {S:Nat → Prop} {a:Addr} {v:Value}
end
namespace Kd
section
variable {α:Type} {d:Kd α} {e base n m:Nat} {ok:Nat → Prop} {w w':World} {v:Value} {A:Option Addr} {xs:List α}
end
end Kd
end Go.Proofs.zx.zJ
namespace Go.Proofs.zx.zJ
open Go.RowKit
section
variable {P:Program} {d:Nat} {xs ys:Array Value} {f:Field} {fs:List Field} {a b:Value} {r s:Bool} {w:World}
end
end Go.Proofs.zx.zJ
namespace Go.Proofs.zx.zJ
theorem qx.one {α:Type} {R:α → List Value → Prop} {ps:List α} {cs:List Value} {p:α} {v:Value} (hp:R p [v]) (h:qx R 1 ps cs):qx R 1 (p :: ps) (v :: cs):=by
 refine ⟨by simp [h.1],fun j q hq=>?_⟩
 cases j with
 | zero =>
  simp only [List.getElem?_cons_zero,Option.some.injEq] at hq
  subst hq
  simpa using hp
 | succ j =>
  simp only [List.getElem?_cons_succ] at hq
  have h1:=h.2 j q hq
  simpa [Nat.mul_one] using h1
theorem qx.front {α:Type} {R:α → List Value → Prop} {size:Nat} {ps:List α} {cs c all:List Value} {p:α} (hp:R p c) (hc:c.length = size) (h:qx R size ps cs) (ha:c ++ cs = all):qx R size (p :: ps) all:=by
 subst ha
 refine ⟨by rw [List.length_append,hc,h.1,List.length_cons,Nat.succ_mul,Nat.add_comm],fun j q hq=>?_⟩
 cases j with
 | zero =>
  simp only [List.getElem?_cons_zero,Option.some.injEq] at hq
  subst hq
  rw [Nat.zero_mul,List.drop_zero,List.take_append_of_le_length (by omega),List.take_of_length_le (by omega)]
  exact hp
 | succ j =>
  simp only [List.getElem?_cons_succ] at hq
  have h1:=h.2 j q hq
  rw [Nat.succ_mul,List.drop_append,List.drop_of_length_le (by rw [hc];exact Nat.le_add_left _ _),List.nil_append,hc,Nat.add_sub_cancel]
  exact h1
theorem qx.c2 {α:Type} {R:α → List Value → Prop} {ps:List α} {cs:List Value} {p:α} {va vb:Value} (hp:R p [va,vb]) (h:qx R 2 ps cs):qx R 2 (p :: ps) (va :: vb :: cs):=qx.front hp rfl h rfl
theorem qx.c3 {α:Type} {R:α → List Value → Prop} {ps:List α} {cs:List Value} {p:α} {va vb vc:Value} (hp:R p [va,vb,vc]) (h:qx R 3 ps cs):qx R 3 (p :: ps) (va :: vb :: vc :: cs):=qx.front hp rfl h rfl
theorem qx.c4 {α:Type} {R:α → List Value → Prop} {ps:List α} {cs:List Value} {p:α} {va vb vc vd:Value} (hp:R p [va,vb,vc,vd]) (h:qx R 4 ps cs):qx R 4 (p :: ps) (va :: vb :: vc :: vd :: cs):=qx.front hp rfl h rfl
theorem qx.c5 {α:Type} {R:α → List Value → Prop} {ps:List α} {cs:List Value} {p:α} {va vb vc vd ve:Value} (hp:R p [va,vb,vc,vd,ve]) (h:qx R 5 ps cs):qx R 5 (p :: ps) (va :: vb :: vc :: vd :: ve :: cs):=qx.front hp rfl h rfl
theorem qx.c6 {α:Type} {R:α → List Value → Prop} {ps:List α} {cs:List Value} {p:α} {va vb vc vd ve vf:Value} (hp:R p [va,vb,vc,vd,ve,vf]) (h:qx R 6 ps cs):qx R 6 (p :: ps) (va :: vb :: vc :: vd :: ve :: vf :: cs):=qx.front hp rfl h rfl
theorem qx.c7 {α:Type} {R:α → List Value → Prop} {ps:List α} {cs:List Value} {p:α} {va vb vc vd ve vf vg:Value} (hp:R p [va,vb,vc,vd,ve,vf,vg]) (h:qx R 7 ps cs):qx R 7 (p :: ps) (va :: vb :: vc :: vd :: ve :: vf :: vg :: cs):=qx.front hp rfl h rfl
theorem qx.c8 {α:Type} {R:α → List Value → Prop} {ps:List α} {cs:List Value} {p:α} {va vb vc vd ve vf vg vh:Value} (hp:R p [va,vb,vc,vd,ve,vf,vg,vh]) (h:qx R 8 ps cs):qx R 8 (p :: ps) (va :: vb :: vc :: vd :: ve :: vf :: vg :: vh :: cs):=qx.front hp rfl h rfl
theorem qx.c9 {α:Type} {R:α → List Value → Prop} {ps:List α} {cs:List Value} {p:α} {va vb vc vd ve vf vg vh vi:Value} (hp:R p [va,vb,vc,vd,ve,vf,vg,vh,vi]) (h:qx R 9 ps cs):qx R 9 (p :: ps) (va :: vb :: vc :: vd :: ve :: vf :: vg :: vh :: vi :: cs):=qx.front hp rfl h rfl
theorem qx.c10 {α:Type} {R:α → List Value → Prop} {ps:List α} {cs:List Value} {p:α} {va vb vc vd ve vf vg vh vi vj:Value} (hp:R p [va,vb,vc,vd,ve,vf,vg,vh,vi,vj]) (h:qx R 10 ps cs):qx R 10 (p :: ps) (va :: vb :: vc :: vd :: ve :: vf :: vg :: vh :: vi :: vj :: cs):=qx.front hp rfl h rfl
end Go.Proofs.zx.zJ
namespace Go.Proofs.zx.zu
section
variable {P:Program} {ops:Array Oper} {Q:Exit → Act → World → Prop} {md:Region.Mode} {T:Bool × List (List Nat × List Nat)} {B:List Nat} {O:List Nat} {b:Nat → Bool} {i j n:Nat}
end
end Go.Proofs.zx.zu
namespace Go.Proofs.zx.zJ
open Go.RowKit
end Go.Proofs.zx.zJ
namespace Go.Proofs.zx.zu
section
variable {ops:Array Oper} {a:Act} {o og:Oper} {g:Nat} {t:Tmp} {u:Bool}
end
end Go.Proofs.zx.zu
namespace Go.Proofs.zx.zJ
open Go.RowKit
section
variable {P:Program} {ops:Array Oper} {rest:List Oper} {o:Oper} {a:Act} {Q:Exit → Act → World → Prop} {W:World}
theorem kG (hw:Region.wanted o (yielded ops a.tmps) = true) (h:wpList P ops Q ({ o with guard:=none } :: rest) a W):wpList P ops Q (o :: rest) a W:=by
 have h1:Region.wanted { o with guard:=none } (yielded ops a.tmps) = true:=rfl
 unfold wpList at h ⊢
 rw [if_pos h1] at h
 rw [if_pos hw]
 exact h
end
end Go.Proofs.zx.zJ
namespace Go.Proofs.zx.zJ
open Go.RowKit
namespace Kd
section
variable {α:Type} {d:Kd α} {e base n cap g:Nat} {ok ok' xU:Nat → Prop} {w w1 W:World} {v v1:Value} {xs ys:List α}
theorem zXa {rows news:List (List Value)} (h0:∀ k,v.ownBlock = some k → ok k) (hl:rows.length = xs.length) (hf:∀ (j:Nat) (x:α) (c:List Value),xs[j]? = some x → rows[j]? = some c → FK d W (fun k=>ok k ∧ some k ≠ v.ownBlock) x c)
  (hl2:news.length = ys.length) (hf2:∀ (j:Nat) (x:α) (c:List Value),ys[j]? = some x → news[j]? = some c → FK d W xU x c) (kU:∀ k,xU k → ok k ∧ some k ≠ v.ownBlock) (hfresh:∀ k,W.heap.size ≤ k → ok k)
  (hR:(raw d.sz).R e w1 base (fun _=>True) v1 (rows ++ news)) (hg:W.grownBy w1 v.ownBlock) (hat:v1.ownBlock = v.ownBlock ∨ ∃ b,v1.ownBlock = some b ∧ W.heap.size ≤ b):N d e w1 base ok v1 (xs ++ ys):=by
 have hne:∀ k,some k ≠ v.ownBlock → k < W.heap.size → some k ≠ v1.ownBlock:=by
  intro k hk hlt
  rcases hat with hat | ⟨b,hb,hle⟩
  ·rw [hat];exact hk
  ·rw [hb]
   intro he
   injection he with he
   omega
 have step:∀ {x:α} {c:List Value} {o:Nat → Prop},FK d W o x c → (∀ k,o k → ok k ∧ some k ≠ v.ownBlock) → FK d w1 (fun k=>ok k ∧ some k ≠ v1.ownBlock) x c:=by
  intro x c o hq ho
  exact JF (zyx (zvB hq) (fun k hk hlt=>hg.block k hlt (ho k hk.1).2)) (fun k hk=>⟨(ho k hk.1).1,hne k (ho k hk.1).2 hk.2⟩)
 refine ⟨fun k hk=>?_,rows ++ news,by rw [List.length_append,List.length_append,hl,hl2],zJU hR,fun j x c hx hc=>?_⟩
 ·rcases hat with hat | ⟨b,hb,hle⟩
  ·exact h0 k (hat ▸ hk)
  ·rw [hb] at hk
   injection hk with hk
   exact hfresh k (by omega)
 ·rcases Nat.lt_or_ge j xs.length with hlt | hge
  ·rw [List.getElem?_append_left hlt] at hx
   rw [List.getElem?_append_left (by omega)] at hc
   exact step (hf j x c hx hc) (fun _ hk=>hk)
  ·rw [List.getElem?_append_right hge] at hx
   rw [List.getElem?_append_right (by omega),hl] at hc
   exact step (hf2 _ x c hx hc) kU
theorem zbU {x:α} {c:List Value} (h:FK d W ok x c):c = c ∧ c.length = d.sz ∧ ∀ u ∈ c,u.oneCell' = true:=⟨rfl,d.jV (Kg h),d.uD (Kg h)⟩
end
section
variable {P:Program} {ops:Array Oper} {rest:List Oper} {o:Oper} {a:Act} {Q:Exit → Act → World → Prop} {Kc:Act → World → Prop} {α:Type}
theorem eZ (d:Kd α) {w0 W:World} (base:Nat) (hgd:o.guard = none) (s x:Operand) (t e:TypeId) (z:Value) (bytes:Nat)
  (ho:o.op = .call { callee:=.builtin .append,args:=#[s,x],argTypes:=#[t,t] })
  (ht:P.underlying t = some (.slice e)) (hinfo:(P.info? e).map (fun i=>(i.zero,i.size,i.bytes)) = some (some z,d.sz,bytes)) (hz:z.cells.size = d.sz) (hs0:0 < d.sz) (hb0:0 < bytes)
  (v:Value) (xs:List α) (p:α) (cs:List Value) (ok xU:Nat → Prop) (hs:a.eval s = v) (hx:a.eval x = .slice (some ⟨W.heap.size,0,none⟩) 1 1) (hp:FK d W xU p cs) (kU:∀ k,xU k → ok k ∧ some k ≠ v.ownBlock) (hfresh:∀ k,W.heap.size ≤ k → ok k)
  (HO:N d e W base ok v xs) (HB:Below base w0 W) (hbase:base ≤ W.heap.size) (hl:(xs.length + 1) * bytes ≤ 140737488355328)
  (h:∀ v1 w1,N d e w1 base ok v1 (xs ++ [p]) → Below base w0 w1 → W.grownBy w1 v.ownBlock → (v1.ownBlock = v.ownBlock ∨ ∃ b,v1.ownBlock = some b ∧ W.heap.size ≤ b) → wpList P ops Q rest (a.put o.dst v1) w1) :
  wpList P ops Q (o :: rest) a (W.alloc (.cells cs.toArray e)):=by
 obtain ⟨h0,rows,hlr,hR,hf⟩:=HO
 refine gX (raw d.sz) base hgd s x t e z bytes ho ht hinfo hz hs0 hb0 v rows cs cs (fun _=>True) (fun _=>False) hs hx (zbU hp) (fun _ hk=>hk.elim) (fun _ _=>trivial) (zW6 hR) HB hbase (by rw [hlr];exact hl) ?_
 intro v1 w1 hr hb hg hat
 exact h v1 w1 (zXa h0 hlr hf (ys:=[p]) (news:=[cs]) rfl (fun j y c hy hc=>by
  rcases j with _ | j
  ·simp only [List.getElem?_cons_zero,Option.some.injEq] at hy hc
   rw [← hy,← hc];exact hp
  ·simp at hy) kU hfresh hr hg hat) hb hg hat
end
end Kd
end Go.Proofs.zx.zJ
namespace Go.Proofs.zx.zo
open Go.RowKit Go.Proofs.zx.zJ
namespace Kd
open Go.Proofs.zx.zJ.Kd
end Kd
namespace Kd
open Go.Proofs.zx.zJ.Kd
section
variable {α:Type} {d:Kd α} {e base g N:Nat} {ok:Nat → Prop} {W w1:World} {u v:Value} {xs:List α}
end
end Kd
theorem yU (k k':IntKind) (x y:Int):Builtin.max2 (.int k x) (.int k' y) = pure (.int k (if x < y then y else x)):=by simp only [Builtin.max2,gt_iff_lt]
theorem y7 (k k':IntKind) (x y:Int):Builtin.min2 (.int k x) (.int k' y) = pure (.int k (if y < x then y else x)):=by simp only [Builtin.min2]
theorem qX (ats:Array TypeId) (ty:TypeId) (a b:Value):Builtin.max_ ats ty #[a,b] = (Builtin.max2 a b >>= fun s=>pure s):=by simp only [Builtin.max_,List.foldlM_cons,List.foldlM_nil]
theorem qJ (ats:Array TypeId) (ty:TypeId) (a b:Value):Builtin.min_ ats ty #[a,b] = (Builtin.min2 a b >>= fun s=>pure s):=by simp only [Builtin.min_,List.foldlM_cons,List.foldlM_nil]
theorem yM (ats:Array TypeId) (ty:TypeId) (a b c:Value):Builtin.max_ ats ty #[a,b,c] = (Builtin.max2 a b >>= fun s=>Builtin.max2 s c >>= fun s=>pure s):=by simp only [Builtin.max_,List.foldlM_cons,List.foldlM_nil]
theorem yN (ats:Array TypeId) (ty:TypeId) (a b c:Value):Builtin.min_ ats ty #[a,b,c] = (Builtin.min2 a b >>= fun s=>Builtin.min2 s c >>= fun s=>pure s):=by simp only [Builtin.min_,List.foldlM_cons,List.foldlM_nil]
theorem y8 (ats:Array TypeId) (ty:TypeId) (a b c d:Value):Builtin.max_ ats ty #[a,b,c,d] = (Builtin.max2 a b >>= fun s=>Builtin.max2 s c >>= fun s=>Builtin.max2 s d >>= fun s=>pure s):=by simp only [Builtin.max_,List.foldlM_cons,List.foldlM_nil]
theorem y9 (ats:Array TypeId) (ty:TypeId) (a b c d:Value):Builtin.min_ ats ty #[a,b,c,d] = (Builtin.min2 a b >>= fun s=>Builtin.min2 s c >>= fun s=>Builtin.min2 s d >>= fun s=>pure s):=by simp only [Builtin.min_,List.foldlM_cons,List.foldlM_nil]
end Go.Proofs.zx.zo
namespace Go.Proofs.zx.zJ
open Go.RowKit
section
variable {P:Program} {ops:Array Oper} {rest:List Oper} {o:Oper} {a:Act} {Q:Exit → Act → World → Prop} {W:World}
theorem yw {f:FuncId} {zq:Array Operand} {ts:Array TypeId} (_ho:o.op = .call { callee:=.value (.func f),args:=zq,argTypes:=ts }) (h:wpList P ops Q (o :: rest) a W):wpList P ops Q (o :: rest) a W:=h
theorem wJ {b:Builtin} {xs:Array Operand} {ts:Array TypeId} (_ho:o.op = .call { callee:=.builtin b,args:=xs,argTypes:=ts }) (h:wpList P ops Q (o :: rest) a W):wpList P ops Q (o :: rest) a W:=h
end
def mx (a b:Int):Int:=if a < b then b else a
namespace Kd
section
variable {α:Type} {d:Kd α} {e base:Nat} {ok:Nat → Prop} {W w1:World} {v:Value} {xs:List α}
end
section
variable {α:Type} {d:Kd α} {e base g n cap:Nat} {ok uX xU:Nat → Prop} {W:World} {xs:List α} {i:Int} {c:List Value}
theorem zKV (h:H d e W base ok (.slice (some ⟨g,0,none⟩) n cap) xs i uX c) (h0:0 ≤ i) (h1:i < n):(∀ j u,c[j]? = some u → W.cell? ⟨g,i.toNat * d.sz + j,none⟩ = some u) ∧ ∀ j,W.frozen? ⟨g,i.toNat * d.sz + j,none⟩ = false:=by
 obtain ⟨rows,_,hraw,_,_,hcc,_⟩:=zXV h h0 h1
 obtain ⟨_,_,_,_,hfr⟩:=zvn hraw [] i h0 h1
 exact ⟨hcc,hfr⟩
theorem zvE (hH:H d e W base ok (.slice (some ⟨g,0,none⟩) n cap) xs i uX c) (h0:0 ≤ i) (h1:i < n) {seg:List Value} {j:Nat} (hj:j + seg.length ≤ d.sz)
  {x':α} (hM:d.M W base xU x' (c.take j ++ seg ++ c.drop (j + seg.length))) (kU:∀ k,xU k → uX k) :
  S d e (W.setCells g (i.toNat * d.sz + j) seg) base ok (.slice (some ⟨g,0,none⟩) n cap) (xs.set i.toNat x') ∧ W.grownBy (W.setCells g (i.toNat * d.sz + j) seg) (some g) :=
 zdH (l7:=fun _=>False) (zJP hH (fun _ hk=>⟨hk,fun h=>h⟩)) h0 h1 hj hM (fun k hk=>.inl (kU k hk)) (fun _ hk=>hk.elim)
end
section
variable {α:Type} {d:Kd α} {e base b b' g N:Nat} {ok ok1:Nat → Prop} {W W2 w1:World} {u v:Value} {xs ys:List α} {S:Nat → Prop}
end
end Kd
end Go.Proofs.zx.zJ
namespace Go.Proofs.zx.zJ
open Go.RowKit
namespace Kd
def V {α:Type} (d:Kd α) (_e:Nat) (W:World) (_base:Nat) (ok:Nat → Prop) (v:Value) (xs:List α):Prop:=∃ A c,v = .slice A xs.length c ∧ xs.length ≤ c ∧ F d W ok A xs.length xs
section
variable {α β:Type} {d:Kd α} {e base base' n m c g N' lo hi:Nat} {ok ok' S:Nat → Prop} {w W w1:World} {A:Option Addr} {ad:Addr} {u v v1:Value} {xs:List α}
theorem sV (h:V d e W base ok v xs) (hF:∀ A,F d W ok A xs.length xs → F d w1 ok' A xs.length xs):V d e w1 base' ok' v xs:=by
 obtain ⟨A,c,hv,hl,hf⟩:=h
 exact ⟨A,c,hv,hl,hF A hf⟩
theorem X5 (hl:xs.length ≤ c) (hf:F d W ok A xs.length xs):V d e W base ok (.slice A xs.length c) xs:=⟨A,c,rfl,hl,hf⟩
theorem zXb (h:V d e W base ok (.slice A n c) xs):n = xs.length ∧ n ≤ c ∧ F d W ok A xs.length xs:=by
 obtain ⟨A',c',hv,hl,hf⟩:=h
 injection hv with ha hn hc
 subst ha;subst hc
 exact ⟨hn,by rw [hn];exact hl,hf⟩
theorem X6 (h:V d e W base ok (.slice A n c) xs):n = xs.length ∧ n ≤ c ∧ d.C W A xs.length xs:=⟨(zXb h).1,(zXb h).2.1,zWz (zXb h).2.2⟩
theorem V_F (h:V d e W base ok (.slice A n c) xs):F d W ok A n xs:=by
 obtain ⟨hn,_,hf⟩:=zXb h
 rw [hn]
 exact hf
theorem zXc (d:Kd α) (e:Nat) (W:World) (base:Nat) (ok:Nat → Prop):V d e W base ok (.slice none 0 0) []:=⟨none,0,rfl,Nat.le_refl _,zdI d W ok⟩
theorem YX (h:V d e W base ok v xs) (hok:∀ k,ok k → ok' k):V d e W base ok' v xs:=sV h (fun _ hf=>zJS hf hok)
theorem vG (h:V d e W base ok v xs) (hb:Below W.heap.size W w1):V d e w1 base ok v xs:=sV h (fun _ hf=>JE hf hb)
theorem wY (h:V d e W base ok v xs) (o:Obj):V d e (W.alloc o) base ok v xs:=sV h (fun _ hf=>zW2 hf o)
theorem Zy (h:V d e W base ok v xs):V d e W.drew base ok v xs:=sV h (fun _ hf=>zbR hf)
theorem wW (h:V d e W base ok v xs) (m:Nat):V d e (W.drewN m) base ok v xs:=sV h (fun _ hf=>zW3 hf m)
theorem zW8 (h:V d e W base (fun k=>ok k ∧ some k ≠ u.ownBlock) v xs) (hg:W.grownBy w1 u.ownBlock) (hat:v1.ownBlock = u.ownBlock ∨ ∃ b,v1.ownBlock = some b ∧ W.heap.size ≤ b):V d e w1 base (fun k=>ok k ∧ some k ≠ v1.ownBlock) v xs:=sV h (fun _ hf=>zW4 hf hg hat)
theorem V5 (h:V d e W base (fun k=>ok k ∧ some k ≠ v.ownBlock) u xs) (hg:W.grownBy w1 v.ownBlock) (hat:v1.ownBlock = v.ownBlock ∨ ∃ b,v1.ownBlock = some b ∧ W.heap.size ≤ b):V d e w1 base (fun k=>ok k ∧ some k ≠ v1.ownBlock) u xs:=zW8 h hg hat
theorem zKK (h:N d e W base (fun k=>ok k ∧ some k ≠ v.ownBlock) u xs) (hg:W.grownBy w1 v.ownBlock) (hat:v1.ownBlock = v.ownBlock ∨ ∃ b,v1.ownBlock = some b ∧ W.heap.size ≤ b):N d e w1 base (fun k=>ok k ∧ some k ≠ v1.ownBlock) u xs:=zW7 h hg hat
theorem zXd (h:V d e W base ok (.slice (some ad) n c) xs) (z:α) (i:Int) (h0:0 ≤ i) (h1:i < n) :
  ∃ cs,cs.length = d.sz ∧ FK d W ok (xs.getD i.toNat z) cs ∧ ∀ j u,cs[j]? = some u → W.cell? (ad.add (i.toNat * d.sz + j)) = some u:=by
 obtain ⟨ad',cs,he,hcl,hK,hcc,_⟩:=zdL (V_F h) z i h0 h1
 injection he with he
 subst he
 exact ⟨cs,hcl,hK,hcc⟩
theorem jW {l:List α} {cs:List Value} (h:FK (Kd.slice e d) W ok l cs):∃ A c,cs = [.slice A l.length c] ∧ l.length ≤ c ∧ F d W ok A l.length l:=by
 obtain ⟨A,c,rfl,hl,_⟩:=Kg h
 refine ⟨A,c,rfl,hl,fun W' hW=>?_⟩
 obtain ⟨A',c',he,_,g'⟩:=h W' hW
 injection he with he _
 injection he with ha _ _
 rw [ha]
 exact g'
theorem fZ {l:List α} (hl:l.length ≤ c) (hf:F d W ok A l.length l):FK (Kd.slice e d) W ok l [.slice A l.length c]:=fun W' hW=>⟨A,c,rfl,hl,hf W' hW⟩
end
end Kd
end Go.Proofs.zx.zJ
namespace Go.Proofs.YtggifbbiiickmaaGreatDoor.PX
open Go.RowKit Go.Proofs.zx.zJ Go.Proofs.zx.zu Go.Proofs.zx.zo
attribute [local go_sem] yU y7 qX qJ yM yN y8 y9   -- for this text's walks alone
set_option linter.unusedVariables false
set_option linter.unusedSimpArgs false
def zb0:Option Int → Value
 | none=>.nilIface
 | some c=>.iface 0 (.int .i64 c)
theorem zl:zb0 none = .nilIface:=rfl
theorem zm (c:Int):zb0 (some c) = .iface 0 (.int .i64 c):=rfl
theorem info3:(Tryz.prog.info? 3).map (fun i=>(i.zero,i.size,i.bytes)) = some (some (.int .i64 0),1,8):=by kernel_rfl
theorem zdM:(Tryz.prog.info? 9).map (fun i=>(i.zero,i.size,i.bytes)) = some (some (.string ⟨#[]⟩),1,16):=by kernel_rfl
theorem zvF:(Tryz.prog.info? 34).map (fun i=>(i.zero,i.size,i.bytes)) = some (some (.slice none 0 0),1,24):=by kernel_rfl
theorem ny:(Tryz.prog.info? 53).map (fun i=>(i.zero,i.size,i.bytes)) = some (some (.agg #[(.int .i64 0),(.int .i64 0),(.int .i64 0),(.int .i64 0),(.string ⟨#[]⟩),(.string ⟨#[]⟩),(.slice none 0 0)]),7,88):=by kernel_rfl
structure yT where
 f0:ByteArray
 f1:Int
def z105:yT:=⟨(⟨#[]⟩:ByteArray),(0:Int)⟩
def vk:Kd yT:=Kd.iso (Kd.pair Kd.string (Kd.int .i64)) (fun x:yT=>(x.f0,x.f1))
theorem zjS {w:World} {x:yT} {cs:List Value} (h:vk.K w x cs):cs = [.string x.f0,.int .i64 x.f1]:=by
 obtain ⟨_,_,rfl,rfl,rfl⟩:=h
 exact rfl
theorem zXe {w:World} {base:Nat} {ok:Nat → Prop} {x:yT} {cs:List Value} (h:vk.M w base ok x cs):cs = [.string x.f0,.int .i64 x.f1]:=by
 obtain ⟨_,_,rfl,rfl,rfl⟩:=h
 exact rfl
theorem V6 (w:World) (base:Nat) (ok:Nat → Prop) (x:yT)  : vk.M w base ok x [.string x.f0,.int .i64 x.f1]:=⟨[.string x.f0],[.int .i64 x.f1],rfl,rfl,rfl⟩
def qb (xs:List yT) (i:Int):yT:=xs.getD i.toNat z105
theorem PV {w:World} {A:Option Addr} {n:Nat} {xs:List yT} (h:Kd.C vk w A n xs) (i:Int) (h0:0 ≤ i) (h1:i < n):∃ ad ,A = some ad ∧ w.cell? (ad.add (i.toNat * 2)) = some (.string (qb xs i).f0) ∧ w.cell? ⟨(ad.add (i.toNat * 2)).block,(ad.add (i.toNat * 2)).off + 1,none⟩ = some (.int .i64 (qb xs i).f1):=by
 obtain ⟨ad,c,e,_,hK,hc0⟩:=Kd.UG h z105 i h0 h1
 have hc:∀ j u,c[j]? = some u → w.cell? (ad.add (i.toNat * 2 + j)) = some u:=hc0
 obtain rfl:=zjS hK
 exact ⟨ad,e,hc 0 _ rfl,by rw [← xO _ _ 1 (by omega)];exact hc 1 _ rfl⟩
structure qW where
 f0:ByteArray
 f1:ByteArray
 f2:ByteArray
def zKY:qW:=⟨(⟨#[]⟩:ByteArray),(⟨#[]⟩:ByteArray),(⟨#[]⟩:ByteArray)⟩
def jg:Kd qW:=Kd.iso (Kd.pair Kd.string (Kd.pair Kd.string Kd.string)) (fun x:qW=>(x.f0,x.f1,x.f2))
theorem zjT {w:World} {x:qW} {cs:List Value} (h:jg.K w x cs):cs = [.string x.f0,.string x.f1,.string x.f2]:=by
 obtain ⟨_,_,rfl,rfl,⟨_,_,rfl,rfl,rfl⟩⟩:=h
 exact rfl
theorem eX (w:World) (base:Nat) (ok:Nat → Prop) (x:qW)  : jg.M w base ok x [.string x.f0,.string x.f1,.string x.f2]:=⟨[.string x.f0],[.string x.f1,.string x.f2],rfl,rfl,⟨[.string x.f1],[.string x.f2],rfl,rfl,rfl⟩⟩
def vW (xs:List qW) (i:Int):qW:=xs.getD i.toNat zKY
theorem zzs {w:World} {A:Option Addr} {n:Nat} {xs:List qW} (h:Kd.C jg w A n xs) (i:Int) (h0:0 ≤ i) (h1:i < n):∃ ad ,A = some ad ∧ w.cell? (ad.add (i.toNat * 3)) = some (.string (vW xs i).f0) ∧ w.cell? ⟨(ad.add (i.toNat * 3)).block,(ad.add (i.toNat * 3)).off + 1,none⟩ = some (.string (vW xs i).f1) ∧ w.cell? ⟨(ad.add (i.toNat * 3)).block,(ad.add (i.toNat * 3)).off + 2,none⟩ = some (.string (vW xs i).f2):=by
 obtain ⟨ad,c,e,_,hK,hc0⟩:=Kd.UG h zKY i h0 h1
 have hc:∀ j u,c[j]? = some u → w.cell? (ad.add (i.toNat * 3 + j)) = some u:=hc0
 obtain rfl:=zjT hK
 exact ⟨ad,e,hc 0 _ rfl,by rw [← xO _ _ 1 (by omega)];exact hc 1 _ rfl,by rw [← xO _ _ 2 (by omega)];exact hc 2 _ rfl⟩
structure qM where
 f0:ByteArray
 f1:ByteArray
 f2:Int
def zKW:qM:=⟨(⟨#[]⟩:ByteArray),(⟨#[]⟩:ByteArray),(0:Int)⟩
def jE:Kd qM:=Kd.iso (Kd.pair Kd.string (Kd.pair Kd.string (Kd.int .i64))) (fun x:qM=>(x.f0,x.f1,x.f2))
theorem zjU {w:World} {x:qM} {cs:List Value} (h:jE.K w x cs):cs = [.string x.f0,.string x.f1,.int .i64 x.f2]:=by
 obtain ⟨_,_,rfl,rfl,⟨_,_,rfl,rfl,rfl⟩⟩:=h
 exact rfl
theorem Kh (w:World) (base:Nat) (ok:Nat → Prop) (x:qM)  : jE.M w base ok x [.string x.f0,.string x.f1,.int .i64 x.f2]:=⟨[.string x.f0],[.string x.f1,.int .i64 x.f2],rfl,rfl,⟨[.string x.f1],[.int .i64 x.f2],rfl,rfl,rfl⟩⟩
def vB (xs:List qM) (i:Int):qM:=xs.getD i.toNat zKW
theorem zzt {w:World} {A:Option Addr} {n:Nat} {xs:List qM} (h:Kd.C jE w A n xs) (i:Int) (h0:0 ≤ i) (h1:i < n):∃ ad ,A = some ad ∧ w.cell? (ad.add (i.toNat * 3)) = some (.string (vB xs i).f0) ∧ w.cell? ⟨(ad.add (i.toNat * 3)).block,(ad.add (i.toNat * 3)).off + 1,none⟩ = some (.string (vB xs i).f1) ∧ w.cell? ⟨(ad.add (i.toNat * 3)).block,(ad.add (i.toNat * 3)).off + 2,none⟩ = some (.int .i64 (vB xs i).f2):=by
 obtain ⟨ad,c,e,_,hK,hc0⟩:=Kd.UG h zKW i h0 h1
 have hc:∀ j u,c[j]? = some u → w.cell? (ad.add (i.toNat * 3 + j)) = some u:=hc0
 obtain rfl:=zjU hK
 exact ⟨ad,e,hc 0 _ rfl,by rw [← xO _ _ 1 (by omega)];exact hc 1 _ rfl,by rw [← xO _ _ 2 (by omega)];exact hc 2 _ rfl⟩
structure pX where
 f0:ByteArray
 f1:Bool
 f2:Int
 f3:(List yT)
 f4:(List qW)
 f5:(List qM)
def z60:pX:=⟨(⟨#[]⟩:ByteArray),false,(0:Int),([]:List yT),([]:List qW),([]:List qM)⟩
def Zw:Kd pX:=Kd.iso (Kd.pair Kd.string (Kd.pair Kd.bool (Kd.pair (Kd.int .i64) (Kd.pair (Kd.slice 105 vk) (Kd.pair (Kd.slice 108 jg) (Kd.slice 111 jE)))))) (fun x:pX=>(x.f0,x.f1,x.f2,x.f3,x.f4,x.f5))
theorem zKa {w:World} {x:pX} {cs:List Value} (h:Zw.K w x cs):∃ A3 c3 A4 c4 A5 c5,cs = [.string x.f0,.bool x.f1,.int .i64 x.f2,.slice A3 x.f3.length c3,.slice A4 x.f4.length c4,.slice A5 x.f5.length c5] ∧ x.f3.length ≤ c3 ∧ vk.C w A3 x.f3.length x.f3 ∧ x.f4.length ≤ c4 ∧ jg.C w A4 x.f4.length x.f4 ∧ x.f5.length ≤ c5 ∧ jE.C w A5 x.f5.length x.f5:=by
 obtain ⟨_,_,rfl,rfl,⟨_,_,rfl,rfl,⟨_,_,rfl,rfl,⟨_,_,rfl,⟨A3,c3,rfl,l3,g3⟩,⟨_,_,rfl,⟨A4,c4,rfl,l4,g4⟩,⟨A5,c5,rfl,l5,g5⟩⟩⟩⟩⟩⟩:=h
 exact ⟨A3,c3,A4,c4,A5,c5,rfl,l3,g3,l4,g4,l5,g5⟩
theorem zW9 (w:World) (base:Nat) (ok:Nat → Prop) (x:pX) {v3:Value} (g3:vk.R 105 w base ok v3 x.f3) {v4:Value} (g4:jg.R 108 w base ok v4 x.f4) {v5:Value} (g5:jE.R 111 w base ok v5 x.f5):Zw.M w base ok x [.string x.f0,.bool x.f1,.int .i64 x.f2,v3,v4,v5]:=⟨[.string x.f0],[.bool x.f1,.int .i64 x.f2,v3,v4,v5],rfl,rfl,⟨[.bool x.f1],[.int .i64 x.f2,v3,v4,v5],rfl,rfl,⟨[.int .i64 x.f2],[v3,v4,v5],rfl,rfl,⟨[v3],[v4,v5],rfl,⟨v3,rfl,g3⟩,⟨[v4],[v5],rfl,⟨v4,rfl,g4⟩,⟨v5,rfl,g5⟩⟩⟩⟩⟩⟩
def uE (xs:List pX) (i:Int):pX:=xs.getD i.toNat z60
theorem PK {w:World} {A:Option Addr} {n:Nat} {xs:List pX} (h:Kd.C Zw w A n xs) (i:Int) (h0:0 ≤ i) (h1:i < n):∃ ad A3 c3 A4 c4 A5 c5,A = some ad ∧ w.cell? (ad.add (i.toNat * 6)) = some (.string (uE xs i).f0) ∧ w.cell? ⟨(ad.add (i.toNat * 6)).block,(ad.add (i.toNat * 6)).off + 1,none⟩ = some (.bool (uE xs i).f1) ∧ w.cell? ⟨(ad.add (i.toNat * 6)).block,(ad.add (i.toNat * 6)).off + 2,none⟩ = some (.int .i64 (uE xs i).f2) ∧ w.cell? ⟨(ad.add (i.toNat * 6)).block,(ad.add (i.toNat * 6)).off + 3,none⟩ = some (.slice A3 (uE xs i).f3.length c3) ∧ w.cell? ⟨(ad.add (i.toNat * 6)).block,(ad.add (i.toNat * 6)).off + 4,none⟩ = some (.slice A4 (uE xs i).f4.length c4) ∧ w.cell? ⟨(ad.add (i.toNat * 6)).block,(ad.add (i.toNat * 6)).off + 5,none⟩ = some (.slice A5 (uE xs i).f5.length c5) ∧ (uE xs i).f3.length ≤ c3 ∧ vk.C w A3 (uE xs i).f3.length (uE xs i).f3 ∧ (uE xs i).f4.length ≤ c4 ∧ jg.C w A4 (uE xs i).f4.length (uE xs i).f4 ∧ (uE xs i).f5.length ≤ c5 ∧ jE.C w A5 (uE xs i).f5.length (uE xs i).f5:=by
 obtain ⟨ad,c,e,_,hK,hc0⟩:=Kd.UG h z60 i h0 h1
 have hc:∀ j u,c[j]? = some u → w.cell? (ad.add (i.toNat * 6 + j)) = some u:=hc0
 obtain ⟨A3,c3,A4,c4,A5,c5,rfl,l3,g3,l4,g4,l5,g5⟩:=zKa hK
 exact ⟨ad,A3,c3,A4,c4,A5,c5,e,hc 0 _ rfl,by rw [← xO _ _ 1 (by omega)];exact hc 1 _ rfl,by rw [← xO _ _ 2 (by omega)];exact hc 2 _ rfl,by rw [← xO _ _ 3 (by omega)];exact hc 3 _ rfl,by rw [← xO _ _ 4 (by omega)];exact hc 4 _ rfl,by rw [← xO _ _ 5 (by omega)];exact hc 5 _ rfl,l3,g3,l4,g4,l5,g5⟩
structure yD where
 f0:Int
 f1:Int
 f2:Int
 f3:Int
 f4:ByteArray
 f5:ByteArray
 f6:(List Int)
def z53:yD:=⟨(0:Int),(0:Int),(0:Int),(0:Int),(⟨#[]⟩:ByteArray),(⟨#[]⟩:ByteArray),([]:List Int)⟩
def qK:Kd yD:=Kd.iso (Kd.pair (Kd.int .i64) (Kd.pair (Kd.int .i64) (Kd.pair (Kd.int .i64) (Kd.pair (Kd.int .i64) (Kd.pair Kd.string (Kd.pair Kd.string (Kd.slice 3 (Kd.int .i64)))))))) (fun x:yD=>(x.f0,x.f1,x.f2,x.f3,x.f4,x.f5,x.f6))
theorem zvG:Kd.Heap qK:=Kd.zKQ _ (Kd.Qe (Kd.Ke .i64) (Kd.Qe (Kd.Ke .i64) (Kd.Qe (Kd.Ke .i64) (Kd.Qe (Kd.Ke .i64) (Kd.Qe Kd.fq (Kd.Qe Kd.fq (Kd.zXK 3 (Kd.Ke .i64))))))))
theorem gY {w:World} {x:yD} {cs:List Value} (h:qK.K w x cs):∃ A6 c6,cs = [.int .i64 x.f0,.int .i64 x.f1,.int .i64 x.f2,.int .i64 x.f3,.string x.f4,.string x.f5,.slice A6 x.f6.length c6] ∧ x.f6.length ≤ c6 ∧ (Kd.int .i64).C w A6 x.f6.length x.f6:=by
 obtain ⟨_,_,rfl,rfl,⟨_,_,rfl,rfl,⟨_,_,rfl,rfl,⟨_,_,rfl,rfl,⟨_,_,rfl,rfl,⟨_,_,rfl,rfl,⟨A6,c6,rfl,l6,g6⟩⟩⟩⟩⟩⟩⟩:=h
 exact ⟨A6,c6,rfl,l6,g6⟩
theorem WY {w:World} {base:Nat} {ok:Nat → Prop} {x:yD} {cs:List Value} (h:qK.M w base ok x cs):∃ v6,cs = [.int .i64 x.f0,.int .i64 x.f1,.int .i64 x.f2,.int .i64 x.f3,.string x.f4,.string x.f5,v6] ∧ (Kd.int .i64).R 3 w base ok v6 x.f6:=by
 obtain ⟨_,_,rfl,rfl,⟨_,_,rfl,rfl,⟨_,_,rfl,rfl,⟨_,_,rfl,rfl,⟨_,_,rfl,rfl,⟨_,_,rfl,rfl,⟨v6,rfl,g6⟩⟩⟩⟩⟩⟩⟩:=h
 exact ⟨v6,rfl,g6⟩
theorem zJ1 (w:World) (x:yD) {A6:Option Addr} {c6:Nat} (l6:x.f6.length ≤ c6) (g6:(Kd.int .i64).C w A6 x.f6.length x.f6):qK.K w x [.int .i64 x.f0,.int .i64 x.f1,.int .i64 x.f2,.int .i64 x.f3,.string x.f4,.string x.f5,.slice A6 x.f6.length c6]:=⟨[.int .i64 x.f0],[.int .i64 x.f1,.int .i64 x.f2,.int .i64 x.f3,.string x.f4,.string x.f5,.slice A6 x.f6.length c6],rfl,rfl,⟨[.int .i64 x.f1],[.int .i64 x.f2,.int .i64 x.f3,.string x.f4,.string x.f5,.slice A6 x.f6.length c6],rfl,rfl,⟨[.int .i64 x.f2],[.int .i64 x.f3,.string x.f4,.string x.f5,.slice A6 x.f6.length c6],rfl,rfl,⟨[.int .i64 x.f3],[.string x.f4,.string x.f5,.slice A6 x.f6.length c6],rfl,rfl,⟨[.string x.f4],[.string x.f5,.slice A6 x.f6.length c6],rfl,rfl,⟨[.string x.f5],[.slice A6 x.f6.length c6],rfl,rfl,⟨A6,c6,rfl,l6,g6⟩⟩⟩⟩⟩⟩⟩
theorem PY (w:World) (base:Nat) (ok:Nat → Prop) (x:yD) {v6:Value} (g6:(Kd.int .i64).R 3 w base ok v6 x.f6):qK.M w base ok x [.int .i64 x.f0,.int .i64 x.f1,.int .i64 x.f2,.int .i64 x.f3,.string x.f4,.string x.f5,v6]:=⟨[.int .i64 x.f0],[.int .i64 x.f1,.int .i64 x.f2,.int .i64 x.f3,.string x.f4,.string x.f5,v6],rfl,rfl,⟨[.int .i64 x.f1],[.int .i64 x.f2,.int .i64 x.f3,.string x.f4,.string x.f5,v6],rfl,rfl,⟨[.int .i64 x.f2],[.int .i64 x.f3,.string x.f4,.string x.f5,v6],rfl,rfl,⟨[.int .i64 x.f3],[.string x.f4,.string x.f5,v6],rfl,rfl,⟨[.string x.f4],[.string x.f5,v6],rfl,rfl,⟨[.string x.f5],[v6],rfl,rfl,⟨v6,rfl,g6⟩⟩⟩⟩⟩⟩⟩
theorem WW {W:World} {ok:Nat → Prop} {x:yD} {cs:List Value} (h:Kd.FK qK W ok x cs):∃ A6 c6,cs = [.int .i64 x.f0,.int .i64 x.f1,.int .i64 x.f2,.int .i64 x.f3,.string x.f4,.string x.f5,.slice A6 x.f6.length c6] ∧ x.f6.length ≤ c6 ∧ Kd.F (Kd.int .i64) W ok A6 x.f6.length x.f6:=by
 obtain ⟨A6,c6,rfl,l6,_⟩:=gY (Kd.Kg h)
 exact ⟨A6,c6,rfl,l6,(fun W' hW=>by obtain ⟨A6_,c6_,he,l6_,g6_⟩:=gY (h W' hW);injection (Option.some.inj (show some (Value.slice A6 x.f6.length c6) = some (Value.slice A6_ x.f6.length c6_) from congrArg (fun l=>l[6]?) he)) with ha_ _ _;rw [ha_];exact g6_)⟩
theorem zaz (W:World) (ok:Nat → Prop) (x:yD) {A6:Option Addr} {c6:Nat} (l6:x.f6.length ≤ c6) (g6:Kd.F (Kd.int .i64) W ok A6 x.f6.length x.f6):Kd.FK qK W ok x [.int .i64 x.f0,.int .i64 x.f1,.int .i64 x.f2,.int .i64 x.f3,.string x.f4,.string x.f5,.slice A6 x.f6.length c6]:=fun W2 hW=>zJ1 W2 x l6 (g6 W2 hW)
def zw (xs:List yD) (i:Int):yD:=xs.getD i.toNat z53
theorem yR {w:World} {A:Option Addr} {n:Nat} {xs:List yD} (h:Kd.C qK w A n xs) (i:Int) (h0:0 ≤ i) (h1:i < n):∃ ad A6 c6,A = some ad ∧ w.cell? (ad.add (i.toNat * 7)) = some (.int .i64 (zw xs i).f0) ∧ w.cell? ⟨(ad.add (i.toNat * 7)).block,(ad.add (i.toNat * 7)).off + 1,none⟩ = some (.int .i64 (zw xs i).f1) ∧ w.cell? ⟨(ad.add (i.toNat * 7)).block,(ad.add (i.toNat * 7)).off + 2,none⟩ = some (.int .i64 (zw xs i).f2) ∧ w.cell? ⟨(ad.add (i.toNat * 7)).block,(ad.add (i.toNat * 7)).off + 3,none⟩ = some (.int .i64 (zw xs i).f3) ∧ w.cell? ⟨(ad.add (i.toNat * 7)).block,(ad.add (i.toNat * 7)).off + 4,none⟩ = some (.string (zw xs i).f4) ∧ w.cell? ⟨(ad.add (i.toNat * 7)).block,(ad.add (i.toNat * 7)).off + 5,none⟩ = some (.string (zw xs i).f5) ∧ w.cell? ⟨(ad.add (i.toNat * 7)).block,(ad.add (i.toNat * 7)).off + 6,none⟩ = some (.slice A6 (zw xs i).f6.length c6) ∧ (zw xs i).f6.length ≤ c6 ∧ (Kd.int .i64).C w A6 (zw xs i).f6.length (zw xs i).f6:=by
 obtain ⟨ad,c,e,_,hK,hc0⟩:=Kd.UG h z53 i h0 h1
 have hc:∀ j u,c[j]? = some u → w.cell? (ad.add (i.toNat * 7 + j)) = some u:=hc0
 obtain ⟨A6,c6,rfl,l6,g6⟩:=gY hK
 exact ⟨ad,A6,c6,e,hc 0 _ rfl,by rw [← xO _ _ 1 (by omega)];exact hc 1 _ rfl,by rw [← xO _ _ 2 (by omega)];exact hc 2 _ rfl,by rw [← xO _ _ 3 (by omega)];exact hc 3 _ rfl,by rw [← xO _ _ 4 (by omega)];exact hc 4 _ rfl,by rw [← xO _ _ 5 (by omega)];exact hc 5 _ rfl,by rw [← xO _ _ 6 (by omega)];exact hc 6 _ rfl,l6,g6⟩
structure zzu where
 f0:ByteArray
 f1:Int
def zfU:zzu:=⟨(⟨#[]⟩:ByteArray),(0:Int)⟩
def zzA (xs:List zzu) (i:Int):zzu:=xs.getD i.toNat zfU
structure zb1 where
 f0:ByteArray
 f1:ByteArray
 f2:ByteArray
structure zb2 where
 f0:ByteArray
 f1:ByteArray
 f2:Int
structure Z6 where
 f0:ByteArray
 f1:ByteArray
def z80:Z6:=⟨(⟨#[]⟩:ByteArray),(⟨#[]⟩:ByteArray)⟩
def VT:Kd Z6:=Kd.iso (Kd.pair Kd.string Kd.string) (fun x:Z6=>(x.f0,x.f1))
theorem zKb {w:World} {x:Z6} {cs:List Value} (h:VT.K w x cs):cs = [.string x.f0,.string x.f1]:=by
 obtain ⟨_,_,rfl,rfl,rfl⟩:=h
 exact rfl
def PW (xs:List Z6) (i:Int):Z6:=xs.getD i.toNat z80
theorem zJ2 {w:World} {A:Option Addr} {n:Nat} {xs:List Z6} (h:Kd.C VT w A n xs) (i:Int) (h0:0 ≤ i) (h1:i < n):∃ ad ,A = some ad ∧ w.cell? (ad.add (i.toNat * 2)) = some (.string (PW xs i).f0) ∧ w.cell? ⟨(ad.add (i.toNat * 2)).block,(ad.add (i.toNat * 2)).off + 1,none⟩ = some (.string (PW xs i).f1):=by
 obtain ⟨ad,c,e,_,hK,hc0⟩:=Kd.UG h z80 i h0 h1
 have hc:∀ j u,c[j]? = some u → w.cell? (ad.add (i.toNat * 2 + j)) = some u:=hc0
 obtain rfl:=zKb hK
 exact ⟨ad,e,hc 0 _ rfl,by rw [← xO _ _ 1 (by omega)];exact hc 1 _ rfl⟩
def qV (xs:List (List yD)) (i:Int):(List yD):=xs.getD i.toNat ([]:List yD)
theorem XC {w:World} {A:Option Addr} {n:Nat} {xs:List (List yD)} (h:Kd.C (Kd.slice 53 qK) w A n xs) (i:Int) (h0:0 ≤ i) (h1:i < n):∃ ad A0 c0,A = some ad ∧ w.cell? (ad.add i.toNat) = some (.slice A0 (qV xs i).length c0) ∧ (qV xs i).length ≤ c0 ∧ qK.C w A0 (qV xs i).length (qV xs i):=by
 obtain ⟨ad,c,e,_,hK,hc0⟩:=Kd.UG h ([]:List yD) i h0 h1
 have hc:∀ j u,c[j]? = some u → w.cell? (ad.add (i.toNat * 1 + j)) = some u:=hc0
 obtain ⟨A0,c0,rfl,l0,g0⟩:=hK
 exact ⟨ad,A0,c0,e,by have hq:=hc 0 _ rfl;rwa [Nat.mul_one,Nat.add_zero] at hq,l0,g0⟩
theorem ow:∀ (x y:List UInt8),(!(Op.bytesLess x y || x == y)) = Op.bytesLess y x
 | [],[]=>rfl
 | [],_ :: _=>rfl
 | _ :: _,[]=>rfl
 | a :: x,b :: y=>by
  have ih:=ow x y
  unfold Op.bytesLess
  by_cases h1:a < b
  ·have h2:¬ b < a:=UInt8.not_lt.2 (UInt8.le_of_lt h1)
   have h3:¬ a = b:=fun e=>by subst e;exact h2 h1
   have h4:¬ b = a:=fun e=>h3 e.symm
   simp [h1,h2,h3,h4]
  ·by_cases h2:b < a
   ·have h3:a ≠ b:=fun e=>by subst e;exact absurd h2 h1
    simp [h1,h2,h3]
   ·have h3:a = b:=UInt8.le_antisymm (UInt8.not_lt.1 h2) (UInt8.not_lt.1 h1)
    subst h3
    simp [h1,← ih]
theorem sK (x y:List UInt8):(!(Op.bytesLess x y || x == y)) = Op.bytesLess y x:=ow x y
theorem zvH:∀ x:List UInt8,Op.bytesLess x x = false
 | []=>rfl
 | a :: x=>by
  have h:¬ a < a:=fun h=>absurd h (UInt8.not_lt.2 (UInt8.le_refl a))
  simp [Op.bytesLess,h,zvH x]
theorem zWq {x y:List UInt8} (h:Op.bytesLess x y = true):(x == y) = false:=by
 rw [beq_eq_false_iff_ne];intro e;subst e;rw [zvH] at h;cases h
theorem zJ3 {x y:List UInt8} (h:Op.bytesLess x y = true):(y == x) = false:=by
 rw [beq_eq_false_iff_ne];intro e;subst e;rw [zvH] at h;cases h
theorem zyv {x y:List UInt8} (h:Op.bytesLess x y = true):Op.bytesLess y x = false:=by
 rw [← ow x y,h];rfl
theorem zvZ {x y:List UInt8} (h:Op.bytesLess x y = false) (k:Op.bytesLess y x = false):(x == y) = true:=by
 have:=ow x y
 rw [h,k] at this
 simpa using this
end Go.Proofs.YtggifbbiiickmaaGreatDoor.PX
namespace Go.Proofs.YtggifbbiiickmaaGreatDoor
open Go.RowKit Go.Proofs.zx.zJ Go.Proofs.zx.zu Go.Proofs.zx.zo
section
variable {P:Program} {ops:Array Oper} {Q:Exit → Act → World → Prop} {md:Region.Mode} {S:World → Prop} {ds:List Nat} {T:Bool × List (List Nat × List Nat)}
theorem jP (i:Nat) (N:Option Tmp) {oi:Oper} {v:Value} {fuel:Nat} {l:Array Bool} {a a':Act} {w:World} (HT:zk (q9 md ops = T)) (h:yK P md ops Q S ds fuel (l.setIfInBounds i true) a' w)
  (hi:ops[i]? = some oi:=by exact rfl) (hN:oi.dst = N:=by exact rfl) (hc:fU T l.toList (l.setIfInBounds i true).toList i = true:=by kernel_rfl) (hQ:∀ c a w,Q (.panic c) (a.put oi.dst v) w → Q (.panic c) a w:=by exact fun _ _ _ h=>h)
  (hg:Region.wanted oi (yielded ops a.tmps) = true:=by rfl) (hy:∀ w,(execOp a.eval oi).run P w = .ok (.value v) w:=by intro w';go_simp;with_reducible rfl) (ha:a.put N v = a':=by simp only [Act.put,List.setIfInBounds_toArray,List.set_cons_zero,List.set_cons_succ,qR,qU];rfl) :
  yK P md ops Q S ds (fuel + 1) l a w:=xk _ hi hN (qD HT.out hc) hQ (Or.inl ⟨hg,hy⟩) ha h
theorem mG {B:List Nat} (i:Nat) (N:Option Tmp) {oi:Oper} {v:Value} {fuel:Nat} {l:Array Bool} {a a':Act} {w:World} (HT:zk (q9 md ops = T)) (HW:zk (xC T.2 B = true)) (hS:S w) (h:yK P md ops Q S ds fuel (l.setIfInBounds i true) a' w)
  (hi:ops[i]? = some oi:=by exact rfl) (hN:oi.dst = N:=by exact rfl) (hc:lT T B ds l.toList (l.setIfInBounds i true).toList i = true:=by kernel_rfl) (hQ:∀ c a w,Q (.panic c) (a.put oi.dst v) w → Q (.panic c) a w:=by exact fun _ _ _ h=>h)
  (hg:Region.wanted oi (yielded ops a.tmps) = true:=by rfl) (hy:∀ w,S w → (execOp a.eval oi).run P w = .ok (.value v) w:=by intro w' hs_;go_simp;with_reducible rfl) (ha:a.put N v = a':=by simp only [Act.put,List.setIfInBounds_toArray,List.set_cons_zero,List.set_cons_succ,qR,qU];rfl) :
  yK P md ops Q S ds (fuel + 1) l a w:=XL _ hi hN (X4 HT.out HW.out hc) hQ (Or.inl ⟨hg,hy⟩) hS ha h
theorem oZ (N:Option Tmp) {v:Value} {fuel:Nat} {l:Array Bool} {a a':Act} {w:World} (h:yK P md ops Q S ds fuel l a' w) (ha:a.put N v = a':=by simp only [Act.put,List.setIfInBounds_toArray,List.set_cons_zero,List.set_cons_succ,qR,qU];rfl):yK P md ops Q S ds fuel l (a.put N v) w:=YI ha h
theorem oQ (i:Nat) (N:Option Tmp) {oi:Oper} {fuel:Nat} {l:Array Bool} {a:Act} {w:World} (HT:zk (q9 md ops = T))
  (h:∀ K:Act → World → Prop,Shut (∀ a' w',S w' → (S w' → yK P md ops Q S ds fuel (l.setIfInBounds i true) a' w') → K a' w') → if Region.wanted oi (yielded ops a.tmps) = true then Oper.wp P oi a w K Q else K (a.put N undef) w)
  (hi:ops[i]? = some oi:=by exact rfl) (hN:oi.dst = N:=by exact rfl) (hc:(U2 T.2 l.toList == [i] && l.toList.set i true == (l.setIfInBounds i true).toList) = true:=by kernel_rfl) (hd:i ∉ ds:=by decide) :
  yK P md ops Q S ds (fuel + 1) l a w:=Yr _ hi hN (jY HT.out hc) hd h
end
theorem vK {W W':World} {g:Nat} {o:Obj} (h:W.heap[g]? = some o) (e:W.heap[g]? = some o → W'.heap[g]? = some o:=by intro h_;(with_reducible repeat (first | refine zJE ?_ _ | refine KY ?_ | refine kN ?_ _));exact h_):W'.heap[g]? = some o:=e h
theorem rkS {α:Type} {d:Kd α} {e base:Nat} {W W':World} {ok:Nat → Prop} {v:Value} {xs:List α} (h:d.R e W base ok v xs) (k:d.R e W base ok v xs → d.R e W' base ok v xs:=by intro h_;(with_reducible repeat (first | apply Kd.zk7 | apply Kd.zk8 | apply Kd.lF));exact h_):d.R e W' base ok v xs:=k h
theorem Zz {α:Type} {d:Kd α} {W W':World} {A:Option Addr} {n:Nat} {xs:List α} (h:d.C W A n xs) (k:d.C W A n xs → d.C W' A n xs:=by intro h_;repeat (first | (with_reducible exact h_) | (with_reducible refine Kd.YG ?_ _) | (with_reducible refine Kd.YH ?_ _) | (with_reducible refine Kd.Va ?_) | exact h_)):d.C W' A n xs:=k h
theorem Qf {α:Type} {d:Kd α} {e base:Nat} {W W':World} {ok:Nat → Prop} {v:Value} {xs:List α} (h:Kd.V d e W base ok v xs) (k:Kd.V d e W base ok v xs → Kd.V d e W' base ok v xs:=by intro h_;(with_reducible repeat (first | apply Kd.wY | apply Kd.wW | apply Kd.Zy));exact h_):Kd.V d e W' base ok v xs:=k h
theorem VU {α:Type} {d:Kd α} {e base:Nat} {W W':World} {ok:Nat → Prop} {v:Value} {xs:List α} (h:Kd.N d e W base ok v xs) (k:Kd.N d e W base ok v xs → Kd.N d e W' base ok v xs:=by intro h_;(with_reducible repeat (first | apply Kd.uI | apply Kd.uL | apply Kd.uJ));exact h_):Kd.N d e W' base ok v xs:=k h
end Go.Proofs.YtggifbbiiickmaaGreatDoor
namespace Go.Proofs.YtggifbbiiickmaaGreatDoor
open Go.RowKit Go.Proofs.zx.zJ Go.Proofs.zx.zu Go.Proofs.zx.zo
theorem zM {b:Nat} {w0 W W':World} (h:Below b w0 W) (k:Below b w0 W → Below b w0 W':=by intro h_;repeat (first | (with_reducible first | exact h_ | apply zO | apply zC | apply zP | refine qw ?_ (zk.out (by assumption))) | exact h_)):Below b w0 W':=k h
theorem yj {p:Prop} (h:p:=by first | (with_reducible assumption) | assumption):p:=h
theorem xZ {p q:Prop} (h:p) (k:p → q:=by intro h_;repeat (first | exact h_ | (with_reducible refine Kd.YG ?_ _) | (with_reducible refine Kd.YH ?_ _) | (with_reducible refine Kd.Va ?_))):q:=k h
theorem zK {W:World} {g:Nat} {cs:Array Value} {t:TypeId} {v:Value} (h:zk (W.heap[g]? = some (.cells cs t (0,0)))) (i:Nat) (e:cs[i]? = some v:=by exact rfl):W.cell? ⟨g,i,none⟩ = some v:=(zV h.out i).trans e
theorem vR {P:Program} {ops:Array Oper} {Q:Exit → Act → World → Prop} {rest:List Oper} {oi:Oper} {a:Act} {w:World} (N:Option Tmp) {f:FuncId} {fn:Func} {aps:Array Operand} {ts:Array TypeId} (hf:P.funcs[f]? = some fn) (args:Array Value) (h:Calls P f args w fun e w'=>∃ v,e = .returned v ∧ wpList P ops Q rest (a.put N v) w')
  (hd:oi.dst = N:=by exact rfl) (hg:oi.guard = none:=by exact rfl) (hname:(fn.name == "runtime.NumGoroutine") = false:=by kernel_rfl) (hb:fn.body.isSome = true:=by exact rfl) (hop:oi.op = .call { callee:=.value (.func f),args:=aps,argTypes:=ts }:=by exact rfl)
  (hargs:aps.map a.eval = args:=by (try simp only [List.map_toArray,List.map_cons,List.map_nil]);first | done | rfl | (simp only [List.length_drop,List.length_take];rfl)):wpList P ops Q (oi :: rest) a w:=zbI N hd hg hf hname hb args hop hargs h
end Go.Proofs.YtggifbbiiickmaaGreatDoor
namespace Go.Proofs.YtggifbbiiickmaaGreatDoor
open Go.ChangeShapes Go.WideShapes Go.ChangeAt Go.RowKit
def zdN (s:ChangeSpec) (n:Nat):Prop:=s.vars = [] ∧ ∀ (H:Type) (ds:List (DataW H)),ds.length = n → (s.fn H ds).results = [.lit (.bool true)] ∧ (s.fn H ds).args = ds ∧ (s.fn H ds).vars = []
theorem oJ {H:Type} {enc:TypeId × Value → H} {P:Program} (hl:laidOutB P = true) {W W':World} (hb:Below W.heap.size W W') :
  ∀ {ts:List TypeId} {vs:List Value} {ds:List (DataW H)} {ps:List MemPlace},(∀ t ∈ ts,P.readableRec t = true ∧ t < P.types.size) →
   DataW.TrodAll enc P W 0 (fun _=>true) true ts vs ds ps → DataW.TrodAll enc P W' 0 (fun b=>decide (b < W.heap.size)) true ts vs ds ps
 | [],[],[],_,_,h=>h
 | t :: ts,v :: vs,d :: ds,ps,ht,⟨a,b,h1,h2,e⟩=>by
  have hlt:∀ x ∈ a,x.block < W.heap.size:=by obtain ⟨m,hm⟩:=h1;exact DataW.trod_lt m _ _ _ hm
  exact ⟨a,b,Below.trod hl (ht t (by simp)).1 (ht t (by simp)).2 h1 hb hlt,oJ hl hb (fun t' h'=>ht t' (by simp [h'])) h2,e⟩
theorem trodAll_length {H:Type} {enc:TypeId × Value → H} {P:Program} {W:World} {sp:Nat → Bool} {held:Bool} :
  ∀ {ts:List TypeId} {vs:List Value} {ds:List (DataW H)} {ps:List MemPlace},DataW.TrodAll enc P W 0 sp held ts vs ds ps → ds.length = ts.length
 | [],[],[],_,_=>rfl
 | _ :: _,_ :: _,_ :: _,_,⟨_,_,_,h2,_⟩=>by simp [trodAll_length h2]
theorem zXf {H:Type} {enc:TypeId × Value → H} {C:Checked} {os:Os} {f:FuncId} {fn:Func} {s:ChangeSpec} {X:World → Array Value → Prop} {tb:TypeId}
  (hX:∀ (w w':World) (args:Array Value),w.heap = w'.heap → X w args → X w' args)
  (own:ownKnob C.prog.godebug = none) (started:os.Started) (noInit:C.prog.inits.idxOf? f = none) (hfn:C.prog.funcs[f]? = some fn)
  (witness:∃ (w:World) (tape:Tape) (i:Input),w.os = os ∧ (w.forCall tape i).Shaped C.prog ∧ i.vars = [] ∧ Input.okWide C.prog (w.forCall tape i) .any w.heap.size f i ∧
   ((s.pre enc C.prog fn [] false (w.forCall tape i).memory i.args ∧ X (w.forCall tape i).memory i.args) ∧ sizedMet enc C.prog fn (OpenSpec.ofChange s) false (w.forCall tape i).memory i.args) ∧ ({}:Assume).holds C.prog (lone (Frame.enter C.prog f i.args .normal) [] (w.forCall tape i)))
  (hl:laidOutB C.prog = true) (hs:zdN s fn.params.toList.length) (hres:fn.resultTypes = #[tb]) (htb:C.prog.underlying tb = some .bool)
  (hread:∀ t ∈ fn.params.toList,C.prog.readableRec t = true ∧ t < C.prog.types.size)
  (walk:∀ (W:World) (base:Nat) (args:Array Value) (ds:List (DataW H)) (ps:List MemPlace),
   (∀ (j:Nat) t v,fn.params[j]? = some t → args[j]? = some v → Value.okWide C.prog W .any base t v) →
   DataW.TrodAll enc C.prog W 0 (fun _=>true) true fn.params.toList args.toList ds ps →
   (DataW.weightsEach C.prog fn.params.toList ds).all (· ≤ reachBytes) = true → X W args → W.ShapedOpen C.prog →
   Calls C.prog f args W fun e W'=>e = .returned (.bool true) ∧ Below W.heap.size W W') :
  ReturnsInHanded {} C os f .any (fun w args=>(s.pre enc C.prog fn [] false w args ∧ X w args) ∧ sizedMet enc C.prog fn (OpenSpec.ofChange s) false w args) (s.post enc C.prog fn false true false false):=by
 refine returnsInHanded_of_calls own started noInit witness ?_
 intro w tape i _ hsh _ hok hpre _
 obtain ⟨_,_,_,fn',hfn',_,_,_,_,hval⟩:=hok
 have e:fn' = fn:=Option.some.inj (hfn'.symm.trans hfn)
 subst e
 obtain ⟨⟨⟨ds,gs,before,hw,_⟩,hx⟩,hz⟩:=hpre
 have hw':=DataW.Whole.of_heap (w':=w.forCall tape i) (by rfl) hw
 have hwt:(DataW.weightsEach C.prog (fn'.params.toList ++ s.plain.varTypes C.prog) (ds ++ gs)).all (· ≤ reachBytes) = true:=hz.weights hw
 obtain ⟨p,q,hA,hV,rfl,hfz,hnd⟩:=hw'
 have hV':=hV
 rw [hs.1] at hV'
 obtain ⟨rfl,rfl⟩:=trodVars_none hV'
 have zf0:(DataW.weightsEach C.prog fn'.params.toList ds).all (· ≤ reachBytes) = true:=by
  have hvt:s.plain.varTypes C.prog = []:=by
   simp [DataSpec.varTypes,ChangeSpec.plain,hs.1]
  rw [hvt,List.append_nil,List.append_nil] at hwt
  exact hwt
 obtain ⟨e1,e2,e3⟩:=hs.2 H ds (trodAll_length hA)
 refine (walk (w.forCall tape i) w.heap.size i.args ds p hval hA zf0 (hX _ _ _ (by rfl) hx) hsh).mono fun e W' ⟨he,hb⟩=>?_
 subst he
 have hp:s.post enc C.prog fn' false true false false (w.forCall tape i) i.args (.bool true) W':=by
  refine ⟨ds,[],p ++ [],[],p,[],⟨p,[],hA,hV,rfl,hfz,hnd⟩,?_,?_,?_,hb.frame _,fun h=>by cases h⟩
  ·rw [List.append_nil,e1,hres]
   exact trodAll_mk1 (shut_bool htb _)
  ·rw [List.append_nil,e2]
   exact oJ hl hb hread hA
  ·rw [List.append_nil,e3,hs.1]
   rfl
 exact ChangeSpec.post_blind hp
section
variable {H:Type} {enc:TypeId × Value → H} {P:Program} {w:World} {base:Nat} {spare:Nat → Bool} {held:Bool}
end
theorem mH {P:Program} {W:World} {name:String} {k:IntKind} {zs:List Int} {laid:List (String × DataW Unit)} {g:Nat} {t e:TypeId} {n:Nat}
  (hg:P.globalNamed name = some g) (hty:(P.globals[g]?).map (·.type) = some t) (ht:P.underlying t = some (.array n e)) (he:P.underlying e = some (.int k)) (hce:P.cellsOf e = 1) (hct:P.cellsOf t = n)
  (h:laidMet P laid W) (hm:(name,Lib.tabData k zs) ∈ laid):Lib.TabIs P W name k zs:=by
 obtain ⟨g',t',cs,fuel,p,hg',ht',hvar,hd⟩:=Lib.laidMet.reads h hm
 obtain rfl:=Option.some.inj (hg.symm.trans hg')
 obtain rfl:=Option.some.inj (hty.symm.trans ht')
 unfold Lib.TabIs
 rw [hvar,← Lib.cells_of_tab ht he hce hct hd]
theorem zKc {H:Type} {enc:TypeId × Value → H} {P:Program} {W:World} {t:TypeId} {args:Array Value} {ds:List (DataW H)} {ps:List MemPlace} (h:DataW.TrodAll enc P W 0 (fun _=>true) true [t] args.toList ds ps) :
  ∃ v d p,args = #[v] ∧ ds = [d] ∧ DataW.Trod enc P W 0 (fun _=>true) true t v d p:=by
 obtain ⟨v,vs,d,ds',p,q,e,rfl,rfl,h0,h1⟩:=trodAll_cons h
 obtain ⟨rfl,rfl,rfl⟩:=trodAll_nil h1
 exact ⟨v,d,p,by cases args;simp_all,rfl,h0⟩
end Go.Proofs.YtggifbbiiickmaaGreatDoor
namespace Go.Proofs.YtggifbbiiickmaaGreatDoor.PX
open Go.RowKit Go.Proofs.zx.zJ Go.Proofs.zx.zu Go.Proofs.zx.zo
attribute [local go_sem] yU y7 qX qJ yM yN y8 y9   -- for this text's walks alone
set_option linter.unusedVariables false
set_option linter.unusedSimpArgs false
end Go.Proofs.YtggifbbiiickmaaGreatDoor.PX
namespace Go.Proofs
open Go.Shelf
def Tryz.lays169_ren:Go.Shelf.Ren:=⟨fun | 169=>74 | n=>n,fun | 70=>128 | 9=>9 | 0=>0 | 72=>131 | 37=>129 | 127=>175 | 3=>3 | 5=>5 | n=>n,fun | n=>n⟩
theorem Tryz.lays169:Go.Proofs.Lays.n169 Tryz.prog Tryz.lays169_ren:={
 mixed:=by kernel_rfl
 f169:=Tryz.func74.trans (congrArg some (by kernel_rfl))
 t0:=Tryz.underlying0
 a0:=Tryz.isAgg0
 z0:=Tryz.sizeOf0
 v0:=Tryz.zeroValue0
 t3:=Tryz.underlying3
 a3:=Tryz.isAgg3
 z3:=Tryz.sizeOf3
 v3:=Tryz.zeroValue3
 t9:=Tryz.underlying9
 a9:=Tryz.isAgg9
 z9:=Tryz.sizeOf9
 v9:=Tryz.zeroValue9
 t37:=Tryz.underlying129
 a37:=Tryz.isAgg129
 z37:=Tryz.sizeOf129
 v37:=Tryz.zeroValue129
 t70:=Tryz.underlying128
 a70:=Tryz.isAgg128
 z70:=Tryz.sizeOf128
 v70:=Tryz.zeroValue128
 t72:=Tryz.underlying131
 a72:=Tryz.isAgg131
 z72:=Tryz.sizeOf131
 v72:=Tryz.zeroValue131
 t127:=Tryz.underlying175
 a127:=Tryz.isAgg175
 z127:=Tryz.sizeOf175
 v127:=Tryz.zeroValue175 }
theorem Tryz.Builder_Extra_169:Builder.Extra Tryz.prog Tryz.lays169_ren:={
 sizeBuilder:=by kernel_rfl
 liesBuilder:=by kernel_rfl
 t5:=Tryz.underlying5
 a5:=Tryz.isAgg5
 z5:=Tryz.sizeOf5
 v5:=Tryz.zeroValue5
 infoByte:=by kernel_rfl
 cellsByte:=by kernel_rfl
 sizeByte:=by kernel_rfl
 neB5:=by decide }
open Go.RowKit in
theorem Tryz.Builder_String_any (B b:Nat) (l:List UInt8) (w:World) (h:Lib.IsBuilder 131 5 B b (Lib.byteCells l) w) (hBw:B ≤ w.heap.size) :
  Calls Tryz.prog 74 #[.pointer (some ⟨b,0,none⟩)] w fun e w'=>e = .returned (.string ⟨l.toArray⟩) ∧ Below B w w':=Any.Builder_String_any Tryz.lays169 Tryz.Builder_Extra_169 B b l w h hBw
def Tryz.lays160_ren:Go.Shelf.Ren:=⟨fun | 160=>129 | 232=>154 | 231=>153 | 227=>155 | 234=>157 | 233=>156 | 236=>159 | 235=>158 | 228=>182 | 271=>185 | 151=>184 | 197=>183 | 120=>198 | 152=>197 | 260=>196 | 137=>113 | 119=>203 | 224=>180 | 225=>179 | 217=>145 | 266=>171 | n=>n,fun | 9=>9 | 4=>4 | 3=>3 | 5=>5 | 117=>201 | 116=>200 | 0=>0 | 124=>204 | 21=>21 | 105=>234 | 46=>47 | 119=>169 | 139=>263 | 138=>262 | n=>n,fun | 3=>5 | 4=>6 | n=>n⟩
theorem Tryz.lays160:Go.Proofs.Lays.n160 Tryz.prog Tryz.lays160_ren:={
 mixed:=by kernel_rfl
 f119:=Tryz.func203.trans (congrArg some (by kernel_rfl))
 f120:=Tryz.func198.trans (congrArg some (by kernel_rfl))
 f137:=Tryz.func113.trans (congrArg some (by kernel_rfl))
 f151:=Tryz.func184.trans (congrArg some (by kernel_rfl))
 f152:=Tryz.func197.trans (congrArg some (by kernel_rfl))
 f160:=Tryz.func129.trans (congrArg some (by kernel_rfl))
 f197:=Tryz.func183.trans (congrArg some (by kernel_rfl))
 f217:=Tryz.func145.trans (congrArg some (by kernel_rfl))
 f224:=Tryz.func180.trans (congrArg some (by kernel_rfl))
 f225:=Tryz.func179.trans (congrArg some (by kernel_rfl))
 f227:=Tryz.func155.trans (congrArg some (by kernel_rfl))
 f228:=Tryz.func182.trans (congrArg some (by kernel_rfl))
 f231:=Tryz.func153.trans (congrArg some (by kernel_rfl))
 f232:=Tryz.func154.trans (congrArg some (by kernel_rfl))
 f233:=Tryz.func156.trans (congrArg some (by kernel_rfl))
 f234:=Tryz.func157.trans (congrArg some (by kernel_rfl))
 f235:=Tryz.func158.trans (congrArg some (by kernel_rfl))
 f236:=Tryz.func159.trans (congrArg some (by kernel_rfl))
 f260:=Tryz.func196.trans (congrArg some (by kernel_rfl))
 f266:=Tryz.func171.trans (congrArg some (by kernel_rfl))
 f271:=Tryz.func185.trans (congrArg some (by kernel_rfl))
 t0:=Tryz.underlying0
 a0:=Tryz.isAgg0
 z0:=Tryz.sizeOf0
 v0:=Tryz.zeroValue0
 t3:=Tryz.underlying3
 a3:=Tryz.isAgg3
 z3:=Tryz.sizeOf3
 v3:=Tryz.zeroValue3
 t4:=Tryz.underlying4
 a4:=Tryz.isAgg4
 z4:=Tryz.sizeOf4
 v4:=Tryz.zeroValue4
 t5:=Tryz.underlying5
 a5:=Tryz.isAgg5
 z5:=Tryz.sizeOf5
 v5:=Tryz.zeroValue5
 t9:=Tryz.underlying9
 a9:=Tryz.isAgg9
 z9:=Tryz.sizeOf9
 v9:=Tryz.zeroValue9
 t21:=Tryz.underlying21
 a21:=Tryz.isAgg21
 z21:=Tryz.sizeOf21
 v21:=Tryz.zeroValue21
 t46:=Tryz.underlying47
 a46:=Tryz.isAgg47
 z46:=Tryz.sizeOf47
 v46:=Tryz.zeroValue47
 t105:=Tryz.underlying234
 a105:=Tryz.isAgg234
 z105:=Tryz.sizeOf234
 v105:=Tryz.zeroValue234
 t116:=Tryz.underlying200
 a116:=Tryz.isAgg200
 z116:=Tryz.sizeOf200
 t117:=Tryz.underlying201
 a117:=Tryz.isAgg201
 z117:=Tryz.sizeOf201
 v117:=Tryz.zeroValue201
 t119:=Tryz.underlying169
 a119:=Tryz.isAgg169
 z119:=Tryz.sizeOf169
 t124:=Tryz.underlying204
 a124:=Tryz.isAgg204
 z124:=Tryz.sizeOf204
 v124:=Tryz.zeroValue204
 t138:=Tryz.underlying262
 a138:=Tryz.isAgg262
 z138:=Tryz.sizeOf262
 v138:=Tryz.zeroValue262
 t139:=Tryz.underlying263
 a139:=Tryz.isAgg263
 z139:=Tryz.sizeOf263
 v139:=Tryz.zeroValue263
 g3:=by kernel_rfl
 g4:=by kernel_rfl }
def Tryz.lays137_ren:Go.Shelf.Ren:=⟨fun | 137=>113 | 217=>145 | 266=>171 | n=>n,fun | 9=>9 | 5=>5 | 3=>3 | n=>n,fun | n=>n⟩
theorem Tryz.lays137:Go.Proofs.Lays.n137 Tryz.prog Tryz.lays137_ren:={
 mixed:=by kernel_rfl
 f137:=Tryz.func113.trans (congrArg some (by kernel_rfl))
 f217:=Tryz.func145.trans (congrArg some (by kernel_rfl))
 f266:=Tryz.func171.trans (congrArg some (by kernel_rfl))
 t3:=Tryz.underlying3
 a3:=Tryz.isAgg3
 z3:=Tryz.sizeOf3
 v3:=Tryz.zeroValue3
 t5:=Tryz.underlying5
 a5:=Tryz.isAgg5
 z5:=Tryz.sizeOf5
 v5:=Tryz.zeroValue5
 t9:=Tryz.underlying9
 a9:=Tryz.isAgg9
 z9:=Tryz.sizeOf9
 v9:=Tryz.zeroValue9 }
open Go.RowKit in
theorem Tryz.strings_IndexByte (s:ByteArray) (c:Int) (w:World) :
  Calls Tryz.prog 113 #[.string s,.int .u8 c] w fun e w'=>e = .returned (.int .i64 (Lib.indexByte s.data.toList c.toNat.toUInt8)) ∧ w' = w:=Any.strings_IndexByte Tryz.lays137 s c w
def Tryz.laysC172_ren:Go.Shelf.Ren:=⟨fun | 172=>116 | 244=>147 | 245=>148 | 247=>174 | 279=>175 | 280=>176 | 281=>177 | 282=>178 | 287=>191 | 316=>192 | 171=>194 | 205=>193 | 321=>200 | 322=>201 | 243=>202 | 246=>204 | 283=>205 | 284=>206 | 285=>207 | 286=>208 | 129=>170 | 317=>209 | 318=>210 | 319=>211 | 320=>212 | 337=>213 | 338=>214 | n=>n,fun | 9=>9 | 3=>3 | 75=>133 | 76=>135 | 4=>4 | 5=>5 | 167=>226 | 37=>129 | 0=>0 | 85=>227 | 2=>2 | 168=>229 | 53=>214 | 175=>245 | 46=>47 | 210=>248 | 127=>175 | 145=>260 | 143=>258 | 21=>21 | 171=>265 | 173=>267 | 212=>270 | 51=>191 | 20=>20 | 213=>271 | 232=>272 | 233=>273 | 80=>137 | n=>n,fun | 15=>3 | 16=>4 | 17=>7 | 18=>8 | 19=>9 | n=>n⟩
theorem Tryz.laysC172:Go.Proofs.LaysC.n172 Tryz.prog Tryz.laysC172_ren:={
 mixed:=by kernel_rfl
 f129:=Tryz.func170.trans (congrArg some (by kernel_rfl))
 f171:=Tryz.func194.trans (congrArg some (by kernel_rfl))
 f172:=Tryz.func116.trans (congrArg some (by kernel_rfl))
 f205:=Tryz.func193.trans (congrArg some (by kernel_rfl))
 f243:=Tryz.func202.trans (congrArg some (by kernel_rfl))
 f244:=Tryz.func147.trans (congrArg some (by kernel_rfl))
 f245:=Tryz.func148.trans (congrArg some (by kernel_rfl))
 f246:=Tryz.func204.trans (congrArg some (by kernel_rfl))
 f247:=Tryz.func174.trans (congrArg some (by kernel_rfl))
 f279:=Tryz.func175.trans (congrArg some (by kernel_rfl))
 f280:=Tryz.func176.trans (congrArg some (by kernel_rfl))
 f281:=Tryz.func177.trans (congrArg some (by kernel_rfl))
 f282:=Tryz.func178.trans (congrArg some (by kernel_rfl))
 f283:=Tryz.func205.trans (congrArg some (by kernel_rfl))
 f284:=Tryz.func206.trans (congrArg some (by kernel_rfl))
 f285:=Tryz.func207.trans (congrArg some (by kernel_rfl))
 f286:=Tryz.func208.trans (congrArg some (by kernel_rfl))
 f287:=Tryz.func191.trans (congrArg some (by kernel_rfl))
 f316:=Tryz.func192.trans (congrArg some (by kernel_rfl))
 f317:=Tryz.func209.trans (congrArg some (by kernel_rfl))
 f318:=Tryz.func210.trans (congrArg some (by kernel_rfl))
 f319:=Tryz.func211.trans (congrArg some (by kernel_rfl))
 f320:=Tryz.func212.trans (congrArg some (by kernel_rfl))
 f321:=Tryz.func200.trans (congrArg some (by kernel_rfl))
 f322:=Tryz.func201.trans (congrArg some (by kernel_rfl))
 f337:=Tryz.func213.trans (congrArg some (by kernel_rfl))
 f338:=Tryz.func214.trans (congrArg some (by kernel_rfl))
 t0:=Tryz.underlying0
 a0:=Tryz.isAgg0
 z0:=Tryz.sizeOf0
 v0:=Tryz.zeroValue0
 t2:=Tryz.underlying2
 a2:=Tryz.isAgg2
 z2:=Tryz.sizeOf2
 v2:=Tryz.zeroValue2
 t3:=Tryz.underlying3
 a3:=Tryz.isAgg3
 z3:=Tryz.sizeOf3
 v3:=Tryz.zeroValue3
 t4:=Tryz.underlying4
 a4:=Tryz.isAgg4
 z4:=Tryz.sizeOf4
 v4:=Tryz.zeroValue4
 t5:=Tryz.underlying5
 a5:=Tryz.isAgg5
 z5:=Tryz.sizeOf5
 v5:=Tryz.zeroValue5
 t9:=Tryz.underlying9
 a9:=Tryz.isAgg9
 z9:=Tryz.sizeOf9
 v9:=Tryz.zeroValue9
 t20:=Tryz.underlying20
 a20:=Tryz.isAgg20
 z20:=Tryz.sizeOf20
 v20:=Tryz.zeroValue20
 t21:=Tryz.underlying21
 a21:=Tryz.isAgg21
 z21:=Tryz.sizeOf21
 v21:=Tryz.zeroValue21
 t37:=Tryz.underlying129
 a37:=Tryz.isAgg129
 z37:=Tryz.sizeOf129
 v37:=Tryz.zeroValue129
 t46:=Tryz.underlying47
 a46:=Tryz.isAgg47
 z46:=Tryz.sizeOf47
 v46:=Tryz.zeroValue47
 t51:=Tryz.underlying191
 a51:=Tryz.isAgg191
 z51:=Tryz.sizeOf191
 v51:=Tryz.zeroValue191
 t53:=Tryz.underlying214
 a53:=Tryz.isAgg214
 z53:=Tryz.sizeOf214
 v53:=Tryz.zeroValue214
 t75:=Tryz.underlying133
 a75:=Tryz.isAgg133
 z75:=Tryz.sizeOf133
 v75:=Tryz.zeroValue133
 t76:=Tryz.underlying135
 a76:=Tryz.isAgg135
 z76:=Tryz.sizeOf135
 v76:=Tryz.zeroValue135
 t85:=Tryz.underlying227
 a85:=Tryz.isAgg227
 z85:=Tryz.sizeOf227
 v85:=Tryz.zeroValue227
 t127:=Tryz.underlying175
 a127:=Tryz.isAgg175
 z127:=Tryz.sizeOf175
 v127:=Tryz.zeroValue175
 t143:=Tryz.underlying258
 a143:=Tryz.isAgg258
 z143:=Tryz.sizeOf258
 v143:=Tryz.zeroValue258
 t145:=Tryz.underlying260
 a145:=Tryz.isAgg260
 z145:=Tryz.sizeOf260
 v145:=Tryz.zeroValue260
 t167:=Tryz.underlying226
 a167:=Tryz.isAgg226
 z167:=Tryz.sizeOf226
 v167:=Tryz.zeroValue226
 t168:=Tryz.underlying229
 a168:=Tryz.isAgg229
 z168:=Tryz.sizeOf229
 v168:=Tryz.zeroValue229
 t171:=Tryz.underlying265
 a171:=Tryz.isAgg265
 z171:=Tryz.sizeOf265
 v171:=Tryz.zeroValue265
 t173:=Tryz.underlying267
 a173:=Tryz.isAgg267
 z173:=Tryz.sizeOf267
 v173:=Tryz.zeroValue267
 t175:=Tryz.underlying245
 a175:=Tryz.isAgg245
 z175:=Tryz.sizeOf245
 v175:=Tryz.zeroValue245
 t210:=Tryz.underlying248
 a210:=Tryz.isAgg248
 z210:=Tryz.sizeOf248
 v210:=Tryz.zeroValue248
 t212:=Tryz.underlying270
 a212:=Tryz.isAgg270
 z212:=Tryz.sizeOf270
 v212:=Tryz.zeroValue270
 t213:=Tryz.underlying271
 a213:=Tryz.isAgg271
 z213:=Tryz.sizeOf271
 t232:=Tryz.underlying272
 a232:=Tryz.isAgg272
 z232:=Tryz.sizeOf272
 v232:=Tryz.zeroValue272
 t233:=Tryz.underlying273
 a233:=Tryz.isAgg273
 z233:=Tryz.sizeOf273
 v233:=Tryz.zeroValue273
 g15:=by kernel_rfl
 g16:=by kernel_rfl
 g17:=by kernel_rfl
 g18:=by kernel_rfl
 g19:=by kernel_rfl
 t80:=Tryz.underlying137
 a80:=Tryz.isAgg137
 z80:=Tryz.sizeOf137
 v80:=Tryz.zeroValue137
 i0:=by kernel_rfl
 i2:=by kernel_rfl
 i3:=by kernel_rfl
 i4:=by kernel_rfl
 i5:=by kernel_rfl
 i9:=by kernel_rfl
 i20:=by kernel_rfl
 i21:=by kernel_rfl
 i37:=by kernel_rfl
 i46:=by kernel_rfl
 i51:=by kernel_rfl
 i53:=by kernel_rfl
 i75:=by kernel_rfl
 i76:=by kernel_rfl
 i80:=by kernel_rfl
 i85:=by kernel_rfl
 i127:=by kernel_rfl
 i143:=by kernel_rfl
 i145:=by kernel_rfl
 i167:=by kernel_rfl
 i168:=by kernel_rfl
 i171:=by kernel_rfl
 i173:=by kernel_rfl
 i175:=by kernel_rfl
 i210:=by kernel_rfl
 i212:=by kernel_rfl
 i232:=by kernel_rfl
 i233:=by kernel_rfl
 m15:=by kernel_rfl
 m16:=by kernel_rfl
 m17:=by kernel_rfl
 m18:=by kernel_rfl
 m19:=by kernel_rfl
 c0:=by kernel_rfl
 c2:=by kernel_rfl
 c3:=by kernel_rfl
 c4:=by kernel_rfl
 c5:=by kernel_rfl
 c9:=by kernel_rfl
 c20:=by kernel_rfl
 c21:=by kernel_rfl
 c37:=by kernel_rfl
 c46:=by kernel_rfl
 c51:=by kernel_rfl
 c53:=by kernel_rfl
 c75:=by kernel_rfl
 c76:=by kernel_rfl
 c80:=by kernel_rfl
 c85:=by kernel_rfl
 c127:=by kernel_rfl
 c143:=by kernel_rfl
 c145:=by kernel_rfl
 c167:=by kernel_rfl
 c168:=by kernel_rfl
 c171:=by kernel_rfl
 c173:=by kernel_rfl
 c175:=by kernel_rfl
 c210:=by kernel_rfl
 c212:=by kernel_rfl
 c213:=by kernel_rfl
 c232:=by kernel_rfl
 c233:=by kernel_rfl }
open Go.RowKit in
theorem Tryz.strconv_Atoi_ok (s:ByteArray) (hmax:s.size ≤ 9223372036854775806) (v:Int) (h:Lib.atoiAll s.data.toList = .ok v) (w:World) :
  Calls Tryz.prog 116 #[.string s] w fun e w'=>e = .returned (.tuple #[.int .i64 v,.nilIface]) ∧ (w' = w ∨ ∃ t,w' = Lib.bytesWorld w 5 t):=Any.strconv_Atoi_ok Tryz.laysC172 s hmax v h w
open Go.RowKit in
theorem Tryz.strconv_Atoi_syntax_var (s:ByteArray) (hlim:s.size ≤ 281474976710656) (h:Lib.atoiAll s.data.toList = Lib.atoiAll []) (tp:TypeId) (p:Value) (w:World) (hvar:w.var? Tryz.prog "strconv.ErrSyntax" = some #[.iface tp p]) :
  Calls Tryz.prog 116 #[.string s] w fun e w'=>∃ N,e = .returned (.tuple #[.int .i64 0,.iface 229 (.pointer (some ⟨N,0,none⟩))]) ∧ w.heap.size ≤ N ∧ w'.heap[N]? = some (.cells #[.string ⟨#[65,116,111,105]⟩,.string s,.iface tp p] 248 (0,0)) ∧ Below w.heap.size w w':=Any.strconv_Atoi_syntax_var Tryz.laysC172 s hlim h tp p w hvar
open Go.RowKit in
theorem Tryz.strconv_Atoi_range_var (s:ByteArray) (hlim:s.size ≤ 281474976710656) (h:Lib.atoiAll s.data.toList = .range) (tp:TypeId) (p:Value) (w:World) (hvar:w.var? Tryz.prog "strconv.ErrRange" = some #[.iface tp p]) :
  Calls Tryz.prog 116 #[.string s] w fun e w'=>∃ N,e = .returned (.tuple #[.int .i64 (Lib.atoiSat s.data.toList),.iface 229 (.pointer (some ⟨N,0,none⟩))]) ∧ w.heap.size ≤ N ∧ w'.heap[N]? = some (.cells #[.string ⟨#[65,116,111,105]⟩,.string s,.iface tp p] 248 (0,0)) ∧ Below w.heap.size w w':=Any.strconv_Atoi_range_var Tryz.laysC172 s hlim h tp p w hvar
def Tryz.lays144_ren:Go.Shelf.Ren:=⟨fun | 144=>78 | 143=>126 | 219=>151 | 217=>145 | 225=>179 | 224=>180 | 267=>181 | 266=>171 | 314=>195 | n=>n,fun | 9=>9 | 4=>4 | 3=>3 | 5=>5 | 46=>47 | 146=>251 | 51=>191 | n=>n,fun | 1=>2 | n=>n⟩
theorem Tryz.lays144:Go.Proofs.Lays.n144 Tryz.prog Tryz.lays144_ren:={
 mixed:=by kernel_rfl
 f143:=Tryz.func126.trans (congrArg some (by kernel_rfl))
 f144:=Tryz.func78.trans (congrArg some (by kernel_rfl))
 f217:=Tryz.func145.trans (congrArg some (by kernel_rfl))
 f219:=Tryz.func151.trans (congrArg some (by kernel_rfl))
 f224:=Tryz.func180.trans (congrArg some (by kernel_rfl))
 f225:=Tryz.func179.trans (congrArg some (by kernel_rfl))
 f266:=Tryz.func171.trans (congrArg some (by kernel_rfl))
 f267:=Tryz.func181.trans (congrArg some (by kernel_rfl))
 f314:=Tryz.func195.trans (congrArg some (by kernel_rfl))
 t3:=Tryz.underlying3
 a3:=Tryz.isAgg3
 z3:=Tryz.sizeOf3
 v3:=Tryz.zeroValue3
 t4:=Tryz.underlying4
 a4:=Tryz.isAgg4
 z4:=Tryz.sizeOf4
 v4:=Tryz.zeroValue4
 t5:=Tryz.underlying5
 a5:=Tryz.isAgg5
 z5:=Tryz.sizeOf5
 v5:=Tryz.zeroValue5
 t9:=Tryz.underlying9
 a9:=Tryz.isAgg9
 z9:=Tryz.sizeOf9
 v9:=Tryz.zeroValue9
 t46:=Tryz.underlying47
 a46:=Tryz.isAgg47
 z46:=Tryz.sizeOf47
 v46:=Tryz.zeroValue47
 t51:=Tryz.underlying191
 a51:=Tryz.isAgg191
 z51:=Tryz.sizeOf191
 v51:=Tryz.zeroValue191
 t146:=Tryz.underlying251
 a146:=Tryz.isAgg251
 z146:=Tryz.sizeOf251
 v146:=Tryz.zeroValue251
 g1:=by kernel_rfl }
open Go.RowKit Go.Lib in
theorem Tryz.strings_Contains (s sub:ByteArray) (m:Int) (w:World) (hs:s.size < 4294967281) (hm:w.cell? ⟨2,0,none⟩ = some (.int .i64 m)) :
  Calls Tryz.prog 78 #[.string s,.string sub] w fun e w'=>e = .returned (.bool (Lib.contains s.data.toList sub.data.toList)) ∧ w' = w:=Any.strings_Contains Tryz.lays144 s sub m w hs hm
def Tryz.laysGw17_ren:Go.Shelf.Ren:=⟨fun | 17=>81 | 15=>128 | 20=>152 | n=>n,fun | 9=>9 | 23=>142 | 4=>4 | 3=>3 | 0=>0 | 21=>21 | n=>n,fun | n=>n⟩
theorem Tryz.laysGw17:Go.Proofs.LaysGw.n17 Tryz.prog Tryz.laysGw17_ren:={
 mixed:=by kernel_rfl
 f15:=Tryz.func128.trans (congrArg some (by kernel_rfl))
 f17:=Tryz.func81.trans (congrArg some (by kernel_rfl))
 f20:=Tryz.func152.trans (congrArg some (by kernel_rfl))
 t0:=Tryz.underlying0
 a0:=Tryz.isAgg0
 z0:=Tryz.sizeOf0
 v0:=Tryz.zeroValue0
 i0:=by kernel_rfl
 t3:=Tryz.underlying3
 a3:=Tryz.isAgg3
 z3:=Tryz.sizeOf3
 v3:=Tryz.zeroValue3
 i3:=by kernel_rfl
 t4:=Tryz.underlying4
 a4:=Tryz.isAgg4
 z4:=Tryz.sizeOf4
 v4:=Tryz.zeroValue4
 i4:=by kernel_rfl
 t9:=Tryz.underlying9
 a9:=Tryz.isAgg9
 z9:=Tryz.sizeOf9
 v9:=Tryz.zeroValue9
 i9:=by kernel_rfl
 t21:=Tryz.underlying21
 a21:=Tryz.isAgg21
 z21:=Tryz.sizeOf21
 v21:=Tryz.zeroValue21
 i21:=by kernel_rfl
 t23:=Tryz.underlying142
 a23:=Tryz.isAgg142
 z23:=Tryz.sizeOf142
 v23:=Tryz.zeroValue142
 i23:=by kernel_rfl }
open Go.RowKit Go.Lib in
theorem Tryz.strings_ContainsFunc (g:Nat) (lb:Array Value) (eg:∀ args w,(callFunc g args).run Tryz.prog w = .ok (.enter g args) w) (p:Nat → Bool) (s:ByteArray) (w:World) (hp:PredAt Tryz.prog g lb encR p w) :
  Calls Tryz.prog 81 #[.string s,.func (.func g) #[] lb] w fun e w'=>e = .returned (.bool (decide (0 ≤ Lib.idxFunc p true s))) ∧ Below w.heap.size w w':=Any.strings_ContainsFunc Tryz.laysGw17 g lb eg p s w hp
def Tryz.lays157_ren:Go.Shelf.Ren:=⟨fun | 157=>60 | 229=>114 | 199=>115 | 261=>146 | 311=>172 | 312=>173 | n=>n,fun | 9=>9 | 31=>27 | 3=>3 | 5=>5 | 4=>4 | 119=>169 | 0=>0 | 40=>142 | 152=>188 | 21=>21 | 154=>190 | 51=>191 | 141=>193 | 196=>218 | 193=>215 | 198=>221 | 49=>219 | 194=>216 | 201=>224 | 226=>243 | 46=>47 | 227=>244 | n=>n,fun | 0=>0 | 6=>1 | n=>n⟩
theorem Tryz.lays157:Go.Proofs.Lays.n157 Tryz.prog Tryz.lays157_ren:={
 mixed:=by kernel_rfl
 f157:=Tryz.func60.trans (congrArg some (by kernel_rfl))
 f199:=Tryz.func115.trans (congrArg some (by kernel_rfl))
 f229:=Tryz.func114.trans (congrArg some (by kernel_rfl))
 f261:=Tryz.func146.trans (congrArg some (by kernel_rfl))
 f311:=Tryz.func172.trans (congrArg some (by kernel_rfl))
 f312:=Tryz.func173.trans (congrArg some (by kernel_rfl))
 t0:=Tryz.underlying0
 a0:=Tryz.isAgg0
 z0:=Tryz.sizeOf0
 v0:=Tryz.zeroValue0
 t3:=Tryz.underlying3
 a3:=Tryz.isAgg3
 z3:=Tryz.sizeOf3
 v3:=Tryz.zeroValue3
 t4:=Tryz.underlying4
 a4:=Tryz.isAgg4
 z4:=Tryz.sizeOf4
 v4:=Tryz.zeroValue4
 t5:=Tryz.underlying5
 a5:=Tryz.isAgg5
 z5:=Tryz.sizeOf5
 v5:=Tryz.zeroValue5
 t9:=Tryz.underlying9
 a9:=Tryz.isAgg9
 z9:=Tryz.sizeOf9
 v9:=Tryz.zeroValue9
 t21:=Tryz.underlying21
 a21:=Tryz.isAgg21
 z21:=Tryz.sizeOf21
 v21:=Tryz.zeroValue21
 t31:=Tryz.underlying27
 a31:=Tryz.isAgg27
 z31:=Tryz.sizeOf27
 v31:=Tryz.zeroValue27
 t40:=Tryz.underlying142
 a40:=Tryz.isAgg142
 z40:=Tryz.sizeOf142
 v40:=Tryz.zeroValue142
 t46:=Tryz.underlying47
 a46:=Tryz.isAgg47
 z46:=Tryz.sizeOf47
 v46:=Tryz.zeroValue47
 t49:=Tryz.underlying219
 a49:=Tryz.isAgg219
 z49:=Tryz.sizeOf219
 v49:=Tryz.zeroValue219
 t51:=Tryz.underlying191
 a51:=Tryz.isAgg191
 z51:=Tryz.sizeOf191
 v51:=Tryz.zeroValue191
 t119:=Tryz.underlying169
 a119:=Tryz.isAgg169
 z119:=Tryz.sizeOf169
 t141:=Tryz.underlying193
 a141:=Tryz.isAgg193
 z141:=Tryz.sizeOf193
 v141:=Tryz.zeroValue193
 t152:=Tryz.underlying188
 a152:=Tryz.isAgg188
 z152:=Tryz.sizeOf188
 v152:=Tryz.zeroValue188
 t154:=Tryz.underlying190
 a154:=Tryz.isAgg190
 z154:=Tryz.sizeOf190
 v154:=Tryz.zeroValue190
 t193:=Tryz.underlying215
 a193:=Tryz.isAgg215
 z193:=Tryz.sizeOf215
 v193:=Tryz.zeroValue215
 t194:=Tryz.underlying216
 a194:=Tryz.isAgg216
 z194:=Tryz.sizeOf216
 v194:=Tryz.zeroValue216
 t196:=Tryz.underlying218
 a196:=Tryz.isAgg218
 z196:=Tryz.sizeOf218
 v196:=Tryz.zeroValue218
 t198:=Tryz.underlying221
 a198:=Tryz.isAgg221
 z198:=Tryz.sizeOf221
 v198:=Tryz.zeroValue221
 t201:=Tryz.underlying224
 a201:=Tryz.isAgg224
 z201:=Tryz.sizeOf224
 v201:=Tryz.zeroValue224
 t226:=Tryz.underlying243
 a226:=Tryz.isAgg243
 z226:=Tryz.sizeOf243
 v226:=Tryz.zeroValue243
 t227:=Tryz.underlying244
 a227:=Tryz.isAgg244
 z227:=Tryz.sizeOf244
 v227:=Tryz.zeroValue244
 g0:=by kernel_rfl
 g6:=by kernel_rfl }
open Go.RowKit Go.Lib in
theorem Tryz.strings_Fields (s:ByteArray) (w:World) (hs:s.size < 4294967281) (hascii:∀ (j:Nat) b,s.data.toList[j]? = some b → b.toNat < 128) (htab:Lib.TabIs Tryz.prog w "strings.asciiSpace" .u8 Lib.asciiSpaceTab) :
  Calls Tryz.prog 60 #[.string s] w fun e w' =>
   e = .returned (.slice (some ⟨w.heap.size,0,none⟩) (Lib.fields s.data.toList).length (Lib.fields s.data.toList).length) ∧ w' = w.alloc (.cells ((Lib.fields s.data.toList).map fun l=>Value.string ⟨l.toArray⟩).toArray 9):=Any.strings_Fields Tryz.lays157 (by kernel_rfl) (by kernel_rfl) s w hs hascii htab
def Tryz.hasG_ren:Go.Shelf.Ren:=⟨fun | 8=>86 | 6=>130 | n=>n,fun | 22=>56 | 23=>105 | 25=>145 | 4=>4 | 3=>3 | 0=>0 | n=>n,fun | n=>n⟩
theorem Tryz.hasG:Go.Proofs.SlLaysH0.n8 Tryz.prog Tryz.hasG_ren:={
 mixed:=by kernel_rfl
 f6:=⟨Tryz.f130.name,by decide,Tryz.func130.trans (congrArg some (by kernel_rfl))⟩
 f8:=⟨Tryz.f86.name,by decide,Tryz.func86.trans (congrArg some (by kernel_rfl))⟩
 t0:=Tryz.underlying0
 a0:=Tryz.isAgg0
 z0:=Tryz.sizeOf0
 v0:=Tryz.zeroValue0
 t3:=Tryz.underlying3
 a3:=Tryz.isAgg3
 z3:=Tryz.sizeOf3
 v3:=Tryz.zeroValue3
 t4:=Tryz.underlying4
 a4:=Tryz.isAgg4
 z4:=Tryz.sizeOf4
 v4:=Tryz.zeroValue4
 t22:=Tryz.underlying56
 a22:=Tryz.isAgg56
 z22:=Tryz.sizeOf56
 v22:=Tryz.zeroValue56
 t25:=Tryz.underlying145
 a25:=Tryz.isAgg145
 z25:=Tryz.sizeOf145
 v25:=Tryz.zeroValue145 }
def Tryz.hasL_ren:Go.Shelf.Ren:=⟨fun | 8=>92 | 6=>133 | n=>n,fun | 22=>57 | 23=>108 | 25=>151 | 4=>4 | 3=>3 | 0=>0 | n=>n,fun | n=>n⟩
theorem Tryz.hasL:Go.Proofs.SlLaysH0.n8 Tryz.prog Tryz.hasL_ren:={
 mixed:=by kernel_rfl
 f6:=⟨Tryz.f133.name,by decide,Tryz.func133.trans (congrArg some (by kernel_rfl))⟩
 f8:=⟨Tryz.f92.name,by decide,Tryz.func92.trans (congrArg some (by kernel_rfl))⟩
 t0:=Tryz.underlying0
 a0:=Tryz.isAgg0
 z0:=Tryz.sizeOf0
 v0:=Tryz.zeroValue0
 t3:=Tryz.underlying3
 a3:=Tryz.isAgg3
 z3:=Tryz.sizeOf3
 v3:=Tryz.zeroValue3
 t4:=Tryz.underlying4
 a4:=Tryz.isAgg4
 z4:=Tryz.sizeOf4
 v4:=Tryz.zeroValue4
 t22:=Tryz.underlying57
 a22:=Tryz.isAgg57
 z22:=Tryz.sizeOf57
 v22:=Tryz.zeroValue57
 t25:=Tryz.underlying151
 a25:=Tryz.isAgg151
 z25:=Tryz.sizeOf151
 v25:=Tryz.zeroValue151 }
def Tryz.hasK_ren:Go.Shelf.Ren:=⟨fun | 8=>99 | 6=>134 | n=>n,fun | 22=>58 | 23=>111 | 25=>155 | 4=>4 | 3=>3 | 0=>0 | n=>n,fun | n=>n⟩
theorem Tryz.hasK:Go.Proofs.SlLaysH0.n8 Tryz.prog Tryz.hasK_ren:={
 mixed:=by kernel_rfl
 f6:=⟨Tryz.f134.name,by decide,Tryz.func134.trans (congrArg some (by kernel_rfl))⟩
 f8:=⟨Tryz.f99.name,by decide,Tryz.func99.trans (congrArg some (by kernel_rfl))⟩
 t0:=Tryz.underlying0
 a0:=Tryz.isAgg0
 z0:=Tryz.sizeOf0
 v0:=Tryz.zeroValue0
 t3:=Tryz.underlying3
 a3:=Tryz.isAgg3
 z3:=Tryz.sizeOf3
 v3:=Tryz.zeroValue3
 t4:=Tryz.underlying4
 a4:=Tryz.isAgg4
 z4:=Tryz.sizeOf4
 v4:=Tryz.zeroValue4
 t22:=Tryz.underlying58
 a22:=Tryz.isAgg58
 z22:=Tryz.sizeOf58
 v22:=Tryz.zeroValue58
 t25:=Tryz.underlying155
 a25:=Tryz.isAgg155
 z25:=Tryz.sizeOf155
 v25:=Tryz.zeroValue155 }
def Tryz.sortG_ren:Go.Shelf.Ren:=⟨fun | 6=>110 | 15=>144 | 14=>143 | 28=>169 | 29=>170 | 20=>161 | 21=>162 | 22=>163 | 23=>164 | 24=>165 | 25=>166 | 26=>167 | 27=>168 | 46=>186 | 47=>187 | 48=>188 | 49=>189 | 50=>190 | 57=>199 | n=>n,fun | 22=>56 | 24=>105 | 25=>148 | 3=>3 | 39=>47 | 0=>0 | 53=>191 | 55=>214 | 4=>4 | 46=>207 | 45=>206 | 50=>117 | 5=>5 | 9=>9 | 66=>237 | 70=>241 | 76=>254 | 77=>255 | n=>n,fun | n=>n⟩
theorem Tryz.sortG:Go.Proofs.SlLaysF0.n6 Tryz.prog Tryz.sortG_ren:={
 mixed:=by kernel_rfl
 f6:=⟨Tryz.f110.name,by decide,Tryz.func110.trans (congrArg some (by kernel_rfl))⟩
 f14:=⟨Tryz.f143.name,by decide,Tryz.func143.trans (congrArg some (by kernel_rfl))⟩
 f15:=Tryz.func144.trans (congrArg some (by kernel_rfl))
 f20:=⟨Tryz.f161.name,by decide,Tryz.func161.trans (congrArg some (by kernel_rfl))⟩
 f21:=⟨Tryz.f162.name,by decide,Tryz.func162.trans (congrArg some (by kernel_rfl))⟩
 f22:=⟨Tryz.f163.name,by decide,Tryz.func163.trans (congrArg some (by kernel_rfl))⟩
 f23:=⟨Tryz.f164.name,by decide,Tryz.func164.trans (congrArg some (by kernel_rfl))⟩
 f24:=⟨Tryz.f165.name,by decide,Tryz.func165.trans (congrArg some (by kernel_rfl))⟩
 f25:=⟨Tryz.f166.name,by decide,Tryz.func166.trans (congrArg some (by kernel_rfl))⟩
 f26:=⟨Tryz.f167.name,by decide,Tryz.func167.trans (congrArg some (by kernel_rfl))⟩
 f27:=⟨Tryz.f168.name,by decide,Tryz.func168.trans (congrArg some (by kernel_rfl))⟩
 f28:=Tryz.func169.trans (congrArg some (by kernel_rfl))
 f29:=Tryz.func170.trans (congrArg some (by kernel_rfl))
 f46:=⟨Tryz.f186.name,by decide,Tryz.func186.trans (congrArg some (by kernel_rfl))⟩
 f47:=Tryz.func187.trans (congrArg some (by kernel_rfl))
 f48:=Tryz.func188.trans (congrArg some (by kernel_rfl))
 f49:=⟨Tryz.f189.name,by decide,Tryz.func189.trans (congrArg some (by kernel_rfl))⟩
 f50:=⟨Tryz.f190.name,by decide,Tryz.func190.trans (congrArg some (by kernel_rfl))⟩
 f57:=⟨Tryz.f199.name,by decide,Tryz.func199.trans (congrArg some (by kernel_rfl))⟩
 t0:=Tryz.underlying0
 a0:=Tryz.isAgg0
 z0:=Tryz.sizeOf0
 v0:=Tryz.zeroValue0
 t3:=Tryz.underlying3
 a3:=Tryz.isAgg3
 z3:=Tryz.sizeOf3
 v3:=Tryz.zeroValue3
 t4:=Tryz.underlying4
 a4:=Tryz.isAgg4
 z4:=Tryz.sizeOf4
 v4:=Tryz.zeroValue4
 t5:=Tryz.underlying5
 a5:=Tryz.isAgg5
 z5:=Tryz.sizeOf5
 v5:=Tryz.zeroValue5
 t9:=Tryz.underlying9
 a9:=Tryz.isAgg9
 z9:=Tryz.sizeOf9
 v9:=Tryz.zeroValue9
 t22:=Tryz.underlying56
 a22:=Tryz.isAgg56
 z22:=Tryz.sizeOf56
 v22:=Tryz.zeroValue56
 t25:=Tryz.underlying148
 a25:=Tryz.isAgg148
 z25:=Tryz.sizeOf148
 v25:=Tryz.zeroValue148
 t39:=Tryz.underlying47
 a39:=Tryz.isAgg47
 z39:=Tryz.sizeOf47
 v39:=Tryz.zeroValue47
 t45:=Tryz.underlying206
 a45:=Tryz.isAgg206
 z45:=Tryz.sizeOf206
 v45:=Tryz.zeroValue206
 t46:=Tryz.underlying207
 a46:=Tryz.isAgg207
 z46:=Tryz.sizeOf207
 v46:=Tryz.zeroValue207
 t50:=Tryz.underlying117
 a50:=Tryz.isAgg117
 z50:=Tryz.sizeOf117
 v50:=Tryz.zeroValue117
 t53:=Tryz.underlying191
 a53:=Tryz.isAgg191
 z53:=Tryz.sizeOf191
 v53:=Tryz.zeroValue191
 t55:=Tryz.underlying214
 a55:=Tryz.isAgg214
 z55:=Tryz.sizeOf214
 v55:=Tryz.zeroValue214
 t66:=Tryz.underlying237
 a66:=Tryz.isAgg237
 z66:=Tryz.sizeOf237
 v66:=Tryz.zeroValue237
 t70:=Tryz.underlying241
 a70:=Tryz.isAgg241
 z70:=Tryz.sizeOf241
 v70:=Tryz.zeroValue241
 t76:=Tryz.underlying254
 a76:=Tryz.isAgg254
 z76:=Tryz.sizeOf254
 v76:=Tryz.zeroValue254
 t77:=Tryz.underlying255
 a77:=Tryz.isAgg255
 z77:=Tryz.sizeOf255
 v77:=Tryz.zeroValue255 }
def Tryz.lays167_ren:Go.Shelf.Ren:=⟨fun | 167=>72 | 240=>124 | 276=>150 | n=>n,fun | 0=>0 | 4=>4 | 5=>5 | 9=>9 | 20=>20 | 37=>129 | 70=>128 | 72=>131 | 75=>133 | 80=>137 | 164=>195 | n=>n,fun n=>n⟩
theorem Tryz.lays167:Go.Proofs.Lays.n167 Tryz.prog Tryz.lays167_ren:={
 mixed:=by kernel_rfl
 f167:=Tryz.func72.trans (congrArg some (by kernel_rfl))
 f240:=Tryz.func124.trans (congrArg some (by kernel_rfl))
 f276:=Tryz.func150.trans (congrArg some (by kernel_rfl))
 t0:=Tryz.underlying0
 a0:=Tryz.isAgg0
 z0:=Tryz.sizeOf0
 v0:=Tryz.zeroValue0
 t4:=Tryz.underlying4
 a4:=Tryz.isAgg4
 z4:=Tryz.sizeOf4
 v4:=Tryz.zeroValue4
 t5:=Tryz.underlying5
 a5:=Tryz.isAgg5
 z5:=Tryz.sizeOf5
 v5:=Tryz.zeroValue5
 t9:=Tryz.underlying9
 a9:=Tryz.isAgg9
 z9:=Tryz.sizeOf9
 v9:=Tryz.zeroValue9
 t20:=Tryz.underlying20
 a20:=Tryz.isAgg20
 z20:=Tryz.sizeOf20
 v20:=Tryz.zeroValue20
 t37:=Tryz.underlying129
 a37:=Tryz.isAgg129
 z37:=Tryz.sizeOf129
 v37:=Tryz.zeroValue129
 t70:=Tryz.underlying128
 a70:=Tryz.isAgg128
 z70:=Tryz.sizeOf128
 v70:=Tryz.zeroValue128
 t72:=Tryz.underlying131
 a72:=Tryz.isAgg131
 z72:=Tryz.sizeOf131
 v72:=Tryz.zeroValue131
 t75:=Tryz.underlying133
 a75:=Tryz.isAgg133
 z75:=Tryz.sizeOf133
 v75:=Tryz.zeroValue133
 t164:=Tryz.underlying195
 a164:=Tryz.isAgg195
 z164:=Tryz.sizeOf195
 v164:=Tryz.zeroValue195 }
theorem Tryz.Builder_Extra_167:Builder.Extra Tryz.prog Tryz.lays167_ren:={
 sizeBuilder:=by kernel_rfl
 liesBuilder:=by kernel_rfl
 t5:=Tryz.underlying5
 a5:=Tryz.isAgg5
 z5:=Tryz.sizeOf5
 v5:=Tryz.zeroValue5
 infoByte:=by kernel_rfl
 cellsByte:=by kernel_rfl
 sizeByte:=by kernel_rfl
 neB5:=by decide }
open Go.RowKit in
theorem Tryz.Builder_WriteByte (B b:Nat) (bs:List Value) (c:Int) (w:World) (h:Lib.IsBuilder 131 5 B b bs w) (hlen:bs.length + 1 ≤ 140737488355328) (hBw:B ≤ w.heap.size) :
  Calls Tryz.prog 72 #[.pointer (some ⟨b,0,none⟩),.int .u8 c] w fun e w'=>e = .returned .nilIface ∧ (Lib.BuilderAt 131 5 B b (.pointer (some ⟨b,0,none⟩)) (bs ++ [.int .u8 c]) w' ∧ Below B w w'):=Any.Builder_WriteByte Tryz.lays167 Tryz.Builder_Extra_167 B b bs c w h hlen hBw
def Tryz.lays166_ren:Go.Shelf.Ren:=⟨fun | 166=>73 | 240=>124 | 276=>150 | n=>n,fun | 0=>0 | 3=>3 | 4=>4 | 5=>5 | 9=>9 | 20=>20 | 37=>129 | 70=>128 | 72=>131 | 75=>133 | 80=>137 | 164=>195 | n=>n,fun n=>n⟩
theorem Tryz.lays166:Go.Proofs.Lays.n166 Tryz.prog Tryz.lays166_ren:={
 mixed:=by kernel_rfl
 f166:=Tryz.func73.trans (congrArg some (by kernel_rfl))
 f240:=Tryz.func124.trans (congrArg some (by kernel_rfl))
 f276:=Tryz.func150.trans (congrArg some (by kernel_rfl))
 t0:=Tryz.underlying0
 a0:=Tryz.isAgg0
 z0:=Tryz.sizeOf0
 v0:=Tryz.zeroValue0
 t3:=Tryz.underlying3
 a3:=Tryz.isAgg3
 z3:=Tryz.sizeOf3
 v3:=Tryz.zeroValue3
 t4:=Tryz.underlying4
 a4:=Tryz.isAgg4
 z4:=Tryz.sizeOf4
 v4:=Tryz.zeroValue4
 t9:=Tryz.underlying9
 a9:=Tryz.isAgg9
 z9:=Tryz.sizeOf9
 v9:=Tryz.zeroValue9
 t20:=Tryz.underlying20
 a20:=Tryz.isAgg20
 z20:=Tryz.sizeOf20
 v20:=Tryz.zeroValue20
 t37:=Tryz.underlying129
 a37:=Tryz.isAgg129
 z37:=Tryz.sizeOf129
 v37:=Tryz.zeroValue129
 t70:=Tryz.underlying128
 a70:=Tryz.isAgg128
 z70:=Tryz.sizeOf128
 v70:=Tryz.zeroValue128
 t72:=Tryz.underlying131
 a72:=Tryz.isAgg131
 z72:=Tryz.sizeOf131
 v72:=Tryz.zeroValue131
 t75:=Tryz.underlying133
 a75:=Tryz.isAgg133
 z75:=Tryz.sizeOf133
 v75:=Tryz.zeroValue133
 t164:=Tryz.underlying195
 a164:=Tryz.isAgg195
 z164:=Tryz.sizeOf195
 v164:=Tryz.zeroValue195 }
theorem Tryz.Builder_Extra_166:Builder.Extra Tryz.prog Tryz.lays166_ren:={
 sizeBuilder:=by kernel_rfl
 liesBuilder:=by kernel_rfl
 t5:=Tryz.underlying5
 a5:=Tryz.isAgg5
 z5:=Tryz.sizeOf5
 v5:=Tryz.zeroValue5
 infoByte:=by kernel_rfl
 cellsByte:=by kernel_rfl
 sizeByte:=by kernel_rfl
 neB5:=by decide }
open Go.RowKit in
theorem Tryz.Builder_WriteString (B b:Nat) (bs:List Value) (s:ByteArray) (w:World) (h:Lib.IsBuilder 131 5 B b bs w) (hlen:bs.length + s.size ≤ 140737488355328) (hBw:B ≤ w.heap.size) :
  Calls Tryz.prog 73 #[.pointer (some ⟨b,0,none⟩),.string s] w fun e w'=>e = .returned (.tuple #[.int .i64 s.size,.nilIface]) ∧ (Lib.BuilderAt 131 5 B b (.pointer (some ⟨b,0,none⟩)) (bs ++ Lib.strCells s) w' ∧ Below B w w'):=Any.Builder_WriteString Tryz.lays166 Tryz.Builder_Extra_166 B b bs s w h hlen hBw
end Go.Proofs
namespace Go.Proofs.YtggifbbiiickmaaGreatDoor
open Go.RowKit Go.Proofs.zx.zJ
theorem pI {x:Int} (a:-9223372036854775808 ≤ x) (b:x ≤ 9223372036854775807):wrap64 x = x:=IntWalk.wrap64_in x ⟨a,b⟩
theorem zR {α:Type} {c:Prop} [Decidable c] {a b:Nat → Option α} {r:α} (h:c) (k:Ev a r):Ev (fun n=>if c then a n else b n) r:=by
 simp only [if_pos h];exact k
theorem yG {α:Type} {c:Prop} [Decidable c] {a b:Nat → Option α} {r:α} (h:¬ c) (k:Ev b r):Ev (fun n=>if c then a n else b n) r:=by
 simp only [if_neg h];exact k
theorem Vb {α β:Type} {x:Option α} {y:α} {f:Nat → α → Option β} {r:β} (h:x = some y) (k:Ev (fun n=>f n y) r):Ev (fun n=>x.bind (f n)) r:=by
 subst h;exact k
theorem jR {α:Type} {g:Nat → Option α} {r r':α} (h:r = r') (k:Ev g r):Ev g r':=h ▸ k
def bar (l:List UInt8):ByteArray:=⟨l.toArray⟩
theorem zvI (l:List UInt8):(bar l).data.toList = l:=rfl
theorem X7 (l:List UInt8):(bar l).size = l.length:=by simp [bar,ByteArray.size]
theorem zb3 (s:ByteArray):bar s.data.toList = s:=by
 apply ByteArray.ext;apply Array.toList_inj.1;rfl
theorem zb4 (l:List UInt8) (i:Int) (h:i.toNat < l.length):bt (bar l) i = (l[i.toNat].toNat:Int):=by
 unfold bt
 rw [dif_pos (by rw [X7];exact h)]
 rfl
theorem zyk (s:ByteArray):∃ l,s = bar l:=⟨s.data.toList,(zb3 s).symm⟩
theorem zyy (l:List UInt8) (i:Nat) (h:i < l.length):bt (bar l) (i:Int) = (l[i].toNat:Int):=zb4 l i (by simpa using h)
theorem zKd {α:Type} (d:α) (l:List α) (i:Nat):X3 d l (i:Int) = l.getD i d:=rfl
end Go.Proofs.YtggifbbiiickmaaGreatDoor
namespace Go.Proofs.YtggifbbiiickmaaGreatDoor
open Go.RowKit
structure GW (w:World):Prop where
 tab:Lib.TabIs Tryz.prog w "internal/strconv.uint64pow10" .u64 Lib.pow10Tab
 zb5:∃ tp p,w.var? Tryz.prog "strconv.ErrSyntax" = some #[.iface tp p]
 rng:∃ tp p,w.var? Tryz.prog "strconv.ErrRange" = some #[.iface tp p]
 spc:Lib.TabIs Tryz.prog w "strings.asciiSpace" .u8 Lib.asciiSpaceTab
 mx:∃ m,w.cell? ⟨2,0,none⟩ = some (.int .i64 m)
 inside:10 < w.heap.size
theorem GW.under {w w':World} (h:GW w) (hb:Below w.heap.size w w'):GW w':=by
 obtain ⟨t1,p1,e1⟩:=h.zb5
 obtain ⟨t2,p2,e2⟩:=h.rng
 obtain ⟨m,e3⟩:=h.mx
 have hi:=h.inside
 exact ⟨var?_below hb (by kernel_rfl) (by omega:7 < w.heap.size) h.tab,⟨t1,p1,var?_below hb (by kernel_rfl) (by omega:3 < w.heap.size) e1⟩,⟨t2,p2,var?_below hb (by kernel_rfl) (by omega:4 < w.heap.size) e2⟩,
  var?_below hb (by kernel_rfl) (by omega:0 < w.heap.size) h.spc,
  ⟨m,(hb.cell (p:=⟨2,0,none⟩) (by show 2 < w.heap.size;omega)).trans e3⟩,Nat.lt_of_lt_of_le hi hb.size⟩
end Go.Proofs.YtggifbbiiickmaaGreatDoor
namespace Go.Proofs.YtggifbbiiickmaaGreatDoor
open Go.RowKit
def zvQ (l:List UInt8):Int:=match Lib.atoiAll l with | .ok v=>v | .range=>Lib.atoiSat l | _=>0
def oV (l:List UInt8):Bool:=match Lib.atoiAll l with | .ok _=>true | _=>false
theorem zKe (s:ByteArray) (w:World) (hs:s.size ≤ 140737488355328) (hG:GW w) :
  Calls Tryz.prog 116 #[.string s] w fun e w'=>∃ ev,e = .returned (.tuple #[.int .i64 (zvQ s.data.toList),ev]) ∧ (oV s.data.toList = true → ev = .nilIface) ∧ (oV s.data.toList = false → ∃ te pe,ev = .iface te pe) ∧ Below w.heap.size w w':=by
 unfold zvQ oV
 cases h:Lib.atoiAll s.data.toList with
 | ok v =>
  refine (Tryz.strconv_Atoi_ok s (by omega) v h w).mono fun e w' ⟨h1,h2⟩=>⟨.nilIface,h1,fun _=>rfl,(fun h=>nomatch h),?_⟩
  rcases h2 with rfl | ⟨t,rfl⟩
  ·exact Below.refl _ _
  ·exact Lib.bytesWorld_below _ _ _
 | range =>
  obtain ⟨tp,p,hv⟩:=hG.rng
  exact (Tryz.strconv_Atoi_range_var s (by omega) h tp p w hv).mono fun e w' ⟨N,h1,_,_,h2⟩=>⟨_,h1,(fun h=>nomatch h),fun _=>⟨_,_,rfl⟩,h2⟩
 | _ =>
  obtain ⟨tp,p,hv⟩:=hG.zb5
  exact (Tryz.strconv_Atoi_syntax_var s (by omega) h tp p w hv).mono fun e w' ⟨N,h1,_,_,h2⟩=>⟨_,h1,(fun h=>nomatch h),fun _=>⟨_,_,rfl⟩,h2⟩
end Go.Proofs.YtggifbbiiickmaaGreatDoor
namespace Go.Proofs.YtggifbbiiickmaaGreatDoor
open Go.RowKit Go.Shelf
def okB (b:UInt8):Bool:=decide (33 ≤ b.toNat) && decide (b.toNat ≤ 126)
def Zd (l:List UInt8):Bool:=decide (1 ≤ l.length) && (decide (l.length ≤ 10) && l.all okB)
def Ki (b:UInt8):Bool:=(decide (97 ≤ b.toNat) && decide (b.toNat ≤ 122)) || (decide (65 ≤ b.toNat) && decide (b.toNat ≤ 90))
def zvL (b:UInt8):Bool:=decide (48 ≤ b.toNat) && decide (b.toNat ≤ 57)
def oK (l:List UInt8):Bool:=decide (1 ≤ l.length) && (decide (l.length ≤ 10) && (l.all (fun b=>Ki b || zvL b) && (l.head?.map Ki).getD false))
def jh (r:Nat):Bool:=decide (r < 33) || decide (126 < r)
theorem zvM (s:ByteArray):∀ (f pos:Nat),s.size ≤ pos + f → pos ≤ s.size → (0 ≤ Lib.idxFuncFrom jh true s f pos ↔ ¬ ((s.data.toList.drop pos).all okB = true)):=by
 intro f
 induction f with
 | zero =>
  intro pos h1 h2
  rw [Lib.idxFuncFrom_end _ _ _ _ _ (by omega),List.drop_eq_nil_of_le (by simp;omega)]
  simp
 | succ f ih =>
  intro pos h1 h2
  by_cases hp:pos < s.size
  ·have hd:s.data.toList.drop pos = s[pos] :: s.data.toList.drop (pos + 1):=by
    rw [List.drop_eq_getElem_cons (by simpa using hp)];rfl
   rw [hd,List.all_cons]
   unfold Lib.idxFuncFrom
   rw [if_pos hp]
   by_cases ha:s[pos].toNat < 128
   ·rw [decode_ascii s pos hp ha]
    simp only
    by_cases hb:okB s[pos] = true
    ·have hn:jh s[pos].toNat = false:=by
      unfold okB at hb;unfold jh;simp at hb ⊢;omega
     rw [hn,if_neg (by simp),ih (pos + 1) (by omega) (by omega),hb]
     simp
    ·have hn:jh s[pos].toNat = true:=by
      unfold okB at hb;unfold jh;simp at hb ⊢;omega
     rw [hn,if_pos rfl]
     simp [hb]
   ·have hh:=decode_high s pos hp (by omega)
    have hn:jh (Utf8.decode s pos).1 = true:=by unfold jh;simp;omega
    have hb:okB s[pos] = false:=by unfold okB;simp;omega
    rw [hn,if_pos rfl,hb]
    simp
  ·rw [Lib.idxFuncFrom_end _ _ _ _ _ hp,List.drop_eq_nil_of_le (by simp;omega)]
   simp
theorem zXg (w:World):PredAt Tryz.prog 131 #[] encR jh w:=fun W r _=>by
 unfold FnGives
 show Calls Tryz.prog 131 #[.int .i32 r] W _
 by_cases h1:r < 33
 ·have e1:jh r = true:=by unfold jh;simp [h1]
  have d1:decide ((r:Int) < 33) = true:=by simp;omega
  rw [e1];clear e1 h1
  go_enter Tryz.func131,Tryz.ntmps131
  go_wp2
  go_ret
  exact ⟨rfl,0,rfl⟩
 ·have d1:decide ((r:Int) < 33) = false:=by simp;omega
  by_cases h2:126 < r
  ·have e1:jh r = true:=by unfold jh;simp [h2]
   have d2:decide ((126:Int) < (r:Int)) = true:=by simp;omega
   rw [e1];clear e1 h1 h2
   go_enter Tryz.func131,Tryz.ntmps131
   go_wp2
   go_ret
   exact ⟨rfl,0,rfl⟩
  ·have e1:jh r = false:=by unfold jh;simp;omega
   have d2:decide ((126:Int) < (r:Int)) = false:=by simp;omega
   rw [e1];clear e1 h1 h2
   go_enter Tryz.func131,Tryz.ntmps131
   go_wp2
   go_ret
   exact ⟨rfl,0,rfl⟩
set_option maxRecDepth 100000 in
theorem zJ4 (s:ByteArray) (w:World) :
  Calls Tryz.prog 88 #[.string s] w fun e w'=>e = .returned (.bool (Zd s.data.toList)) ∧ Below w.heap.size w w':=by
 have hl:s.data.toList.length = s.size:=Array.length_toList
 have hc:=Tryz.strings_ContainsFunc 131 #[] (enters_of Tryz.func131 (by kernel_rfl) rfl) jh s w (zXg w)
 have hv:decide (0 ≤ Lib.idxFunc jh true s) = !(s.data.toList.all okB):=by
  have:=zvM s s.size 0 (by omega) (by omega)
  rw [List.drop_zero] at this
  unfold Lib.idxFunc
  cases h:s.data.toList.all okB with
  | true=>rw [h] at this;simp at this;simp;omega
  | false=>rw [h] at this;simp at this;simp [this]
 rw [hv] at hc
 unfold Zd
 rw [hl]
 generalize s.data.toList.all okB = b at hc ⊢
 clear hl hv
 by_cases h1:1 ≤ s.size
 ·have d1:decide (1 ≤ s.size) = true:=decide_eq_true h1
  have g1:decide ((1:Int) ≤ (s.size:Int)) = true:=by simp;omega
  by_cases h2:s.size ≤ 10
  ·have d2:decide (s.size ≤ 10) = true:=decide_eq_true h2
   have g2:decide ((s.size:Int) ≤ 10) = true:=by simp;omega
   rw [d1,d2]
   clear d1 d2
   cases b with
   | true =>
    go_enter Tryz.func88,Tryz.ntmps88
    go_wp2_with (go_at_call 81;refine hc.mono ?_;rintro e w1 ⟨rfl,hb1⟩)
    go_ret
    exact ⟨rfl,hb1⟩
   | false =>
    go_enter Tryz.func88,Tryz.ntmps88
    go_wp2_with (go_at_call 81;refine hc.mono ?_;rintro e w1 ⟨rfl,hb1⟩)
    go_ret
    exact ⟨rfl,hb1⟩
  ·have d2:decide (s.size ≤ 10) = false:=decide_eq_false h2
   have g2:decide ((s.size:Int) ≤ 10) = false:=by simp;omega
   rw [d1,d2]
   clear d1 d2 hc
   go_enter Tryz.func88,Tryz.ntmps88
   go_wp2
   go_ret
   exact ⟨rfl,Below.refl _ _⟩
 ·have d1:decide (1 ≤ s.size) = false:=decide_eq_false h1
  have g1:decide ((1:Int) ≤ (s.size:Int)) = false:=by simp;omega
  rw [d1]
  clear d1 hc
  go_enter Tryz.func88,Tryz.ntmps88
  go_wp2
  go_ret
  exact ⟨rfl,Below.refl _ _⟩
theorem zj0 {P:UInt8 → Prop} (h:∀ n:Fin 256,P (UInt8.ofNat n.val)) (c:UInt8):P c:=by
 have:=h ⟨c.toNat,c.toNat_lt⟩
 rwa [UInt8.ofNat_toNat] at this
theorem zJ5 (c:UInt8):decide (0 ≤ Lib.indexByte (⟨#[97,98,99,100,101,102,103,104,105,106,107,108,109,110,111,112,113,114,115,116,117,118,119,120,121,122,65,66,67,68,69,70,71,72,73,74,75,76,77,78,79,80,81,82,83,84,85,86,87,88,89,90]⟩:ByteArray).data.toList c) = Ki c :=
 zj0 (P:=fun c=>decide (0 ≤ Lib.indexByte (⟨#[97,98,99,100,101,102,103,104,105,106,107,108,109,110,111,112,113,114,115,116,117,118,119,120,121,122,65,66,67,68,69,70,71,72,73,74,75,76,77,78,79,80,81,82,83,84,85,86,87,88,89,90]⟩:ByteArray).data.toList c) = Ki c) (by decide +kernel) c
theorem zXh (c:UInt8):((⟨#[97,98,99,100,101,102,103,104,105,106,107,108,109,110,111,112,113,114,115,116,117,118,119,120,121,122,65,66,67,68,69,70,71,72,73,74,75,76,77,78,79,80,81,82,83,84,85,86,87,88,89,90,48,49,50,51,52,53,54,55,56,57]⟩:ByteArray).data.toList.contains c) = (Ki c || zvL c) :=
 zj0 (P:=fun c=>((⟨#[97,98,99,100,101,102,103,104,105,106,107,108,109,110,111,112,113,114,115,116,117,118,119,120,121,122,65,66,67,68,69,70,71,72,73,74,75,76,77,78,79,80,81,82,83,84,85,86,87,88,89,90,48,49,50,51,52,53,54,55,56,57]⟩:ByteArray).data.toList.contains c) = (Ki c || zvL c)) (by decide +kernel) c
theorem dropWhile_nil {α:Type} (p:α → Bool) (l:List α):(l.dropWhile p).isEmpty = l.all p:=by
 induction l with
 | nil=>rfl
 | cons a l ih =>
  rw [List.dropWhile_cons,List.all_cons]
  cases h:p a with
  | true=>simpa using ih
  | false=>rfl
theorem aH {α:Type} (p:α → Bool) (l:List α) (h:(l.dropWhile p).all p = true):l.all p = true:=by
 induction l with
 | nil=>rfl
 | cons a l ih =>
  rw [List.dropWhile_cons] at h
  cases hp:p a with
  | true=>rw [hp] at h;rw [List.all_cons,hp,ih (by simpa using h)];rfl
  | false=>rw [hp] at h;simp [hp] at h
theorem zJ6 (l cs:List UInt8):(Lib.trimS l cs).isEmpty = l.all (cs.contains ·):=by
 unfold Lib.trimS Lib.trimLeftS
 rw [dropWhile_nil]
 unfold Lib.trimRightS
 rw [List.all_reverse]
 cases h:(List.dropWhile (fun x=>cs.contains x) l.reverse).all (fun x=>cs.contains x) with
 | true =>
  have:=aH _ _ h
  rw [List.all_reverse] at this
  exact this.symm
 | false =>
  cases h2:l.all (fun x=>cs.contains x) with
  | false=>rfl
  | true =>
   have h3:(List.dropWhile (fun x=>cs.contains x) l.reverse).isEmpty = true:=by rw [dropWhile_nil,List.all_reverse];exact h2
   rw [List.isEmpty_iff.1 h3] at h
   exact absurd h (by simp)
set_option maxRecDepth 100000 in
theorem zJ7 (s:ByteArray) (w:World) (hs:s.size ≤ 9223372036854775807) :
  Calls Tryz.prog 129 #[.string s,.string ⟨#[97,98,99,100,101,102,103,104,105,106,107,108,109,110,111,112,113,114,115,116,117,118,119,120,121,122,65,66,67,68,69,70,71,72,73,74,75,76,77,78,79,80,81,82,83,84,85,86,87,88,89,90,48,49,50,51,52,53,54,55,56,57]⟩] w fun e w'=>∃ r:ByteArray,e = .returned (.string r) ∧ r.toList.isEmpty = s.data.toList.all (fun b=>Ki b || zvL b) ∧ Below w.heap.size w w':=by
 refine (Any.strings_Trim_laid Tryz.lays160 (by kernel_rfl) s ⟨#[97,98,99,100,101,102,103,104,105,106,107,108,109,110,111,112,113,114,115,116,117,118,119,120,121,122,65,66,67,68,69,70,71,72,73,74,75,76,77,78,79,80,81,82,83,84,85,86,87,88,89,90,48,49,50,51,52,53,54,55,56,57]⟩ w hs (by decide) (ascii_of_all (by decide +kernel))).mono fun e w' ⟨h1,h2⟩=>⟨_,h1,?_,h2⟩
 rw [ByteArray.toList_eq]
 show (Lib.trimS s.data.toList _).isEmpty = _
 rw [zJ6]
 congr 1
 funext b
 exact zXh b
set_option maxRecDepth 100000 in
set_option maxHeartbeats 1000000 in
theorem zvk (s:ByteArray) (w:World) :
  Calls Tryz.prog 85 #[.string s] w fun e w'=>e = .returned (.bool (oK s.data.toList)) ∧ Below w.heap.size w w':=by
 have hl:s.data.toList.length = s.size:=Array.length_toList
 have ht0:=fun h:s.size ≤ 10=>zJ7 s w (by omega)
 unfold oK
 rw [hl]
 clear hl
 by_cases h1:1 ≤ s.size
 ·have d1:decide (1 ≤ s.size) = true:=decide_eq_true h1
  have g1:decide ((1:Int) ≤ (s.size:Int)) = true:=by simp;omega
  by_cases h2:s.size ≤ 10
  ·have ht:=ht0 h2
   clear ht0
   have d2:decide (s.size ≤ 10) = true:=decide_eq_true h2
   have g2:decide ((s.size:Int) ≤ 10) = true:=by simp;omega
   rw [d1,d2]
   have hh:(s.data.toList.head?.map Ki).getD false = Ki s[0]:=by
    have:s.data.toList.head? = some s[0]:=by
     rw [List.head?_eq_getElem?,List.getElem?_eq_getElem (by simp;omega)];rfl
    rw [this];rfl
   rw [hh]
   clear d1 d2 hh
   generalize s.data.toList.all (fun b=>Ki b || zvL b) = al at ht ⊢
   have hi:=fun W=>Tryz.strings_IndexByte ⟨#[97,98,99,100,101,102,103,104,105,106,107,108,109,110,111,112,113,114,115,116,117,118,119,120,121,122,65,66,67,68,69,70,71,72,73,74,75,76,77,78,79,80,81,82,83,84,85,86,87,88,89,90]⟩ (s[0].toNat:Int) W
   have hc8:((s[0].toNat:Int).toNat.toUInt8) = s[0]:=by rw [Int.toNat_natCast];exact UInt8.ofNat_toNat
   rw [hc8] at hi
   have hx:=zJ5 s[0]
   generalize Lib.indexByte (⟨#[97,98,99,100,101,102,103,104,105,106,107,108,109,110,111,112,113,114,115,116,117,118,119,120,121,122,65,66,67,68,69,70,71,72,73,74,75,76,77,78,79,80,81,82,83,84,85,86,87,88,89,90]⟩:ByteArray).data.toList s[0] = ix at hi hx
   have HX:=Lib.hid hx
   clear hx hc8
   cases al with
   | false =>
    go_enter Tryz.func85,Tryz.ntmps85
    go_wp2_with (go_at_call 129;refine ht.mono ?_;rintro e w1 ⟨r,rfl,hr,hb1⟩)
    all_goals first | (exfalso;simp_all;done) | skip
    go_ret
    exact ⟨rfl,hb1⟩
   | true =>
    cases hb:Ki s[0] with
    | true =>
     rw [hb] at HX
     have g3:decide (0 ≤ ix) = true:=HX.out
     go_enter Tryz.func85,Tryz.ntmps85
     go_wp2_with (first | (go_at_call 129;refine ht.mono ?_;rintro e w1 ⟨r,rfl,hr,hb1⟩) | (go_at_call 113;refine (hi _).mono ?_;rintro e w2 ⟨rfl,rfl⟩))
     all_goals first | (exfalso;simp_all;done) | skip
     go_ret
     exact ⟨rfl,hb1⟩
    | false =>
     rw [hb] at HX
     have g3:decide (0 ≤ ix) = false:=HX.out
     go_enter Tryz.func85,Tryz.ntmps85
     go_wp2_with (first | (go_at_call 129;refine ht.mono ?_;rintro e w1 ⟨r,rfl,hr,hb1⟩) | (go_at_call 113;refine (hi _).mono ?_;rintro e w2 ⟨rfl,rfl⟩))
     all_goals first | (exfalso;simp_all;done) | skip
     go_ret
     exact ⟨rfl,hb1⟩
  ·have d2:decide (s.size ≤ 10) = false:=decide_eq_false h2
   have g2:decide ((s.size:Int) ≤ 10) = false:=by simp;omega
   rw [d1,d2]
   clear d1 d2 ht0
   go_enter Tryz.func85,Tryz.ntmps85
   go_wp2
   go_ret
   exact ⟨rfl,Below.refl _ _⟩
 ·have d1:decide (1 ≤ s.size) = false:=decide_eq_false h1
  have g1:decide ((1:Int) ≤ (s.size:Int)) = false:=by simp;omega
  rw [d1]
  clear d1 ht0
  go_enter Tryz.func85,Tryz.ntmps85
  go_wp2
  go_ret
  exact ⟨rfl,Below.refl _ _⟩
end Go.Proofs.YtggifbbiiickmaaGreatDoor
namespace Go.Proofs.YtggifbbiiickmaaGreatDoor
open Go.RowKit Go.Proofs.zx.zJ Go.Proofs.zx.zo Go.Proofs.YtggifbbiiickmaaGreatDoor.PX
set_option linter.unusedSimpArgs false
set_option linter.unusedVariables false
end Go.Proofs.YtggifbbiiickmaaGreatDoor
namespace Go.Proofs.YtggifbbiiickmaaGreatDoor
open Go.RowKit Go.Proofs.zx.zJ Go.Proofs.zx.zo Go.Proofs.YtggifbbiiickmaaGreatDoor.PX
set_option linter.unusedSimpArgs false
set_option linter.unusedVariables false
end Go.Proofs.YtggifbbiiickmaaGreatDoor
namespace Go.Proofs.YtggifbbiiickmaaGreatDoor.PX
open Go.RowKit Go.Proofs.zx.zJ Go.Proofs.zx.zu Go.Proofs.zx.zo
attribute [local go_sem] yU y7 qX qJ yM yN y8 y9   -- for this text's walks alone
set_option linter.unusedVariables false
set_option linter.unusedSimpArgs false
def Z7.l0:Nat → ByteArray → Int → ByteArray → Bool → Int → List (zzu) → List (zb1) → List (zb2) → Option (Bool)
 | 0,_,_,_,_,_,_,_,_=>none
 | k + 1,x1,x5,zaq,zax,zaj,zzB,zav,zak=>if x5 < (zzB.length:Int) then (if 0 ≤ x5 then (if ((zzA zzB x5).f0).toList = x1.toList then (some true) else (Z7.l0 k x1 (wrap64 (x5 + 1)) zaq zax zaj zzB zav zak)) else (none)) else (some false)
end Go.Proofs.YtggifbbiiickmaaGreatDoor.PX
namespace Go.Proofs.YtggifbbiiickmaaGreatDoor.PX
open Go.RowKit Go.Proofs.zx.zJ Go.Proofs.zx.zu Go.Proofs.zx.zo
attribute [local go_sem] yU y7 qX qJ yM yN y8 y9   -- for this text's walks alone
set_option linter.unusedVariables false
set_option linter.unusedSimpArgs false
end Go.Proofs.YtggifbbiiickmaaGreatDoor.PX
