/-
  Texts that lean on one another, laid in one file. No condition.
-/
import Derived.Below
import Derived.Deep.Draws
import Derived.Deep.AppendLies
import Derived.Maps.AppendAt
import Derived.OwnWalk
import Derived.Laws.BytesArg
import Derived.Laws.MakeOwn
import Derived.Laws.OwnMore
import Derived.Deep.OwnRows
import Derived.Tactics
import Derived.Lib.ConvBytes
import Derived.Laws.Slices
import Derived.WalkKit
import Derived.KernelRfl
import Derived.RowKit3
import Derived.Deep.LoopGhost
import Derived.Deep.QuietTactic
import Derived.BigQuiet
import Derived.WideLaws
import Derived.Deep.DeepCutAuto
import Derived.Deep.CutBlock
import Derived.Deep.RegionHeld3
import Derived.Laws.Rows
import Derived.Lib.AppendStr
import Derived.ArgAppend
import Derived.Laws.IdiomCopy
import Derived.RowKit
import Derived.OrdersHeld
import Derived.Laws.BitsLemmas
import Derived.Laws.StructEq
import Derived.Test.YtggifbbiiickmaaGreatDoorProg
import Derived.Laws.Cover1
import Derived.ProofKit
import Derived.Handed
import Derived.HandedShaped
import Derived.OpenShut
import Derived.ShutString
import Derived.ChangeOld
import Derived.Carry
import Derived.LaidMore
import Derived.Lay
import Derived.Shelf.Vars
import Derived.Lib.LaidU8
import Derived.Lib.LaidTab
import Derived.ChangeSlices
import Derived.Shelf.Strings.Builder1
import Derived.Shelf.Strings.Trim
import Derived.Shelf.Small.Utf8
import Derived.Shelf.Small.Bits
import Derived.Shelf.Small.Strs
import Derived.Shelf.Strings.BuilderF
import Derived.Shelf.Strings.BuilderK
import Derived.Shelf.Strconv.Atoi
import Derived.Shelf.Strconv.Itoa0
import Derived.Shelf.Strconv.Itoa1
import Derived.Shelf.LaysM
import Derived.Shelf.Strconv.Itoa2
import Derived.Shelf.Strconv.Itoa3
import Derived.Shelf.Strconv.AtoiErrFast
import Derived.Shelf.Strconv.ParseIntEmpty
import Derived.Shelf.Strconv.AtoiFail
import Derived.Shelf.Strconv.Clone
import Derived.Shelf.Strconv.SyntaxError
import Derived.Shelf.LaysC
import Derived.Shelf.Strconv.ToError
import Derived.Shelf.Strconv.AtoiErr
import Derived.Shelf.Strconv.ErrVar
import Derived.Shelf.Strconv.Lower
import Derived.Shelf.Strconv.ParseUint10
import Derived.Shelf.Strconv.ParseUint10Empty
import Derived.Shelf.Strconv.ParseUint10Any
import Derived.Shelf.Strconv.ParseInt10
import Derived.Shelf.Strconv.AtoiLong
import Derived.Shelf.Strconv.AtoiInnerAll
import Derived.Shelf.Strconv.RangeError
import Derived.Shelf.Strconv.ToErrorRange
import Derived.Shelf.Strconv.AtoiAll
import Derived.Shelf.Strconv.ErrVarAll
import Derived.Shelf.Strconv.ParseUintEmpty
import Derived.Shelf.Strconv.ParseUint10b64
import Derived.Shelf.Strconv.ParseUint10b32
import Derived.Shelf.Strconv.ParseUint10b16
import Derived.Shelf.Strconv.ParseUint10b8
import Derived.Shelf.Strconv.ParseUint10At
import Derived.Shelf.Strconv.ParseInt10At64
import Derived.Shelf.Strconv.ParseInt10At32
import Derived.Shelf.Strconv.ParseInt10At16
import Derived.Shelf.Strconv.ParseInt10At8
import Derived.Shelf.Strconv.ParseInt10All
import Derived.Shelf.Strings.Search1
import Derived.Shelf.Strings.Search2
import Derived.Shelf.Strings.Search3
import Derived.Shelf.Strings.Shaped
import Derived.Shelf.GgClosure.StringsIndexFunc
import Derived.Ground.GgwProg
import Derived.Shelf.GgClosure.StringsIndexFuncTop
import Derived.Shelf.GgClosure.StringsRunes
import Derived.Shelf.Strings.Fields
import Derived.Shelf.Strings.SplitShaped
import Derived.Shelf.Unicode.Latin
import Derived.Shelf.Unicode.Decode
import Derived.Shelf.Strings.Runes
import Derived.Shelf.Strings.AsciiSet
import Derived.Shelf.Unicode.DecodeSlow
import Derived.Shelf.Unicode.DecodeAny
import Derived.Shelf.Unicode.Is16White
import Derived.Shelf.Unicode.IsSpaceAny
import Derived.Shelf.Unicode.DecodeLast
import Derived.Shelf.Unicode.Is16WhiteD
import Derived.Shelf.Unicode.IsSpaceAnyD
import Derived.Shelf.Strings.FieldsAny
import Derived.Shelf.Strings.FieldsFuncAny
import Derived.Shelf.Unicode.Is16Any
import Derived.Shelf.Unicode.Is32Any
import Derived.Shelf.Unicode.ExclAny
import Derived.Shelf.Strings.FuncGrows
import Derived.Shelf.Strings.FieldsFuncGrows
import Derived.Shelf.Strings.BuilderCap
import Derived.Ground.Names2Prog
import Derived.Shelf.Slices.Clone
import Derived.Ground.SlgnProg
import Derived.Shelf.SlicesE.Clone
import Derived.Ground.SlgfProg
import Derived.Shelf.SlicesQ.IndexFunc
import Derived.Shelf.SlSortCmp.WholeK
import Derived.Ground.SlsfProg
import Derived.Lib.ItoaNum
import Derived.Lib.Strings
import Derived.IntWalk
import Derived.WalkSmall
import Derived.Shelf.Strings.SlTrimAscii
import Derived.Laws.RangeAny
import Derived.Laws.RangeString
import Derived.WalkSpells
import Derived.Outline
import Derived.Lib.Hide
set_option linter.unusedVariables false
set_option linter.unusedSimpArgs false
namespace Go.Proofs.zk.zu
open Go.RowKit
structure zx (p:Prop):Prop where mk :: (out:p)
structure yt (w w':World):Prop where mk :: (out:∃ n,w' = w.drewN n)
theorem yt.refl (w:World):yt w w:=⟨⟨0,rfl⟩⟩
theorem yt.step {w w':World} (h:yt w w') (n:Nat):yt w (w'.drewN n):=by
  obtain ⟨m,rfl⟩:=h
  exact ⟨⟨m + n,World.drewN_drewN ..⟩⟩
theorem yt.grown {w w':World} (h:yt w w'):Grown w w':=by
  obtain ⟨n,rfl⟩:=h
  induction n with
  | zero=>exact Grown.refl _
  | succ n ih=>rw [← World.drew_drewN];exact Grown.drew ih
theorem yt.below {w w':World} (h:yt w w'):Below w.heap.size w w':=by
  obtain ⟨n,rfl⟩:=h
  induction n with
  | zero=>exact Below.refl _ _
  | succ n ih=>rw [← World.drew_drewN];exact ih.drew
def rd (xs:List Int) (i:Int):Int:=xs.getD i.toNat 0
def bt (s:ByteArray) (i:Int):Int:=if h:i.toNat < s.size then ((s[i.toNat]'h).toNat:Int) else 0
theorem Wq (s:ByteArray) (i:Int):∀ h:i.toNat < s.size,((s[i.toNat]'h).toNat:Int) = bt s i:=fun h=>by simp [bt,h]
theorem yX {w W:World} (h:Below w.heap.size w W) (o:Obj):Below w.heap.size w (W.alloc o):=h.alloc h.size o
theorem Wx {B:Nat} {w W:World} (h:Below B w W):Below B w W.drew:=⟨h.os,h.tape,h.output,h.size,h.block⟩
theorem zL {B:Nat} {w W:World} (h:Below B w W) (n:Nat):Below B w (W.drewN n):=⟨h.os,h.tape,h.output,h.size,h.block⟩
theorem zYm {B:Nat} {w w1 w2:World} (h:Below B w w1) (hB:B ≤ w1.heap.size) (k:Below w1.heap.size w1 w2):Below B w w2 :=
  h.trans ⟨k.os,k.tape,k.output,k.size,fun i hi=>k.block i (Nat.lt_of_lt_of_le hi hB)⟩
theorem zvT {w w1:World} (h:Below w.heap.size w w1) (row:Option Nat):w.grownBy w1 row:=⟨h.os,h.tape,h.output,h.size,fun i hi _=>h.block i hi⟩
theorem dU {w w1:World} (h:Below w.heap.size w w1) {a:Addr} {v:Value} (hc:w.cell? a = some v):w1.cell? a = some v:=(h.cell (World.block_lt_of_cell? w a hc)).trans hc
theorem add_plain (g j:Nat):(⟨g,0,none⟩:Addr).add j = ⟨g,j,none⟩:=by unfold Addr.add;split <;> simp_all
def wN (w:World) (k:IntKind) (A:Option Addr) (n:Nat) (xs:List Int):Prop :=
  xs.length = n ∧ n ≤ 9223372036854775807 ∧ (0 < n → ∃ ad,A = some ad ∧ ∀ j,j < n → w.cell? (ad.add j) = some (.int k (xs.getD j 0)))
theorem wN.at_ {w:World} {k:IntKind} {A:Option Addr} {n:Nat} {xs:List Int} (h:wN w k A n xs) (i:Int) (h0:0 ≤ i) (h1:i < n):∃ ad,A = some ad ∧ w.cell? (ad.add i.toNat) = some (.int k (rd xs i)):=by
  obtain ⟨ad,e,hc⟩:=h.2.2 (by omega)
  exact ⟨ad,e,hc _ (by omega)⟩
theorem wN.below {w w1:World} {k:IntKind} {A:Option Addr} {n:Nat} {xs:List Int} (h:wN w k A n xs) (hb:Below w.heap.size w w1):wN w1 k A n xs :=
  ⟨h.1,h.2.1,fun hn=>by
    obtain ⟨ad,e,hc⟩:=h.2.2 hn
    exact ⟨ad,e,fun j hj=>dU hb (hc j hj)⟩⟩
theorem zfs (W:World) (base:Nat) (e:TypeId) (size:Nat):W.ownsRow base e size (.slice none 0 0) 0 []:=⟨by simp,.inl ⟨rfl,rfl⟩⟩
theorem VP {w:World} {base:Nat} {e:TypeId} {size n:Nat} {v:Value} {xs:List Value} (h:w.ownsRow base e size v n xs) (k:Nat) (hk:v.ownBlock = some k):base ≤ k:=by
  rcases h.2 with ⟨rfl,_⟩ | ⟨g,cap,cur,rfl,hb,_⟩
  · simp [Value.ownBlock] at hk
  · have:g = k:=by simpa [Value.ownBlock] using hk
    omega
theorem zaJ {w:World} {base:Nat} {e:TypeId} {size n:Nat} {v:Value} {xs:List Value} (h:w.ownsRow base e size v n xs) (k:Nat) (hk:v.ownBlock = some k):k < w.heap.size:=by
  rcases h.2 with ⟨rfl,_⟩ | ⟨g,cap,cur,rfl,hb,hh,_⟩
  · simp [Value.ownBlock] at hk
  · have:g = k:=by simpa [Value.ownBlock] using hk
    subst this
    exact (Array.getElem?_eq_some_iff.1 hh).1
theorem zwm {w w1:World} {base:Nat} {e:TypeId} {size n:Nat} {v:Value} {xs:List Value} (h:w.ownsRow base e size v n xs) (hb:Below w.heap.size w w1):w1.ownsRow base e size v n xs :=
  h.kept (zvT hb none) (by cases v.ownBlock <;> simp)
theorem zaV {w w1:World} {base:Nat} {e:TypeId} {size n:Nat} {v:Value} {xs:List Value} (h:w.ownsRow base e size v n xs) {row:Option Nat} (hg:w.grownBy w1 row) (hne:v.ownBlock = none ∨ v.ownBlock ≠ row):w1.ownsRow base e size v n xs:=h.kept hg hne
section
variable {P:Program} {ops:Array Oper} {rest:List Oper} {o:Oper} {a:Act} {Q:Exit → Act → World → Prop}
end
section
variable {P:Program}
end
section
variable {P:Program} {ops:Array Oper} {rest:List Oper} {o:Oper} {a:Act} {Q:Exit → Act → World → Prop}
end
def bytesOf (s:ByteArray):List Int:=s.data.toList.map fun b=>(b.toNat:Int)
theorem wN.Qu {w:World} {k:IntKind} {A:Option Addr} {n:Nat} {xs:List Int} (h:wN w k A n xs) (i:Nat) (hi:i ≤ n):wN w k A i (xs.take i):=by
  refine ⟨by rw [List.length_take,h.1];omega,by have:=h.2.1;omega,fun hp=>?_⟩
  obtain ⟨ad,e,hc⟩:=h.2.2 (by omega)
  refine ⟨ad,e,fun j hj=>?_⟩
  rw [hc j (by omega)]
  simp [List.getD_eq_getElem?_getD,hj]
def Uj {α:Type} (a b:Option α):Prop:=∀ r,a = some r → b = some r
theorem Uj.refl {α:Type} (a:Option α):Uj a a:=fun _ h=>h
theorem Uj.none {α:Type} (b:Option α):Uj Option.none b:=fun _ h=>by cases h
theorem Uj.trans {α:Type} {a b c:Option α} (h:Uj a b) (k:Uj b c):Uj a c:=fun r hr=>k r (h r hr)
theorem Uj.bind {α β:Type} {a a':Option α} {f f':α → Option β} (h:Uj a a') (k:∀ x,Uj (f x) (f' x)):Uj (a.bind f) (a'.bind f'):=by
  intro r hr
  obtain ⟨x,hx,hf⟩:=Option.bind_eq_some_iff.1 hr
  exact Option.bind_eq_some_iff.2 ⟨x,h x hx,k x r hf⟩
theorem Uj.map {α β:Type} {a a':Option α} (f:α → β) (h:Uj a a'):Uj (a.map f) (a'.map f):=by
  intro r hr
  obtain ⟨x,hx,hf⟩:=Option.map_eq_some_iff.1 hr
  exact Option.map_eq_some_iff.2 ⟨x,h x hx,hf⟩
theorem zx4 {α:Type} {g:Nat → Option α} (h:∀ k,Uj (g k) (g (k + 1))) (k:Nat):∀ j,Uj (g k) (g (k + j))
  | 0=>Uj.refl _
  | j + 1=>(zx4 h k j).trans (h (k + j))
theorem zaK {α:Type} {g:Nat → Option α} (h:∀ k,Uj (g k) (g (k + 1))) {k k':Nat} (hk:k ≤ k') {r:α} (hr:g k = some r):g k' = some r:=by
  have:=zx4 h k (k' - k) r hr
  rwa [Nat.add_sub_cancel' hk] at this
def xY {α:Type} (R:α → List Value → Prop) (size:Nat) (ps:List α) (cs:List Value):Prop :=
  cs.length = ps.length * size ∧ ∀ j p,ps[j]? = some p → R p ((cs.drop (j * size)).take size)
theorem xY.none {α:Type} (R:α → List Value → Prop) (size:Nat):xY R size [] []:=⟨by simp,fun j p h=>by simp at h⟩
theorem xY.snoc {α:Type} {R:α → List Value → Prop} {size:Nat} {ps:List α} {cs c:List Value} {p:α} (h:xY R size ps cs) (hp:R p c) (hc:c.length = size):xY R size (ps ++ [p]) (cs ++ c):=by
  refine ⟨by rw [List.length_append,h.1,hc,List.length_append,List.length_singleton,Nat.add_mul,Nat.one_mul],fun j q hq=>?_⟩
  rcases Nat.lt_or_ge j ps.length with hj | hj
  · rw [List.getElem?_append_left hj] at hq
    have h1:j * size + size ≤ cs.length:=by rw [h.1,← Nat.succ_mul];exact Nat.mul_le_mul_right _ hj
    have h2:=h.2 j q hq
    rw [List.drop_append_of_le_length (by omega),List.take_append_of_le_length (by rw [List.length_drop];omega)]
    exact h2
  · have hj':j = ps.length:=by
      have:=(List.getElem?_eq_some_iff.1 hq).1
      rw [List.length_append,List.length_singleton] at this
      omega
    subst hj'
    have hq':p = q:=by simpa using hq
    subst hq'
    rw [← h.1,List.drop_left,← hc,List.take_length]
    exact hp
theorem xY.VR {α:Type} {R R':α → List Value → Prop} {size:Nat} {ps:List α} {cs:List Value} (h:xY R size ps cs) (hR:∀ p c,R p c → R' p c):xY R' size ps cs:=⟨h.1,fun j p hj=>hR _ _ (h.2 j p hj)⟩
def kP {α:Type} (R:α → List Value → Prop) (size:Nat) (w:World) (A:Option Addr) (n:Nat) (ps:List α):Prop :=
  ps.length = n ∧ n ≤ 9223372036854775807 ∧ (0 < n → ∃ ad,A = some ad ∧ ∀ j p,ps[j]? = some p → ∃ c,c.length = size ∧ R p c ∧ ∀ i u,c[i]? = some u → w.cell? (ad.add (j * size + i)) = some u)
theorem kP.zry {α:Type} {R:α → List Value → Prop} {size:Nat} {w:World} {A:Option Addr} {n:Nat} {ps:List α} (h:kP R size w A n ps) (d:α) (i:Int) (h0:0 ≤ i) (h1:i < n) :
    ∃ ad c,A = some ad ∧ c.length = size ∧ R (ps.getD i.toNat d) c ∧ ∀ j u,c[j]? = some u → w.cell? (ad.add (i.toNat * size + j)) = some u:=by
  obtain ⟨ad,e,hc⟩:=h.2.2 (by omega)
  have hl:i.toNat < ps.length:=by have:=h.1;omega
  obtain ⟨c,hs,hr,hcell⟩:=hc i.toNat _ (List.getElem?_eq_getElem hl)
  refine ⟨ad,c,e,hs,?_,hcell⟩
  rw [List.getD_eq_getElem?_getD,List.getElem?_eq_getElem hl]
  exact hr
theorem kP.VR {α:Type} {R R':α → List Value → Prop} {size:Nat} {w w1:World} {A:Option Addr} {n:Nat} {ps:List α} (h:kP R size w A n ps) (hb:Below w.heap.size w w1) (hR:∀ p c,R p c → R' p c):kP R' size w1 A n ps :=
  ⟨h.1,h.2.1,fun hn=>by
    obtain ⟨ad,e,hc⟩:=h.2.2 hn
    refine ⟨ad,e,fun j p hj=>?_⟩
    obtain ⟨c,hs,hr,hcell⟩:=hc j p hj
    exact ⟨c,hs,hR _ _ hr,fun i u hu=>dU hb (hcell i u hu)⟩⟩
theorem zww {α:Type} {R:α → List Value → Prop} {w:World} {base n size:Nat} {e:TypeId} {v:Value} {ps:List α} {cs:List Value} (h:w.ownsRow base e size v n cs) (hR:xY R size ps cs) (hn:ps.length = n) :
    ∃ A c,v = .slice A n c ∧ kP R size w A n ps:=by
  rcases Nat.eq_zero_or_pos n with h0 | h0
  · rcases h.2 with ⟨rfl,rfl⟩ | ⟨g,cap,cur,rfl,_⟩
    · exact ⟨none,0,rfl,hn,by omega,fun hp=>absurd hp (by omega)⟩
    · exact ⟨_,cap,rfl,hn,by omega,fun hp=>absurd hp (by omega)⟩
  · obtain ⟨g,cap,rfl,_,_⟩:=h.form h0
    have hm:n ≤ 9223372036854775807:=by
      rcases h.2 with ⟨_,h1⟩ | ⟨g',cap',cur,he,_,_,h1,h2,_⟩
      · omega
      · simp only [maxLen] at h2
        omega
    refine ⟨_,cap,rfl,hn,hm,fun _=>⟨_,rfl,fun j p hj=>⟨(cs.drop (j * size)).take size,?_,hR.2 j p hj,fun i u hu=>?_⟩⟩⟩
    · have hjl:=(List.getElem?_eq_some_iff.1 hj).1
      have h1:j * size + size ≤ cs.length:=by rw [hR.1,← Nat.succ_mul];exact Nat.mul_le_mul_right _ hjl
      rw [List.length_take,List.length_drop]
      omega
    · refine h.cells (g:=g) rfl _ u ?_
      rw [List.getElem?_take] at hu
      split at hu
      · rw [List.getElem?_drop] at hu
        exact hu
      · cases hu
theorem vJ (ad:Addr) (m j:Nat) (hj:0 < j):ad.add (m + j) = ⟨(ad.add m).block,(ad.add m).off + j,none⟩:=by
  unfold Addr.add
  by_cases hm:m = 0
  · subst hm
    simp [Nat.ne_of_gt hj]
  · simp [hm,Nat.add_assoc]
section
variable {P:Program} {ops:Array Oper} {rest:List Oper} {o:Oper} {a:Act} {Q:Exit → Act → World → Prop}
theorem dB {w0 W:World} (base:Nat) (hgd:o.guard = none) (s x:Operand) (t e:TypeId) (z:Value) (size bytes:Nat)
    (ho:o.op = .call { callee:=.builtin .append,args:=#[s,x],argTypes:=#[t,t] })
    (ht:P.underlying t = some (.slice e)) (hinfo:(P.info? e).map (fun i=>(i.zero,i.size,i.bytes)) = some (some z,size,bytes)) (hz:z.cells.size = size) (hs0:0 < size) (hb0:0 < bytes)
    (v:Value) (n:Nat) (xs ys:List Value) (hs:a.eval s = v) (hx:a.eval x = .slice (some ⟨W.heap.size,0,none⟩) 1 1) (hys:ys.length = size) (h1:∀ u ∈ ys,u.oneCell' = true)
    (HO:W.ownsRow base e size v n xs) (HB:Below base w0 W) (hbase:base ≤ W.heap.size) (hl:(n + 1) * bytes ≤ 140737488355328)
    (h:∀ v1 w1,w1.ownsRow base e size v1 (n + 1) (xs ++ ys) → Below base w0 w1 → W.grownBy w1 v.ownBlock → (v1.ownBlock = v.ownBlock ∨ ∃ b,v1.ownBlock = some b ∧ W.heap.size ≤ b) → wpList P ops Q rest (a.put o.dst v1) w1) :
    wpList P ops Q (o :: rest) a (W.alloc (.cells ys.toArray e)):=by
  obtain ⟨i0,hi,hzz⟩:=Option.map_eq_some_iff.1 hinfo
  simp only [Prod.mk.injEq] at hzz
  obtain ⟨hz0,hz1,hz2⟩:=hzz
  have hlen:n + 1 ≤ 140737488355328:=Nat.le_trans (Nat.le_mul_of_pos_right _ hb0) hl
  refine wpList_append_own_at (W.alloc (.cells ys.toArray e)) hgd s x t ho base e i0 z size bytes ht hi hz0 hz1 hz2 hz hs0 v n xs hs (HO.alloc _) ⟨W.heap.size,0,none⟩ 1 1 ys hx (by rw [hys];simp)
    (by simpa using World.news_of_block (cs:=ys.toArray) (t:=e) (fr:=(0,0)) (heap_alloc_new W (.cells ys.toArray e))) h1 (by simp only [maxLen];omega) hl (by simp;omega) ?_
  intro v1 w1 hown hg _ hat
  refine h v1 w1 hown ((HB.alloc hbase _).grown hg (by simp;omega) (VP HO)) (World.grownBy.trans (World.grownBy_alloc W _ _) hg) ?_
  rcases hat with hat | hat
  · exact .inl hat
  · exact .inr ⟨_,hat,by simp⟩
end
theorem own_ne {w:World} {base:Nat} {e t:TypeId} {size n g:Nat} {v:Value} {xs:List Value} {cs:Array Value} (h:w.ownsRow base e size v n xs) (hg:w.heap[g]? = some (.cells cs t (0,0))) (hne:e ≠ t):some g ≠ v.ownBlock:=by
  rcases h.2 with ⟨rfl,_⟩ | ⟨g',cap,cur,rfl,_,hh,_⟩
  · simp [Value.ownBlock]
  · intro he
    have:g = g':=by simpa [Value.ownBlock] using he
    subst this
    rw [hg] at hh
    injection hh with hh
    injection hh with _ ht
    exact hne ht.symm
theorem zft {w:World} {g:Nat} {t:TypeId} {cs:Array Value} (h:w.heap[g]? = some (.cells cs t (0,0))) (i:Nat) (u:Value):(w.setCell ⟨g,i,none⟩ u).heap[g]? = some (.cells (cs.setIfInBounds i u) t (0,0)):=by
  simp [World.setCell,Array.getElem?_modify,h]
theorem Uv {w:World} {g:Nat} {t:TypeId} {cs:Array Value} (h:w.heap[g]? = some (.cells cs t (0,0))) {p:Addr} (hp:g ≠ p.block) (u:Value):(w.setCell p u).heap[g]? = some (.cells cs t (0,0)):=(Below.heap_setCell w p u g hp).trans h
theorem Zx {w:World} {g:Nat} {o:Obj} (h:w.heap[g]? = some o):g < w.heap.size:=(Array.getElem?_eq_some_iff.1 h).1
theorem zX {w:World} {g:Nat} {t:TypeId} {cs:Array Value} (h:w.heap[g]? = some (.cells cs t (0,0))) (i:Nat):w.cell? ⟨g,i,none⟩ = cs[i]?:=cell_of_row w g i cs t (0,0) h
theorem zy {w:World} {g:Nat} {t:TypeId} {cs:Array Value} (h:w.heap[g]? = some (.cells cs t (0,0))) (i:Nat):w.frozen? ⟨g,i,none⟩ = false:=by simp [World.frozen?,h]
theorem uL {w w1:World} {g:Nat} {o:Obj} {row:Option Nat} (h:w.heap[g]? = some o) (hg:w.grownBy w1 row) (hne:some g ≠ row):w1.heap[g]? = some o:=(hg.block g (Zx h) hne).trans h
theorem zib {w:World} {g g':Nat} {t t':TypeId} {cs cs':Array Value} (h:w.heap[g]? = some (.cells cs t (0,0))) (h':w.heap[g']? = some (.cells cs' t' (0,0))) (hne:t ≠ t'):g ≠ g':=by
  rintro rfl
  rw [h] at h'
  injection h' with h'
  injection h' with _ ht
  exact hne ht
def pq (w w':World) (g:Nat) (row:Option Nat):Prop:=w.heap.size ≤ w'.heap.size ∧ ∀ i,i < w.heap.size → i ≠ g → some i ≠ row → w'.heap[i]? = w.heap[i]?
theorem pq.refl (w:World) (g:Nat) (row:Option Nat):pq w w g row:=⟨Nat.le_refl _,fun _ _ _ _=>rfl⟩
theorem pq.of_below {w w1:World} (h:Below w.heap.size w w1) (g:Nat) (row:Option Nat):pq w w1 g row:=⟨h.size,fun i hi _ _=>h.block i hi⟩
theorem pq.trans {w w1 w2:World} {g:Nat} {row zcX:Option Nat} (h:pq w w1 g row) (k:pq w1 w2 g zcX) (hr:zcX = row ∨ ∃ b,zcX = some b ∧ w.heap.size ≤ b):pq w w2 g row :=
  ⟨Nat.le_trans h.1 k.1,fun i hi hg hn=>by
    refine (k.2 i (Nat.lt_of_lt_of_le hi h.1) hg ?_).trans (h.2 i hi hg hn)
    rcases hr with rfl | ⟨b,rfl,hb⟩
    · exact hn
    · intro e
      injection e with e
      omega⟩
theorem pq.blk {w w1:World} {g g':Nat} {row:Option Nat} {o:Obj} (h:pq w w1 g row) (hb:w.heap[g']? = some o) (hg:g' ≠ g) (hr:some g' ≠ row):w1.heap[g']? = some o:=(h.2 g' (Zx hb) hg hr).trans hb
theorem pq.own {w w1:World} {g:Nat} {row:Option Nat} {base:Nat} {e:TypeId} {size n:Nat} {v:Value} {xs:List Value} (h:pq w w1 g row) (ho:w.ownsRow base e size v n xs) (hg:v.ownBlock ≠ some g) (hr:v.ownBlock = none ∨ v.ownBlock ≠ row):w1.ownsRow base e size v n xs:=by
  obtain ⟨h1,h2⟩:=ho
  refine ⟨h1,?_⟩
  rcases h2 with h2 | ⟨b,cap,cur,rfl,hb,hh,r⟩
  · exact .inl h2
  · refine .inr ⟨b,cap,cur,rfl,hb,h.blk hh ?_ ?_,r⟩
    · intro e
      exact hg (by rw [← e];rfl)
    · rcases hr with hr | hr
      · simp [Value.ownBlock] at hr
      · exact hr
def Ev {α:Type} (g:Nat → Option α) (r:α):Prop:=∃ K,∀ k,K ≤ k → g k = some r
theorem Ev.of {α:Type} {g:Nat → Option α} {r:α} (hg:∀ k,Uj (g k) (g (k + 1))) {k:Nat} (h:g k = some r):Ev g r:=⟨k,fun _ hk=>zaK hg hk h⟩
theorem Ev.now {α:Type} (r:α):Ev (fun _=>some r) r:=⟨0,fun _ _=>rfl⟩
theorem Ev.rounds {α:Type} {g:Nat → Option α} {r:α} (h:Ev g r):∃ k,g k = some r:=by
  obtain ⟨K,h⟩:=h
  exact ⟨K,h K (Nat.le_refl _)⟩
theorem Ev.bind {α β:Type} {g:Nat → Option α} {f:Nat → α → Option β} {a:α} {r:β} (h:Ev g a) (k:Ev (fun n=>f n a) r):Ev (fun n=>(g n).bind (f n)) r:=by
  obtain ⟨K,h⟩:=h
  obtain ⟨K',k⟩:=k
  refine ⟨max K K',fun n hn=>?_⟩
  have h1:=h n (by omega)
  have h2:=k n (by omega)
  simp only [h1,Option.bind_some]
  exact h2
theorem Ev.step {α:Type} {g f:Nat → Option α} {r:α} (h:∀ k,g (k + 1) = f k) (k:Ev f r):Ev g r:=by
  obtain ⟨K,k⟩:=k
  refine ⟨K + 1,fun n hn=>?_⟩
  obtain ⟨m,rfl⟩:∃ m,n = m + 1:=⟨n - 1,by omega⟩
  rw [h]
  exact k m (by omega)
theorem Ev.congr {α:Type} {g f:Nat → Option α} {r:α} (h:∀ k,g k = f k) (k:Ev f r):Ev g r:=by
  obtain ⟨K,k⟩:=k
  exact ⟨K,fun n hn=>(h n).trans (k n hn)⟩
section
variable {P:Program} {ops:Array Oper} {o:Oper} {a:Act} {Q:Exit → Act → World → Prop} {K:Act → World → Prop}
theorem zx2 {w0 W:World} (base:Nat) (hw:Region.wanted o (yielded ops a.tmps) = true) (s x:Operand) (t e:TypeId) (z:Value) (size bytes:Nat)
    (ho:o.op = .call { callee:=.builtin .append,args:=#[s,x],argTypes:=#[t,t] })
    (ht:P.underlying t = some (.slice e)) (hinfo:(P.info? e).map (fun i=>(i.zero,i.size,i.bytes)) = some (some z,size,bytes)) (hz:z.cells.size = size) (hs0:0 < size) (hb0:0 < bytes)
    (v:Value) (n:Nat) (xs ys:List Value) (hs:a.eval s = v) (hx:a.eval x = .slice (some ⟨W.heap.size,0,none⟩) 1 1) (hys:ys.length = size) (h1:∀ u ∈ ys,u.oneCell' = true)
    (HO:W.ownsRow base e size v n xs) (HB:Below base w0 W) (hbase:base ≤ W.heap.size) (hl:(n + 1) * bytes ≤ 140737488355328)
    (h:∀ v1 w1,w1.ownsRow base e size v1 (n + 1) (xs ++ ys) → Below base w0 w1 → W.grownBy w1 v.ownBlock → (v1.ownBlock = v.ownBlock ∨ ∃ b,v1.ownBlock = some b ∧ W.heap.size ≤ b) → K (a.put o.dst v1) w1) :
    if Region.wanted o (yielded ops a.tmps) = true then Oper.wp P o a (W.alloc (.cells ys.toArray e)) K Q else K (a.put o.dst undef) (W.alloc (.cells ys.toArray e)):=by
  obtain ⟨i0,hi,hzz⟩:=Option.map_eq_some_iff.1 hinfo
  simp only [Prod.mk.injEq] at hzz
  obtain ⟨hz0,hz1,hz2⟩:=hzz
  have hlen:n + 1 ≤ 140737488355328:=Nat.le_trans (Nat.le_mul_of_pos_right _ hb0) hl
  rw [if_pos hw]
  obtain ⟨v1,w1,hr,hown,hg,_,hat⟩:=run_append_own_at (P:=P) (W.alloc (.cells ys.toArray e)) base t o.type e i0 z size bytes ht hi hz0 hz1 hz2 hz hs0 v n xs (HO.alloc _) ⟨W.heap.size,0,none⟩ 1 1 ys (by rw [hys];simp)
    (by simpa using World.news_of_block (cs:=ys.toArray) (t:=e) (fr:=(0,0)) (heap_alloc_new W (.cells ys.toArray e))) h1 (by simp only [maxLen];omega) hl (by simp;omega)
  unfold Oper.wp execOp
  simp only [ho,resolve,invoke,builtin,Sem.run_bind,Sem.run_pure,Result.andThen_ok,List.map_toArray,List.map_cons,List.map_nil,hs,hx,hr]
  refine h v1 w1 hown ((HB.alloc hbase _).grown hg (by simp;omega) (VP HO)) (World.grownBy.trans (World.grownBy_alloc W _ _) hg) ?_
  rcases hat with hat | hat
  · exact .inl hat
  · exact .inr ⟨_,hat,by simp⟩
end
theorem zYn {w:World} {base base':Nat} {e:TypeId} {size n:Nat} {v:Value} {xs:List Value} (h:w.ownsRow base e size v n xs) (hb:base' ≤ base):w.ownsRow base' e size v n xs:=by
  obtain ⟨h1,h2⟩:=h
  refine ⟨h1,?_⟩
  rcases h2 with h2 | ⟨g,cap,cur,rfl,hg,r⟩
  · exact .inl h2
  · exact .inr ⟨g,cap,cur,rfl,Nat.le_trans hb hg,r⟩
section
variable {α:Type} {enc:α → Value} {d:α}
def encs (enc:α → Value) (xs:List α):List Value:=xs.map enc
def qb (d:α) (xs:List α) (i:Int):α:=xs.getD i.toNat d
def wC (enc:α → Value) (d:α) (w:World) (A:Option Addr) (n:Nat) (xs:List α):Prop :=
  xs.length = n ∧ n ≤ 9223372036854775807 ∧ (0 < n → ∃ ad,A = some ad ∧ ∀ j,j < n → w.cell? (ad.add j) = some (enc (xs.getD j d)))
theorem wC.at_ {w:World} {A:Option Addr} {n:Nat} {xs:List α} (h:wC enc d w A n xs) (i:Int) (h0:0 ≤ i) (h1:i < n):∃ ad,A = some ad ∧ w.cell? (ad.add i.toNat) = some (enc (qb d xs i)):=by
  obtain ⟨ad,e,hc⟩:=h.2.2 (by omega)
  exact ⟨ad,e,hc _ (by omega)⟩
theorem wC.below {w w1:World} {A:Option Addr} {n:Nat} {xs:List α} (h:wC enc d w A n xs) (hb:Below w.heap.size w w1):wC enc d w1 A n xs :=
  ⟨h.1,h.2.1,fun hn=>by
    obtain ⟨ad,e,hc⟩:=h.2.2 hn
    exact ⟨ad,e,fun j hj=>dU hb (hc j hj)⟩⟩
theorem wC.Qu {w:World} {A:Option Addr} {n:Nat} {xs:List α} (h:wC enc d w A n xs) (i:Nat) (hi:i ≤ n):wC enc d w A i (xs.take i):=by
  refine ⟨by rw [List.length_take,h.1];omega,by have:=h.2.1;omega,fun hp=>?_⟩
  obtain ⟨ad,e,hc⟩:=h.2.2 (by omega)
  refine ⟨ad,e,fun j hj=>?_⟩
  rw [hc j (by omega)]
  simp [List.getD_eq_getElem?_getD,hj]
end
section
variable {α:Type} {P:Program} {ops:Array Oper} {rest:List Oper} {o:Oper} {a:Act} {Q:Exit → Act → World → Prop}
end
theorem qx {w:World} {g:Nat} {o:Obj} (h:w.heap[g]? = some o) (o':Obj):(w.alloc o').heap[g]? = some o:=(Below.heap_alloc w o' g (Zx h)).trans h
theorem xV {w:World} {g:Nat} {o:Obj} (h:w.heap[g]? = some o):w.drew.heap[g]? = some o:=h
theorem jE {w:World} {g:Nat} {o:Obj} (h:w.heap[g]? = some o) (n:Nat):(w.drewN n).heap[g]? = some o:=h
theorem yj {w w1:World} {g:Nat} {o:Obj} (h:w.heap[g]? = some o) (hb:Below w.heap.size w w1):w1.heap[g]? = some o:=(hb.block g (Zx h)).trans h
theorem kI (w:World) (o:Obj):(w.alloc o).heap[w.heap.size]? = some o:=heap_alloc_new w o
section
variable {P:Program}
end
theorem zic {w:World} {base n m c size:Nat} {e:TypeId} {A:Option Addr} {xs:List Value} (h:w.ownsRow base e size (.slice A m c) n xs):m ≤ c:=by
  rcases h.2 with ⟨he,_⟩ | ⟨g,cap,cur,he,_,_,hnc,_⟩
  · injection he with _ h2 h3
    omega
  · injection he with _ h2 h3
    omega
def j5 {α:Type} (R:α → List Value → Prop) (e:TypeId) (size:Nat) (w:World) (base:Nat) (v:Value) (ps:List α):Prop :=
  ∃ inner,w.ownsRow base e size v ps.length inner ∧ xY R size ps inner
section
variable {α:Type} {R R':α → List Value → Prop} {e:TypeId} {size:Nat} {w w1:World} {base:Nat} {v:Value} {ps:List α}
theorem j5.none_ (R:α → List Value → Prop) (e:TypeId) (size:Nat) (w:World) (base:Nat):j5 R e size w base (.slice none 0 0) []:=⟨[],zfs _ _ _ _,xY.none _ _⟩
theorem j5.VR (h:j5 R e size w base v ps) (hR:∀ p c,R p c → R' p c):j5 R' e size w base v ps:=by
  obtain ⟨inner,ho,hr⟩:=h
  exact ⟨inner,ho,hr.VR hR⟩
theorem j5.below (h:j5 R e size w base v ps) (hb:Below w.heap.size w w1):j5 R e size w1 base v ps:=by
  obtain ⟨inner,ho,hr⟩:=h
  exact ⟨inner,zwm ho hb,hr⟩
theorem j5.other (h:j5 R e size w base v ps) {row:Option Nat} (hg:w.grownBy w1 row) (hne:v.ownBlock = none ∨ v.ownBlock ≠ row):j5 R e size w1 base v ps:=by
  obtain ⟨inner,ho,hr⟩:=h
  exact ⟨inner,zaV ho hg hne,hr⟩
theorem j5.keep (h:j5 R e size w base v ps) {g:Nat} {t:TypeId} {cells:Array Value} (hb:w.heap[g]? = some (.cells cells t (0,0))) (ht:e ≠ t) (hk:pq w w1 g none):j5 R e size w1 base v ps:=by
  obtain ⟨inner,ho,hr⟩:=h
  exact ⟨inner,hk.own ho (Ne.symm (own_ne ho hb ht)) (by cases v.ownBlock <;> simp),hr⟩
theorem j5.reads (h:j5 R e size w base v ps):∃ A c,v = .slice A ps.length c ∧ ps.length ≤ c ∧ kP R size w A ps.length ps:=by
  obtain ⟨inner,ho,hr⟩:=h
  obtain ⟨A,c,rfl,hrow⟩:=zww ho hr rfl
  exact ⟨A,c,rfl,zic ho,hrow⟩
theorem j5.zcJ (h:j5 R e size w base v ps) {g:Nat} {t:TypeId} {cells:Array Value} (hb:w.heap[g]? = some (.cells cells t (0,0))) (ht:e ≠ t):some g ≠ v.ownBlock:=by
  obtain ⟨inner,ho,hr⟩:=h
  exact own_ne ho hb ht
theorem j5.lit (W:World) (base:Nat) {inner:List Value} (hr:xY R size ps inner) (hb:base ≤ W.heap.size) (hm:ps.length ≤ 9223372036854775807) :
    j5 R e size (W.alloc (.cells inner.toArray e)) base (.slice (some ⟨W.heap.size,0,none⟩) ps.length ps.length) ps:=by
  have h:=World.ownsRow_lit (base:=base) (e:=e) (size:=size) W inner.toArray ps.length hb (by simpa [maxLen] using hm) (by simpa using hr.1)
  exact ⟨inner,by simpa using h,hr⟩
end
section
variable {P:Program} {ops:Array Oper} {rest:List Oper} {o:Oper} {a:Act} {Q:Exit → Act → World → Prop} {α:Type} {R:α → List Value → Prop}
theorem j5.append {w0 W:World} (base:Nat) (hgd:o.guard = none) (s x:Operand) (t e:TypeId) (z:Value) (size bytes:Nat)
    (ho:o.op = .call { callee:=.builtin .append,args:=#[s,x],argTypes:=#[t,t] })
    (ht:P.underlying t = some (.slice e)) (hinfo:(P.info? e).map (fun i=>(i.zero,i.size,i.bytes)) = some (some z,size,bytes)) (hz:z.cells.size = size) (hs0:0 < size) (hb0:0 < bytes)
    (v:Value) (ps:List α) (p:α) (cs:List Value) (hs:a.eval s = v) (hx:a.eval x = .slice (some ⟨W.heap.size,0,none⟩) 1 1) (hp:R p cs) (hcs:cs.length = size) (h1:∀ u ∈ cs,u.oneCell' = true)
    (HO:j5 R e size W base v ps) (HB:Below base w0 W) (hbase:base ≤ W.heap.size) (hl:(ps.length + 1) * bytes ≤ 140737488355328)
    (h:∀ v1 w1,j5 R e size w1 base v1 (ps ++ [p]) → Below base w0 w1 → W.grownBy w1 v.ownBlock → (v1.ownBlock = v.ownBlock ∨ ∃ b,v1.ownBlock = some b ∧ W.heap.size ≤ b) → wpList P ops Q rest (a.put o.dst v1) w1) :
    wpList P ops Q (o :: rest) a (W.alloc (.cells cs.toArray e)):=by
  obtain ⟨inner,hown,hr⟩:=HO
  refine dB base hgd s x t e z size bytes ho ht hinfo hz hs0 hb0 v ps.length inner cs hs hx hcs h1 hown HB hbase hl ?_
  intro v1 w1 hown1 hb1 hg1 zjz
  exact h v1 w1 ⟨inner ++ cs,by rw [List.length_append,List.length_singleton];exact hown1,hr.snoc hp hcs⟩ hb1 hg1 zjz
end
section
variable {P:Program} {ops:Array Oper} {o:Oper} {a:Act} {Q:Exit → Act → World → Prop} {K:Act → World → Prop} {α:Type} {R:α → List Value → Prop}
end
theorem kP.zaY {α:Type} {R:α → List Value → Prop} {size:Nat} {w:World} {ad:Addr} {n:Nat} {ps:List α} (h:kP R size w (some ad) n ps) :
    ∃ inner,xY R size ps inner ∧ ∀ j u,inner[j]? = some u → w.cell? (ad.add j) = some u:=by
  have key:∀ m,m ≤ ps.length → ∃ inner,xY R size (ps.take m) inner ∧ ∀ j u,inner[j]? = some u → w.cell? (ad.add j) = some u:=by
    intro m
    induction m with
    | zero=>exact fun _=>⟨[],xY.none _ _,fun j u hu=>by simp at hu⟩
    | succ m ih =>
      intro hm
      obtain ⟨inner,hr,hc⟩:=ih (by omega)
      obtain ⟨ad',he,hcell⟩:=h.2.2 (by have:=h.1;omega)
      injection he with he
      subst he
      obtain ⟨c,hcl,hp,hcc⟩:=hcell m _ (List.getElem?_eq_getElem (show m < ps.length by omega))
      refine ⟨inner ++ c,?_,fun j u hu=>?_⟩
      · rw [List.take_succ_eq_append_getElem (show m < ps.length by omega)]
        exact hr.snoc hp hcl
      · have hil:inner.length = m * size:=by rw [hr.1,List.length_take,Nat.min_eq_left (by omega)]
        rcases Nat.lt_or_ge j inner.length with hj | hj
        · rw [List.getElem?_append_left hj] at hu
          exact hc j u hu
        · rw [List.getElem?_append_right hj] at hu
          have:=hcc (j - inner.length) u hu
          rwa [hil,Nat.add_sub_cancel' (by omega)] at this
  obtain ⟨inner,hr,hc⟩:=key ps.length (Nat.le_refl _)
  rw [List.take_length] at hr
  exact ⟨inner,hr,hc⟩
section
variable {α:Type} {P:Program}
end
section
variable {P:Program} {ops:Array Oper} {rest:List Oper} {o:Oper} {a:Act} {Q:Exit → Act → World → Prop}
end
structure Kd (α:Type) where
  sz:Nat
  E:List Nat
  K:World → α → List Value → Prop
  M:World → Nat → (Nat → Prop) → α → List Value → Prop
  ZA:∀ {w x cs},K w x cs → cs.length = sz
  ZB:∀ {w x cs},K w x cs → ∀ u ∈ cs,u.oneCell' = true
  ZJ:∀ {w w1:World} {x cs},Below w.heap.size w w1 → K w x cs → K w1 x cs
  kC:∀ {w base ok x cs},M w base ok x cs → K w x cs
  jJ:∀ {w base ok ok' x cs},(∀ k,ok k → ok' k) → M w base ok x cs → M w base ok' x cs
  wJ:∀ {w:World} {base ok x cs},M w base ok x cs → M w base (fun k=>ok k ∧ base ≤ k ∧ k < w.heap.size ∧ ∃ q,q ∈ E ∧ ∃ cells,w.heap[k]? = some (.cells cells q (0,0))) x cs
  Zj:∀ {w w1:World} {base ok x cs},(∀ k,ok k → w1.heap[k]? = w.heap[k]?) → M w base ok x cs → M w1 base ok x cs
  ZV:∀ {w base base' ok x cs},base' ≤ base → M w base ok x cs → M w base' ok x cs
theorem zcV {w w1:World} {base:Nat} {e:TypeId} {size n:Nat} {v:Value} {xs:List Value} (h:w.ownsRow base e size v n xs) (hm:∀ k,v.ownBlock = some k → w1.heap[k]? = w.heap[k]?):w1.ownsRow base e size v n xs:=by
  obtain ⟨h1,h2⟩:=h
  refine ⟨h1,?_⟩
  rcases h2 with h2 | ⟨g,cap,cur,rfl,hg,hh,r⟩
  · exact .inl h2
  · exact .inr ⟨g,cap,cur,rfl,hg,(hm g (by simp [Value.ownBlock])).trans hh,r⟩
theorem dD {w:World} {base:Nat} {e:TypeId} {size n:Nat} {v:Value} {xs:List Value} (h:w.ownsRow base e size v n xs) (k:Nat) (hk:v.ownBlock = some k):∃ cells,w.heap[k]? = some (.cells cells e (0,0)):=by
  rcases h.2 with ⟨rfl,_⟩ | ⟨g,cap,cur,rfl,hg,hh,r⟩
  · simp [Value.ownBlock] at hk
  · have:g = k:=by simpa [Value.ownBlock] using hk
    subst this
    exact ⟨cur,hh⟩
namespace Kd
def C {α:Type} (d:Kd α) (w:World) (A:Option Addr) (n:Nat) (xs:List α):Prop:=kP (d.K w) d.sz w A n xs
def R {α:Type} (d:Kd α) (e:Nat) (w:World) (base:Nat) (ok:Nat → Prop) (v:Value) (xs:List α):Prop :=
  (∀ k,v.ownBlock = some k → ok k) ∧ j5 (d.M w base (fun k=>ok k ∧ some k ≠ v.ownBlock)) e d.sz w base v xs
section
variable {α:Type} {d:Kd α} {e:Nat} {w w1:World} {base:Nat} {ok ok':Nat → Prop} {v:Value} {xs:List α}
theorem zm {A:Option Addr} {n:Nat} (h:d.C w A n xs) (hb:Below w.heap.size w w1):d.C w1 A n xs:=kP.VR h hb (fun _ _ hp=>d.ZJ hb hp)
theorem jf (d:Kd α) (e:Nat) (w:World) (base:Nat) (ok:Nat → Prop):d.R e w base ok (.slice none 0 0) []:=⟨fun k hk=>by simp [Value.ownBlock] at hk,j5.none_ _ _ _ _ _⟩
theorem uy (h:d.R e w base ok v xs) (hok:∀ k,ok k → ok' k):d.R e w base ok' v xs:=⟨fun k hk=>hok k (h.1 k hk),h.2.VR (fun _ _ hp=>d.jJ (fun k hk=>⟨hok k hk.1,hk.2⟩) hp)⟩
theorem ZC (h:d.R e w base ok v xs):d.R e w base (fun k=>ok k ∧ base ≤ k ∧ k < w.heap.size ∧ ∃ q,q ∈ e :: d.E ∧ ∃ cells,w.heap[k]? = some (.cells cells q (0,0))) v xs:=by
  obtain ⟨h0,inner,ho,hr⟩:=h
  refine ⟨fun k hk=>?_,inner,ho,hr.VR (fun _ _ hp=>d.jJ (fun k hk=>?_) (d.wJ hp))⟩
  · obtain ⟨cells,hc⟩:=dD ho k hk
    exact ⟨h0 k hk,VP ho k hk,zaJ ho k hk,e,List.mem_cons_self,cells,hc⟩
  · obtain ⟨⟨h1,h2⟩,h3,h4,q,hq,hc⟩:=hk
    exact ⟨⟨h1,h3,h4,q,List.mem_cons_of_mem _ hq,hc⟩,h2⟩
theorem aK (h:d.R e w base ok v xs) (hm:∀ k,ok k → w1.heap[k]? = w.heap[k]?):d.R e w1 base ok v xs:=by
  obtain ⟨h0,inner,ho,hr⟩:=h
  exact ⟨h0,inner,zcV ho (fun k hk=>hm k (h0 k hk)),hr.VR (fun _ _ hp=>d.Zj (fun k hk=>hm k hk.1) hp)⟩
theorem uI {base':Nat} (h:d.R e w base ok v xs) (hb:base' ≤ base):d.R e w base' ok v xs:=by
  obtain ⟨h0,inner,ho,hr⟩:=h
  exact ⟨h0,inner,zYn ho hb,hr.VR (fun _ _ hp=>d.ZV hb hp)⟩
theorem aY (h:d.R e w base ok v xs) (hm:∀ k,ok k → k < w.heap.size → w1.heap[k]? = w.heap[k]?):d.R e w1 base ok v xs :=
  uy (aK (ZC h) (fun k hk=>hm k hk.1 hk.2.2.1)) (fun _ hk=>hk.1)
theorem zaW {x:α} {cs:List Value} (h:d.M w base ok x cs) (hm:∀ k,ok k → k < w.heap.size → w1.heap[k]? = w.heap[k]?):d.M w1 base ok x cs :=
  d.jJ (fun _ hk=>hk.1) (d.Zj (fun k hk=>hm k hk.1 hk.2.2.1) (d.wJ h))
theorem xI (h:d.R e w base ok v xs) (hb:Below w.heap.size w w1):d.R e w1 base ok v xs:=aY h (fun k _ hk=>hb.block k hk)
theorem zfu {x:α} {cs:List Value} (h:d.M w base ok x cs) (hb:Below w.heap.size w w1):d.M w1 base ok x cs:=zaW h (fun k _ hk=>hb.block k hk)
theorem zq4 (h:d.R e w base ok v xs) {row:Option Nat} (hg:w.grownBy w1 row) (hok:∀ k,ok k → some k ≠ row):d.R e w1 base ok v xs:=aY h (fun k ho hk=>hg.block k hk (hok k ho))
theorem Z7 (h:d.R e w base ok v xs) {p:Addr} (hok:∀ k,ok k → k ≠ p.block) (u:Value):d.R e (w.setCell p u) base ok v xs:=aY h (fun k ho _=>Below.heap_setCell w p u k (hok k ho))
theorem Zc (h:d.R e w base ok v xs) {g t:Nat} {cells:Array Value} (hb:w.heap[g]? = some (.cells cells t (0,0))) (ht:∀ q,q ∈ e :: d.E → q ≠ t):d.R e w base (fun k=>ok k ∧ k ≠ g) v xs :=
  uy (ZC h) (fun k hk=>⟨hk.1,by
    obtain ⟨_,_,_,q,hq,cells',hc⟩:=hk
    rintro rfl
    rw [hc] at hb
    injection hb with hb
    injection hb with _ hb
    exact ht q hq hb⟩)
theorem QA (h:d.R e w base ok v xs) {g t:Nat} {cells:Array Value} (hb:w.heap[g]? = some (.cells cells t (0,0))) (ht:∀ q,q ∈ e :: d.E → q ≠ t) (j:Nat) (u:Value):d.R e (w.setCell ⟨g,j,none⟩ u) base ok v xs :=
  uy (Z7 (p:=⟨g,j,none⟩) (Zc h hb ht) (fun _ hk=>hk.2) u) (fun _ hk=>hk.1)
theorem zvU (h:d.R e w base ok v xs):∃ A c,v = .slice A xs.length c ∧ xs.length ≤ c ∧ d.C w A xs.length xs:=by
  obtain ⟨A,c,he,hl,hr⟩:=j5.reads h.2
  exact ⟨A,c,he,hl,hr.VR (Below.refl _ _) (fun _ _ hp=>d.kC hp)⟩
theorem vw (h:d.R e w base ok v xs):∃ A c,v = .slice A xs.length c:=by
  obtain ⟨A,c,he,_⟩:=zvU h
  exact ⟨A,c,he⟩
theorem zzL (h:d.R e w base ok v xs):∃ inner,w.ownsRow base e d.sz v xs.length inner:=by
  obtain ⟨_,inner,ho,_⟩:=h
  exact ⟨inner,ho⟩
theorem Qm (h:d.R e w base ok v xs) {g t:Nat} {cells:Array Value} (hb:w.heap[g]? = some (.cells cells t (0,0))) (ht:e ≠ t):some g ≠ v.ownBlock:=j5.zcJ h.2 hb ht
end
def scalar {α:Type} (enc:α → Value) (h1:∀ x,(enc x).oneCell' = true):Kd α where
  sz:=1
  E:=[]
  K:=fun _ x cs=>cs = [enc x]
  M:=fun _ _ _ x cs=>cs = [enc x]
  ZA:=fun h=>by rw [h];rfl
  ZB:=fun h u hu=>by
    rw [h] at hu
    rw [List.mem_singleton.1 hu]
    exact h1 _
  ZJ:=fun _ h=>h
  kC:=fun h=>h
  jJ:=fun _ h=>h
  wJ:=fun h=>h
  Zj:=fun _ h=>h
  ZV:=fun _ h=>h
def int (k:IntKind):Kd Int:=scalar (Value.int k) (fun _=>rfl)
def bool:Kd Bool:=scalar Value.bool (fun _=>rfl)
def string:Kd ByteArray:=scalar Value.string (fun _=>rfl)
def slice {α:Type} (e:Nat) (d:Kd α):Kd (List α) where
  sz:=1
  E:=e :: d.E
  K:=fun w xs cs=>∃ A c,cs = [.slice A xs.length c] ∧ xs.length ≤ c ∧ d.C w A xs.length xs
  M:=fun w base ok xs cs=>∃ v,cs = [v] ∧ d.R e w base ok v xs
  ZA:=by
    rintro w x cs ⟨A,c,rfl,_⟩
    rfl
  ZB:=by
    rintro w x cs ⟨A,c,rfl,_⟩ u hu
    rw [List.mem_singleton.1 hu]
    rfl
  ZJ:=by
    rintro w w1 x cs hb ⟨A,c,rfl,hl,hr⟩
    exact ⟨A,c,rfl,hl,zm hr hb⟩
  kC:=by
    rintro w base ok x cs ⟨v,rfl,h⟩
    obtain ⟨A,c,rfl,hl,hr⟩:=zvU h
    exact ⟨A,c,rfl,hl,hr⟩
  jJ:=by
    rintro w base ok ok' x cs hok ⟨v,rfl,h⟩
    exact ⟨v,rfl,uy h hok⟩
  wJ:=by
    rintro w base ok x cs ⟨v,rfl,h⟩
    exact ⟨v,rfl,ZC h⟩
  Zj:=by
    rintro w w1 base ok x cs hm ⟨v,rfl,h⟩
    exact ⟨v,rfl,aK h hm⟩
  ZV:=by
    rintro w base base' ok x cs hb ⟨v,rfl,h⟩
    exact ⟨v,rfl,uI h hb⟩
def pair {α β:Type} (a:Kd α) (b:Kd β):Kd (α × β) where
  sz:=a.sz + b.sz
  E:=a.E ++ b.E
  K:=fun w x cs=>∃ c0 c1,cs = c0 ++ c1 ∧ a.K w x.1 c0 ∧ b.K w x.2 c1
  M:=fun w base ok x cs=>∃ c0 c1,cs = c0 ++ c1 ∧ a.M w base ok x.1 c0 ∧ b.M w base ok x.2 c1
  ZA:=by
    rintro w x cs ⟨c0,c1,rfl,h0,h1⟩
    rw [List.length_append,a.ZA h0,b.ZA h1]
  ZB:=by
    rintro w x cs ⟨c0,c1,rfl,h0,h1⟩ u hu
    rcases List.mem_append.1 hu with hu | hu
    · exact a.ZB h0 u hu
    · exact b.ZB h1 u hu
  ZJ:=by
    rintro w w1 x cs hb ⟨c0,c1,rfl,h0,h1⟩
    exact ⟨c0,c1,rfl,a.ZJ hb h0,b.ZJ hb h1⟩
  kC:=by
    rintro w base ok x cs ⟨c0,c1,rfl,h0,h1⟩
    exact ⟨c0,c1,rfl,a.kC h0,b.kC h1⟩
  jJ:=by
    rintro w base ok ok' x cs hok ⟨c0,c1,rfl,h0,h1⟩
    exact ⟨c0,c1,rfl,a.jJ hok h0,b.jJ hok h1⟩
  wJ:=by
    rintro w base ok x cs ⟨c0,c1,rfl,h0,h1⟩
    refine ⟨c0,c1,rfl,a.jJ ?_ (a.wJ h0),b.jJ ?_ (b.wJ h1)⟩
    · rintro k ⟨h2,h3,h4,q,hq,hc⟩
      exact ⟨h2,h3,h4,q,List.mem_append_left _ hq,hc⟩
    · rintro k ⟨h2,h3,h4,q,hq,hc⟩
      exact ⟨h2,h3,h4,q,List.mem_append_right _ hq,hc⟩
  Zj:=by
    rintro w w1 base ok x cs hm ⟨c0,c1,rfl,h0,h1⟩
    exact ⟨c0,c1,rfl,a.Zj hm h0,b.Zj hm h1⟩
  ZV:=by
    rintro w base base' ok x cs hb ⟨c0,c1,rfl,h0,h1⟩
    exact ⟨c0,c1,rfl,a.ZV hb h0,b.ZV hb h1⟩
def iso {α β:Type} (d:Kd α) (f:β → α):Kd β where
  sz:=d.sz
  E:=d.E
  K:=fun w x cs=>d.K w (f x) cs
  M:=fun w base ok x cs=>d.M w base ok (f x) cs
  ZA:=d.ZA
  ZB:=d.ZB
  ZJ:=d.ZJ
  kC:=d.kC
  jJ:=d.jJ
  wJ:=d.wJ
  Zj:=d.Zj
  ZV:=d.ZV
def bot {α:Type} (sz:Nat) (E:List Nat):Kd α where
  sz:=sz
  E:=E
  K:=fun _ _ _=>False
  M:=fun _ _ _ _ _=>False
  ZA:=fun h=>h.elim
  ZB:=fun h=>h.elim
  ZJ:=fun _ h=>h
  kC:=fun h=>h
  jJ:=fun _ h=>h
  wJ:=fun h=>h
  Zj:=fun _ h=>h
  ZV:=fun _ h=>h
def upto {α:Type} (F:Kd α → Kd α) (sz:Nat) (E:List Nat):Nat → Kd α
  | 0=>bot sz E
  | n + 1=>F (upto F sz E n)
theorem QB {α:Type} {d:Kd α} {w:World} {A:Option Addr} {n:Nat} {xs:List α} (h:d.C w A n xs) (z:α) (i:Int) (h0:0 ≤ i) (h1:i < n) :
    ∃ ad c,A = some ad ∧ c.length = d.sz ∧ d.K w (xs.getD i.toNat z) c ∧ ∀ j u,c[j]? = some u → w.cell? (ad.add (i.toNat * d.sz + j)) = some u:=kP.zry h z i h0 h1
theorem zj6 {α:Type} {d:Kd α} {e base:Nat} {ok kD:Nat → Prop} {W w1:World} {v v1:Value} {xs:List α} {p:α} {inner cs:List Value} (h0:∀ k,v.ownBlock = some k → ok k) (hr:xY (d.M W base (fun k=>ok k ∧ some k ≠ v.ownBlock)) d.sz xs inner) (hp:d.M W base kD p cs) (VT:∀ k,kD k → ok k ∧ some k ≠ v.ownBlock) (hfresh:∀ k,W.heap.size ≤ k → ok k)
    (hown:w1.ownsRow base e d.sz v1 (xs.length + 1) (inner ++ cs)) (hg:W.grownBy w1 v.ownBlock) (hat:v1.ownBlock = v.ownBlock ∨ ∃ b,v1.ownBlock = some b ∧ W.heap.size ≤ b):d.R e w1 base ok v1 (xs ++ [p]):=by
  have hne:∀ k,some k ≠ v.ownBlock → k < W.heap.size → some k ≠ v1.ownBlock:=by
    intro k hk hlt
    rcases hat with hat | ⟨b,hb,hle⟩
    · rw [hat];exact hk
    · rw [hb]
      intro he
      injection he with he
      omega
  have step:∀ {q:α} {c:List Value} {o:Nat → Prop},d.M W base o q c → (∀ k,o k → ok k ∧ some k ≠ v.ownBlock) → d.M w1 base (fun k=>ok k ∧ some k ≠ v1.ownBlock) q c:=by
    intro q c o hq ho
    have h1:=d.Zj (w1:=w1) (fun k hk=>hg.block k hk.2.2.1 (ho k hk.1).2) (d.wJ hq)
    exact d.jJ (fun k hk=>⟨(ho k hk.1).1,hne k (ho k hk.1).2 hk.2.2.1⟩) h1
  refine ⟨fun k hk=>?_,inner ++ cs,by rw [List.length_append,List.length_singleton];exact hown,?_⟩
  · rcases hat with hat | ⟨b,hb,hle⟩
    · exact h0 k (hat ▸ hk)
    · rw [hb] at hk
      injection hk with hk
      exact hfresh k (by omega)
  · exact (hr.VR (fun _ _ hq=>step hq (fun _ hk=>hk))).snoc (step hp VT) (d.ZA (d.kC hp))
section
variable {P:Program} {ops:Array Oper} {rest:List Oper} {o:Oper} {a:Act} {Q:Exit → Act → World → Prop} {α:Type}
theorem VU (d:Kd α) {w0 W:World} (base:Nat) (hgd:o.guard = none) (s x:Operand) (t e:TypeId) (z:Value) (bytes:Nat)
    (ho:o.op = .call { callee:=.builtin .append,args:=#[s,x],argTypes:=#[t,t] })
    (ht:P.underlying t = some (.slice e)) (hinfo:(P.info? e).map (fun i=>(i.zero,i.size,i.bytes)) = some (some z,d.sz,bytes)) (hz:z.cells.size = d.sz) (hs0:0 < d.sz) (hb0:0 < bytes)
    (v:Value) (xs:List α) (p:α) (cs:List Value) (ok kD:Nat → Prop) (hs:a.eval s = v) (hx:a.eval x = .slice (some ⟨W.heap.size,0,none⟩) 1 1) (hp:d.M W base kD p cs) (VT:∀ k,kD k → ok k ∧ some k ≠ v.ownBlock) (hfresh:∀ k,W.heap.size ≤ k → ok k)
    (HO:d.R e W base ok v xs) (HB:Below base w0 W) (hbase:base ≤ W.heap.size) (hl:(xs.length + 1) * bytes ≤ 140737488355328)
    (h:∀ v1 w1,d.R e w1 base ok v1 (xs ++ [p]) → Below base w0 w1 → W.grownBy w1 v.ownBlock → (v1.ownBlock = v.ownBlock ∨ ∃ b,v1.ownBlock = some b ∧ W.heap.size ≤ b) → wpList P ops Q rest (a.put o.dst v1) w1) :
    wpList P ops Q (o :: rest) a (W.alloc (.cells cs.toArray e)):=by
  obtain ⟨h0,inner,hown,hr⟩:=HO
  refine dB base hgd s x t e z d.sz bytes ho ht hinfo hz hs0 hb0 v xs.length inner cs hs hx (d.ZA (d.kC hp)) (d.ZB (d.kC hp)) hown HB hbase hl ?_
  intro v1 w1 hown1 hb1 hg1 zjz
  exact h v1 w1 (zj6 h0 hr hp VT hfresh hown1 hg1 zjz) hb1 hg1 zjz
end
section
variable {P:Program} {ops:Array Oper} {o:Oper} {a:Act} {Q:Exit → Act → World → Prop} {Kc:Act → World → Prop} {α:Type}
theorem ZO (d:Kd α) {w0 W:World} (base:Nat) (hw:Region.wanted o (yielded ops a.tmps) = true) (s x:Operand) (t e:TypeId) (z:Value) (bytes:Nat)
    (ho:o.op = .call { callee:=.builtin .append,args:=#[s,x],argTypes:=#[t,t] })
    (ht:P.underlying t = some (.slice e)) (hinfo:(P.info? e).map (fun i=>(i.zero,i.size,i.bytes)) = some (some z,d.sz,bytes)) (hz:z.cells.size = d.sz) (hs0:0 < d.sz) (hb0:0 < bytes)
    (v:Value) (xs:List α) (p:α) (cs:List Value) (ok kD:Nat → Prop) (hs:a.eval s = v) (hx:a.eval x = .slice (some ⟨W.heap.size,0,none⟩) 1 1) (hp:d.M W base kD p cs) (VT:∀ k,kD k → ok k ∧ some k ≠ v.ownBlock) (hfresh:∀ k,W.heap.size ≤ k → ok k)
    (HO:d.R e W base ok v xs) (HB:Below base w0 W) (hbase:base ≤ W.heap.size) (hl:(xs.length + 1) * bytes ≤ 140737488355328)
    (h:∀ v1 w1,d.R e w1 base ok v1 (xs ++ [p]) → Below base w0 w1 → W.grownBy w1 v.ownBlock → (v1.ownBlock = v.ownBlock ∨ ∃ b,v1.ownBlock = some b ∧ W.heap.size ≤ b) → Kc (a.put o.dst v1) w1) :
    if Region.wanted o (yielded ops a.tmps) = true then Oper.wp P o a (W.alloc (.cells cs.toArray e)) Kc Q else Kc (a.put o.dst undef) (W.alloc (.cells cs.toArray e)):=by
  obtain ⟨h0,inner,hown,hr⟩:=HO
  refine zx2 base hw s x t e z d.sz bytes ho ht hinfo hz hs0 hb0 v xs.length inner cs hs hx (d.ZA (d.kC hp)) (d.ZB (d.kC hp)) hown HB hbase hl ?_
  intro v1 w1 hown1 hb1 hg1 zjz
  exact h v1 w1 (zj6 h0 hr hp VT hfresh hown1 hg1 zjz) hb1 hg1 zjz
end
theorem zj7 {α:Type} {enc:α → Value} {d:α} {h1:∀ x,(enc x).oneCell' = true} {w:World} {A:Option Addr} {n:Nat} {xs:List α} (h:(scalar enc h1).C w A n xs):wC enc d w A n xs:=by
  refine ⟨h.1,h.2.1,fun hn=>?_⟩
  obtain ⟨ad,e,hc⟩:=h.2.2 hn
  refine ⟨ad,e,fun j hj=>?_⟩
  have hl:j < xs.length:=by have:=h.1;omega
  obtain ⟨c,_,hK,hcell⟩:=hc j _ (List.getElem?_eq_getElem hl)
  have hK':c = [enc xs[j]]:=hK
  subst hK'
  have:=hcell 0 _ rfl
  simpa [scalar,List.getD_eq_getElem?_getD,List.getElem?_eq_getElem hl] using this
end Kd
namespace Kd
section
variable {α:Type} {F:Kd α → Kd α} {sz:Nat} {E:List Nat} {hs:∀ n,(upto F sz E n).sz = sz} {hE:∀ n q,q ∈ (upto F sz E n).E → q ∈ E}
end
end Kd
namespace Kd
theorem zq5 {α:Type} {d:Kd α} {e base:Nat} {ok:Nat → Prop} {W w1:World} {u v v1:Value} {xs:List α} (h:d.R e W base (fun k=>ok k ∧ some k ≠ v.ownBlock) u xs) (hg:W.grownBy w1 v.ownBlock) (hat:v1.ownBlock = v.ownBlock ∨ ∃ b,v1.ownBlock = some b ∧ W.heap.size ≤ b):d.R e w1 base (fun k=>ok k ∧ some k ≠ v1.ownBlock) u xs:=by
  refine uy (aK (ZC h) (fun k hk=>hg.block k hk.2.2.1 hk.1.2)) (fun k hk=>⟨hk.1.1,?_⟩)
  rcases hat with hat | ⟨b,hb,hle⟩
  · rw [hat];exact hk.1.2
  · rw [hb]
    intro he
    injection he with he
    have:=hk.2.2.1
    omega
end Kd
namespace Kd
section
variable {α β:Type} {d:Kd α} {d':Kd β} {e e':Nat} {w w1 W:World} {base b b':Nat} {ok ok' okv oku:Nat → Prop} {v u:Value} {xs:List α} {ys:List β}
theorem Ym (h:d.R e w base ok v xs) (o:Obj):d.R e (w.alloc o) base ok v xs:=xI h (yX (Below.refl _ _) o)
theorem uw (h:d.R e w base ok v xs):d.R e w.drew base ok v xs:=xI h (Wx (Below.refl _ _))
theorem Yn (h:d.R e w base ok v xs) (m:Nat):d.R e (w.drewN m) base ok v xs:=xI h (zL (Below.refl _ _) m)
theorem zv0 {A:Option Addr} {n:Nat} (h:d.C w A n xs) (o:Obj):d.C (w.alloc o) A n xs:=zm h (yX (Below.refl _ _) o)
theorem zqW {A:Option Addr} {n:Nat} (h:d.C w A n xs):d.C w.drew A n xs:=zm h (Wx (Below.refl _ _))
theorem zv1 {A:Option Addr} {n:Nat} (h:d.C w A n xs) (m:Nat):d.C (w.drewN m) A n xs:=zm h (zL (Below.refl _ _) m)
theorem zj8 (d:Kd α) (w:World):d.C w none ([]:List α).length []:=⟨rfl,by simp,fun h=>absurd h (Nat.lt_irrefl 0)⟩
theorem vO {A:Option Addr} {n c:Nat} (h:d.R e w base ok (.slice A n c) xs):n = xs.length ∧ n ≤ c ∧ d.C w A xs.length xs:=by
  obtain ⟨A',c',he,hl,hr⟩:=zvU h
  injection he with h1 h2 h3
  subst h1
  exact ⟨h2,by omega,hr⟩
theorem YB (h:d.R e w base ok v xs):∀ k,v.ownBlock = some k → k < w.heap.size:=by
  obtain ⟨inner,ho⟩:=zzL h
  exact zaJ ho
theorem ug (h:d.R e w base ok v xs):∀ k,v.ownBlock = some k → base ≤ k:=by
  obtain ⟨inner,ho⟩:=zzL h
  exact VP ho
theorem zid (h:d.R e w base ok v xs) {g:Nat} (hok:∀ k,ok k → k ≠ g):some g ≠ v.ownBlock:=fun e=>hok g (h.1 g e.symm) rfl
end
section
variable {w W:World} {A:Option Addr} {n:Nat}
theorem aW {k:IntKind} {xs:List Int} (h:(Kd.int k).C w A n xs) (i:Int) (h0:0 ≤ i) (h1:i < n):∃ ad,A = some ad ∧ w.cell? (ad.add i.toNat) = some (.int k (rd xs i)) :=
  wC.at_ (zj7 (enc:=Value.int k) (d:=(0:Int)) (h1:=fun _=>rfl) h) i h0 h1
theorem uQ {xs:List ByteArray} (h:Kd.string.C w A n xs) (i:Int) (h0:0 ≤ i) (h1:i < n):∃ ad,A = some ad ∧ w.cell? (ad.add i.toNat) = some (.string (qb ByteArray.empty xs i)) :=
  wC.at_ (zj7 (enc:=Value.string) (d:=ByteArray.empty) (h1:=fun _=>rfl) h) i h0 h1
variable {α:Type} {enc:α → Value} {h1:∀ x,(enc x).oneCell' = true} {e base g cap:Nat} {ok:Nat → Prop} {xs:List α}
end
section
variable {P:Program} {ops:Array Oper} {rest:List Oper} {o:Oper} {a:Act} {Q:Exit → Act → World → Prop}
theorem zy3 {W w1:World} {v:Value} (hgd:o.guard = none) (hrun:(execOp a.eval o).run P W = .ok (.value v) w1) (h:wpList P ops Q rest (a.put o.dst v) w1):wpList P ops Q (o :: rest) a W:=by
  refine wpList_plain hgd fun K hK=>?_
  unfold Oper.wp
  rw [hrun]
  exact hK _ _ h
variable {α:Type}
theorem sP (d:Kd α) {w0 W:World} (base e:Nat) (hgd:o.guard = none) {N:Tmp} (_hd:o.dst = some N) {xs:List α} {inner:List Value} {ok kD:Nat → Prop}
    (hrun:(execOp a.eval o).run P W = .ok (.value (.slice (some ⟨W.heap.size,0,none⟩) xs.length xs.length)) (W.alloc (.cells inner.toArray e)))
    (hrep:xY (d.M W base kD) d.sz xs inner) (hok:∀ k,kD k → ok k) (hfresh:ok W.heap.size) (HB:Below base w0 W) (hbase:base ≤ W.heap.size) (hm:xs.length ≤ 9223372036854775807)
    (h:∀ v1 w1,d.R e w1 base ok v1 xs → Below base w0 w1 → W.grownBy w1 none → (∃ b,v1.ownBlock = some b ∧ W.heap.size ≤ b) → wpList P ops Q rest (a.put o.dst v1) w1):wpList P ops Q (o :: rest) a W:=by
  refine zy3 hgd hrun (h _ _ ⟨fun k hk=>?_,inner,?_,?_⟩ (HB.alloc hbase _) (World.grownBy_alloc W _ none) ⟨W.heap.size,by simp [Value.ownBlock],Nat.le_refl _⟩)
  · have:W.heap.size = k:=by simpa [Value.ownBlock] using hk
    subst this
    exact hfresh
  · have h2:=World.ownsRow_lit (base:=base) (e:=e) (size:=d.sz) W inner.toArray xs.length hbase (by simpa [maxLen] using hm) (by simpa using hrep.1)
    simpa using h2
  · refine hrep.VR (fun p c hp=>d.jJ (fun k hk=>⟨hok k hk.1,fun he=>?_⟩) (zfu (d.wJ hp) (yX (Below.refl _ _) _)))
    have h3:k = W.heap.size:=by simpa [Value.ownBlock] using he
    have:=hk.2.2.1
    omega
end
end Kd
section
variable {P:Program}
end
def zie (w:World) (base:Nat) (e:TypeId) (size:Nat) (v:Value) (n:Nat) (xs:List Value):Prop :=
  xs.length = n * size ∧
  ((n = 0 ∧ ∃ A,v = .slice A 0 0 ∧ ∀ a,A = some a → base ≤ a.block ∧ ∃ cur,w.heap[a.block]? = some (.cells cur e (0,0))) ∨
   ∃ g off cap cur,v = .slice (some ⟨g,off * size,none⟩) n cap ∧ base ≤ g ∧ w.heap[g]? = some (.cells cur e (0,0)) ∧ n ≤ cap ∧ off + cap ≤ maxLen ∧ cur.size = (off + cap) * size ∧ (cur.toList.drop (off * size)).take (n * size) = xs)
section
variable {w w1:World} {base n size:Nat} {e:TypeId} {v:Value} {xs:List Value}
theorem zcK (h:w.ownsRow base e size v n xs):zie w base e size v n xs:=by
  obtain ⟨h1,h2⟩:=h
  refine ⟨h1,?_⟩
  rcases h2 with ⟨rfl,h0⟩ | ⟨g,cap,cur,rfl,hb,hh,hnc,hcm,hcs,ht⟩
  · exact .inl ⟨h0,none,rfl,fun a ha=>by cases ha⟩
  · exact .inr ⟨g,0,cap,cur,by rw [Nat.zero_mul],hb,hh,hnc,by rw [Nat.zero_add];exact hcm,by rw [Nat.zero_add];exact hcs,by rw [Nat.zero_mul,List.drop_zero];exact ht⟩
theorem zif (g o j:Nat):(⟨g,o,none⟩:Addr).add j = ⟨g,o + j,none⟩:=by unfold Addr.add;split <;> simp_all
end
section
variable {P:Program}
end
namespace Kd
def Q {α:Type} (d:Kd α) (e:Nat) (w:World) (base:Nat) (ok:Nat → Prop) (v:Value) (xs:List α):Prop :=
  (∀ k,v.ownBlock = some k → ok k) ∧ ∃ inner,zie w base e d.sz v xs.length inner ∧ xY (d.M w base (fun k=>ok k ∧ some k ≠ v.ownBlock)) d.sz xs inner
section
variable {α:Type} {d:Kd α} {e:Nat} {w w1 W:World} {base:Nat} {ok ok':Nat → Prop} {v:Value} {xs:List α}
theorem zih (h:d.R e w base ok v xs):d.Q e w base ok v xs:=by
  obtain ⟨h0,inner,ho,hr⟩:=h
  exact ⟨h0,inner,zcK ho,hr⟩
theorem YH (d:Kd α) (e:Nat) (w:World) (base:Nat) (ok:Nat → Prop):d.Q e w base ok (.slice none 0 0) []:=zih (jf d e w base ok)
end
section
variable {P:Program} {ops:Array Oper} {rest:List Oper} {o:Oper} {a:Act} {Q':Exit → Act → World → Prop} {Kc:Act → World → Prop} {α:Type}
end
end Kd
namespace Kd
section
variable {α:Type} {d:Kd α} {e e':Nat} {w w1 W:World} {base:Nat} {ok:Nat → Prop} {u v:Value} {xs:List α}
theorem YZ (h:d.R e w base ok v xs):∀ k,v.ownBlock = some k → ∃ cells,w.heap[k]? = some (.cells cells e (0,0)):=by
  obtain ⟨inner,ho⟩:=zzL h
  exact fun k hk=>dD ho k hk
theorem Uk (h:d.R e W base ok u xs) (hty:∀ k,v.ownBlock = some k → ∃ cells,W.heap[k]? = some (.cells cells e' (0,0))) (ht:∀ q,q ∈ e :: d.E → q ≠ e') (hg:W.grownBy w1 v.ownBlock):d.R e w1 base ok u xs:=by
  refine uy (aK (ZC h) (fun k hk=>hg.block k hk.2.2.1 (fun he=>?_))) (fun _ hk=>hk.1)
  obtain ⟨_,_,_,q,hq,cells,hc⟩:=hk
  obtain ⟨cells',hc'⟩:=hty k he.symm
  rw [hc] at hc'
  injection hc' with hc'
  injection hc' with _ hc'
  exact ht q hq hc'
theorem V3 (h:d.R e W base ok u xs) (hty:∀ k,v.ownBlock = some k → ∃ cells,W.heap[k]? = some (.cells cells e' (0,0))) (ht:∀ q,q ∈ e :: d.E → q ≠ e'):d.R e W base (fun k=>ok k ∧ some k ≠ v.ownBlock) u xs:=by
  refine uy (ZC h) (fun k hk=>⟨hk.1,fun he=>?_⟩)
  obtain ⟨_,_,_,q,hq,cells,hc⟩:=hk
  obtain ⟨cells',hc'⟩:=hty k he.symm
  rw [hc] at hc'
  injection hc' with hc'
  injection hc' with _ hc'
  exact ht q hq hc'
theorem ZP (hu:d.R e W base ok u xs) (hbase:∀ k,v.ownBlock = some k → W.heap.size ≤ k) (hb:Below W.heap.size W w1):d.R e w1 base (fun k=>ok k ∧ some k ≠ v.ownBlock) u xs :=
  uy (aK (ZC hu) (fun k hk=>hb.block k hk.2.2.1)) (fun k hk=>⟨hk.1,fun he=>by have:=hbase k he.symm;have:=hk.2.2.1;omega⟩)
theorem XD (h:d.R e w1 W.heap.size ok v xs) (hlt:∀ k,u.ownBlock = some k → k < W.heap.size):d.R e w1 W.heap.size (fun k=>ok k ∧ some k ≠ u.ownBlock) v xs :=
  uy (ZC h) (fun k hk=>⟨hk.1,fun he=>by have:=hlt k he.symm;have:=hk.2.1;omega⟩)
theorem fresh' (hlt:∀ k,u.ownBlock = some k → k < W.heap.size):∀ k,W.heap.size ≤ k → some k ≠ u.ownBlock:=fun k hk he=>by have:=hlt k he.symm;omega
end
end Kd
namespace Kd
section
variable {α:Type} {d:Kd α} {e base g n cap:Nat} {ok kD:Nat → Prop} {W:World} {xs:List α}
theorem zii (h:d.R e W base ok (.slice (some ⟨g,0,none⟩) n cap) xs) (z:α) (i:Int) (h0:0 ≤ i) (h1:i < n) :
    ∃ c,c.length = d.sz ∧ d.M W base (fun k=>ok k ∧ k ≠ g) (xs.getD i.toNat z) c ∧ (∀ j u,c[j]? = some u → W.cell? ⟨g,i.toNat * d.sz + j,none⟩ = some u) ∧ ∀ j,W.frozen? ⟨g,i.toNat * d.sz + j,none⟩ = false:=by
  obtain ⟨hn,hnc,hC⟩:=vO h
  obtain ⟨_,inner,ho,hr⟩:=h
  have hil:i.toNat < xs.length:=by omega
  have hseg:i.toNat * d.sz + d.sz ≤ inner.length:=by rw [hr.1,← Nat.succ_mul];exact Nat.mul_le_mul_right _ hil
  have hM:=hr.2 i.toNat _ (List.getElem?_eq_getElem hil)
  refine ⟨(inner.drop (i.toNat * d.sz)).take d.sz,by rw [List.length_take,List.length_drop];omega,?_,fun j u hu=>?_,fun j=>?_⟩
  · rw [List.getD_eq_getElem?_getD,List.getElem?_eq_getElem hil]
    exact d.jJ (fun k hk=>⟨hk.1,fun he=>hk.2 (by rw [he];simp [Value.ownBlock])⟩) hM
  · rw [List.getElem?_take] at hu
    split at hu
    · rw [List.getElem?_drop] at hu
      have:=ho.cells (g:=g) (by simp [Value.ownBlock]) _ u hu
      rwa [add_plain] at this
    · cases hu
  · obtain ⟨cells,hc⟩:=dD ho g (by simp [Value.ownBlock])
    exact zy hc _
end
end Kd
namespace Kd
section
variable {α:Type} {F:Kd α → Kd α} {sz:Nat} {E:List Nat} {hs:∀ n,(upto F sz E n).sz = sz} {hE:∀ n q,q ∈ (upto F sz E n).E → q ∈ E}
end
end Kd
namespace Kd
theorem zQW {α:Type} {R:α → List Value → Prop} {size:Nat} {ps qs:List α} {cs ds:List Value} (h:xY R size ps cs) (h':xY R size qs ds):xY R size (ps ++ qs) (cs ++ ds):=by
  refine ⟨by rw [List.length_append,List.length_append,h.1,h'.1,Nat.add_mul],fun j p hj=>?_⟩
  rcases Nat.lt_or_ge j ps.length with hlt | hge
  · rw [List.getElem?_append_left hlt] at hj
    have hle:j * size + size ≤ cs.length:=by rw [h.1,← Nat.succ_mul];exact Nat.mul_le_mul_right _ hlt
    rw [List.drop_append_of_le_length (by omega),List.take_append_of_le_length (by rw [List.length_drop];omega)]
    exact h.2 j p hj
  · rw [List.getElem?_append_right hge] at hj
    have h2:=h'.2 (j - ps.length) p hj
    have hle:ps.length * size ≤ j * size:=Nat.mul_le_mul_right _ hge
    rw [List.drop_append,List.drop_eq_nil_of_le (by rw [h.1];exact hle),List.nil_append,h.1,← Nat.sub_mul]
    exact h2
section
variable {P:Program} {ops:Array Oper} {rest:List Oper} {o:Oper} {a:Act} {Q:Exit → Act → World → Prop} {α:Type}
end
end Kd
namespace Kd
section
variable {P:Program} {ops:Array Oper} {rest:List Oper} {o:Oper} {a:Act} {Q:Exit → Act → World → Prop} {α:Type}
end
end Kd
theorem add_add (a:Addr) (i j:Nat):(a.add i).add j = a.add (i + j):=by
  unfold Addr.add
  by_cases h1:i = 0 <;> by_cases h2:j = 0 <;> simp [h1,h2,Nat.add_assoc]
namespace Kd
section
variable {α:Type} {k:Kd α} {w:World} {A:Option Addr} {xs:List α} {m c:Nat}
end
end Kd
section
variable {P:Program}
end
theorem zf {w W:World} (h:Below w.heap.size w W):w.heap.size ≤ W.heap.size:=h.size
theorem zC {w W w2:World} (h:Below w.heap.size w W) (k:Below W.heap.size W w2):Below w.heap.size w w2:=zYm h h.size k
theorem wN.nil (W:World) (k:IntKind):wN W k none ([]:List Int).length []:=⟨rfl,by simp,fun h=>absurd h (Nat.lt_irrefl 0)⟩
theorem wN.drewN {W:World} {k:IntKind} {A:Option Addr} {n:Nat} {xs:List Int} (h:wN W k A n xs) (m:Nat):wN (W.drewN m) k A n xs:=h
theorem qK {w W:World} {g j:Nat} {v:Value} (h:Below w.heap.size w W) (hg:w.heap.size ≤ g):Below w.heap.size w (W.setCell ⟨g,j,none⟩ v):=h.setCell hg _
theorem zy4 {w W:World} {g:Nat} (h:pq w W g none) {a:Addr} {v:Value} (hc:w.cell? a = some v) (hne:a.block ≠ g):W.cell? a = some v:=by
  have:=h.2 a.block (World.block_lt_of_cell? w a hc) hne (by simp)
  simpa [World.cell?,this] using hc
theorem add_block (a:Addr) (i:Nat):(a.add i).block = a.block:=by unfold Addr.add;split <;> rfl
theorem wC.nil {α:Type} (enc:α → Value) (d:α) (W:World):wC enc d W none ([]:List α).length []:=⟨rfl,by simp,fun h=>absurd h (Nat.lt_irrefl 0)⟩
theorem wC.drewN {α:Type} {enc:α → Value} {d:α} {W:World} {A:Option Addr} {n:Nat} {xs:List α} (h:wC enc d W A n xs) (m:Nat):wC enc d (W.drewN m) A n xs:=h
theorem wN.keep {w W:World} {k:IntKind} {A:Option Addr} {n g:Nat} {xs:List Int} (h:wN w k A n xs) (hk:pq w W g none) (hf:∀ ad,A = some ad → 0 < n → ad.block ≠ g):wN W k A n xs :=
  ⟨h.1,h.2.1,fun hn=>by
    obtain ⟨ad,e,hc⟩:=h.2.2 hn
    exact ⟨ad,e,fun j hj=>zy4 hk (hc j hj) (by rw [add_block];exact hf ad e hn)⟩⟩
theorem wC.keep {α:Type} {enc:α → Value} {d:α} {w W:World} {A:Option Addr} {n g:Nat} {xs:List α} (h:wC enc d w A n xs) (hk:pq w W g none) (hf:∀ ad,A = some ad → 0 < n → ad.block ≠ g):wC enc d W A n xs :=
  ⟨h.1,h.2.1,fun hn=>by
    obtain ⟨ad,e,hc⟩:=h.2.2 hn
    exact ⟨ad,e,fun j hj=>zy4 hk (hc j hj) (by rw [add_block];exact hf ad e hn)⟩⟩
theorem cell_far {W:World} {p a:Addr} (h:a.block ≠ p.block) (u:Value):(W.setCell p u).cell? a = W.cell? a:=by
  have:=Below.heap_setCell W p u a.block h
  simp [World.cell?,this]
theorem vC {w:World} {g:Nat} {t:TypeId} {cs cs':Array Value} (h:w.heap[g]? = some (.cells cs t (0,0))) (i:Nat) (u:Value) (e:cs.setIfInBounds i u = cs'):(w.setCell ⟨g,i,none⟩ u).heap[g]? = some (.cells cs' t (0,0)):=e ▸ zft h i u
theorem zR {base:Nat} {w W:World} (h:Below base w W):Below base w W.drew:=h.drew
namespace Kd
section
variable {α β:Type} {d:Kd α} {d':Kd β} {e e' base base' n:Nat} {ok ok':Nat → Prop} {w W w1 W1:World} {v u:Value} {xs:List α} {ys:List β} {A:Option Addr} {c:Nat}
end
section
variable {α:Type} {enc:α → Value} {h1:∀ x,(enc x).oneCell' = true} {w W:World} {A:Option Addr} {n g:Nat} {xs:List α}
end
end Kd
namespace Kd
section
variable {α:Type} {d:Kd α} {e base g:Nat} {ok:Nat → Prop} {w w1:World} {v:Value} {xs:List α} {o:Obj}
theorem Z4 (hb:w.heap[g]? = some o):∀ k,w.heap.size ≤ k → k ≠ g:=fun k hk=>by have:=Zx hb;omega
end
end Kd
section
variable {P:Program} {ops:Array Oper} {rest:List Oper} {o:Oper} {a:Act} {Q:Exit → Act → World → Prop}
theorem qH {W:World} (hgd:o.guard = none) {N:Tmp} (_hd:o.dst = some N) {cs:Array Value} {t:TypeId}
    (hrun:(execOp a.eval o).run P W = .ok (.value (.pointer (some ⟨W.heap.size,0,none⟩))) (W.alloc (.cells cs t (0,0))))
    (h:∀ g,g = W.heap.size → ∀ w1,w1.heap[g]? = some (.cells cs t (0,0)) → Below W.heap.size W w1 → wpList P ops Q rest (a.put o.dst (.pointer (some ⟨g,0,none⟩))) w1):wpList P ops Q (o :: rest) a W :=
  Kd.zy3 hgd hrun (h _ rfl _ (kI W _) (yX (Below.refl _ _) _))
end
namespace Kd
section
variable {α:Type} {enc:α → Value} {h1:∀ x,(enc x).oneCell' = true} {e base g n cap:Nat} {ok:Nat → Prop} {W:World} {xs:List α}
end
end Kd
section
variable {P:Program} {ops:Array Oper} {rest:List Oper} {o:Oper} {a:Act} {Q:Exit → Act → World → Prop}
end
namespace Kd
section
variable {α:Type} {enc:α → Value} {h1:∀ x,(enc x).oneCell' = true} {e base g n cap:Nat} {ok:Nat → Prop} {W:World} {xs:List α}
end
end Kd
section
variable {P:Program} {ops:Array Oper} {rest:List Oper} {o:Oper} {a:Act} {Q:Exit → Act → World → Prop} {W:World}
theorem qA {N:Tmp} (_hN:o.dst = some N) (h:wpList P ops Q (o :: rest) a W):wpList P ops Q (o :: rest) a W:=h
end
section
variable {P:Program} {ops:Array Oper} {o:Oper} {a:Act} {Q:Exit → Act → World → Prop} {Kc:Act → World → Prop}
theorem zYo {W w1:World} {v:Value} (hw:Region.wanted o (yielded ops a.tmps) = true) (hrun:(execOp a.eval o).run P W = .ok (.value v) w1) (h:Kc (a.put o.dst v) w1):if Region.wanted o (yielded ops a.tmps) = true then Oper.wp P o a W Kc Q else Kc (a.put o.dst undef) W:=by
  rw [if_pos hw]
  unfold Oper.wp
  rw [hrun]
  exact h
theorem zcY {W:World} (hw:Region.wanted o (yielded ops a.tmps) = true) {N:Tmp} (_hd:o.dst = some N) {cs:Array Value} {t:TypeId}
    (hrun:(execOp a.eval o).run P W = .ok (.value (.pointer (some ⟨W.heap.size,0,none⟩))) (W.alloc (.cells cs t (0,0))))
    (h:∀ g,g = W.heap.size → ∀ w1,w1.heap[g]? = some (.cells cs t (0,0)) → Below W.heap.size W w1 → Kc (a.put o.dst (.pointer (some ⟨g,0,none⟩))) w1):if Region.wanted o (yielded ops a.tmps) = true then Oper.wp P o a W Kc Q else Kc (a.put o.dst undef) W :=
  zYo hw hrun (h _ rfl _ (kI W _) (yX (Below.refl _ _) _))
namespace Kd
variable {α:Type}
theorem zqa (d:Kd α) {Rr:α → List Value → Prop} {w0 W:World} (base:Nat) (hw:Region.wanted o (yielded ops a.tmps) = true) (s x:Operand) (t e:TypeId) (z:Value) (bytes:Nat)
    (ho:o.op = .call { callee:=.builtin .append,args:=#[s,x],argTypes:=#[t,t] })
    (ht:P.underlying t = some (.slice e)) (hinfo:(P.info? e).map (fun i=>(i.zero,i.size,i.bytes)) = some (some z,d.sz,bytes)) (hz:z.cells.size = d.sz) (hs0:0 < d.sz) (hb0:0 < bytes)
    (v:Value) (xs ys:List α) (A:Option Addr) (m c:Nat) (ok kD:Nat → Prop) (hs:a.eval s = v) (hx:a.eval x = .slice A m c)
    (HO:d.R e W base ok v xs) (HR:kP Rr d.sz W A m ys) (hKM:∀ x cs,Rr x cs → d.M W base kD x cs) (VT:∀ k,kD k → ok k ∧ some k ≠ v.ownBlock) (hfresh:∀ k,W.heap.size ≤ k → ok k)
    (HB:Below base w0 W) (hbase:base ≤ W.heap.size) (hl:(xs.length + m) * bytes ≤ 140737488355328)
    (h:∀ v1 w1,d.R e w1 base ok v1 (xs ++ ys) → Below base w0 w1 → W.grownBy w1 v.ownBlock → (v1.ownBlock = v.ownBlock ∨ ∃ b,v1.ownBlock = some b ∧ W.heap.size ≤ b) → Kc (a.put o.dst v1) w1) :
    if Region.wanted o (yielded ops a.tmps) = true then Oper.wp P o a W Kc Q else Kc (a.put o.dst undef) W:=by
  obtain ⟨i0,hi,hzz⟩:=Option.map_eq_some_iff.1 hinfo
  simp only [Prod.mk.injEq] at hzz
  obtain ⟨hz0,hz1,hz2⟩:=hzz
  have hm:ys.length = m:=HR.1
  have hlen:xs.length + m ≤ 140737488355328:=Nat.le_trans (Nat.le_mul_of_pos_right _ hb0) hl
  obtain ⟨hok,inner,hown,hr⟩:=HO
  have hrun:∃ v1 w1,(Builtin.append_ #[t,t] o.type #[v,.slice A m c]).run P W = .ok v1 w1 ∧ d.R e w1 base ok v1 (xs ++ ys) ∧ W.grownBy w1 v.ownBlock ∧ (v1.ownBlock = v.ownBlock ∨ ∃ b,v1.ownBlock = some b ∧ W.heap.size ≤ b):=by
    rcases A with _ | ad
    · have h0:m = 0:=by
        rcases Nat.eq_zero_or_pos m with h0 | h0
        · exact h0
        · obtain ⟨ad,h,_⟩:=HR.2.2 h0
          cases h
      subst h0
      obtain rfl:ys = []:=List.eq_nil_of_length_eq_zero hm
      refine ⟨v,W,?_,by rw [List.append_nil];exact ⟨hok,inner,hown,hr⟩,World.grownBy.refl W _,.inl rfl⟩
      rcases hown.2 with ⟨rfl,hn⟩ | ⟨g,cap,cur,rfl,_,_,hnc,_⟩
      · simp [Builtin.append_,run_underlying ht,sizeOf,typeInfo,hi,Builtin.lenOf,Builtin.firstCells]
      · simp [Builtin.append_,run_underlying ht,sizeOf,typeInfo,hi,Builtin.lenOf,Builtin.firstCells,hnc,storeCells]
    · obtain ⟨news,hnr,hnc⟩:=kP.zaY HR
      have hnM:xY (d.M W base kD) d.sz ys news:=hnr.VR (fun p c hp=>hKM p c hp)
      have hone:∀ u ∈ news,u.oneCell' = true:=by
        intro u hu
        obtain ⟨q,hq,rfl⟩:=List.mem_iff_getElem.1 hu
        have hql:q / d.sz < ys.length:=by
          rw [Nat.div_lt_iff_lt_mul hs0]
          rw [← hnM.1]
          exact hq
        have hc:=hnM.2 (q / d.sz) _ (List.getElem?_eq_getElem hql)
        refine d.ZB (d.kC hc) _ ?_
        rw [List.mem_iff_getElem?]
        refine ⟨q % d.sz,?_⟩
        rw [List.getElem?_take,if_pos (Nat.mod_lt _ hs0),List.getElem?_drop,Nat.mul_comm,Nat.div_add_mod,List.getElem?_eq_getElem hq]
      obtain ⟨v1,w1,hrun,h2,hg,_,hat⟩:=run_append_own_at (P:=P) W base t o.type e i0 z d.sz bytes ht hi hz0 hz1 hz2 hz hs0 v xs.length inner hown ad m c news (by rw [hnM.1,hm]) hnc hone (by simp only [maxLen];omega) hl hbase
      have hat':v1.ownBlock = v.ownBlock ∨ ∃ b,v1.ownBlock = some b ∧ W.heap.size ≤ b:=by
        rcases hat with hat | hat
        · exact .inl hat
        · exact .inr ⟨_,hat,Nat.le_refl _⟩
      have hne:∀ k,some k ≠ v.ownBlock → k < W.heap.size → some k ≠ v1.ownBlock:=by
        intro k hk hlt
        rcases hat' with hat | ⟨b,hb,hle⟩
        · rw [hat];exact hk
        · rw [hb]
          intro he
          injection he with he
          omega
      have step:∀ {q:α} {c:List Value} {o:Nat → Prop},d.M W base o q c → (∀ k,o k → ok k ∧ some k ≠ v.ownBlock) → d.M w1 base (fun k=>ok k ∧ some k ≠ v1.ownBlock) q c:=by
        intro q c o hq ho
        have h1:=d.Zj (w1:=w1) (fun k hk=>hg.block k hk.2.2.1 (ho k hk.1).2) (d.wJ hq)
        exact d.jJ (fun k hk=>⟨(ho k hk.1).1,hne k (ho k hk.1).2 hk.2.2.1⟩) h1
      refine ⟨v1,w1,hrun,⟨fun k hk=>?_,inner ++ news,by rw [List.length_append,hm];exact h2,zQW (hr.VR (fun _ _ hq=>step hq (fun _ hk=>hk))) (hnM.VR (fun _ _ hq=>step hq VT))⟩,hg,hat'⟩
      rcases hat' with hat | ⟨b,hb,hle⟩
      · exact hok k (hat ▸ hk)
      · rw [hb] at hk
        injection hk with hk
        exact hfresh k (by omega)
  obtain ⟨v1,w1,hr1,h1,hg,hat⟩:=hrun
  rw [if_pos hw]
  unfold Oper.wp execOp
  simp only [ho,resolve,invoke,builtin,Sem.run_bind,Sem.run_pure,Result.andThen_ok,List.map_toArray,List.map_cons,List.map_nil,hs,hx,hr1]
  exact h v1 w1 h1 (HB.grown hg hbase (VP hown)) hg hat
end Kd
end
inductive zwn (P:Program) (tmps:Array Value) (w:World):List ResultVar → List Value → Prop where
  | nil:zwn P tmps w [] []
  | tmp {u:Tmp} {rs:List ResultVar} {vs:List Value} (h:zwn P tmps w rs vs):zwn P tmps w (.tmp u :: rs) (tmps.getD u undef :: vs)
  | cell {p:Tmp} {ty:TypeId} {rs:List ResultVar} {vs:List Value} (g:Nat) (t:TypeId) (cs:Array Value) (fr:Nat × Nat) (d:TypeDesc)
      (hp:tmps.getD p undef = .pointer (some ⟨g,0,none⟩)) (hg:w.heap[g]? = some (.cells cs t fr))
      (hu:P.underlying ty = some d) (hd:(match d with | .struct _ | .array _ _=>true | _=>false) = true) (hi:(P.info? ty).map (·.size) = some cs.size)
      (h:zwn P tmps w rs vs):zwn P tmps w (.cell p ty :: rs) (.agg cs :: vs)
section
variable {P:Program} {tmps:Array Value} {w:World}
end
namespace Kd
section
variable {P:Program} {α:Type}
end
section
variable {P:Program} {ops:Array Oper} {rest:List Oper} {o:Oper} {a:Act} {Q:Exit → Act → World → Prop} {Kc:Act → World → Prop} {α:Type}
end
end Kd
end Go.Proofs.zk.zu
namespace Go.Proofs.zk.yD
section
variable {P:Program} {ops:Array Oper} {Q:Exit → Act → World → Prop} {md:Region.Mode} {S:World → Prop} {ds:List Nat}
def Region.XE (md:Region.Mode) (ops:Array Oper) (i:Nat):Nat → Nat → Bool
 | 0,_=>false
 | fuel + 1,d=>match ops[d]? with
  | some o=>o.after.any fun e=>Region.binds md e && (e.on == i || Region.XE md ops i fuel e.on)
  | none=>false
def Region.ah (md:Region.Mode) (ops:Array Oper) (listed:Array Bool):Bool :=
 (List.range ops.size).all fun j=>!listed.getD j false || match ops[j]? with
  | some o=>o.after.all fun e=>!Region.binds md e || listed.getD e.on false
  | none=>true
def Region.lastB (md:Region.Mode) (ops:Array Oper) (listed:Array Bool) (ds:List Nat) (i:Nat):Bool :=
 ds.all fun d=>listed.getD d true || Region.XE md ops i ops.size d
def YV (md:Region.Mode) (ops:Array Oper) (listed:Array Bool):Prop :=
 ∀ j oj,ops[j]? = some oj → listed.getD j false = true → ∀ e ∈ oj.after,Region.binds md e = true → listed.getD e.on false = true
theorem Region.zwo {listed:Array Bool} (h:Region.ah md ops listed = true):YV md ops listed:=by
 intro j oj hj hl e he hb
 have hlt:j < ops.size:=(Array.getElem?_eq_some_iff.1 hj).1
 have h1:=List.all_eq_true.1 h j (List.mem_range.2 hlt)
 simp only [hl,hj,Bool.not_true,Bool.false_or] at h1
 have h2:=Array.all_eq_true_iff_forall_mem.1 h1 e he
 simpa [hb] using h2
theorem YV.set {listed:Array Bool} {i:Nat} (h:YV md ops listed) (hi:i ∈ Region.ready md ops listed):YV md ops (listed.setIfInBounds i true):=by
 obtain ⟨_,oi,hoi,hall⟩:=mem_ready.1 hi
 intro j oj hj hl e he hb
 by_cases hij:i = j
 ·subst hij
  have:oj = oi:=Option.some.inj (hj.symm.trans hoi)
  subst this
  exact getD_set_true (hall e he hb)
 ·rw [getD_set_ne false hij] at hl
  exact getD_set_true (h j oj hj hl e he hb)
theorem Region.zqb {listed:Array Bool} {i:Nat} (hc:YV md ops listed):∀ (fuel d:Nat),Region.XE md ops i fuel d = true → listed.getD d false = true → listed.getD i false = true
 | 0,_,h,_=>by simp [Region.XE] at h
 | fuel + 1,d,h,hl=>by
  unfold Region.XE at h
  cases ho:ops[d]? with
  | none=>rw [ho] at h;simp at h
  | some o =>
   rw [ho] at h
   obtain ⟨e,he,h1⟩:=Array.any_eq_true'.1 h
   simp only [Bool.and_eq_true,Bool.or_eq_true,beq_iff_eq] at h1
   have hle:=hc d o ho hl e he h1.1
   rcases h1.2 with h2 | h2
   ·rw [← h2];exact hle
   ·exact Region.zqb hc fuel e.on h2 hle
theorem Region.zj9 {listed:Array Bool} {i d fuel:Nat} (hc:YV md ops listed) (hr:Region.XE md ops i fuel d = true) (hun:listed.getD i true = false):d ∉ Region.ready md ops listed:=by
 intro hd
 obtain ⟨_,o,ho,hall⟩:=mem_ready.1 hd
 have hi:listed.getD i false = true:=by
  cases fuel with
  | zero=>simp [Region.XE] at hr
  | succ n =>
   unfold Region.XE at hr
   rw [ho] at hr
   obtain ⟨e,he,h1⟩:=Array.any_eq_true'.1 hr
   simp only [Bool.and_eq_true,Bool.or_eq_true,beq_iff_eq] at h1
   have hle:=hall e he h1.1
   rcases h1.2 with h2 | h2
   ·rw [← h2];exact hle
   ·exact Region.zqb hc n e.on h2 hle
 rcases Nat.lt_or_ge i listed.size with h' | h'
 ·simp [h'] at hun hi
  rw [hun] at hi
  cases hi
 ·simp [Array.getElem?_eq_none h'] at hun
def qj (P:Program) (md:Region.Mode) (ops:Array Oper) (Q:Exit → Act → World → Prop) (S:World → Prop) (ds:List Nat):Nat → Array Bool → Act → World → Prop
 | 0,listed,a,w=>Region.ready md ops listed = [] ∧ Q .normal a w
 | fuel + 1,listed,a,w =>
  (Region.ready md ops listed = [] → Q .normal a w) ∧
  ∀ i ∈ Region.ready md ops listed,wpOp P ops Q i (fun a' w'=>(i ∉ ds → S w → S w') ∧ qj P md ops Q S ds fuel (listed.setIfInBounds i true) a' w') a w
theorem zqV:∀ (fuel:Nat) (listed:Array Bool) (a:Act) (w:World),qj P md ops Q S ds fuel listed a w → wpAny P md ops Q fuel listed a w
 | 0,_,_,_,h=>h
 | fuel + 1,_,_,_,h=>⟨h.1,fun i hi=>wpOp_mono (fun a' w' h'=>zqV fuel _ a' w' h'.2) (h.2 i hi)⟩
theorem zvz {i:Nat} {oi:Oper} {v:Value} (hi:ops[i]? = some oi) (hsel:∀ (j:Nat) (o:Oper) cs b,ops[j]? = some o → o.op ≠ .select cs b)
  (hQ:∀ c a w,Q (.panic c) (a.put oi.dst v) w → Q (.panic c) a w) (n:Nat) :
  ∀ (fuel:Nat) (listed:Array Bool) (a:Act) (w:World),
   (∀ j oj,ops[j]? = some oj → j ≠ i → listed.getD j true = false → (∀ e ∈ oj.after,Region.binds md e = true → e.on ≠ i) → oi.apart ops oj = true) →
   YV md ops listed → (∀ d ∈ ds,listed.getD d true = false → Region.XE md ops i n d = true) →
   i ∈ Region.ready md ops listed → YieldsIf P ops S oi v a → S w →
   qj P md ops Q S ds fuel (listed.setIfInBounds i true) (a.put oi.dst v) w → qj P md ops Q S ds (fuel + 1) listed a w:=by
 intro fuel
 induction fuel with
 | zero =>
  intro listed a w _ _ _ hr hy hS H
  refine ⟨fun h=>(by rw [h] at hr;cases hr),fun j hj=>?_⟩
  by_cases hji:j = i
  ·subst hji;exact hy.wpOp hi hS ⟨fun _ h=>h,H⟩
  ·have:=ready_mono hj hji
   rw [H.1] at this
   cases this
 | succ fuel ih =>
  intro listed a w hfree hc hd hr hy hS H
  refine ⟨fun h=>(by rw [h] at hr;cases hr),fun j hj=>?_⟩
  by_cases hji:j = i
  ·subst hji;exact hy.wpOp hi hS ⟨fun _ h=>h,H⟩
  ·have h1:=H.2 j (ready_mono hj hji)
   obtain ⟨hjun,oj,hoj,hall⟩:=mem_ready.1 hj
   have zv2:=(mem_ready.1 hr).1
   have hnot:∀ e ∈ oj.after,Region.binds md e = true → e.on ≠ i:=fun e he hb heq=>by
    have h1:=hall e he hb
    rw [heq] at h1
    rcases Nat.lt_or_ge i listed.size with h' | h'
    ·simp [h'] at zv2 h1;rw [zv2] at h1;cases h1
    ·simp [Array.getElem?_eq_none h'] at h1
   have hjd:j ∉ ds:=fun hm=>Region.zj9 hc (hd j hm hjun) zv2 hj
   have h2:=wpOp_putIf hoj (hfree j oj hoj hji hjun hnot) (fun cs b=>hsel i oi cs b hi) (fun cs b=>hsel j oj cs b hoj) hQ hy h1
   have hfree':∀ k ok,ops[k]? = some ok → k ≠ i → (listed.setIfInBounds j true).getD k true = false →
     (∀ e ∈ ok.after,Region.binds md e = true → e.on ≠ i) → oi.apart ops ok = true:=fun k ok hk hki hun hno=>by
    refine hfree k ok hk hki ?_ hno
    by_cases hjk:j = k
    ·subst hjk;exact hjun
    ·rw [getD_set_ne true hjk] at hun;exact hun
   have hd':∀ d ∈ ds,(listed.setIfInBounds j true).getD d true = false → Region.XE md ops i n d = true:=fun d hm hun=>by
    refine hd d hm ?_
    by_cases hjk:j = d
    ·subst hjk;exact hjun
    ·rw [getD_set_ne true hjk] at hun;exact hun
   refine wpOp_mono (fun a' w' h3=>⟨h3.2.1,ih (listed.setIfInBounds j true) a' w' hfree' (hc.set hj) hd' (ready_mono hr (Ne.symm hji)) h3.1 (h3.2.1 hjd hS) ?_⟩) h2
   rw [Array.setIfInBounds_comm _ _ hji]
   exact h3.2.2
theorem zwZ {i:Nat} {oi:Oper} {v:Value} (hi:ops[i]? = some oi) (hsel:∀ (j:Nat) (o:Oper) cs b,ops[j]? = some o → o.op ≠ .select cs b)
  (hQ:∀ c a w,Q (.panic c) (a.put oi.dst v) w → Q (.panic c) a w) :
  ∀ (fuel:Nat) (listed:Array Bool) (a:Act) (w:World),
   (∀ j oj,ops[j]? = some oj → j ≠ i → listed.getD j true = false → (∀ e ∈ oj.after,Region.binds md e = true → e.on ≠ i) → oi.apart ops oj = true) →
   i ∈ Region.ready md ops listed → Yields P ops oi v a →
   qj P md ops Q S ds fuel (listed.setIfInBounds i true) (a.put oi.dst v) w → qj P md ops Q S ds (fuel + 1) listed a w:=by
 intro fuel
 induction fuel with
 | zero =>
  intro listed a w _ hr hy H
  refine ⟨fun h=>(by rw [h] at hr;cases hr),fun j hj=>?_⟩
  by_cases hji:j = i
  ·subst hji;exact (hy.yieldsIf (S:=fun _=>True)).wpOp hi trivial ⟨fun _ h=>h,H⟩
  ·have:=ready_mono hj hji
   rw [H.1] at this
   cases this
 | succ fuel ih =>
  intro listed a w hfree hr hy H
  refine ⟨fun h=>(by rw [h] at hr;cases hr),fun j hj=>?_⟩
  by_cases hji:j = i
  ·subst hji;exact (hy.yieldsIf (S:=fun _=>True)).wpOp hi trivial ⟨fun _ h=>h,H⟩
  ·have h1:=H.2 j (ready_mono hj hji)
   obtain ⟨hjun,oj,hoj,hall⟩:=mem_ready.1 hj
   have zv2:=(mem_ready.1 hr).1
   have hnot:∀ e ∈ oj.after,Region.binds md e = true → e.on ≠ i:=fun e he hb heq=>by
    have h1:=hall e he hb
    rw [heq] at h1
    rcases Nat.lt_or_ge i listed.size with h' | h'
    ·simp [h'] at zv2 h1;rw [zv2] at h1;cases h1
    ·simp [Array.getElem?_eq_none h'] at h1
   have h2:=wpOp_put hoj (hfree j oj hoj hji hjun hnot) (fun cs b=>hsel i oi cs b hi) (fun cs b=>hsel j oj cs b hoj) hQ hy h1
   have hfree':∀ k ok,ops[k]? = some ok → k ≠ i → (listed.setIfInBounds j true).getD k true = false →
     (∀ e ∈ ok.after,Region.binds md e = true → e.on ≠ i) → oi.apart ops ok = true:=fun k ok hk hki hun hno=>by
    refine hfree k ok hk hki ?_ hno
    by_cases hjk:j = k
    ·subst hjk;exact hjun
    ·rw [getD_set_ne true hjk] at hun;exact hun
   refine wpOp_mono (fun a' w' h3=>⟨h3.2.1,ih (listed.setIfInBounds j true) a' w' hfree' (ready_mono hr (Ne.symm hji)) h3.1 ?_⟩) h2
   rw [Array.setIfInBounds_comm _ _ hji]
   exact h3.2.2
theorem zv3 {i:Nat} {oi:Oper} {v:Value} {fuel:Nat} {listed:Array Bool} {a:Act} {w:World} (hi:ops[i]? = some oi)
  (hs:Region.noSelect ops = true) (hf:Region.free md ops listed i = true) (hr:(Region.ready md ops listed).contains i = true)
  (hc:Region.ah md ops listed = true) (hl:Region.lastB md ops listed ds i = true)
  (hQ:∀ c a w,Q (.panic c) (a.put oi.dst v) w → Q (.panic c) a w) (hy:YieldsIf P ops S oi v a) (hS:S w)
  (h:qj P md ops Q S ds fuel (listed.setIfInBounds i true) (a.put oi.dst v) w):qj P md ops Q S ds (fuel + 1) listed a w :=
 zvz hi (Region.noSelect_spec hs) hQ ops.size fuel listed a w (Region.free_spec hi hf) (Region.zwo hc)
  (fun d hm hun=>by have:=List.all_eq_true.1 hl d hm;rw [hun] at this;simpa using this) (by simpa using hr) hy hS h
theorem zwQ {rs:List Nat} {fuel:Nat} {listed:Array Bool} {a:Act} {w:World} (hr:Region.ready md ops listed = rs) (hne:rs ≠ [])
  (h:∀ i ∈ rs,wpOp P ops Q i (fun a' w'=>(i ∉ ds → S w → S w') ∧ qj P md ops Q S ds fuel (listed.setIfInBounds i true) a' w') a w):qj P md ops Q S ds (fuel + 1) listed a w :=
 ⟨fun h0=>absurd (hr ▸ h0) hne,hr ▸ h⟩
theorem zv4 {listed:Array Bool} {a:Act} {w:World} (hr:Region.ready md ops listed = []) (h:Q .normal a w) :
  ∀ fuel,qj P md ops Q S ds fuel listed a w
 | 0=>⟨hr,h⟩
 | _ + 1=>⟨fun _=>h,by rw [hr];simp⟩
theorem zv5 {id:Nat} {a:Act} {w:World} (hm:P.follows .mixedOrders = true)
  (h:qj P .any ops Q S ds ops.size (Array.replicate ops.size false) a { w with drawn:=w.drawn + 1 }):(Code.region id ops true).wp P Q a w :=
 wp_region_any hm (zqV _ _ _ _ h)
end
section
variable {P:Program} {ops:Array Oper} {Q:Exit → Act → World → Prop} {md:Region.Mode} {S:World → Prop} {ds:List Nat}
def pF (P:Program) (md:Region.Mode) (ops:Array Oper) (Q:Exit → Act → World → Prop) (S:World → Prop) (ds:List Nat) (fuel:Nat) (listed:Array Bool) (a:Act) (w:World) (rs:List Nat):Prop :=
 ∀ i ∈ rs,wpOp P ops Q i (fun a' w'=>(i ∉ ds → S w → S w') ∧ qj P md ops Q S ds fuel (listed.setIfInBounds i true) a' w') a w
theorem pF.nil {fuel:Nat} {listed:Array Bool} {a:Act} {w:World}:pF P md ops Q S ds fuel listed a w []:=fun _ h=>by cases h
theorem pF.cons {fuel:Nat} {listed:Array Bool} {a:Act} {w:World} {i:Nat} {o:Oper} {rs:List Nat} (ho:ops[i]? = some o) (hd:i ∉ ds)
  (h:∀ K':Act → World → Prop,Shut (∀ a w,S w → (S w → qj P md ops Q S ds fuel (listed.setIfInBounds i true) a w) → K' a w) → if Region.wanted o (yielded ops a.tmps) = true then Oper.wp P o a w K' Q else K' (a.put o.dst undef) w)
  (hs:pF P md ops Q S ds fuel listed a w rs):pF P md ops Q S ds fuel listed a w (i :: rs):=fun j hj=>by
 rcases List.mem_cons.1 hj with rfl | hj
 ·exact wpOp_step ho (fun K' hK=>h K' (fun a w hS hW=>hK a w ⟨fun _ _=>hS,hW hS⟩))
 ·exact hs j hj
theorem pF.zaa {fuel:Nat} {listed:Array Bool} {a:Act} {w:World} {i:Nat} {o:Oper} {rs:List Nat} (ho:ops[i]? = some o) (hd:i ∈ ds)
  (h:∀ K':Act → World → Prop,Shut (∀ a w,qj P md ops Q S ds fuel (listed.setIfInBounds i true) a w → K' a w) → if Region.wanted o (yielded ops a.tmps) = true then Oper.wp P o a w K' Q else K' (a.put o.dst undef) w)
  (hs:pF P md ops Q S ds fuel listed a w rs):pF P md ops Q S ds fuel listed a w (i :: rs):=fun j hj=>by
 rcases List.mem_cons.1 hj with rfl | hj
 ·exact wpOp_step ho (fun K' hK=>h K' (fun a w hW=>hK a w ⟨fun hn=>absurd hd hn,hW⟩))
 ·exact hs j hj
theorem sS {rs:List Nat} {fuel:Nat} {listed:Array Bool} {a:Act} {w:World} (hr:Region.ready md ops listed = rs) (hne:rs ≠ [])
  (h:pF P md ops Q S ds fuel listed a w rs):qj P md ops Q S ds (fuel + 1) listed a w:=zwQ hr hne h
theorem jr {id n:Nat} {a:Act} {w:World} (l:Array Bool) (hm:P.follows .mixedOrders = true) (hn:ops.size = n) (hl:Array.replicate n false = l) (hS:S w.drew)
  (h:S w.drew → qj P .any ops Q S ds n l a w.drew):(Code.region id ops true).wp P Q a w:=by
 subst hn
 subst hl
 exact zv5 hm (h hS)
def takeB (md:Region.Mode) (ops:Array Oper) (ds:List Nat) (l l':Array Bool) (i:Nat):Bool :=
 Region.noSelect ops && Region.free md ops l i && (Region.ready md ops l).contains i && Region.ah md ops l && Region.lastB md ops l ds i && (l.setIfInBounds i true == l')
theorem Qu {i:Nat} {N:Option Tmp} {oi:Oper} {v:Value} {fuel:Nat} {l:Array Bool} {a:Act} {w:World} (l':Array Bool) (hi:ops[i]? = some oi) (hN:oi.dst = N) (hc:takeB md ops ds l l' i = true)
  (hQ:∀ c a w,Q (.panic c) (a.put oi.dst v) w → Q (.panic c) a w) (hy:YieldsIf P ops S oi v a) (hS:S w) {a':Act} (ha:a.put N v = a')
  (h:qj P md ops Q S ds fuel l' a' w):qj P md ops Q S ds (fuel + 1) l a w:=by
 subst ha
 subst hN
 simp only [takeB,Bool.and_eq_true,beq_iff_eq] at hc
 obtain ⟨⟨⟨⟨⟨h1,h2⟩,h3⟩,h4⟩,h5⟩,h6⟩:=hc
 subst h6
 exact zv3 hi h1 h2 h3 h4 h5 hQ hy hS h
def zYp (md:Region.Mode) (ops:Array Oper) (l l':Array Bool) (i:Nat):Bool :=
 Region.noSelect ops && Region.free md ops l i && (Region.ready md ops l).contains i && (l.setIfInBounds i true == l')
theorem uY {i:Nat} {N:Option Tmp} {oi:Oper} {v:Value} {fuel:Nat} {l:Array Bool} {a:Act} {w:World} (l':Array Bool) (hi:ops[i]? = some oi) (hN:oi.dst = N) (hc:zYp md ops l l' i = true)
  (hQ:∀ c a w,Q (.panic c) (a.put oi.dst v) w → Q (.panic c) a w) (hy:Yields P ops oi v a) {a':Act} (ha:a.put N v = a')
  (h:qj P md ops Q S ds fuel l' a' w):qj P md ops Q S ds (fuel + 1) l a w:=by
 subst ha
 subst hN
 simp only [zYp,Bool.and_eq_true,beq_iff_eq] at hc
 obtain ⟨⟨⟨h1,h2⟩,h3⟩,h6⟩:=hc
 subst h6
 exact zwZ hi (Region.noSelect_spec h1) hQ fuel l a w (Region.free_spec hi h2) (by simpa using h3) hy h
def au (md:Region.Mode) (ops:Array Oper) (l l':Array Bool) (i:Nat):Bool:=(Region.ready md ops l == [i]) && (l.setIfInBounds i true == l')
theorem V4 {i:Nat} {N:Option Tmp} {oi:Oper} {fuel:Nat} {l:Array Bool} {a:Act} {w:World} (l':Array Bool) (hi:ops[i]? = some oi) (hN:oi.dst = N) (hc:au md ops l l' i = true) (hd:i ∉ ds)
  (h:∀ K:Act → World → Prop,Shut (∀ a' w',S w' → (S w' → qj P md ops Q S ds fuel l' a' w') → K a' w') → if Region.wanted oi (yielded ops a.tmps) = true then Oper.wp P oi a w K Q else K (a.put N undef) w) :
  qj P md ops Q S ds (fuel + 1) l a w:=by
 subst hN
 simp only [au,Bool.and_eq_true,beq_iff_eq] at hc
 obtain ⟨h1,h2⟩:=hc
 subst h2
 exact sS h1 (by simp) (pF.cons hi hd (fun K hK=>h K hK) pF.nil)
theorem zq6 {i:Nat} {N:Option Tmp} {oi:Oper} {fuel:Nat} {l:Array Bool} {a:Act} {w:World} (l':Array Bool) (hi:ops[i]? = some oi) (hN:oi.dst = N) (hc:au md ops l l' i = true) (hd:i ∈ ds)
  (h:∀ K:Act → World → Prop,Shut (∀ a' w',qj P md ops Q S ds fuel l' a' w' → K a' w') → if Region.wanted oi (yielded ops a.tmps) = true then Oper.wp P oi a w K Q else K (a.put N undef) w) :
  qj P md ops Q S ds (fuel + 1) l a w:=by
 subst hN
 simp only [au,Bool.and_eq_true,beq_iff_eq] at hc
 obtain ⟨h1,h2⟩:=hc
 subst h2
 exact sS h1 (by simp) (pF.zaa hi hd (fun K hK=>h K hK) pF.nil)
theorem vW {l:Array Bool} {a:Act} {w:World} {n:Nat} (hr:(Region.ready md ops l == []) = true) (h:Q .normal a w):qj P md ops Q S ds n l a w:=zv4 (by simpa using hr) h n
theorem QC {fuel:Nat} {l:Array Bool} {a a':Act} {w:World} (ha:a = a') (h:qj P md ops Q S ds fuel l a' w):qj P md ops Q S ds fuel l a w:=by
 subst ha
 exact h
theorem call_ {oi:Oper} {N:Option Tmp} {a:Act} {w:World} {K:Act → World → Prop} (f:FuncId) (args:Array Value) (hw:Region.wanted oi (yielded ops a.tmps) = true) (hN:oi.dst = N) (hrun:(execOp a.eval oi).run P w = .ok (.enter f args) w)
  (h:Calls P f args w fun e w'=>∃ v,e = .returned v ∧ K (a.put N v) w'):if Region.wanted oi (yielded ops a.tmps) = true then Oper.wp P oi a w K Q else K (a.put N undef) w:=by
 rw [if_pos hw]
 subst hN
 unfold Oper.wp
 rw [hrun,Oper.upon_enter]
 refine h.mono fun e w'' hh=>?_
 obtain ⟨v,rfl,hk⟩:=hh
 exact hk
theorem XH {f:FuncId} {fn:Func} (hf:P.funcs[f]? = some fn) (hname:(fn.name == "runtime.NumGoroutine") = false) (hb:fn.body.isSome = true) (args:Array Value) (w:World):(callFunc f args).run P w = .ok (.enter f args) w:=by
 have h1:fn.name ≠ "runtime.NumGoroutine":=by simpa using hname
 obtain ⟨c,hc⟩:=Option.isSome_iff_exists.1 hb
 simp [callFunc,hf,h1,hc]
theorem wS {oi:Oper} {N:Option Tmp} {a:Act} {w:World} {K:Act → World → Prop} {f:FuncId} {fn:Func} {zq:Array Operand} {ts:Array TypeId} (hf:P.funcs[f]? = some fn) (hname:(fn.name == "runtime.NumGoroutine") = false) (hb:fn.body.isSome = true) (args:Array Value)
  (hw:Region.wanted oi (yielded ops a.tmps) = true) (hN:oi.dst = N) (hop:oi.op = .call { callee:=.value (.func f),args:=zq,argTypes:=ts }) (hargs:zq.map a.eval = args)
  (h:Calls P f args w fun e w'=>∃ v,e = .returned v ∧ K (a.put N v) w'):if Region.wanted oi (yielded ops a.tmps) = true then Oper.wp P oi a w K Q else K (a.put N undef) w:=by
 refine call_ f args hw hN ?_ h
 have he:=XH hf hname hb args w
 unfold execOp
 simp [hop,resolve,Deferred.ofValue,invoke,Act.eval,hargs,he]
theorem zil {rest:List Oper} {oi:Oper} {a:Act} {w:World} (N:Option Tmp) (hd:oi.dst = N) (hg:oi.guard = none) {f:FuncId} {fn:Func} {zq:Array Operand} {ts:Array TypeId} (hf:P.funcs[f]? = some fn) (hname:(fn.name == "runtime.NumGoroutine") = false) (hb:fn.body.isSome = true) (args:Array Value)
  (hop:oi.op = .call { callee:=.value (.func f),args:=zq,argTypes:=ts }) (hargs:zq.map a.eval = args)
  (h:Calls P f args w fun e w'=>∃ v,e = .returned v ∧ wpList P ops Q rest (a.put N v) w'):wpList P ops Q (oi :: rest) a w:=by
 refine wpList_plain hg fun K hK=>?_
 have he:=XH hf hname hb args w
 have hrun:(execOp a.eval oi).run P w = .ok (.enter f args) w:=by
  unfold execOp
  simp [hop,resolve,Deferred.ofValue,invoke,Act.eval,hargs,he]
 unfold Oper.wp
 rw [hrun,Oper.upon_enter]
 refine h.mono fun e w'' hh=>?_
 obtain ⟨v,rfl,hk⟩:=hh
 subst hd
 exact hK _ _ hk
theorem zvq {oi:Oper} {N:Option Tmp} {a:Act} {w w1:World} {v:Value} {K:Act → World → Prop} (hw:Region.wanted oi (yielded ops a.tmps) = true) (hN:oi.dst = N) (hrun:(execOp a.eval oi).run P w = .ok (.value v) w1)
  (h:K (a.put N v) w1):if Region.wanted oi (yielded ops a.tmps) = true then Oper.wp P oi a w K Q else K (a.put N undef) w:=by
 rw [if_pos hw]
 subst hN
 unfold Oper.wp
 rw [hrun]
 exact h
theorem zzM {oi:Oper} {a:Act} {w w1:World} {K:Act → World → Prop} (hw:Region.wanted oi (yielded ops a.tmps) = true) (hN:oi.dst = none) (hrun:(execOp a.eval oi).run P w = .ok .skip w1)
  (h:K a w1):if Region.wanted oi (yielded ops a.tmps) = true then Oper.wp P oi a w K Q else K (a.put none undef) w:=by
 rw [if_pos hw]
 unfold Oper.wp
 rw [hrun]
 show K (a.put oi.dst undef) w1
 rw [hN]
 exact h
theorem vU (n:Int):IntKind.i64.wrap n = Go.RowKit.wrap64 n:=by unfold Go.RowKit.wrap64;exact IntKind.wrap_i64 n
theorem uW (n:Int):IntKind.i32.wrap n = Go.RowKit.wrap32 n:=by unfold Go.RowKit.wrap32;exact IntKind.wrap_i32 n
end
end Go.Proofs.zk.yD
namespace Go.Proofs.zk.yD
open Go.Proofs.zk.zu (zx)
def gT (md:Region.Mode) (o:Oper):List Nat:=(o.after.toList.filter (fun e=>Region.binds md e)).map (fun e=>e.on)
def zv6 (md:Region.Mode) (ops:Array Oper) (i:Nat) (oi:Oper):List Nat:=(List.range ops.size).filter fun j=>!(j == i) && match ops[j]? with
 | some oj=>!(oj.after.any (fun e=>Region.binds md e && e.on == i) || oi.apart ops oj)
 | none=>false
def uj (md:Region.Mode) (ops:Array Oper):Bool × List (List Nat × List Nat):=(Region.noSelect ops,(List.range ops.size).map fun i=>match ops[i]? with
 | some o=>(gT md o,zv6 md ops i o)
 | none=>([],[]))
def Uy (T:List (List Nat × List Nat)) (l:List Bool) (i:Nat):Bool:=!l.getD i true && match T[i]? with
 | some r=>r.1.all (fun j=>l.getD j false)
 | none=>false
def dF (T:List (List Nat × List Nat)) (l:List Bool):List Nat:=(List.range T.length).filter (Uy T l)
def zvx (T:List (List Nat × List Nat)) (l:List Bool) (i:Nat):Bool:=match T[i]? with
 | some r=>r.2.all (fun j=>l.getD j true)
 | none=>false
def zq7 (T:List (List Nat × List Nat)) (l:List Bool):Bool:=(List.range T.length).all fun j=>!l.getD j false || match T[j]? with
 | some r=>r.1.all (fun k=>l.getD k false)
 | none=>true
def aA (T:List (List Nat × List Nat)) (i:Nat):Nat → Nat → Bool
 | 0,_=>false
 | fuel + 1,d=>match T[d]? with
  | some r=>r.1.any fun j=>j == i || aA T i fuel j
  | none=>false
def lastT (T:List (List Nat × List Nat)) (l:List Bool) (ds:List Nat) (i:Nat):Bool:=ds.all fun d=>l.getD d true || aA T i T.length d
section
variable {md:Region.Mode} {ops:Array Oper} {T:Bool × List (List Nat × List Nat)} {l l' li lj lk:Array Bool} {ds:List Nat} {i j k:Nat}
theorem gd (l:Array Bool) (j:Nat) (b:Bool):l.getD j b = l.toList.getD j b:=by simp [Array.getD_eq_getD_getElem?,List.getD_eq_getElem?_getD]
theorem zy5 (o:Oper) (p:Nat → Bool):o.after.all (fun e=>!Region.binds md e || p e.on) = (gT md o).all p:=by
 unfold gT
 rw [← Array.all_toList]
 induction o.after.toList with
 | nil=>rfl
 | cons e r ih =>
  rw [List.all_cons,ih,List.filter_cons]
  cases h:Region.binds md e <;> simp
theorem zab (o:Oper) (p:Nat → Bool):o.after.any (fun e=>Region.binds md e && p e.on) = (gT md o).any p:=by
 unfold gT
 rw [← Array.any_toList]
 induction o.after.toList with
 | nil=>rfl
 | cons e r ih =>
  rw [List.any_cons,ih,List.filter_cons]
  cases h:Region.binds md e <;> simp
theorem dK:(uj md ops).2.length = ops.size:=by simp [uj]
theorem sU {o:Oper} (h:ops[i]? = some o):(uj md ops).2[i]? = some (gT md o,zv6 md ops i o):=by
 have hi:=(Array.getElem?_eq_some_iff.1 h).1
 unfold uj
 rw [List.getElem?_map,List.getElem?_range hi,Option.map_some,h]
theorem tq (h:ops[i]? = none):(uj md ops).2[i]? = none:=by
 have hi:ops.size ≤ i:=Array.getElem?_eq_none_iff.1 h
 exact List.getElem?_eq_none (by rw [dK];exact hi)
theorem zYr:Uy (uj md ops).2 l.toList i = (!l.getD i true && ((ops[i]?).map (·.after.all fun e=>!Region.binds md e || l.getD e.on false)).getD false):=by
 unfold Uy
 rw [gd]
 cases h:ops[i]? with
 | none=>rw [tq h];rfl
 | some o =>
  rw [sU h]
  simp only [Option.map_some,Option.getD_some]
  rw [← zy5]
  simp only [gd]
theorem ready_eq:Region.ready md ops l = dF (uj md ops).2 l.toList:=by
 unfold Region.ready dF
 rw [dK]
 refine List.filter_congr (fun i _=>?_)
 rw [zYr]
theorem free_eq:Region.free md ops l i = zvx (uj md ops).2 l.toList i:=by
 unfold Region.free zvx
 cases h:ops[i]? with
 | none=>rw [tq h]
 | some oi =>
  rw [sU h]
  simp only [zv6]
  rw [List.all_filter]
  congr 1
  funext j
  rw [gd]
  cases hj:ops[j]? with
  | none=>cases (j == i) <;> cases (l.toList.getD j true) <;> simp
  | some oj =>
   cases (j == i) <;> cases (l.toList.getD j true) <;> cases (oj.after.any (fun e=>Region.binds md e && e.on == i) || oi.apart ops oj) <;> simp_all
theorem zac:Region.ah md ops l = zq7 (uj md ops).2 l.toList:=by
 unfold Region.ah zq7
 rw [dK]
 congr 1
 funext j
 rw [gd]
 cases h:ops[j]? with
 | none=>rw [tq h]
 | some o =>
  rw [sU h]
  simp only
  rw [← zy5]
  simp only [gd]
theorem zwp:∀ (fuel d:Nat),Region.XE md ops i fuel d = aA (uj md ops).2 i fuel d
 | 0,_=>rfl
 | fuel + 1,d=>by
  unfold Region.XE aA
  cases h:ops[d]? with
  | none=>rw [tq h]
  | some o =>
   rw [sU h]
   simp only
   rw [← zab]
   congr 1
   funext e
   rw [zwp fuel]
theorem zfA:Region.lastB md ops l ds i = lastT (uj md ops).2 l.toList ds i:=by
 unfold Region.lastB lastT
 rw [dK]
 congr 1
 funext d
 rw [gd,zwp]
theorem zx5 (h:Uy T.2 l.toList i = true) (hT:uj md ops = T):(Region.ready md ops l).contains i = true:=by
 subst hT
 rw [ready_eq]
 unfold dF
 rw [List.contains_iff_mem,List.mem_filter,List.mem_range]
 refine ⟨?_,h⟩
 unfold Uy at h
 rw [Bool.and_eq_true] at h
 cases hq:(uj md ops).2[i]? with
 | none=>rw [hq] at h;simp at h
 | some r=>exact (List.getElem?_eq_some_iff.1 hq).1
theorem zwr (h:(l.toList.set i true == l'.toList) = true):(l.setIfInBounds i true == l') = true:=by
 rw [beq_iff_eq] at h ⊢
 apply Array.ext'
 rw [Array.toList_setIfInBounds]
 exact h
def zjq (T:Bool × List (List Nat × List Nat)) (l l':List Bool) (i:Nat):Bool:=T.1 && zvx T.2 l i && Uy T.2 l i && (l.set i true == l')
theorem vE (hT:uj md ops = T) (h:zjq T l.toList l'.toList i = true):zYp md ops l l' i = true:=by
 simp only [zjq,Bool.and_eq_true] at h
 obtain ⟨⟨⟨h1,h2⟩,h3⟩,h4⟩:=h
 have h5:=zx5 h3 hT
 have h6:=zwr h4
 subst hT
 simp only [zYp,Bool.and_eq_true]
 exact ⟨⟨⟨h1,by rw [free_eq];exact h2⟩,h5⟩,h6⟩
def zYs (T:Bool × List (List Nat × List Nat)) (ds:List Nat) (l l':List Bool) (i:Nat):Bool:=T.1 && zvx T.2 l i && Uy T.2 l i && zq7 T.2 l && lastT T.2 l ds i && (l.set i true == l')
theorem zq8 (hT:uj md ops = T) (h:zYs T ds l.toList l'.toList i = true):takeB md ops ds l l' i = true:=by
 simp only [zYs,Bool.and_eq_true] at h
 obtain ⟨⟨⟨⟨⟨h1,h2⟩,h3⟩,h4⟩,h5⟩,h6⟩:=h
 have h7:=zx5 h3 hT
 have h8:=zwr h6
 subst hT
 simp only [takeB,Bool.and_eq_true]
 exact ⟨⟨⟨⟨⟨h1,by rw [free_eq];exact h2⟩,h7⟩,by rw [zac];exact h4⟩,by rw [zfA];exact h5⟩,h8⟩
theorem Zv (hT:uj md ops = T) (h:(dF T.2 l.toList == [i] && l.toList.set i true == l'.toList) = true):au md ops l l' i = true:=by
 simp only [Bool.and_eq_true] at h
 obtain ⟨h1,h2⟩:=h
 subst hT
 simp only [au,Bool.and_eq_true]
 exact ⟨by rw [ready_eq];exact h1,zwr h2⟩
theorem qP (hT:uj md ops = T) (h:(dF T.2 l.toList == []) = true):(Region.ready md ops l == []) = true:=by
 subst hT
 rw [ready_eq]
 exact h
def upM (B:List Nat) (d:Nat):List Nat → Nat
 | []=>0
 | n :: r=>(2 ^ n ||| (if n < d then B.getD n 0 else 0)) ||| upM B d r
def uh (T:List (List Nat × List Nat)) (B:List Nat):Bool:=(List.range T.length).all fun d=>match T[d]? with
 | some r=>(B.getD d 0 ||| upM B d r.1) == upM B d r.1
 | none=>false
theorem zQl {B:List Nat} {d i:Nat}:∀ {ns:List Nat},(upM B d ns).testBit i = true → ∃ n ∈ ns,n = i ∨ (n < d ∧ (B.getD n 0).testBit i = true)
 | [],h=>by simp [upM] at h
 | n :: r,h=>by
  unfold upM at h
  rw [Nat.testBit_or,Nat.testBit_or,Bool.or_eq_true,Bool.or_eq_true] at h
  rcases h with (h | h) | h
  ·rw [Nat.testBit_two_pow] at h
   exact ⟨n,List.mem_cons_self,.inl (by simpa using h)⟩
  ·by_cases hn:n < d
   ·rw [if_pos hn] at h
    exact ⟨n,List.mem_cons_self,.inr ⟨hn,h⟩⟩
   ·rw [if_neg hn] at h
    simp at h
  ·obtain ⟨m,hm,h2⟩:=zQl h
   exact ⟨m,List.mem_cons_of_mem _ hm,h2⟩
theorem zy6 {T:List (List Nat × List Nat)} {B:List Nat} (hB:uh T B = true):∀ (fuel d:Nat),d < fuel → d < T.length → (B.getD d 0).testBit i = true → aA T i fuel d = true
 | 0,d,h,_,_=>by omega
 | fuel + 1,d,h,hd,hb=>by
  have h1:=List.all_eq_true.1 hB d (List.mem_range.2 hd)
  cases hr:T[d]? with
  | none=>rw [hr] at h1;simp at h1
  | some r =>
   rw [hr] at h1
   simp only [beq_iff_eq] at h1
   have h2:(upM B d r.1).testBit i = true:=by rw [← h1,Nat.testBit_or,hb,Bool.true_or]
   obtain ⟨n,hn,h3⟩:=zQl h2
   unfold aA
   rw [hr]
   simp only
   rw [List.any_eq_true]
   refine ⟨n,hn,?_⟩
   rcases h3 with rfl | ⟨h4,h5⟩
   ·simp
   ·rw [zy6 hB fuel n (by omega) (by omega) h5,Bool.or_true]
def zeP (T:List (List Nat × List Nat)) (B:List Nat) (l:List Bool) (ds:List Nat) (i:Nat):Bool:=ds.all fun d=>l.getD d true || (decide (d < T.length) && (B.getD d 0).testBit i)
def zvj (T:Bool × List (List Nat × List Nat)) (B:List Nat) (ds:List Nat) (l l':List Bool) (i:Nat):Bool:=T.1 && zvx T.2 l i && Uy T.2 l i && zq7 T.2 l && zeP T.2 B l ds i && (l.set i true == l')
theorem V5 {B:List Nat} (hT:uj md ops = T) (hB:uh T.2 B = true) (h:zvj T B ds l.toList l'.toList i = true):takeB md ops ds l l' i = true:=by
 refine zq8 hT ?_
 simp only [zvj,zYs,Bool.and_eq_true] at h ⊢
 obtain ⟨⟨⟨⟨⟨h1,h2⟩,h3⟩,h4⟩,h5⟩,h6⟩:=h
 refine ⟨⟨⟨⟨⟨h1,h2⟩,h3⟩,h4⟩,?_⟩,h6⟩
 unfold zeP at h5
 unfold lastT
 rw [List.all_eq_true] at h5 ⊢
 intro d hd
 have h7:=h5 d hd
 rw [Bool.or_eq_true,Bool.and_eq_true,decide_eq_true_eq] at h7
 rcases h7 with h7 | ⟨h8,h9⟩
 ·rw [h7,Bool.true_or]
 ·rw [zy6 hB _ d h8 h8 h9,Bool.or_true]
theorem uT {P:Program} {Q:Exit → Act → World → Prop} {S:World → Prop} {n:Nat} {a:Act} {w:World} {B:List Nat} (hT:uj md ops = T) (hB:uh T.2 B = true) (h:zx (uj md ops = T) → zx (uh T.2 B = true) → qj P md ops Q S ds n l a w):qj P md ops Q S ds n l a w:=h ⟨hT⟩ ⟨hB⟩
theorem zzN {P:Program} {Q:Exit → Act → World → Prop} {S:World → Prop} {n:Nat} {a:Act} {w:World} (hT:uj md ops = T) (h:zx (uj md ops = T) → qj P md ops Q S ds n l a w):qj P md ops Q S ds n l a w:=h ⟨hT⟩
end
def dY:Code → Nat → Option (Array Oper)
 | .region id ops _,k=>if id == k then some ops else none
 | .seq a b,k=>match dY a k with
  | some o=>some o
  | none=>dY b k
 | .cond _ a b,k=>match dY a k with
  | some o=>some o
  | none=>dY b k
 | .block _ c,k=>dY c k
 | .loop c,k=>dY c k
 | .scope c,k=>dY c k
 | .rangeFunc _ _ a b,k=>match dY a k with
  | some o=>some o
  | none=>dY b k
 | _,_=>none
def opsOf (f:Func) (k:Nat):Array Oper:=((f.body.bind fun c=>dY c k)).getD #[]
end Go.Proofs.zk.yD
namespace Go.Proofs.zk.yD
section
variable {P:Program} {ops:Array Oper} {Q:Exit → Act → World → Prop} {md:Region.Mode} {S:World → Prop} {ds:List Nat} {T:Bool × List (List Nat × List Nat)}
end
end Go.Proofs.zk.yD
namespace Go.Proofs.zk.zu
open Go.RowKit
namespace Kd
section
variable {α:Type} {d:Kd α} {e base g o n cap:Nat} {ok kD:Nat → Prop} {w W:World} {v:Value} {xs:List α}
end
section
variable {α:Type} {enc:α → Value} {h1:∀ x,(enc x).oneCell' = true} {e base g o n cap:Nat} {ok:Nat → Prop} {W:World} {xs:List α}
end
end Kd
end Go.Proofs.zk.zu
namespace Go.Proofs.zk.zu
open Go.RowKit
namespace Kd
def tag {α:Type} (f:Nat → Nat) (d:Kd α):Kd (α × Nat) where
  sz:=d.sz
  E:=d.E
  K:=fun w x cs=>d.K w x.1 cs
  M:=fun w base ok x cs=>d.M w base (fun k=>ok k ∧ f k = x.2) x.1 cs
  ZA:=fun h=>d.ZA h
  ZB:=fun h=>d.ZB h
  ZJ:=fun hb h=>d.ZJ hb h
  kC:=fun h=>d.kC h
  jJ:=fun hok h=>d.jJ (fun k hk=>⟨hok k hk.1,hk.2⟩) h
  wJ:=fun h=>d.jJ (fun _ hk=>⟨⟨hk.1.1,hk.2⟩,hk.1.2⟩) (d.wJ h)
  Zj:=fun hm h=>d.Zj (fun k hk=>hm k hk.1) h
  ZV:=fun hb h=>d.ZV hb h
def bare {α:Type} (d:Kd α):Kd α where
  sz:=d.sz
  E:=d.E
  K:=d.K
  M:=fun w base _ x cs=>d.M w base (fun _=>False) x cs
  ZA:=fun h=>d.ZA h
  ZB:=fun h=>d.ZB h
  ZJ:=fun hb h=>d.ZJ hb h
  kC:=fun h=>d.kC h
  jJ:=fun _ h=>h
  wJ:=fun h=>h
  Zj:=fun _ h=>d.Zj (fun _ hk=>hk.elim) h
  ZV:=fun hb h=>d.ZV hb h
def raw (sz:Nat):Kd (List Value) where
  sz:=sz
  E:=[]
  K:=fun _ x cs=>cs = x ∧ cs.length = sz ∧ ∀ u ∈ cs,u.oneCell' = true
  M:=fun _ _ _ x cs=>cs = x ∧ cs.length = sz ∧ ∀ u ∈ cs,u.oneCell' = true
  ZA:=fun h=>h.2.1
  ZB:=fun h=>h.2.2
  ZJ:=fun _ h=>h
  kC:=fun h=>h
  jJ:=fun _ h=>h
  wJ:=fun h=>h
  Zj:=fun _ h=>h
  ZV:=fun _ h=>h
def S {α:Type} (d:Kd α) (e:Nat) (w:World) (base:Nat) (ok:Nat → Prop) (v:Value) (xs:List α):Prop:=∃ f,(tag f d).R e w base ok v xs.zipIdx
section
variable {α β:Type} {d:Kd α} {d':Kd β} {e e':Nat} {w w1 W:World} {base b:Nat} {ok ok' okv oku:Nat → Prop} {u v:Value} {xs:List α} {ys:List β}
theorem zim {xs:List α} {j:Nat} {p:α} (h:xs[j]? = some p):xs.zipIdx[j]? = some (p,j):=by rw [List.getElem?_zipIdx,h,Nat.zero_add];rfl
theorem S_R (h:S d e w base ok v xs):d.R e w base ok v xs:=by
  obtain ⟨f,h0,inner,ho,hr⟩:=h
  rw [List.length_zipIdx] at ho
  exact ⟨h0,inner,ho,by have:=hr.1;rw [List.length_zipIdx] at this;exact this,fun j p hj=>d.jJ (fun _ hk=>hk.1) (hr.2 j (p,j) (zim hj))⟩
theorem zin {ad:Addr} {n cap:Nat} (h:d.R e w base ok (.slice (some ad) n cap) xs):∃ g,ad = ⟨g,0,none⟩:=by
  obtain ⟨_,inner,ho,hr⟩:=h
  rcases ho.2 with ⟨hv,_⟩ | ⟨g,cap',cur,hv,_⟩
  · cases hv
  · injection hv with ha _ _
    injection ha with ha
    exact ⟨g,ha⟩
theorem zio {ad:Addr} {n cap:Nat} (h:d.R e W base ok (.slice (some ad) n cap) xs) (z:α) (i:Int) (h0:0 ≤ i) (h1:i < n) :
    ∃ c,c.length = d.sz ∧ d.M W base (fun k=>ok k ∧ some k ≠ (Value.slice (some ad) n cap).ownBlock) (xs.getD i.toNat z) c ∧ ∀ j u,c[j]? = some u → W.cell? (ad.add (i.toNat * d.sz + j)) = some u:=by
  obtain ⟨g,rfl⟩:=zin h
  obtain ⟨c,hcl,hM,hcc,_⟩:=zii h z i h0 h1
  refine ⟨c,hcl,d.jJ (fun k hk=>⟨hk.1,fun he=>hk.2 (by simpa [Value.ownBlock] using he)⟩) hM,fun j u hu=>?_⟩
  rw [zif,Nat.zero_add]
  exact hcc j u hu
theorem zq9 (hE:d.E = []) (h:d.R e w base ok v xs):d.R e w base (fun k=>some k = v.ownBlock) v xs:=by
  obtain ⟨h0,inner,ho,hr⟩:=h
  refine ⟨fun k hk=>hk.symm,inner,ho,hr.VR (fun p c hp=>d.jJ (fun k hk=>?_) (d.wJ hp))⟩
  obtain ⟨_,_,_,q,hq,_⟩:=hk
  rw [hE] at hq
  cases hq
theorem Yp (d:Kd α) (e:Nat) (w:World) (base:Nat) (ok:Nat → Prop):S d e w base ok (.slice none 0 0) []:=⟨fun _=>0,jf _ _ _ _ _⟩
theorem pQ (h:S d e w base ok v xs) (hok:∀ k,ok k → ok' k):S d e w base ok' v xs:=by
  obtain ⟨f,h⟩:=h
  exact ⟨f,uy h hok⟩
theorem Zd (h:S d e w base ok v xs):S d e w base (fun k=>ok k ∧ base ≤ k ∧ k < w.heap.size ∧ ∃ q,q ∈ e :: d.E ∧ ∃ cells,w.heap[k]? = some (.cells cells q (0,0))) v xs:=by
  obtain ⟨f,h⟩:=h
  exact ⟨f,ZC h⟩
theorem zir (h:S d e w base ok v xs) (hm:∀ k,ok k → w1.heap[k]? = w.heap[k]?):S d e w1 base ok v xs:=by
  obtain ⟨f,h⟩:=h
  exact ⟨f,aK h hm⟩
theorem XI {base':Nat} (h:S d e w base ok v xs) (hb:base' ≤ base):S d e w base' ok v xs:=by
  obtain ⟨f,h⟩:=h
  exact ⟨f,uI h hb⟩
theorem zad (h:S d e w base ok v xs) (hm:∀ k,ok k → k < w.heap.size → w1.heap[k]? = w.heap[k]?):S d e w1 base ok v xs :=
  pQ (zir (Zd h) (fun k hk=>hm k hk.1 hk.2.2.1)) (fun _ hk=>hk.1)
theorem wD (h:S d e w base ok v xs) (hb:Below w.heap.size w w1):S d e w1 base ok v xs:=zad h (fun k _ hk=>hb.block k hk)
theorem vR (h:S d e w base ok v xs) (o:Obj):S d e (w.alloc o) base ok v xs:=wD h (yX (Below.refl _ _) o)
theorem vZ (h:S d e w base ok v xs):S d e w.drew base ok v xs:=wD h (Wx (Below.refl _ _))
theorem vS (h:S d e w base ok v xs) (m:Nat):S d e (w.drewN m) base ok v xs:=wD h (zL (Below.refl _ _) m)
theorem gF (h:S d e w base ok v xs) {p:Addr} (hok:∀ k,ok k → k ≠ p.block) (u:Value):S d e (w.setCell p u) base ok v xs:=zad h (fun k ho _=>Below.heap_setCell w p u k (hok k ho))
theorem XL (h:S d e w base ok v xs):∀ k,v.ownBlock = some k → ∃ cells,w.heap[k]? = some (.cells cells e (0,0)):=YZ (S_R h)
theorem um (h:S d e w base ok v xs):∀ k,v.ownBlock = some k → base ≤ k:=ug (S_R h)
theorem zfB (h:S d e W base ok u xs) (hty:∀ k,v.ownBlock = some k → ∃ cells,W.heap[k]? = some (.cells cells e' (0,0))) (ht:∀ q,q ∈ e :: d.E → q ≠ e') (hg:W.grownBy w1 v.ownBlock):S d e w1 base ok u xs:=by
  obtain ⟨f,h⟩:=h
  exact ⟨f,Uk h hty ht hg⟩
theorem Qn (h:S d e W base ok u xs) (hty:∀ k,v.ownBlock = some k → ∃ cells,W.heap[k]? = some (.cells cells e' (0,0))) (ht:∀ q,q ∈ e :: d.E → q ≠ e'):S d e W base (fun k=>ok k ∧ some k ≠ v.ownBlock) u xs:=by
  obtain ⟨f,h⟩:=h
  exact ⟨f,V3 h hty ht⟩
theorem zv7 {v1:Value} (h:S d e W base (fun k=>ok k ∧ some k ≠ v.ownBlock) u xs) (hg:W.grownBy w1 v.ownBlock) (hat:v1.ownBlock = v.ownBlock ∨ ∃ b,v1.ownBlock = some b ∧ W.heap.size ≤ b):S d e w1 base (fun k=>ok k ∧ some k ≠ v1.ownBlock) u xs:=by
  obtain ⟨f,h⟩:=h
  exact ⟨f,zq5 h hg hat⟩
theorem zis (h:(bare d).R e w base ok v xs):S d e w base ok v xs:=by
  obtain ⟨h0,inner,ho,hr⟩:=h
  refine ⟨fun _=>0,h0,inner,by rw [List.length_zipIdx];exact ho,by rw [List.length_zipIdx];exact hr.1,fun j p hj=>?_⟩
  rw [List.getElem?_zipIdx,Nat.zero_add] at hj
  obtain ⟨x,hx,rfl⟩:=Option.map_eq_some_iff.1 hj
  exact d.jJ (fun _ hk=>hk.elim) (hr.2 j x hx)
theorem znX {f f':Nat → Nat} {zs:List (α × Nat)} (h:(tag f d).R e w base ok v zs) (hf:∀ k,ok k → k < w.heap.size → f' k = f k):(tag f' d).R e w base ok v zs:=by
  obtain ⟨h0,inner,ho,hr⟩:=ZC h
  exact ⟨fun k hk=>(h0 k hk).1,inner,ho,hr.1,fun j p hj=>d.jJ (fun k hk=>⟨⟨hk.1.1.1,hk.1.2⟩,(hf k hk.1.1.1 hk.1.1.2.2.1).trans hk.2⟩) (hr.2 j p hj)⟩
end
section
variable {α β:Type} {d:Kd α} {d':Kd β} {e e' g:Nat} {w w1 W:World} {base b:Nat} {ok ok' okv oku:Nat → Prop} {u v:Value} {xs:List α} {ys:List β}
theorem zYt (h:S d e w base ok v xs) {t:Nat} {cells:Array Value} (hb:w.heap[g]? = some (.cells cells t (0,0))) (ht:e ≠ t):some g ≠ v.ownBlock:=Qm (S_R h) hb ht
theorem zit (h:S d e w base ok v xs) (hok:∀ k,ok k → k ≠ g):some g ≠ v.ownBlock:=zid (S_R h) hok
theorem WG (h:S d e w base ok v xs):∃ A c,v = .slice A xs.length c:=vw (S_R h)
theorem wO {A:Option Addr} {n c:Nat} (h:S d e w base ok (.slice A n c) xs):n = xs.length ∧ n ≤ c ∧ d.C w A xs.length xs:=vO (S_R h)
theorem zwY {ad:Addr} {n cap:Nat} (h:S d e W base ok (.slice (some ad) n cap) xs) (z:α) (i:Int) (h0:0 ≤ i) (h1:i < n) :
    ∃ c,c.length = d.sz ∧ d.M W base (fun k=>ok k ∧ some k ≠ (Value.slice (some ad) n cap).ownBlock) (xs.getD i.toNat z) c ∧ ∀ j u,c[j]? = some u → W.cell? (ad.add (i.toNat * d.sz + j)) = some u:=zio (S_R h) z i h0 h1
theorem zcW (h:S d e w base ok v xs) (a:Nat) (ha:w.heap.size ≤ a):S d e w base (fun k=>ok k ∧ k ≠ a) v xs:=pQ (Zd h) (fun k hk=>⟨hk.1,by have:=hk.2.2.1;omega⟩)
theorem zws (xs:List α) (p:α):(xs ++ [p]).zipIdx = xs.zipIdx ++ [(p,xs.length)]:=by rw [List.zipIdx_append];simp
end
section
open Classical in
theorem zeR {α:Type} {d:Kd α} {e base:Nat} {okv:Nat → Prop} {w:World} {v:Value} {xs:List α} (h:S d e w base okv v xs) (m:Nat) (kD:Nat → Prop) (hap:∀ k,kD k → ¬ okv k):∃ f,(∀ k,kD k → f k = m) ∧ (tag f d).R e w base okv v xs.zipIdx:=by
  obtain ⟨f,h⟩:=h
  exact ⟨fun k=>if kD k then m else f k,fun k hk=>if_pos hk,znX h (fun k hk _=>if_neg (fun h2=>hap k h2 hk))⟩
variable {P:Program} {ops:Array Oper} {rest:List Oper} {o:Oper} {a:Act} {Q:Exit → Act → World → Prop} {Kc:Act → World → Prop} {α:Type}
theorem zwt (d:Kd α) {w0 W:World} (base:Nat) (hgd:o.guard = none) (s x:Operand) (t e:TypeId) (z:Value) (bytes:Nat)
    (ho:o.op = .call { callee:=.builtin .append,args:=#[s,x],argTypes:=#[t,t] })
    (ht:P.underlying t = some (.slice e)) (hinfo:(P.info? e).map (fun i=>(i.zero,i.size,i.bytes)) = some (some z,d.sz,bytes)) (hz:z.cells.size = d.sz) (hs0:0 < d.sz) (hb0:0 < bytes)
    (v:Value) (xs:List α) (p:α) (cs:List Value) (ok kD:Nat → Prop) (hs:a.eval s = v) (hx:a.eval x = .slice (some ⟨W.heap.size,0,none⟩) 1 1) (hp:d.M W base kD p cs) (VT:∀ k,kD k → ok k ∧ some k ≠ v.ownBlock) (hfresh:∀ k,W.heap.size ≤ k → ok k)
    (HO:S d e W base (fun k=>ok k ∧ ¬ kD k) v xs) (HB:Below base w0 W) (hbase:base ≤ W.heap.size) (hl:(xs.length + 1) * bytes ≤ 140737488355328)
    (h:∀ v1 w1,S d e w1 base ok v1 (xs ++ [p]) → Below base w0 w1 → W.grownBy w1 v.ownBlock → (v1.ownBlock = v.ownBlock ∨ ∃ b,v1.ownBlock = some b ∧ W.heap.size ≤ b) → wpList P ops Q rest (a.put o.dst v1) w1) :
    wpList P ops Q (o :: rest) a (W.alloc (.cells cs.toArray e)):=by
  obtain ⟨f,hf,hR⟩:=zeR HO xs.length kD (fun _ hk h2=>h2.2 hk)
  refine VU (tag f d) base hgd s x t e z bytes ho ht hinfo hz hs0 hb0 v xs.zipIdx (p,xs.length) cs ok kD hs hx (d.jJ (fun k hk=>⟨hk,hf k hk⟩) hp) VT hfresh (uy hR (fun _ hk=>hk.1)) HB hbase (by rw [List.length_zipIdx];exact hl) ?_
  intro v1 w1 hr
  rw [← zws] at hr
  exact h v1 w1 ⟨f,hr⟩
theorem gq (d:Kd α) {w0 W:World} (base:Nat) (hw:Region.wanted o (yielded ops a.tmps) = true) (s x:Operand) (t e:TypeId) (z:Value) (bytes:Nat)
    (ho:o.op = .call { callee:=.builtin .append,args:=#[s,x],argTypes:=#[t,t] })
    (ht:P.underlying t = some (.slice e)) (hinfo:(P.info? e).map (fun i=>(i.zero,i.size,i.bytes)) = some (some z,d.sz,bytes)) (hz:z.cells.size = d.sz) (hs0:0 < d.sz) (hb0:0 < bytes)
    (v:Value) (xs:List α) (p:α) (cs:List Value) (ok kD:Nat → Prop) (hs:a.eval s = v) (hx:a.eval x = .slice (some ⟨W.heap.size,0,none⟩) 1 1) (hp:d.M W base kD p cs) (VT:∀ k,kD k → ok k ∧ some k ≠ v.ownBlock) (hfresh:∀ k,W.heap.size ≤ k → ok k)
    (HO:S d e W base (fun k=>ok k ∧ ¬ kD k) v xs) (HB:Below base w0 W) (hbase:base ≤ W.heap.size) (hl:(xs.length + 1) * bytes ≤ 140737488355328)
    (h:∀ v1 w1,S d e w1 base ok v1 (xs ++ [p]) → Below base w0 w1 → W.grownBy w1 v.ownBlock → (v1.ownBlock = v.ownBlock ∨ ∃ b,v1.ownBlock = some b ∧ W.heap.size ≤ b) → Kc (a.put o.dst v1) w1) :
    if Region.wanted o (yielded ops a.tmps) = true then Oper.wp P o a (W.alloc (.cells cs.toArray e)) Kc Q else Kc (a.put o.dst undef) (W.alloc (.cells cs.toArray e)):=by
  obtain ⟨f,hf,hR⟩:=zeR HO xs.length kD (fun _ hk h2=>h2.2 hk)
  refine ZO (tag f d) base hw s x t e z bytes ho ht hinfo hz hs0 hb0 v xs.zipIdx (p,xs.length) cs ok kD hs hx (d.jJ (fun k hk=>⟨hk,hf k hk⟩) hp) VT hfresh (uy hR (fun _ hk=>hk.1)) HB hbase (by rw [List.length_zipIdx];exact hl) ?_
  intro v1 w1 hr
  rw [← zws] at hr
  exact h v1 w1 ⟨f,hr⟩
end
def gap {α:Type} (f:Nat → Nat) (d:Kd α) (i:Nat) (c:List Value):Kd (α × Nat) where
  sz:=d.sz
  E:=d.E
  K:=fun w x cs=>(x.2 = i → cs = c ∧ cs.length = d.sz ∧ ∀ u ∈ cs,u.oneCell' = true) ∧ (x.2 ≠ i → d.K w x.1 cs)
  M:=fun w base ok x cs=>(x.2 = i → cs = c ∧ cs.length = d.sz ∧ ∀ u ∈ cs,u.oneCell' = true) ∧ (x.2 ≠ i → d.M w base (fun k=>ok k ∧ f k = x.2) x.1 cs)
  ZA:=fun {w x cs} h=>by
    by_cases hx:x.2 = i
    · exact (h.1 hx).2.1
    · exact d.ZA (h.2 hx)
  ZB:=fun {w x cs} h=>by
    by_cases hx:x.2 = i
    · exact (h.1 hx).2.2
    · exact d.ZB (h.2 hx)
  ZJ:=fun hb h=>⟨h.1,fun hx=>d.ZJ hb (h.2 hx)⟩
  kC:=fun h=>⟨h.1,fun hx=>d.kC (h.2 hx)⟩
  jJ:=fun hok h=>⟨h.1,fun hx=>d.jJ (fun k hk=>⟨hok k hk.1,hk.2⟩) (h.2 hx)⟩
  wJ:=fun h=>⟨h.1,fun hx=>d.jJ (fun _ hk=>⟨⟨hk.1.1,hk.2⟩,hk.1.2⟩) (d.wJ (h.2 hx))⟩
  Zj:=fun hm h=>⟨h.1,fun hx=>d.Zj (fun k hk=>hm k hk.1) (h.2 hx)⟩
  ZV:=fun hb h=>⟨h.1,fun hx=>d.ZV hb (h.2 hx)⟩
def H {α:Type} (d:Kd α) (e:Nat) (w:World) (base:Nat) (ok:Nat → Prop) (v:Value) (xs:List α) (i:Int) (oki:Nat → Prop) (c:List Value):Prop :=
  (∀ k,oki k → ok k) ∧ ∃ f,(gap f d i.toNat c).R e w base (fun k=>ok k ∧ ¬ oki k) v xs.zipIdx
section
variable {α β:Type} {d:Kd α} {e e' g n cap:Nat} {w w1 W:World} {base:Nat} {ok ok' oki kD:Nat → Prop} {u v:Value} {xs:List α} {i:Int} {c:List Value}
end
section
variable {P:Program} {ops:Array Oper} {rest:List Oper} {o:Oper} {a:Act} {Q:Exit → Act → World → Prop} {α:Type}
end
end Kd
end Go.Proofs.zk.zu
namespace Go.Proofs.zk.zu
open Go.RowKit
namespace Kd
section
variable {α:Type} {n:Nat} {d:Kd α} {hs:0 < d.sz} {w:World} {base:Nat} {ok:Nat → Prop} {xs:List α} {cs:List Value}
end
section
variable {α:Type} {n:Nat} {enc:α → Value} {h1:∀ x,(enc x).oneCell' = true} {hs:0 < (scalar enc h1).sz} {w:World} {base:Nat} {ok:Nat → Prop} {xs:List α} {cs:List Value}
end
end Kd
end Go.Proofs.zk.zu
namespace Go.Proofs.zk.zu
open Go.RowKit
section
variable {P:Program}
end
namespace Kd
section
variable {P:Program} {ops:Array Oper} {rest:List Oper} {o:Oper} {a:Act} {Q:Exit → Act → World → Prop} {Kc:Act → World → Prop} {α:Type}
end
section
variable {α:Type} {d:Kd α} {e:Nat} {w:World} {base:Nat} {ok:Nat → Prop} {v:Value} {xs:List α}
end
section
variable {P:Program} {ops:Array Oper} {rest:List Oper} {o:Oper} {a:Act} {Q:Exit → Act → World → Prop} {Kc:Act → World → Prop} {α:Type}
end
end Kd
end Go.Proofs.zk.zu
namespace Go.Proofs.zk.zu
open Go.RowKit
namespace Kd
structure Heap {α:Type} (d:Kd α):Prop where
 K:∀ {w w1:World} {x:α} {cs:List Value},(∀ k,k < w.heap.size → w1.heap[k]? = w.heap[k]?) → d.K w x cs → d.K w1 x cs
theorem zae {w w1:World} (hb:∀ k,k < w.heap.size → w1.heap[k]? = w.heap[k]?) {a:Addr} {v:Value} (h:w.cell? a = some v):w1.cell? a = some v:=by
 have:=hb a.block (World.block_lt_of_cell? w a h)
 simpa [World.cell?,this] using h
theorem Heap.C {α:Type} {d:Kd α} (hd:Heap d) {w w1:World} {A:Option Addr} {n:Nat} {xs:List α} (hb:∀ k,k < w.heap.size → w1.heap[k]? = w.heap[k]?) (h:d.C w A n xs):d.C w1 A n xs :=
 ⟨h.1,h.2.1,fun hn=>by
  obtain ⟨ad,e,hc⟩:=h.2.2 hn
  refine ⟨ad,e,fun j p hj=>?_⟩
  obtain ⟨c,hs,hr,hcell⟩:=hc j p hj
  exact ⟨c,hs,hd.K hb hr,fun i u hu=>zae hb (hcell i u hu)⟩⟩
theorem zjx (k:IntKind):Heap (Kd.int k):=⟨fun _ h=>h⟩
theorem zaf:Heap Kd.bool:=⟨fun _ h=>h⟩
theorem YC:Heap Kd.string:=⟨fun _ h=>h⟩
theorem zzO {α:Type} {d:Kd α} (e:Nat) (hd:Heap d):Heap (slice e d):=⟨by
 rintro w w1 x cs hb ⟨A,c,rfl,hl,hr⟩
 exact ⟨A,c,rfl,hl,hd.C hb hr⟩⟩
theorem Yy {α β:Type} {a:Kd α} {b:Kd β} (ha:Heap a) (hb':Heap b):Heap (pair a b):=⟨by
 rintro w w1 x cs hb ⟨c0,c1,rfl,h0,h1⟩
 exact ⟨c0,c1,rfl,ha.K hb h0,hb'.K hb h1⟩⟩
theorem zzP {α β:Type} {d:Kd α} (f:β → α) (hd:Heap d):Heap (iso d f):=⟨fun hb h=>hd.K hb h⟩
section
variable {α:Type} {d:Kd α} {e base g n c:Nat} {ok:Nat → Prop} {w w0 W:World} {A:Option Addr} {xs:List α}
end
end Kd
end Go.Proofs.zk.zu
namespace Go.Proofs.zk.zu
open Go.RowKit
def Kept (w W:World) (S:Nat → Prop):Prop:=w.heap.size ≤ W.heap.size ∧ ∀ i,i < w.heap.size → ¬ S i → W.heap[i]? = w.heap[i]?
section
variable {w W W2:World} {S S2 S':Nat → Prop}
theorem Kept.refl (w:World) (S:Nat → Prop):Kept w w S:=⟨Nat.le_refl _,fun _ _ _=>rfl⟩
theorem Kept.of_below (h:Below w.heap.size w W) (S:Nat → Prop):Kept w W S:=⟨h.size,fun i hi _=>h.block i hi⟩
theorem Kept.mono (h:Kept w W S) (hs:∀ k,S k → S' k):Kept w W S':=⟨h.1,fun i hi hn=>h.2 i hi (fun hk=>hn (hs i hk))⟩
theorem Kept.then_ (h:Kept w W S) (k:Kept W W2 S2) (hs:∀ k,S2 k → S k ∨ w.heap.size ≤ k):Kept w W2 S :=
 ⟨Nat.le_trans h.1 k.1,fun i hi hn=>(k.2 i (Nat.lt_of_lt_of_le hi h.1) (fun h2=>(hs i h2).elim hn (fun h3=>by omega))).trans (h.2 i hi hn)⟩
theorem Kept.below (h:Kept w W S) (hb:Below W.heap.size W W2):Kept w W2 S:=h.then_ (Kept.of_below hb (fun _=>False)) (fun _ hk=>hk.elim)
theorem Kept.alloc (h:Kept w W S) (o:Obj):Kept w (W.alloc o) S:=h.below (yX (Below.refl _ _) o)
theorem Kept.drew (h:Kept w W S):Kept w W.drew S:=h
theorem Kept.drewN (h:Kept w W S) (m:Nat):Kept w (W.drewN m) S:=h
theorem Kept.setCell (h:Kept w W S) {p:Addr} (hp:S p.block ∨ w.heap.size ≤ p.block) (u:Value):Kept w (W.setCell p u) S :=
 h.then_ (S2:=fun k=>k = p.block) ⟨by simp [World.setCell],fun i _ hn=>Below.heap_setCell W p u i hn⟩ (fun k hk=>by rw [hk];exact hp)
theorem Kept.keep {g:Nat} (h:pq w W g none) (k:Kept W W2 S2) (hs:∀ k,S2 k → w.heap.size ≤ k):pq w W2 g none :=
 ⟨Nat.le_trans h.1 k.1,fun i hi hg hr=>(k.2 i (Nat.lt_of_lt_of_le hi h.1) (fun h2=>by have:=hs i h2;omega)).trans (h.2 i hi hg hr)⟩
end
namespace Kd
section
variable {α:Type} {d:Kd α} {e base n c:Nat} {ok oki S S2:Nat → Prop} {w w0 W W1 W2:World} {v:Value} {A:Option Addr} {xs:List α} {i:Int} {cs:List Value}
theorem zvv (h:d.R e W base ok v xs) (hk:Kept W W2 S) (hne:∀ k,ok k → ¬ S k):d.R e W2 base ok v xs:=aY h (fun k ho hlt=>hk.2 k hlt (hne k ho))
end
end Kd
end Go.Proofs.zk.zu
namespace Go.Proofs.zk.zu
open Go.RowKit
def Zo (P:World → Prop) (W:World) (ok:Nat → Prop):Prop:=∀ W':World,(∀ k,ok k → k < W.heap.size → W'.heap[k]? = W.heap[k]?) → P W'
theorem zfC {W W1:World} {k:Nat} (h:W1.heap[k]? = W.heap[k]?) (hlt:k < W.heap.size):k < W1.heap.size:=by
 rw [Array.getElem?_eq_getElem hlt] at h
 exact (Array.getElem?_eq_some_iff.1 h).1
namespace Zo
variable {P Q:World → Prop} {W W1:World} {ok ok':Nat → Prop}
theorem now (h:Zo P W ok):P W:=h W (fun _ _ _=>rfl)
theorem mono (h:Zo P W ok) (hok:∀ k,ok k → ok' k):Zo P W ok':=fun W' hW=>h W' (fun k hk hlt=>hW k (hok k hk) hlt)
theorem bound (h:Zo P W ok):Zo P W (fun k=>ok k ∧ k < W.heap.size):=fun W' hW=>h W' (fun k hk hlt=>hW k ⟨hk,hlt⟩ hlt)
theorem step (h:Zo P W ok) (hm:∀ k,ok k → k < W.heap.size → W1.heap[k]? = W.heap[k]?):Zo P W1 ok:=fun W' hW=>h W' (fun k hk hlt=>(hW k hk (zfC (hm k hk hlt) hlt)).trans (hm k hk hlt))
theorem imp (h:Zo P W ok) (hi:∀ W',P W' → Q W'):Zo Q W ok:=fun W' hW=>hi W' (h W' hW)
theorem old (h:Zo P W ok) (hb:Below W.heap.size W W1):Zo P W1 (fun k=>ok k ∧ k < W.heap.size):=(h.bound).step (fun k _ hlt=>hb.block k hlt)
end Zo
namespace Kd
def F {α:Type} (d:Kd α) (W:World) (ok:Nat → Prop) (A:Option Addr) (n:Nat) (xs:List α):Prop:=Zo (fun W=>d.C W A n xs) W ok
def FK {α:Type} (d:Kd α) (W:World) (ok:Nat → Prop) (x:α) (c:List Value):Prop:=Zo (fun W=>d.K W x c) W ok
section
variable {α β:Type} {d:Kd α} {e base n n' cc g N:Nat} {ok ok' kD S:Nat → Prop} {w w0 w1 W W1:World} {A A':Option Addr} {u v v1:Value} {xs:List α} {xs':List β} {d':Kd β} {x:α} {c:List Value}
theorem zYu (h:F d W ok A n xs):d.C W A n xs:=Zo.now h
theorem zqc (h:F d W ok A n xs) (hok:∀ k,ok k → ok' k):F d W ok' A n xs:=Zo.mono h hok
theorem zQm (h:F d W ok A n xs):F d W (fun k=>ok k ∧ k < W.heap.size) A n xs:=Zo.bound h
theorem ziu (h:F d W ok A n xs) (hm:∀ k,ok k → k < W.heap.size → W1.heap[k]? = W.heap[k]?):F d W1 ok A n xs:=Zo.step h hm
theorem zxz (h:F d W ok A n xs) (hb:Below W.heap.size W W1):F d W1 ok A n xs:=ziu h (fun k _ hlt=>hb.block k hlt)
theorem zfD (h:F d W ok A n xs) (o:Obj):F d (W.alloc o) ok A n xs:=zxz h (yX (Below.refl _ _) o)
theorem ziA (h:F d W ok A n xs):F d W.drew ok A n xs:=zxz h (Wx (Below.refl _ _))
theorem zfE (h:F d W ok A n xs) (m:Nat):F d (W.drewN m) ok A n xs:=zxz h (zL (Below.refl _ _) m)
theorem znJ (d:Kd α) (W:World) (ok:Nat → Prop):F d W ok none ([]:List α).length []:=fun W' _=>zj8 d W'
theorem zca (h:F d W ok A n xs) (hbase:∀ k,v.ownBlock = some k → W.heap.size ≤ k) (hb:Below W.heap.size W W1):F d W1 (fun k=>ok k ∧ some k ≠ v.ownBlock) A n xs :=
 zqc (Zo.old h hb) (fun k hk=>⟨hk.1,fun he=>by have:=hbase k he.symm;have:=hk.2;omega⟩)
theorem zcb (h:F d W ok A n xs) (a:Nat) (ha:W.heap.size ≤ a):F d W (fun k=>ok k ∧ k ≠ a) A n xs:=zqc (zQm h) (fun k hk=>⟨hk.1,by have:=hk.2;omega⟩)
theorem zfF (h:F d W (fun k=>ok k ∧ some k ≠ v.ownBlock) A n xs) (hg:W.grownBy W1 v.ownBlock) (hat:v1.ownBlock = v.ownBlock ∨ ∃ b,v1.ownBlock = some b ∧ W.heap.size ≤ b):F d W1 (fun k=>ok k ∧ some k ≠ v1.ownBlock) A n xs:=by
 refine zqc (Zo.step (zQm h) (fun k hk hlt=>hg.block k hlt hk.1.2)) (fun k hk=>⟨hk.1.1,?_⟩)
 rcases hat with hat | ⟨b,hb,hle⟩
 ·rw [hat];exact hk.1.2
 ·rw [hb]
  intro he
  injection he with he
  have:=hk.2
  omega
theorem znV (h:F d W ok A n xs) (hb:Below W.heap.size W W1):F d W1 (fun k=>ok k ∧ k < W.heap.size) A n xs:=Zo.old h hb
theorem ziB (h:F d W1 (fun k=>ok k ∧ k < N) A n xs) (hbase:∀ k,v.ownBlock = some k → N ≤ k):F d W1 (fun k=>(ok k ∧ some k ≠ v.ownBlock) ∧ k < N) A n xs :=
 zqc h (fun k hk=>⟨⟨hk.1,fun he=>Nat.lt_irrefl _ (Nat.lt_of_lt_of_le hk.2 (hbase k he.symm))⟩,hk.2⟩)
theorem C_F (hd:Heap d) (h:d.C w A n xs):F d w (fun k=>k < w.heap.size) A n xs:=fun _ hW=>hd.C (fun k hlt=>hW k hlt hlt) h
theorem zwu (h:FK d W ok x c):d.K W x c:=Zo.now h
theorem zv8 (h:FK d W ok x c) (hok:∀ k,ok k → ok' k):FK d W ok' x c:=Zo.mono h hok
theorem zwA (h:FK d W ok x c):FK d W (fun k=>ok k ∧ k < W.heap.size) x c:=Zo.bound h
theorem zQn (h:FK d W ok x c) (hm:∀ k,ok k → k < W.heap.size → W1.heap[k]? = W.heap[k]?):FK d W1 ok x c:=Zo.step h hm
theorem zfG (h:d.M W base ok x c):FK d W ok x c:=fun _ hW=>d.kC (zaW h hW)
theorem emptied (W:World) (g:Nat):∃ W':World,(∀ k,k ≠ g → W'.heap[k]? = W.heap[k]?) ∧ ∀ a:Addr,a.block = g → W'.cell? a = none:=by
 refine ⟨{ W with heap:=W.heap.setIfInBounds g (.cells #[] 0) },fun k hk=>by simp [Ne.symm hk],fun a ha=>?_⟩
 subst ha
 by_cases hlt:a.block < W.heap.size
 ·simp [World.cell?,hlt]
 ·simp [World.cell?,hlt]
end
end Kd
end Go.Proofs.zk.zu
namespace Go.Proofs.zk.zu
open Go.RowKit
namespace Kd
def chunks (sz:Nat) (n:Nat) (inner:List Value):List (List Value):=(List.range n).map fun j=>(inner.drop (j * sz)).take sz
theorem ZY (sz n:Nat) (inner:List Value):(chunks sz n inner).length = n:=by simp [chunks]
theorem zah {sz n:Nat} {inner:List Value} {j:Nat} (hj:j < n):(chunks sz n inner)[j]? = some ((inner.drop (j * sz)).take sz):=by simp [chunks,hj]
theorem gG {sz n:Nat} {inner:List Value} {j:Nat} {c:List Value} (h:(chunks sz n inner)[j]? = some c):c = (inner.drop (j * sz)).take sz:=by
 have hj:j < n:=by have:=(List.getElem?_eq_some_iff.1 h).1;rwa [ZY] at this
 rw [zah hj] at h
 injection h with h
 exact h.symm
theorem zcc {α:Type} {Rr:α → List Value → Prop} {sz:Nat} {xs:List α} {inner:List Value} (h:xY Rr sz xs inner) (hR:∀ x c,Rr x c → c.length = sz ∧ ∀ u ∈ c,u.oneCell' = true):xY (fun x cs=>cs = x ∧ cs.length = sz ∧ ∀ u ∈ cs,u.oneCell' = true) sz (chunks sz xs.length inner) inner:=by
 refine ⟨by rw [ZY];exact h.1,fun j p hj=>?_⟩
 have hjl:j < xs.length:=by have:=(List.getElem?_eq_some_iff.1 hj).1;rwa [ZY] at this
 have hp:=gG hj
 exact ⟨hp.symm,hR _ _ (h.2 j _ (List.getElem?_eq_getElem hjl))⟩
section
variable {α:Type} {d:Kd α} {e base n cc g:Nat} {ok ok' kD S:Nat → Prop} {w w1 W W1:World} {A:Option Addr} {u v v1:Value} {xs:List α} {x:α} {c:List Value}
theorem znK (h:F d W ok A n xs) (z:α) (i:Int) (h0:0 ≤ i) (h1:i < n) :
  ∃ ad c,A = some ad ∧ c.length = d.sz ∧ FK d W ok (xs.getD i.toNat z) c ∧ (∀ j u,c[j]? = some u → W.cell? (ad.add (i.toNat * d.sz + j)) = some u) ∧ (0 < d.sz → ok ad.block):=by
 obtain ⟨ad,c,rfl,hcl,hK,hcc⟩:=QB (zYu h) z i h0 h1
 have hin:0 < d.sz → ok ad.block:=by
  intro hs
  by_cases hk:ok ad.block
  ·exact hk
  ·obtain ⟨W',h2,h3⟩:=emptied W ad.block
   obtain ⟨ad',c',he,hcl',_,zcd⟩:=QB (h W' (fun k hk' _=>h2 k (fun e=>hk (e ▸ hk')))) z i h0 h1
   injection he with he
   subst he
   have h4:=zcd 0 _ (List.getElem?_eq_getElem (by omega))
   rw [h3 _ (add_block _ _)] at h4
   cases h4
 refine ⟨ad,c,rfl,hcl,fun W' hW=>?_,hcc,hin⟩
 obtain ⟨ad',c',he,hcl',hK',zcd⟩:=QB (h W' hW) z i h0 h1
 injection he with he
 subst he
 have hc:c = c':=by
  apply List.ext_getElem?
  intro j
  by_cases hj:j < d.sz
  ·have hb:W'.heap[ad.block]? = W.heap[ad.block]?:=by
    have h5:=hcc j _ (List.getElem?_eq_getElem (by omega))
    have h6:=World.block_lt_of_cell? W _ h5
    rw [add_block] at h6
    exact hW _ (hin (by omega)) h6
   have h5:=hcc j _ (List.getElem?_eq_getElem (by omega))
   have h6:=zcd j _ (List.getElem?_eq_getElem (by omega))
   have h7:W'.cell? (ad.add (i.toNat * d.sz + j)) = W.cell? (ad.add (i.toNat * d.sz + j)):=by simp [World.cell?,add_block,hb]
   rw [h7,h5] at h6
   rw [List.getElem?_eq_getElem (by omega),List.getElem?_eq_getElem (by omega)]
   exact h6
  ·rw [List.getElem?_eq_none (by omega),List.getElem?_eq_none (by omega)]
 rw [hc]
 exact hK'
theorem ziC (h:F d W ok A n xs):kP (fun x c=>FK d W ok x c) d.sz W A n xs:=by
 obtain ⟨hl,hm,hn⟩:=zYu h
 refine ⟨hl,hm,fun hp=>?_⟩
 obtain ⟨ad,rfl,_⟩:=hn hp
 refine ⟨ad,rfl,fun j p hj=>?_⟩
 obtain ⟨hjl,hjp⟩:=List.getElem?_eq_some_iff.1 hj
 obtain ⟨ad',c,he,hcl,hK,hcc,_⟩:=znK h p (j:Int) (by omega) (by omega)
 injection he with he
 subst he
 simp only [Int.toNat_natCast] at hK hcc
 rw [List.getD_eq_getElem?_getD,hj] at hK
 exact ⟨c,hcl,hK,hcc⟩
def N {α:Type} (d:Kd α) (e:Nat) (w:World) (base:Nat) (ok:Nat → Prop) (v:Value) (xs:List α):Prop :=
 (∀ k,v.ownBlock = some k → ok k) ∧ ∃ rows:List (List Value),rows.length = xs.length ∧ (raw d.sz).R e w base (fun k=>some k = v.ownBlock) v rows ∧ ∀ (j:Nat) (x:α) (c:List Value),xs[j]? = some x → rows[j]? = some c → FK d w (fun k=>ok k ∧ some k ≠ v.ownBlock) x c
theorem zai {sz:Nat} {rows:List (List Value)} (h:(raw sz).R e w base ok v rows):(raw sz).R e w base (fun k=>some k = v.ownBlock) v rows:=zq9 rfl h
theorem zfH {sz:Nat} {rows:List (List Value)} (h:(raw sz).R e w base ok v rows):(raw sz).R e w base (fun _=>True) v rows:=uy h (fun _ _=>trivial)
theorem R_N (h:d.R e w base ok v xs):N d e w base ok v xs:=by
 obtain ⟨h0,inner,ho,hr⟩:=h
 refine ⟨h0,chunks d.sz xs.length inner,ZY _ _ _,⟨fun k hk=>hk.symm,inner,by rw [ZY];exact ho,zcc hr (fun x c hp=>⟨d.ZA (d.kC hp),d.ZB (d.kC hp)⟩)⟩,fun j x c hx hc=>?_⟩
 rw [gG hc]
 exact zfG (hr.2 j x hx)
theorem aC (h:Kd.S d e w base ok v xs):N d e w base ok v xs:=R_N (S_R h)
theorem YI (d:Kd α) (e:Nat) (w:World) (base:Nat) (ok:Nat → Prop):N d e w base ok (.slice none 0 0) []:=R_N (jf _ _ _ _ _)
theorem kE (h:N d e w base ok v xs) (hok:∀ k,ok k → ok' k):N d e w base ok' v xs:=by
 obtain ⟨h0,rows,hl,hR,hf⟩:=h
 exact ⟨fun k hk=>hok k (h0 k hk),rows,hl,hR,fun j x c hx hc=>zv8 (hf j x c hx hc) (fun k hk=>⟨hok k hk.1,hk.2⟩)⟩
theorem WH (h:N d e w base ok v xs):∀ k,v.ownBlock = some k → k < w.heap.size:=by
 obtain ⟨_,rows,_,hR,_⟩:=h
 exact YB hR
theorem ziD (h:N d e w base ok v xs):∀ k,v.ownBlock = some k → base ≤ k:=by
 obtain ⟨_,rows,_,hR,_⟩:=h
 exact ug hR
theorem zrw (h:N d e w base ok v xs) {t:Nat} {cells:Array Value} (hb:w.heap[g]? = some (.cells cells t (0,0))) (ht:e ≠ t):some g ≠ v.ownBlock:=by
 obtain ⟨_,rows,_,hR,_⟩:=h
 exact Qm hR hb ht
theorem zQo (h:N d e w base ok v xs):N d e w base (fun k=>ok k ∧ k < w.heap.size) v xs:=by
 have hlt:=WH h
 obtain ⟨h0,rows,hl,hR,hf⟩:=h
 exact ⟨fun k hk=>⟨h0 k hk,hlt k hk⟩,rows,hl,hR,fun j x c hx hc=>zv8 (zwA (hf j x c hx hc)) (fun k hk=>⟨⟨hk.1.1,hk.2⟩,hk.1.2⟩)⟩
theorem ZE {base':Nat} (h:N d e w base ok v xs) (hb:base' ≤ base):N d e w base' ok v xs:=by
 obtain ⟨h0,rows,hl,hR,hf⟩:=h
 exact ⟨h0,rows,hl,uI hR hb,hf⟩
theorem zal (h:N d e w base ok v xs) (hm:∀ k,ok k → k < w.heap.size → w1.heap[k]? = w.heap[k]?):N d e w1 base ok v xs:=by
 obtain ⟨h0,rows,hl,hR,hf⟩:=h
 exact ⟨h0,rows,hl,aY hR (fun k hk hlt=>hm k (h0 k hk.symm) hlt),fun j x c hx hc=>zQn (hf j x c hx hc) (fun k hk hlt=>hm k hk.1 hlt)⟩
theorem kW (h:N d e w base ok v xs) (hb:Below w.heap.size w w1):N d e w1 base ok v xs:=zal h (fun k _ hk=>hb.block k hk)
theorem zv9 (h:N d e w base ok v xs) (o:Obj):N d e (w.alloc o) base ok v xs:=kW h (yX (Below.refl _ _) o)
theorem rA (h:N d e w base ok v xs):N d e w.drew base ok v xs:=kW h (Wx (Below.refl _ _))
theorem zkz (h:N d e w base ok v xs) (m:Nat):N d e (w.drewN m) base ok v xs:=kW h (zL (Below.refl _ _) m)
theorem zzR (h:N d e W base ok v xs) (hbase:∀ k,u.ownBlock = some k → W.heap.size ≤ k) (hb:Below W.heap.size W w1):N d e w1 base (fun k=>ok k ∧ some k ≠ u.ownBlock) v xs :=
 kE (kW (zQo h) hb) (fun k hk=>⟨hk.1,fun he=>by have:=hbase k he.symm;have:=hk.2;omega⟩)
theorem tZ (h:N d e W base ok v xs) (hb:Below W.heap.size W w1):N d e w1 base (fun k=>ok k ∧ k < W.heap.size) v xs:=kW (zQo h) hb
theorem Z5 {b:Nat} (h:N d e w1 base (fun k=>ok k ∧ k < b) v xs) (hbase:∀ k,u.ownBlock = some k → b ≤ k):N d e w1 base (fun k=>(ok k ∧ some k ≠ u.ownBlock) ∧ k < b) v xs :=
 kE h (fun k hk=>⟨⟨hk.1,fun e=>Nat.lt_irrefl _ (Nat.lt_of_lt_of_le hk.2 (hbase k e.symm))⟩,hk.2⟩)
theorem QD (h:N d e w base ok v xs):∃ A c,v = .slice A xs.length c:=by
 obtain ⟨_,rows,hl,hR,_⟩:=h
 obtain ⟨A,c,he⟩:=vw hR
 exact ⟨A,c,by rw [he,hl]⟩
theorem kR {n c:Nat} (h:N d e w base ok (.slice A n c) xs):n = xs.length ∧ n ≤ c ∧ d.C w A xs.length xs:=by
 obtain ⟨_,rows,hl,hR,hf⟩:=h
 obtain ⟨hn,hc,hC⟩:=vO hR
 refine ⟨by omega,hc,?_⟩
 rw [hl] at hC
 refine ⟨rfl,hC.2.1,fun hp=>?_⟩
 obtain ⟨ad,he,hcell⟩:=hC.2.2 hp
 refine ⟨ad,he,fun j p hj=>?_⟩
 have hjl:j < rows.length:=by have:=(List.getElem?_eq_some_iff.1 hj).1;omega
 obtain ⟨c',hcl,hK,hcc⟩:=hcell j _ (List.getElem?_eq_getElem hjl)
 have hk:=zwu (hf j p _ hj (List.getElem?_eq_getElem hjl))
 refine ⟨c',hcl,?_,hcc⟩
 rw [show c' = rows[j] from hK.1]
 exact hk
theorem N_F {n:Nat} (h:N d e w base ok (.slice A n cc) xs):F d w ok A n xs:=fun W' hW=>by
 have h2:=kR (zal h hW)
 rw [h2.1]
 exact h2.2.2
end
end Kd
end Go.Proofs.zk.zu
namespace Go.Proofs.zk.zu
open Go.RowKit
namespace Kd
section
variable {α:Type} {d:Kd α} {W:World} {g n:Nat} {S ok:Nat → Prop} {A:Option Addr} {ad:Addr} {xs:List α}
end
end Kd
end Go.Proofs.zk.zu
namespace Go.Proofs.zk.zu
open Go.RowKit
section
variable {w w' u:World} {m B g:Nat} {o:Obj} {row:Option Nat} {S:Nat → Prop} {a:Addr} {v:Value}
end
namespace Kd
section
variable {α:Type} {d:Kd α} {e base n m:Nat} {ok:Nat → Prop} {w w':World} {v:Value} {A:Option Addr} {xs:List α}
end
end Kd
end Go.Proofs.zk.zu
namespace Go.Proofs.zk.zu
open Go.RowKit
section
variable {P:Program} {d:Nat} {xs ys:Array Value} {f:Field} {fs:List Field} {a b:Value} {r s:Bool} {w:World}
end
end Go.Proofs.zk.zu
namespace Go.Proofs.zk.zu
theorem xY.one {α:Type} {R:α → List Value → Prop} {ps:List α} {cs:List Value} {p:α} {v:Value} (hp:R p [v]) (h:xY R 1 ps cs):xY R 1 (p :: ps) (v :: cs):=by
 refine ⟨by simp [h.1],fun j q hq=>?_⟩
 cases j with
 | zero =>
  simp only [List.getElem?_cons_zero,Option.some.injEq] at hq
  subst hq
  simpa using hp
 | succ j =>
  simp only [List.getElem?_cons_succ] at hq
  have h1:=h.2 j q hq
  simpa [Nat.mul_one] using h1
theorem xY.front {α:Type} {R:α → List Value → Prop} {size:Nat} {ps:List α} {cs c all:List Value} {p:α} (hp:R p c) (hc:c.length = size) (h:xY R size ps cs) (ha:c ++ cs = all):xY R size (p :: ps) all:=by
 subst ha
 refine ⟨by rw [List.length_append,hc,h.1,List.length_cons,Nat.succ_mul,Nat.add_comm],fun j q hq=>?_⟩
 cases j with
 | zero =>
  simp only [List.getElem?_cons_zero,Option.some.injEq] at hq
  subst hq
  rw [Nat.zero_mul,List.drop_zero,List.take_append_of_le_length (by omega),List.take_of_length_le (by omega)]
  exact hp
 | succ j =>
  simp only [List.getElem?_cons_succ] at hq
  have h1:=h.2 j q hq
  rw [Nat.succ_mul,List.drop_append,List.drop_of_length_le (by rw [hc];exact Nat.le_add_left _ _),List.nil_append,hc,Nat.add_sub_cancel]
  exact h1
theorem xY.c2 {α:Type} {R:α → List Value → Prop} {ps:List α} {cs:List Value} {p:α} {va vb:Value} (hp:R p [va,vb]) (h:xY R 2 ps cs):xY R 2 (p :: ps) (va :: vb :: cs):=xY.front hp rfl h rfl
theorem xY.c3 {α:Type} {R:α → List Value → Prop} {ps:List α} {cs:List Value} {p:α} {va vb vc:Value} (hp:R p [va,vb,vc]) (h:xY R 3 ps cs):xY R 3 (p :: ps) (va :: vb :: vc :: cs):=xY.front hp rfl h rfl
theorem xY.c4 {α:Type} {R:α → List Value → Prop} {ps:List α} {cs:List Value} {p:α} {va vb vc vd:Value} (hp:R p [va,vb,vc,vd]) (h:xY R 4 ps cs):xY R 4 (p :: ps) (va :: vb :: vc :: vd :: cs):=xY.front hp rfl h rfl
theorem xY.c5 {α:Type} {R:α → List Value → Prop} {ps:List α} {cs:List Value} {p:α} {va vb vc vd ve:Value} (hp:R p [va,vb,vc,vd,ve]) (h:xY R 5 ps cs):xY R 5 (p :: ps) (va :: vb :: vc :: vd :: ve :: cs):=xY.front hp rfl h rfl
theorem xY.c6 {α:Type} {R:α → List Value → Prop} {ps:List α} {cs:List Value} {p:α} {va vb vc vd ve vf:Value} (hp:R p [va,vb,vc,vd,ve,vf]) (h:xY R 6 ps cs):xY R 6 (p :: ps) (va :: vb :: vc :: vd :: ve :: vf :: cs):=xY.front hp rfl h rfl
theorem xY.c7 {α:Type} {R:α → List Value → Prop} {ps:List α} {cs:List Value} {p:α} {va vb vc vd ve vf vg:Value} (hp:R p [va,vb,vc,vd,ve,vf,vg]) (h:xY R 7 ps cs):xY R 7 (p :: ps) (va :: vb :: vc :: vd :: ve :: vf :: vg :: cs):=xY.front hp rfl h rfl
theorem xY.c8 {α:Type} {R:α → List Value → Prop} {ps:List α} {cs:List Value} {p:α} {va vb vc vd ve vf vg vh:Value} (hp:R p [va,vb,vc,vd,ve,vf,vg,vh]) (h:xY R 8 ps cs):xY R 8 (p :: ps) (va :: vb :: vc :: vd :: ve :: vf :: vg :: vh :: cs):=xY.front hp rfl h rfl
theorem xY.c9 {α:Type} {R:α → List Value → Prop} {ps:List α} {cs:List Value} {p:α} {va vb vc vd ve vf vg vh vi:Value} (hp:R p [va,vb,vc,vd,ve,vf,vg,vh,vi]) (h:xY R 9 ps cs):xY R 9 (p :: ps) (va :: vb :: vc :: vd :: ve :: vf :: vg :: vh :: vi :: cs):=xY.front hp rfl h rfl
theorem xY.c10 {α:Type} {R:α → List Value → Prop} {ps:List α} {cs:List Value} {p:α} {va vb vc vd ve vf vg vh vi vj:Value} (hp:R p [va,vb,vc,vd,ve,vf,vg,vh,vi,vj]) (h:xY R 10 ps cs):xY R 10 (p :: ps) (va :: vb :: vc :: vd :: ve :: vf :: vg :: vh :: vi :: vj :: cs):=xY.front hp rfl h rfl
end Go.Proofs.zk.zu
namespace Go.Proofs.zk.yD
section
variable {P:Program} {ops:Array Oper} {Q:Exit → Act → World → Prop} {md:Region.Mode} {T:Bool × List (List Nat × List Nat)} {B:List Nat} {O:List Nat} {b:Nat → Bool} {i j n:Nat}
end
end Go.Proofs.zk.yD
namespace Go.Proofs.zk.zu
open Go.RowKit
end Go.Proofs.zk.zu
namespace Go.Proofs.zk.yD
section
variable {ops:Array Oper} {a:Act} {o og:Oper} {g:Nat} {t:Tmp} {u:Bool}
end
end Go.Proofs.zk.yD
namespace Go.Proofs.zk.zu
open Go.RowKit
section
variable {P:Program} {ops:Array Oper} {rest:List Oper} {o:Oper} {a:Act} {Q:Exit → Act → World → Prop} {W:World}
theorem uO (hw:Region.wanted o (yielded ops a.tmps) = true) (h:wpList P ops Q ({ o with guard:=none } :: rest) a W):wpList P ops Q (o :: rest) a W:=by
 have h1:Region.wanted { o with guard:=none } (yielded ops a.tmps) = true:=rfl
 unfold wpList at h ⊢
 rw [if_pos h1] at h
 rw [if_pos hw]
 exact h
end
end Go.Proofs.zk.zu
namespace Go.Proofs.zk.zu
open Go.RowKit
namespace Kd
section
variable {α:Type} {d:Kd α} {e base n cap g:Nat} {ok ok' kD:Nat → Prop} {w w1 W:World} {v v1:Value} {xs ys:List α}
theorem zYA {rows news:List (List Value)} (h0:∀ k,v.ownBlock = some k → ok k) (hl:rows.length = xs.length) (hf:∀ (j:Nat) (x:α) (c:List Value),xs[j]? = some x → rows[j]? = some c → FK d W (fun k=>ok k ∧ some k ≠ v.ownBlock) x c)
  (hl2:news.length = ys.length) (hf2:∀ (j:Nat) (x:α) (c:List Value),ys[j]? = some x → news[j]? = some c → FK d W kD x c) (VT:∀ k,kD k → ok k ∧ some k ≠ v.ownBlock) (hfresh:∀ k,W.heap.size ≤ k → ok k)
  (hR:(raw d.sz).R e w1 base (fun _=>True) v1 (rows ++ news)) (hg:W.grownBy w1 v.ownBlock) (hat:v1.ownBlock = v.ownBlock ∨ ∃ b,v1.ownBlock = some b ∧ W.heap.size ≤ b):N d e w1 base ok v1 (xs ++ ys):=by
 have hne:∀ k,some k ≠ v.ownBlock → k < W.heap.size → some k ≠ v1.ownBlock:=by
  intro k hk hlt
  rcases hat with hat | ⟨b,hb,hle⟩
  ·rw [hat];exact hk
  ·rw [hb]
   intro he
   injection he with he
   omega
 have step:∀ {x:α} {c:List Value} {o:Nat → Prop},FK d W o x c → (∀ k,o k → ok k ∧ some k ≠ v.ownBlock) → FK d w1 (fun k=>ok k ∧ some k ≠ v1.ownBlock) x c:=by
  intro x c o hq ho
  exact zv8 (zQn (zwA hq) (fun k hk hlt=>hg.block k hlt (ho k hk.1).2)) (fun k hk=>⟨(ho k hk.1).1,hne k (ho k hk.1).2 hk.2⟩)
 refine ⟨fun k hk=>?_,rows ++ news,by rw [List.length_append,List.length_append,hl,hl2],zai hR,fun j x c hx hc=>?_⟩
 ·rcases hat with hat | ⟨b,hb,hle⟩
  ·exact h0 k (hat ▸ hk)
  ·rw [hb] at hk
   injection hk with hk
   exact hfresh k (by omega)
 ·rcases Nat.lt_or_ge j xs.length with hlt | hge
  ·rw [List.getElem?_append_left hlt] at hx
   rw [List.getElem?_append_left (by omega)] at hc
   exact step (hf j x c hx hc) (fun _ hk=>hk)
  ·rw [List.getElem?_append_right hge] at hx
   rw [List.getElem?_append_right (by omega),hl] at hc
   exact step (hf2 _ x c hx hc) VT
theorem zam {Rr:α → List Value → Prop} {sz m:Nat} {A:Option Addr} (h:kP Rr sz W A m ys) (hR:∀ x c,Rr x c → c.length = sz ∧ ∀ u ∈ c,u.oneCell' = true) :
  ∃ news:List (List Value),news.length = ys.length ∧ kP (fun x cs=>cs = x ∧ cs.length = sz ∧ ∀ u ∈ cs,u.oneCell' = true) sz W A m news ∧ ∀ (j:Nat) (x:α) (c:List Value),ys[j]? = some x → news[j]? = some c → Rr x c:=by
 rcases Nat.eq_zero_or_pos m with h0 | hp
 ·have hy:ys = []:=List.eq_nil_of_length_eq_zero (h.1.trans h0)
  subst hy
  exact ⟨[],rfl,⟨h0 ▸ rfl,h.2.1,fun hp=>by omega⟩,fun j x c hx=>by simp at hx⟩
 ·obtain ⟨ad,rfl,_⟩:=h.2.2 hp
  obtain ⟨inner,hr,hc⟩:=kP.zaY h
  refine ⟨chunks sz ys.length inner,ZY _ _ _,⟨by rw [ZY];exact h.1,h.2.1,fun _=>⟨ad,rfl,fun j p hj=>?_⟩⟩,fun j x c hx hcc=>?_⟩
  ·have hjl:j < ys.length:=by have:=(List.getElem?_eq_some_iff.1 hj).1;rwa [ZY] at this
   have hpe:=gG hj
   have hq:=hR _ _ (hr.2 j _ (List.getElem?_eq_getElem hjl))
   rw [← hpe] at hq
   refine ⟨p,hq.1,⟨rfl,hq⟩,fun i u hu=>?_⟩
   have hu2:inner[j * sz + i]? = some u:=by
    rw [hpe,List.getElem?_take] at hu
    split at hu
    ·rw [List.getElem?_drop] at hu
     exact hu
    ·cases hu
   exact hc _ u hu2
  ·rw [gG hcc]
   exact hr.2 j x hx
end
section
variable {P:Program} {ops:Array Oper} {rest:List Oper} {o:Oper} {a:Act} {Q:Exit → Act → World → Prop} {Kc:Act → World → Prop} {α:Type}
theorem zqd (d:Kd α) {w0 W:World} (base:Nat) (hw:Region.wanted o (yielded ops a.tmps) = true) (s x:Operand) (t e:TypeId) (z:Value) (bytes:Nat)
  (ho:o.op = .call { callee:=.builtin .append,args:=#[s,x],argTypes:=#[t,t] })
  (ht:P.underlying t = some (.slice e)) (hinfo:(P.info? e).map (fun i=>(i.zero,i.size,i.bytes)) = some (some z,d.sz,bytes)) (hz:z.cells.size = d.sz) (hs0:0 < d.sz) (hb0:0 < bytes)
  (v:Value) (xs ys:List α) (A:Option Addr) (m c:Nat) (ok kD:Nat → Prop) (hs:a.eval s = v) (hx:a.eval x = .slice A m c)
  (HO:N d e W base ok v xs) (HR:F d W kD A m ys) (VT:∀ k,kD k → ok k ∧ some k ≠ v.ownBlock) (hfresh:∀ k,W.heap.size ≤ k → ok k)
  (HB:Below base w0 W) (hbase:base ≤ W.heap.size) (hl:(xs.length + m) * bytes ≤ 140737488355328)
  (h:∀ v1 w1,N d e w1 base ok v1 (xs ++ ys) → Below base w0 w1 → W.grownBy w1 v.ownBlock → (v1.ownBlock = v.ownBlock ∨ ∃ b,v1.ownBlock = some b ∧ W.heap.size ≤ b) → Kc (a.put o.dst v1) w1) :
  if Region.wanted o (yielded ops a.tmps) = true then Oper.wp P o a W Kc Q else Kc (a.put o.dst undef) W:=by
 obtain ⟨h0,rows,hlr,hR,hf⟩:=HO
 obtain ⟨news,hnl,hnr,hnf⟩:=zam (ziC HR) (fun y c hk=>⟨d.ZA (zwu hk),d.ZB (zwu hk)⟩)
 refine zqa (raw d.sz) base hw s x t e z bytes ho ht hinfo hz hs0 hb0 v rows news A m c (fun _=>True) (fun _=>False) hs hx (zfH hR) hnr (fun _ _ hk=>hk) (fun _ hk=>hk.elim) (fun _ _=>trivial) HB hbase (by rw [hlr];exact hl) ?_
 intro v1 w1 hr hb hg hat
 exact h v1 w1 (zYA h0 hlr hf hnl hnf VT hfresh hr hg hat) hb hg hat
end
end Kd
end Go.Proofs.zk.zu
namespace Go.Proofs.zk.yA
open Go.RowKit Go.Proofs.zk.zu
namespace Kd
open Go.Proofs.zk.zu.Kd
end Kd
namespace Kd
open Go.Proofs.zk.zu.Kd
section
variable {α:Type} {d:Kd α} {e base g N:Nat} {ok:Nat → Prop} {W w1:World} {u v:Value} {xs:List α}
end
end Kd
theorem xP (k k':IntKind) (x y:Int):Builtin.max2 (.int k x) (.int k' y) = pure (.int k (if x < y then y else x)):=by simp only [Builtin.max2,gt_iff_lt]
theorem xR (k k':IntKind) (x y:Int):Builtin.min2 (.int k x) (.int k' y) = pure (.int k (if y < x then y else x)):=by simp only [Builtin.min2]
theorem vG (ats:Array TypeId) (ty:TypeId) (a b:Value):Builtin.max_ ats ty #[a,b] = (Builtin.max2 a b >>= fun s=>pure s):=by simp only [Builtin.max_,List.foldlM_cons,List.foldlM_nil]
theorem vH (ats:Array TypeId) (ty:TypeId) (a b:Value):Builtin.min_ ats ty #[a,b] = (Builtin.min2 a b >>= fun s=>pure s):=by simp only [Builtin.min_,List.foldlM_cons,List.foldlM_nil]
theorem xB (ats:Array TypeId) (ty:TypeId) (a b c:Value):Builtin.max_ ats ty #[a,b,c] = (Builtin.max2 a b >>= fun s=>Builtin.max2 s c >>= fun s=>pure s):=by simp only [Builtin.max_,List.foldlM_cons,List.foldlM_nil]
theorem xC (ats:Array TypeId) (ty:TypeId) (a b c:Value):Builtin.min_ ats ty #[a,b,c] = (Builtin.min2 a b >>= fun s=>Builtin.min2 s c >>= fun s=>pure s):=by simp only [Builtin.min_,List.foldlM_cons,List.foldlM_nil]
theorem xS (ats:Array TypeId) (ty:TypeId) (a b c d:Value):Builtin.max_ ats ty #[a,b,c,d] = (Builtin.max2 a b >>= fun s=>Builtin.max2 s c >>= fun s=>Builtin.max2 s d >>= fun s=>pure s):=by simp only [Builtin.max_,List.foldlM_cons,List.foldlM_nil]
theorem xU (ats:Array TypeId) (ty:TypeId) (a b c d:Value):Builtin.min_ ats ty #[a,b,c,d] = (Builtin.min2 a b >>= fun s=>Builtin.min2 s c >>= fun s=>Builtin.min2 s d >>= fun s=>pure s):=by simp only [Builtin.min_,List.foldlM_cons,List.foldlM_nil]
end Go.Proofs.zk.yA
namespace Go.Proofs.zk.zu
open Go.RowKit
section
variable {P:Program} {ops:Array Oper} {rest:List Oper} {o:Oper} {a:Act} {Q:Exit → Act → World → Prop} {W:World}
theorem yE {f:FuncId} {zq:Array Operand} {ts:Array TypeId} (_ho:o.op = .call { callee:=.value (.func f),args:=zq,argTypes:=ts }) (h:wpList P ops Q (o :: rest) a W):wpList P ops Q (o :: rest) a W:=h
theorem Zp {b:Builtin} {xs:Array Operand} {ts:Array TypeId} (_ho:o.op = .call { callee:=.builtin b,args:=xs,argTypes:=ts }) (h:wpList P ops Q (o :: rest) a W):wpList P ops Q (o :: rest) a W:=h
end
def mx (a b:Int):Int:=if a < b then b else a
namespace Kd
section
variable {α:Type} {d:Kd α} {e base:Nat} {ok:Nat → Prop} {W w1:World} {v:Value} {xs:List α}
end
section
variable {α:Type} {d:Kd α} {e base g n cap:Nat} {ok oki kD:Nat → Prop} {W:World} {xs:List α} {i:Int} {c:List Value}
end
section
variable {α:Type} {d:Kd α} {e base b b' g N:Nat} {ok ok1:Nat → Prop} {W W2 w1:World} {u v:Value} {xs ys:List α} {S:Nat → Prop}
end
end Kd
end Go.Proofs.zk.zu
namespace Go.Proofs.zk.zu
open Go.RowKit
namespace Kd
def V {α:Type} (d:Kd α) (_e:Nat) (W:World) (_base:Nat) (ok:Nat → Prop) (v:Value) (xs:List α):Prop:=∃ A c,v = .slice A xs.length c ∧ xs.length ≤ c ∧ F d W ok A xs.length xs
section
variable {α β:Type} {d:Kd α} {e base base' n m c g N' lo hi:Nat} {ok ok' S:Nat → Prop} {w W w1:World} {A:Option Addr} {ad:Addr} {u v v1:Value} {xs:List α}
theorem dW (h:V d e W base ok v xs) (hF:∀ A,F d W ok A xs.length xs → F d w1 ok' A xs.length xs):V d e w1 base' ok' v xs:=by
 obtain ⟨A,c,hv,hl,hf⟩:=h
 exact ⟨A,c,hv,hl,hF A hf⟩
theorem zrZ (hl:xs.length ≤ c) (hf:F d W ok A xs.length xs):V d e W base ok (.slice A xs.length c) xs:=⟨A,c,rfl,hl,hf⟩
theorem zxq (h:V d e W base ok v xs):∃ A c,v = .slice A xs.length c:=by
 obtain ⟨A,c,hv,_⟩:=h
 exact ⟨A,c,hv⟩
theorem zYB (h:V d e W base ok (.slice A n c) xs):n = xs.length ∧ n ≤ c ∧ F d W ok A xs.length xs:=by
 obtain ⟨A',c',hv,hl,hf⟩:=h
 injection hv with ha hn hc
 subst ha;subst hc
 exact ⟨hn,by rw [hn];exact hl,hf⟩
theorem jB (h:V d e W base ok (.slice A n c) xs):n = xs.length ∧ n ≤ c ∧ d.C W A xs.length xs:=⟨(zYB h).1,(zYB h).2.1,zYu (zYB h).2.2⟩
theorem V_F (h:V d e W base ok (.slice A n c) xs):F d W ok A n xs:=by
 obtain ⟨hn,_,hf⟩:=zYB h
 rw [hn]
 exact hf
theorem YL (d:Kd α) (e:Nat) (W:World) (base:Nat) (ok:Nat → Prop):V d e W base ok (.slice none 0 0) []:=⟨none,0,rfl,Nat.le_refl _,znJ d W ok⟩
theorem N_V (h:N d e W base ok v xs):V d e W base' ok v xs:=by
 obtain ⟨A,c,rfl⟩:=QD h
 exact ⟨A,c,rfl,(kR h).2.1,N_F h⟩
theorem wL (h:V d e W base ok v xs) (hok:∀ k,ok k → ok' k):V d e W base ok' v xs:=dW h (fun _ hf=>zqc hf hok)
theorem wV (h:V d e W base ok v xs) (hb:Below W.heap.size W w1):V d e w1 base ok v xs:=dW h (fun _ hf=>zxz hf hb)
theorem XM (h:V d e W base ok v xs) (o:Obj):V d e (W.alloc o) base ok v xs:=dW h (fun _ hf=>zfD hf o)
theorem Zk (h:V d e W base ok v xs):V d e W.drew base ok v xs:=dW h (fun _ hf=>ziA hf)
theorem XO (h:V d e W base ok v xs) (m:Nat):V d e (W.drewN m) base ok v xs:=dW h (fun _ hf=>zfE hf m)
theorem zfI (h:V d e W base (fun k=>ok k ∧ some k ≠ u.ownBlock) v xs) (hg:W.grownBy w1 u.ownBlock) (hat:v1.ownBlock = u.ownBlock ∨ ∃ b,v1.ownBlock = some b ∧ W.heap.size ≤ b):V d e w1 base (fun k=>ok k ∧ some k ≠ v1.ownBlock) v xs:=dW h (fun _ hf=>zfF hf hg hat)
theorem zce (h:V d e W base (fun k=>ok k ∧ some k ≠ v.ownBlock) u xs) (hg:W.grownBy w1 v.ownBlock) (hat:v1.ownBlock = v.ownBlock ∨ ∃ b,v1.ownBlock = some b ∧ W.heap.size ≤ b):V d e w1 base (fun k=>ok k ∧ some k ≠ v1.ownBlock) u xs:=zfI h hg hat
theorem YD (h:V d e W base ok v xs) (hbase:∀ k,u.ownBlock = some k → W.heap.size ≤ k) (hb:Below W.heap.size W w1):V d e w1 base (fun k=>ok k ∧ some k ≠ u.ownBlock) v xs:=dW h (fun _ hf=>zca hf hbase hb)
theorem zwB (h:V d e W base ok v xs) (a:Nat) (ha:W.heap.size ≤ a):V d e W base (fun k=>ok k ∧ k ≠ a) v xs:=dW h (fun _ hf=>zcb hf a ha)
theorem YM (h:V d e W base ok v xs) (hb:Below W.heap.size W w1):V d e w1 base (fun k=>ok k ∧ k < W.heap.size) v xs:=dW h (fun _ hf=>znV hf hb)
theorem jV (h:V d e w1 base (fun k=>ok k ∧ k < N') v xs) (hbase:∀ k,u.ownBlock = some k → N' ≤ k):V d e w1 base (fun k=>(ok k ∧ some k ≠ u.ownBlock) ∧ k < N') v xs:=dW h (fun _ hf=>ziB hf hbase)
theorem dG {M:Nat → Prop} (h:d.R e w1 W.heap.size ok v xs) (hle:w.heap.size ≤ W.heap.size) (hM:∀ k,w.heap.size ≤ k → M k):d.R e w1 W.heap.size (fun k=>M k ∧ ok k) v xs:=uy (ZC h) (fun k hk=>⟨hM k (Nat.le_trans hle hk.2.1),hk.1⟩)
end
end Kd
end Go.Proofs.zk.zu
namespace Go.Proofs.YtggifbbiiickmaaGreatDoor.PX
open Go.RowKit Go.Proofs.zk.zu Go.Proofs.zk.yD Go.Proofs.zk.yA
attribute [local go_sem] xP xR vG vH xB xC xS xU   -- for this text's walks alone
set_option linter.unusedVariables false
set_option linter.unusedSimpArgs false
def ziE:Option Int → Value
 | none=>.nilIface
 | some c=>.iface 0 (.int .i64 c)
theorem zH:ziE none = .nilIface:=rfl
theorem zI (c:Int):ziE (some c) = .iface 0 (.int .i64 c):=rfl
theorem zvk:(Tryz.prog.info? 9).map (fun i=>(i.zero,i.size,i.bytes)) = some (some (.string ⟨#[]⟩),1,16):=by kernel_rfl
theorem aD:(Tryz.prog.info? 53).map (fun i=>(i.zero,i.size,i.bytes)) = some (some (.agg #[(.int .i64 0),(.int .i64 0),(.int .i64 0),(.int .i64 0),(.string ⟨#[]⟩),(.string ⟨#[]⟩),(.slice none 0 0)]),7,88):=by kernel_rfl
theorem ziF:(Tryz.prog.info? 60).map (fun i=>(i.zero,i.size,i.bytes)) = some (some (.agg #[(.string ⟨#[]⟩),(.bool false),(.int .i64 0),(.slice none 0 0),(.slice none 0 0),(.slice none 0 0)]),6,104):=by kernel_rfl
theorem zfL:(Tryz.prog.info? 101).map (fun i=>(i.zero,i.size,i.bytes)) = some (some (.agg #[(.string ⟨#[]⟩),(.bool false),(.int .i64 0),(.slice none 0 0),(.slice none 0 0),(.slice none 0 0)]),6,104):=by kernel_rfl
theorem zfM:(Tryz.prog.info? 106).map (fun i=>(i.zero,i.size,i.bytes)) = some (some (.agg #[(.string ⟨#[]⟩),(.int .i64 0)]),2,24):=by kernel_rfl
theorem zfN:(Tryz.prog.info? 109).map (fun i=>(i.zero,i.size,i.bytes)) = some (some (.agg #[(.string ⟨#[]⟩),(.string ⟨#[]⟩),(.string ⟨#[]⟩)]),3,48):=by kernel_rfl
theorem zfO:(Tryz.prog.info? 112).map (fun i=>(i.zero,i.size,i.bytes)) = some (some (.agg #[(.string ⟨#[]⟩),(.string ⟨#[]⟩),(.int .i64 0)]),3,40):=by kernel_rfl
structure ql where
 f0:ByteArray
 f1:Int
def z105:ql:=⟨(⟨#[]⟩:ByteArray),(0:Int)⟩
def jy:Kd ql:=Kd.iso (Kd.pair Kd.string (Kd.int .i64)) (fun x:ql=>(x.f0,x.f1))
theorem zan:Kd.Heap jy:=Kd.zzP _ (Kd.Yy Kd.YC (Kd.zjx .i64))
theorem zy7 {w:World} {x:ql} {cs:List Value} (h:jy.K w x cs):cs = [.string x.f0,.int .i64 x.f1]:=by
 obtain ⟨_,_,rfl,rfl,rfl⟩:=h
 exact rfl
theorem zYC {w:World} {base:Nat} {ok:Nat → Prop} {x:ql} {cs:List Value} (h:jy.M w base ok x cs):cs = [.string x.f0,.int .i64 x.f1]:=by
 obtain ⟨_,_,rfl,rfl,rfl⟩:=h
 exact rfl
theorem zfP (w:World) (x:ql)  : jy.K w x [.string x.f0,.int .i64 x.f1]:=⟨[.string x.f0],[.int .i64 x.f1],rfl,rfl,rfl⟩
theorem WI (w:World) (base:Nat) (ok:Nat → Prop) (x:ql)  : jy.M w base ok x [.string x.f0,.int .i64 x.f1]:=⟨[.string x.f0],[.int .i64 x.f1],rfl,rfl,rfl⟩
def qE (xs:List ql) (i:Int):ql:=xs.getD i.toNat z105
theorem WL {w:World} {A:Option Addr} {n:Nat} {xs:List ql} (h:Kd.C jy w A n xs) (i:Int) (h0:0 ≤ i) (h1:i < n):∃ ad ,A = some ad ∧ w.cell? (ad.add (i.toNat * 2)) = some (.string (qE xs i).f0) ∧ w.cell? ⟨(ad.add (i.toNat * 2)).block,(ad.add (i.toNat * 2)).off + 1,none⟩ = some (.int .i64 (qE xs i).f1):=by
 obtain ⟨ad,c,e,_,hK,hc0⟩:=Kd.QB h z105 i h0 h1
 have hc:∀ j u,c[j]? = some u → w.cell? (ad.add (i.toNat * 2 + j)) = some u:=hc0
 obtain rfl:=zy7 hK
 exact ⟨ad,e,hc 0 _ rfl,by rw [← vJ _ _ 1 (by omega)];exact hc 1 _ rfl⟩
structure xX where
 f0:ByteArray
 f1:ByteArray
 f2:ByteArray
def zcf:xX:=⟨(⟨#[]⟩:ByteArray),(⟨#[]⟩:ByteArray),(⟨#[]⟩:ByteArray)⟩
def kS:Kd xX:=Kd.iso (Kd.pair Kd.string (Kd.pair Kd.string Kd.string)) (fun x:xX=>(x.f0,x.f1,x.f2))
theorem zao:Kd.Heap kS:=Kd.zzP _ (Kd.Yy Kd.YC (Kd.Yy Kd.YC Kd.YC))
theorem zy8 {w:World} {x:xX} {cs:List Value} (h:kS.K w x cs):cs = [.string x.f0,.string x.f1,.string x.f2]:=by
 obtain ⟨_,_,rfl,rfl,⟨_,_,rfl,rfl,rfl⟩⟩:=h
 exact rfl
theorem zfR (w:World) (x:xX)  : kS.K w x [.string x.f0,.string x.f1,.string x.f2]:=⟨[.string x.f0],[.string x.f1,.string x.f2],rfl,rfl,⟨[.string x.f1],[.string x.f2],rfl,rfl,rfl⟩⟩
theorem zjj (w:World) (base:Nat) (ok:Nat → Prop) (x:xX)  : kS.M w base ok x [.string x.f0,.string x.f1,.string x.f2]:=⟨[.string x.f0],[.string x.f1,.string x.f2],rfl,rfl,⟨[.string x.f1],[.string x.f2],rfl,rfl,rfl⟩⟩
def qR (xs:List xX) (i:Int):xX:=xs.getD i.toNat zcf
theorem gU {w:World} {A:Option Addr} {n:Nat} {xs:List xX} (h:Kd.C kS w A n xs) (i:Int) (h0:0 ≤ i) (h1:i < n):∃ ad ,A = some ad ∧ w.cell? (ad.add (i.toNat * 3)) = some (.string (qR xs i).f0) ∧ w.cell? ⟨(ad.add (i.toNat * 3)).block,(ad.add (i.toNat * 3)).off + 1,none⟩ = some (.string (qR xs i).f1) ∧ w.cell? ⟨(ad.add (i.toNat * 3)).block,(ad.add (i.toNat * 3)).off + 2,none⟩ = some (.string (qR xs i).f2):=by
 obtain ⟨ad,c,e,_,hK,hc0⟩:=Kd.QB h zcf i h0 h1
 have hc:∀ j u,c[j]? = some u → w.cell? (ad.add (i.toNat * 3 + j)) = some u:=hc0
 obtain rfl:=zy8 hK
 exact ⟨ad,e,hc 0 _ rfl,by rw [← vJ _ _ 1 (by omega)];exact hc 1 _ rfl,by rw [← vJ _ _ 2 (by omega)];exact hc 2 _ rfl⟩
structure vv where
 f0:ByteArray
 f1:ByteArray
 f2:Int
def zcg:vv:=⟨(⟨#[]⟩:ByteArray),(⟨#[]⟩:ByteArray),(0:Int)⟩
def wX:Kd vv:=Kd.iso (Kd.pair Kd.string (Kd.pair Kd.string (Kd.int .i64))) (fun x:vv=>(x.f0,x.f1,x.f2))
theorem zar:Kd.Heap wX:=Kd.zzP _ (Kd.Yy Kd.YC (Kd.Yy Kd.YC (Kd.zjx .i64)))
theorem zy9 {w:World} {x:vv} {cs:List Value} (h:wX.K w x cs):cs = [.string x.f0,.string x.f1,.int .i64 x.f2]:=by
 obtain ⟨_,_,rfl,rfl,⟨_,_,rfl,rfl,rfl⟩⟩:=h
 exact rfl
theorem zfS (w:World) (x:vv)  : wX.K w x [.string x.f0,.string x.f1,.int .i64 x.f2]:=⟨[.string x.f0],[.string x.f1,.int .i64 x.f2],rfl,rfl,⟨[.string x.f1],[.int .i64 x.f2],rfl,rfl,rfl⟩⟩
theorem rD (w:World) (base:Nat) (ok:Nat → Prop) (x:vv)  : wX.M w base ok x [.string x.f0,.string x.f1,.int .i64 x.f2]:=⟨[.string x.f0],[.string x.f1,.int .i64 x.f2],rfl,rfl,⟨[.string x.f1],[.int .i64 x.f2],rfl,rfl,rfl⟩⟩
def q9 (xs:List vv) (i:Int):vv:=xs.getD i.toNat zcg
theorem mq {w:World} {A:Option Addr} {n:Nat} {xs:List vv} (h:Kd.C wX w A n xs) (i:Int) (h0:0 ≤ i) (h1:i < n):∃ ad ,A = some ad ∧ w.cell? (ad.add (i.toNat * 3)) = some (.string (q9 xs i).f0) ∧ w.cell? ⟨(ad.add (i.toNat * 3)).block,(ad.add (i.toNat * 3)).off + 1,none⟩ = some (.string (q9 xs i).f1) ∧ w.cell? ⟨(ad.add (i.toNat * 3)).block,(ad.add (i.toNat * 3)).off + 2,none⟩ = some (.int .i64 (q9 xs i).f2):=by
 obtain ⟨ad,c,e,_,hK,hc0⟩:=Kd.QB h zcg i h0 h1
 have hc:∀ j u,c[j]? = some u → w.cell? (ad.add (i.toNat * 3 + j)) = some u:=hc0
 obtain rfl:=zy9 hK
 exact ⟨ad,e,hc 0 _ rfl,by rw [← vJ _ _ 1 (by omega)];exact hc 1 _ rfl,by rw [← vJ _ _ 2 (by omega)];exact hc 2 _ rfl⟩
structure kK where
 f0:ByteArray
 f1:Bool
 f2:Int
 f3:(List ql)
 f4:(List xX)
 f5:(List vv)
def z60:kK:=⟨(⟨#[]⟩:ByteArray),false,(0:Int),([]:List ql),([]:List xX),([]:List vv)⟩
def pV:Kd kK:=Kd.iso (Kd.pair Kd.string (Kd.pair Kd.bool (Kd.pair (Kd.int .i64) (Kd.pair (Kd.slice 105 jy) (Kd.pair (Kd.slice 108 kS) (Kd.slice 111 wX)))))) (fun x:kK=>(x.f0,x.f1,x.f2,x.f3,x.f4,x.f5))
theorem zch:Kd.Heap pV:=Kd.zzP _ (Kd.Yy Kd.YC (Kd.Yy Kd.zaf (Kd.Yy (Kd.zjx .i64) (Kd.Yy (Kd.zzO 105 zan) (Kd.Yy (Kd.zzO 108 zao) (Kd.zzO 111 zar))))))
theorem zci {w:World} {x:kK} {cs:List Value} (h:pV.K w x cs):∃ A3 c3 A4 c4 A5 c5,cs = [.string x.f0,.bool x.f1,.int .i64 x.f2,.slice A3 x.f3.length c3,.slice A4 x.f4.length c4,.slice A5 x.f5.length c5] ∧ x.f3.length ≤ c3 ∧ jy.C w A3 x.f3.length x.f3 ∧ x.f4.length ≤ c4 ∧ kS.C w A4 x.f4.length x.f4 ∧ x.f5.length ≤ c5 ∧ wX.C w A5 x.f5.length x.f5:=by
 obtain ⟨_,_,rfl,rfl,⟨_,_,rfl,rfl,⟨_,_,rfl,rfl,⟨_,_,rfl,⟨A3,c3,rfl,l3,g3⟩,⟨_,_,rfl,⟨A4,c4,rfl,l4,g4⟩,⟨A5,c5,rfl,l5,g5⟩⟩⟩⟩⟩⟩:=h
 exact ⟨A3,c3,A4,c4,A5,c5,rfl,l3,g3,l4,g4,l5,g5⟩
theorem ziG (w:World) (x:kK) {A3:Option Addr} {c3:Nat} (l3:x.f3.length ≤ c3) (g3:jy.C w A3 x.f3.length x.f3) {A4:Option Addr} {c4:Nat} (l4:x.f4.length ≤ c4) (g4:kS.C w A4 x.f4.length x.f4) {A5:Option Addr} {c5:Nat} (l5:x.f5.length ≤ c5) (g5:wX.C w A5 x.f5.length x.f5):pV.K w x [.string x.f0,.bool x.f1,.int .i64 x.f2,.slice A3 x.f3.length c3,.slice A4 x.f4.length c4,.slice A5 x.f5.length c5]:=⟨[.string x.f0],[.bool x.f1,.int .i64 x.f2,.slice A3 x.f3.length c3,.slice A4 x.f4.length c4,.slice A5 x.f5.length c5],rfl,rfl,⟨[.bool x.f1],[.int .i64 x.f2,.slice A3 x.f3.length c3,.slice A4 x.f4.length c4,.slice A5 x.f5.length c5],rfl,rfl,⟨[.int .i64 x.f2],[.slice A3 x.f3.length c3,.slice A4 x.f4.length c4,.slice A5 x.f5.length c5],rfl,rfl,⟨[.slice A3 x.f3.length c3],[.slice A4 x.f4.length c4,.slice A5 x.f5.length c5],rfl,⟨A3,c3,rfl,l3,g3⟩,⟨[.slice A4 x.f4.length c4],[.slice A5 x.f5.length c5],rfl,⟨A4,c4,rfl,l4,g4⟩,⟨A5,c5,rfl,l5,g5⟩⟩⟩⟩⟩⟩
theorem zfT (w:World) (base:Nat) (ok:Nat → Prop) (x:kK) {v3:Value} (g3:jy.R 105 w base ok v3 x.f3) {v4:Value} (g4:kS.R 108 w base ok v4 x.f4) {v5:Value} (g5:wX.R 111 w base ok v5 x.f5):pV.M w base ok x [.string x.f0,.bool x.f1,.int .i64 x.f2,v3,v4,v5]:=⟨[.string x.f0],[.bool x.f1,.int .i64 x.f2,v3,v4,v5],rfl,rfl,⟨[.bool x.f1],[.int .i64 x.f2,v3,v4,v5],rfl,rfl,⟨[.int .i64 x.f2],[v3,v4,v5],rfl,rfl,⟨[v3],[v4,v5],rfl,⟨v3,rfl,g3⟩,⟨[v4],[v5],rfl,⟨v4,rfl,g4⟩,⟨v5,rfl,g5⟩⟩⟩⟩⟩⟩
def zK (xs:List kK) (i:Int):kK:=xs.getD i.toNat z60
theorem kT {w:World} {A:Option Addr} {n:Nat} {xs:List kK} (h:Kd.C pV w A n xs) (i:Int) (h0:0 ≤ i) (h1:i < n):∃ ad A3 c3 A4 c4 A5 c5,A = some ad ∧ w.cell? (ad.add (i.toNat * 6)) = some (.string (zK xs i).f0) ∧ w.cell? ⟨(ad.add (i.toNat * 6)).block,(ad.add (i.toNat * 6)).off + 1,none⟩ = some (.bool (zK xs i).f1) ∧ w.cell? ⟨(ad.add (i.toNat * 6)).block,(ad.add (i.toNat * 6)).off + 2,none⟩ = some (.int .i64 (zK xs i).f2) ∧ w.cell? ⟨(ad.add (i.toNat * 6)).block,(ad.add (i.toNat * 6)).off + 3,none⟩ = some (.slice A3 (zK xs i).f3.length c3) ∧ w.cell? ⟨(ad.add (i.toNat * 6)).block,(ad.add (i.toNat * 6)).off + 4,none⟩ = some (.slice A4 (zK xs i).f4.length c4) ∧ w.cell? ⟨(ad.add (i.toNat * 6)).block,(ad.add (i.toNat * 6)).off + 5,none⟩ = some (.slice A5 (zK xs i).f5.length c5) ∧ (zK xs i).f3.length ≤ c3 ∧ jy.C w A3 (zK xs i).f3.length (zK xs i).f3 ∧ (zK xs i).f4.length ≤ c4 ∧ kS.C w A4 (zK xs i).f4.length (zK xs i).f4 ∧ (zK xs i).f5.length ≤ c5 ∧ wX.C w A5 (zK xs i).f5.length (zK xs i).f5:=by
 obtain ⟨ad,c,e,_,hK,hc0⟩:=Kd.QB h z60 i h0 h1
 have hc:∀ j u,c[j]? = some u → w.cell? (ad.add (i.toNat * 6 + j)) = some u:=hc0
 obtain ⟨A3,c3,A4,c4,A5,c5,rfl,l3,g3,l4,g4,l5,g5⟩:=zci hK
 exact ⟨ad,A3,c3,A4,c4,A5,c5,e,hc 0 _ rfl,by rw [← vJ _ _ 1 (by omega)];exact hc 1 _ rfl,by rw [← vJ _ _ 2 (by omega)];exact hc 2 _ rfl,by rw [← vJ _ _ 3 (by omega)];exact hc 3 _ rfl,by rw [← vJ _ _ 4 (by omega)];exact hc 4 _ rfl,by rw [← vJ _ _ 5 (by omega)];exact hc 5 _ rfl,l3,g3,l4,g4,l5,g5⟩
structure vP where
 f0:Int
 f1:Int
 f2:Int
 f3:Int
 f4:ByteArray
 f5:ByteArray
 f6:(List Int)
def z53:vP:=⟨(0:Int),(0:Int),(0:Int),(0:Int),(⟨#[]⟩:ByteArray),(⟨#[]⟩:ByteArray),([]:List Int)⟩
def Qb:Kd vP:=Kd.iso (Kd.pair (Kd.int .i64) (Kd.pair (Kd.int .i64) (Kd.pair (Kd.int .i64) (Kd.pair (Kd.int .i64) (Kd.pair Kd.string (Kd.pair Kd.string (Kd.slice 3 (Kd.int .i64)))))))) (fun x:vP=>(x.f0,x.f1,x.f2,x.f3,x.f4,x.f5,x.f6))
theorem zcl {w:World} {x:vP} {cs:List Value} (h:Qb.K w x cs):∃ A6 c6,cs = [.int .i64 x.f0,.int .i64 x.f1,.int .i64 x.f2,.int .i64 x.f3,.string x.f4,.string x.f5,.slice A6 x.f6.length c6] ∧ x.f6.length ≤ c6 ∧ (Kd.int .i64).C w A6 x.f6.length x.f6:=by
 obtain ⟨_,_,rfl,rfl,⟨_,_,rfl,rfl,⟨_,_,rfl,rfl,⟨_,_,rfl,rfl,⟨_,_,rfl,rfl,⟨_,_,rfl,rfl,⟨A6,c6,rfl,l6,g6⟩⟩⟩⟩⟩⟩⟩:=h
 exact ⟨A6,c6,rfl,l6,g6⟩
theorem tQ {w:World} {base:Nat} {ok:Nat → Prop} {x:vP} {cs:List Value} (h:Qb.M w base ok x cs):∃ v6,cs = [.int .i64 x.f0,.int .i64 x.f1,.int .i64 x.f2,.int .i64 x.f3,.string x.f4,.string x.f5,v6] ∧ (Kd.int .i64).R 3 w base ok v6 x.f6:=by
 obtain ⟨_,_,rfl,rfl,⟨_,_,rfl,rfl,⟨_,_,rfl,rfl,⟨_,_,rfl,rfl,⟨_,_,rfl,rfl,⟨_,_,rfl,rfl,⟨v6,rfl,g6⟩⟩⟩⟩⟩⟩⟩:=h
 exact ⟨v6,rfl,g6⟩
theorem mZ (w:World) (base:Nat) (ok:Nat → Prop) (x:vP) {v6:Value} (g6:(Kd.int .i64).R 3 w base ok v6 x.f6):Qb.M w base ok x [.int .i64 x.f0,.int .i64 x.f1,.int .i64 x.f2,.int .i64 x.f3,.string x.f4,.string x.f5,v6]:=⟨[.int .i64 x.f0],[.int .i64 x.f1,.int .i64 x.f2,.int .i64 x.f3,.string x.f4,.string x.f5,v6],rfl,rfl,⟨[.int .i64 x.f1],[.int .i64 x.f2,.int .i64 x.f3,.string x.f4,.string x.f5,v6],rfl,rfl,⟨[.int .i64 x.f2],[.int .i64 x.f3,.string x.f4,.string x.f5,v6],rfl,rfl,⟨[.int .i64 x.f3],[.string x.f4,.string x.f5,v6],rfl,rfl,⟨[.string x.f4],[.string x.f5,v6],rfl,rfl,⟨[.string x.f5],[v6],rfl,rfl,⟨v6,rfl,g6⟩⟩⟩⟩⟩⟩⟩
def yx (xs:List vP) (i:Int):vP:=xs.getD i.toNat z53
theorem VA {w:World} {A:Option Addr} {n:Nat} {xs:List vP} (h:Kd.C Qb w A n xs) (i:Int) (h0:0 ≤ i) (h1:i < n):∃ ad A6 c6,A = some ad ∧ w.cell? (ad.add (i.toNat * 7)) = some (.int .i64 (yx xs i).f0) ∧ w.cell? ⟨(ad.add (i.toNat * 7)).block,(ad.add (i.toNat * 7)).off + 1,none⟩ = some (.int .i64 (yx xs i).f1) ∧ w.cell? ⟨(ad.add (i.toNat * 7)).block,(ad.add (i.toNat * 7)).off + 2,none⟩ = some (.int .i64 (yx xs i).f2) ∧ w.cell? ⟨(ad.add (i.toNat * 7)).block,(ad.add (i.toNat * 7)).off + 3,none⟩ = some (.int .i64 (yx xs i).f3) ∧ w.cell? ⟨(ad.add (i.toNat * 7)).block,(ad.add (i.toNat * 7)).off + 4,none⟩ = some (.string (yx xs i).f4) ∧ w.cell? ⟨(ad.add (i.toNat * 7)).block,(ad.add (i.toNat * 7)).off + 5,none⟩ = some (.string (yx xs i).f5) ∧ w.cell? ⟨(ad.add (i.toNat * 7)).block,(ad.add (i.toNat * 7)).off + 6,none⟩ = some (.slice A6 (yx xs i).f6.length c6) ∧ (yx xs i).f6.length ≤ c6 ∧ (Kd.int .i64).C w A6 (yx xs i).f6.length (yx xs i).f6:=by
 obtain ⟨ad,c,e,_,hK,hc0⟩:=Kd.QB h z53 i h0 h1
 have hc:∀ j u,c[j]? = some u → w.cell? (ad.add (i.toNat * 7 + j)) = some u:=hc0
 obtain ⟨A6,c6,rfl,l6,g6⟩:=zcl hK
 exact ⟨ad,A6,c6,e,hc 0 _ rfl,by rw [← vJ _ _ 1 (by omega)];exact hc 1 _ rfl,by rw [← vJ _ _ 2 (by omega)];exact hc 2 _ rfl,by rw [← vJ _ _ 3 (by omega)];exact hc 3 _ rfl,by rw [← vJ _ _ 4 (by omega)];exact hc 4 _ rfl,by rw [← vJ _ _ 5 (by omega)];exact hc 5 _ rfl,by rw [← vJ _ _ 6 (by omega)];exact hc 6 _ rfl,l6,g6⟩
structure uX where
 f0:ByteArray
 f1:Int
def ziH:uX:=⟨(⟨#[]⟩:ByteArray),(0:Int)⟩
def Yi:Kd uX:=Kd.iso (Kd.pair Kd.string (Kd.int .i64)) (fun x:uX=>(x.f0,x.f1))
theorem zas {w:World} {x:uX} {cs:List Value} (h:Yi.K w x cs):cs = [.string x.f0,.int .i64 x.f1]:=by
 obtain ⟨_,_,rfl,rfl,rfl⟩:=h
 exact rfl
theorem zcm (w:World) (base:Nat) (ok:Nat → Prop) (x:uX)  : Yi.M w base ok x [.string x.f0,.int .i64 x.f1]:=⟨[.string x.f0],[.int .i64 x.f1],rfl,rfl,rfl⟩
def vK (xs:List uX) (i:Int):uX:=xs.getD i.toNat ziH
theorem WM {w:World} {A:Option Addr} {n:Nat} {xs:List uX} (h:Kd.C Yi w A n xs) (i:Int) (h0:0 ≤ i) (h1:i < n):∃ ad ,A = some ad ∧ w.cell? (ad.add (i.toNat * 2)) = some (.string (vK xs i).f0) ∧ w.cell? ⟨(ad.add (i.toNat * 2)).block,(ad.add (i.toNat * 2)).off + 1,none⟩ = some (.int .i64 (vK xs i).f1):=by
 obtain ⟨ad,c,e,_,hK,hc0⟩:=Kd.QB h ziH i h0 h1
 have hc:∀ j u,c[j]? = some u → w.cell? (ad.add (i.toNat * 2 + j)) = some u:=hc0
 obtain rfl:=zas hK
 exact ⟨ad,e,hc 0 _ rfl,by rw [← vJ _ _ 1 (by omega)];exact hc 1 _ rfl⟩
structure uG where
 f0:ByteArray
 f1:ByteArray
 f2:ByteArray
def z109:uG:=⟨(⟨#[]⟩:ByteArray),(⟨#[]⟩:ByteArray),(⟨#[]⟩:ByteArray)⟩
def YE:Kd uG:=Kd.iso (Kd.pair Kd.string (Kd.pair Kd.string Kd.string)) (fun x:uG=>(x.f0,x.f1,x.f2))
theorem zat {w:World} {x:uG} {cs:List Value} (h:YE.K w x cs):cs = [.string x.f0,.string x.f1,.string x.f2]:=by
 obtain ⟨_,_,rfl,rfl,⟨_,_,rfl,rfl,rfl⟩⟩:=h
 exact rfl
theorem zcn (w:World) (base:Nat) (ok:Nat → Prop) (x:uG)  : YE.M w base ok x [.string x.f0,.string x.f1,.string x.f2]:=⟨[.string x.f0],[.string x.f1,.string x.f2],rfl,rfl,⟨[.string x.f1],[.string x.f2],rfl,rfl,rfl⟩⟩
def xM (xs:List uG) (i:Int):uG:=xs.getD i.toNat z109
theorem Uw {w:World} {A:Option Addr} {n:Nat} {xs:List uG} (h:Kd.C YE w A n xs) (i:Int) (h0:0 ≤ i) (h1:i < n):∃ ad ,A = some ad ∧ w.cell? (ad.add (i.toNat * 3)) = some (.string (xM xs i).f0) ∧ w.cell? ⟨(ad.add (i.toNat * 3)).block,(ad.add (i.toNat * 3)).off + 1,none⟩ = some (.string (xM xs i).f1) ∧ w.cell? ⟨(ad.add (i.toNat * 3)).block,(ad.add (i.toNat * 3)).off + 2,none⟩ = some (.string (xM xs i).f2):=by
 obtain ⟨ad,c,e,_,hK,hc0⟩:=Kd.QB h z109 i h0 h1
 have hc:∀ j u,c[j]? = some u → w.cell? (ad.add (i.toNat * 3 + j)) = some u:=hc0
 obtain rfl:=zat hK
 exact ⟨ad,e,hc 0 _ rfl,by rw [← vJ _ _ 1 (by omega)];exact hc 1 _ rfl,by rw [← vJ _ _ 2 (by omega)];exact hc 2 _ rfl⟩
structure uN where
 f0:ByteArray
 f1:ByteArray
 f2:Int
def ziI:uN:=⟨(⟨#[]⟩:ByteArray),(⟨#[]⟩:ByteArray),(0:Int)⟩
def YP:Kd uN:=Kd.iso (Kd.pair Kd.string (Kd.pair Kd.string (Kd.int .i64))) (fun x:uN=>(x.f0,x.f1,x.f2))
theorem zau {w:World} {x:uN} {cs:List Value} (h:YP.K w x cs):cs = [.string x.f0,.string x.f1,.int .i64 x.f2]:=by
 obtain ⟨_,_,rfl,rfl,⟨_,_,rfl,rfl,rfl⟩⟩:=h
 exact rfl
theorem zco (w:World) (base:Nat) (ok:Nat → Prop) (x:uN)  : YP.M w base ok x [.string x.f0,.string x.f1,.int .i64 x.f2]:=⟨[.string x.f0],[.string x.f1,.int .i64 x.f2],rfl,rfl,⟨[.string x.f1],[.int .i64 x.f2],rfl,rfl,rfl⟩⟩
def xZ (xs:List uN) (i:Int):uN:=xs.getD i.toNat ziI
theorem UZ {w:World} {A:Option Addr} {n:Nat} {xs:List uN} (h:Kd.C YP w A n xs) (i:Int) (h0:0 ≤ i) (h1:i < n):∃ ad ,A = some ad ∧ w.cell? (ad.add (i.toNat * 3)) = some (.string (xZ xs i).f0) ∧ w.cell? ⟨(ad.add (i.toNat * 3)).block,(ad.add (i.toNat * 3)).off + 1,none⟩ = some (.string (xZ xs i).f1) ∧ w.cell? ⟨(ad.add (i.toNat * 3)).block,(ad.add (i.toNat * 3)).off + 2,none⟩ = some (.int .i64 (xZ xs i).f2):=by
 obtain ⟨ad,c,e,_,hK,hc0⟩:=Kd.QB h ziI i h0 h1
 have hc:∀ j u,c[j]? = some u → w.cell? (ad.add (i.toNat * 3 + j)) = some u:=hc0
 obtain rfl:=zau hK
 exact ⟨ad,e,hc 0 _ rfl,by rw [← vJ _ _ 1 (by omega)];exact hc 1 _ rfl,by rw [← vJ _ _ 2 (by omega)];exact hc 2 _ rfl⟩
structure jC where
 f0:ByteArray
 f1:Bool
 f2:Int
 f3:(List uX)
 f4:(List uG)
 f5:(List uN)
def ziL:jC:=⟨(⟨#[]⟩:ByteArray),false,(0:Int),([]:List uX),([]:List uG),([]:List uN)⟩
def Wj:Kd jC:=Kd.iso (Kd.pair Kd.string (Kd.pair Kd.bool (Kd.pair (Kd.int .i64) (Kd.pair (Kd.slice 106 Yi) (Kd.pair (Kd.slice 109 YE) (Kd.slice 112 YP)))))) (fun x:jC=>(x.f0,x.f1,x.f2,x.f3,x.f4,x.f5))
theorem zaA {w:World} {x:jC} {cs:List Value} (h:Wj.K w x cs):∃ A3 c3 A4 c4 A5 c5,cs = [.string x.f0,.bool x.f1,.int .i64 x.f2,.slice A3 x.f3.length c3,.slice A4 x.f4.length c4,.slice A5 x.f5.length c5] ∧ x.f3.length ≤ c3 ∧ Yi.C w A3 x.f3.length x.f3 ∧ x.f4.length ≤ c4 ∧ YE.C w A4 x.f4.length x.f4 ∧ x.f5.length ≤ c5 ∧ YP.C w A5 x.f5.length x.f5:=by
 obtain ⟨_,_,rfl,rfl,⟨_,_,rfl,rfl,⟨_,_,rfl,rfl,⟨_,_,rfl,⟨A3,c3,rfl,l3,g3⟩,⟨_,_,rfl,⟨A4,c4,rfl,l4,g4⟩,⟨A5,c5,rfl,l5,g5⟩⟩⟩⟩⟩⟩:=h
 exact ⟨A3,c3,A4,c4,A5,c5,rfl,l3,g3,l4,g4,l5,g5⟩
theorem zcp (w:World) (base:Nat) (ok:Nat → Prop) (x:jC) {v3:Value} (g3:Yi.R 106 w base ok v3 x.f3) {v4:Value} (g4:YE.R 109 w base ok v4 x.f4) {v5:Value} (g5:YP.R 112 w base ok v5 x.f5):Wj.M w base ok x [.string x.f0,.bool x.f1,.int .i64 x.f2,v3,v4,v5]:=⟨[.string x.f0],[.bool x.f1,.int .i64 x.f2,v3,v4,v5],rfl,rfl,⟨[.bool x.f1],[.int .i64 x.f2,v3,v4,v5],rfl,rfl,⟨[.int .i64 x.f2],[v3,v4,v5],rfl,rfl,⟨[v3],[v4,v5],rfl,⟨v3,rfl,g3⟩,⟨[v4],[v5],rfl,⟨v4,rfl,g4⟩,⟨v5,rfl,g5⟩⟩⟩⟩⟩⟩
def zZ (xs:List jC) (i:Int):jC:=xs.getD i.toNat ziL
theorem Ze {w:World} {A:Option Addr} {n:Nat} {xs:List jC} (h:Kd.C Wj w A n xs) (i:Int) (h0:0 ≤ i) (h1:i < n):∃ ad A3 c3 A4 c4 A5 c5,A = some ad ∧ w.cell? (ad.add (i.toNat * 6)) = some (.string (zZ xs i).f0) ∧ w.cell? ⟨(ad.add (i.toNat * 6)).block,(ad.add (i.toNat * 6)).off + 1,none⟩ = some (.bool (zZ xs i).f1) ∧ w.cell? ⟨(ad.add (i.toNat * 6)).block,(ad.add (i.toNat * 6)).off + 2,none⟩ = some (.int .i64 (zZ xs i).f2) ∧ w.cell? ⟨(ad.add (i.toNat * 6)).block,(ad.add (i.toNat * 6)).off + 3,none⟩ = some (.slice A3 (zZ xs i).f3.length c3) ∧ w.cell? ⟨(ad.add (i.toNat * 6)).block,(ad.add (i.toNat * 6)).off + 4,none⟩ = some (.slice A4 (zZ xs i).f4.length c4) ∧ w.cell? ⟨(ad.add (i.toNat * 6)).block,(ad.add (i.toNat * 6)).off + 5,none⟩ = some (.slice A5 (zZ xs i).f5.length c5) ∧ (zZ xs i).f3.length ≤ c3 ∧ Yi.C w A3 (zZ xs i).f3.length (zZ xs i).f3 ∧ (zZ xs i).f4.length ≤ c4 ∧ YE.C w A4 (zZ xs i).f4.length (zZ xs i).f4 ∧ (zZ xs i).f5.length ≤ c5 ∧ YP.C w A5 (zZ xs i).f5.length (zZ xs i).f5:=by
 obtain ⟨ad,c,e,_,hK,hc0⟩:=Kd.QB h ziL i h0 h1
 have hc:∀ j u,c[j]? = some u → w.cell? (ad.add (i.toNat * 6 + j)) = some u:=hc0
 obtain ⟨A3,c3,A4,c4,A5,c5,rfl,l3,g3,l4,g4,l5,g5⟩:=zaA hK
 exact ⟨ad,A3,c3,A4,c4,A5,c5,e,hc 0 _ rfl,by rw [← vJ _ _ 1 (by omega)];exact hc 1 _ rfl,by rw [← vJ _ _ 2 (by omega)];exact hc 2 _ rfl,by rw [← vJ _ _ 3 (by omega)];exact hc 3 _ rfl,by rw [← vJ _ _ 4 (by omega)];exact hc 4 _ rfl,by rw [← vJ _ _ 5 (by omega)];exact hc 5 _ rfl,l3,g3,l4,g4,l5,g5⟩
structure pG where
 f0:ByteArray
 f1:ByteArray
def z80:pG:=⟨(⟨#[]⟩:ByteArray),(⟨#[]⟩:ByteArray)⟩
def Xl:Kd pG:=Kd.iso (Kd.pair Kd.string Kd.string) (fun x:pG=>(x.f0,x.f1))
theorem zcr {w:World} {x:pG} {cs:List Value} (h:Xl.K w x cs):cs = [.string x.f0,.string x.f1]:=by
 obtain ⟨_,_,rfl,rfl,rfl⟩:=h
 exact rfl
theorem ziM (w:World) (x:pG)  : Xl.K w x [.string x.f0,.string x.f1]:=⟨[.string x.f0],[.string x.f1],rfl,rfl,rfl⟩
def j6 (xs:List pG) (i:Int):pG:=xs.getD i.toNat z80
theorem VB {w:World} {A:Option Addr} {n:Nat} {xs:List pG} (h:Kd.C Xl w A n xs) (i:Int) (h0:0 ≤ i) (h1:i < n):∃ ad ,A = some ad ∧ w.cell? (ad.add (i.toNat * 2)) = some (.string (j6 xs i).f0) ∧ w.cell? ⟨(ad.add (i.toNat * 2)).block,(ad.add (i.toNat * 2)).off + 1,none⟩ = some (.string (j6 xs i).f1):=by
 obtain ⟨ad,c,e,_,hK,hc0⟩:=Kd.QB h z80 i h0 h1
 have hc:∀ j u,c[j]? = some u → w.cell? (ad.add (i.toNat * 2 + j)) = some u:=hc0
 obtain rfl:=zcr hK
 exact ⟨ad,e,hc 0 _ rfl,by rw [← vJ _ _ 1 (by omega)];exact hc 1 _ rfl⟩
theorem zvy:∀ (x y:List UInt8),(!(Op.bytesLess x y || x == y)) = Op.bytesLess y x
 | [],[]=>rfl
 | [],_ :: _=>rfl
 | _ :: _,[]=>rfl
 | a :: x,b :: y=>by
  have ih:=zvy x y
  unfold Op.bytesLess
  by_cases h1:a < b
  ·have h2:¬ b < a:=UInt8.not_lt.2 (UInt8.le_of_lt h1)
   have h3:¬ a = b:=fun e=>by subst e;exact h2 h1
   have h4:¬ b = a:=fun e=>h3 e.symm
   simp [h1,h2,h3,h4]
  ·by_cases h2:b < a
   ·have h3:a ≠ b:=fun e=>by subst e;exact absurd h2 h1
    simp [h1,h2,h3]
   ·have h3:a = b:=UInt8.le_antisymm (UInt8.not_lt.1 h2) (UInt8.not_lt.1 h1)
    subst h3
    simp [h1,← ih]
theorem mQ (x y:List UInt8):(!(Op.bytesLess x y || x == y)) = Op.bytesLess y x:=zvy x y
theorem zwC:∀ x:List UInt8,Op.bytesLess x x = false
 | []=>rfl
 | a :: x=>by
  have h:¬ a < a:=fun h=>absurd h (UInt8.not_lt.2 (UInt8.le_refl a))
  simp [Op.bytesLess,h,zwC x]
theorem zYD {x y:List UInt8} (h:Op.bytesLess x y = true):(x == y) = false:=by
 rw [beq_eq_false_iff_ne];intro e;subst e;rw [zwC] at h;cases h
theorem zwD {x y:List UInt8} (h:Op.bytesLess x y = true):(y == x) = false:=by
 rw [beq_eq_false_iff_ne];intro e;subst e;rw [zwC] at h;cases h
theorem zkq {x y:List UInt8} (h:Op.bytesLess x y = true):Op.bytesLess y x = false:=by
 rw [← zvy x y,h];rfl
theorem zxx {x y:List UInt8} (h:Op.bytesLess x y = false) (k:Op.bytesLess y x = false):(x == y) = true:=by
 have:=zvy x y
 rw [h,k] at this
 simpa using this
end Go.Proofs.YtggifbbiiickmaaGreatDoor.PX
namespace Go.Proofs.YtggifbbiiickmaaGreatDoor
open Go.RowKit Go.Proofs.zk.zu Go.Proofs.zk.yD Go.Proofs.zk.yA
section
variable {P:Program} {ops:Array Oper} {Q:Exit → Act → World → Prop} {md:Region.Mode} {S:World → Prop} {ds:List Nat} {T:Bool × List (List Nat × List Nat)}
theorem yu (i:Nat) (N:Option Tmp) {oi:Oper} {v:Value} {fuel:Nat} {l:Array Bool} {a a':Act} {w:World} (HT:zx (uj md ops = T)) (h:qj P md ops Q S ds fuel (l.setIfInBounds i true) a' w)
  (hi:ops[i]? = some oi:=by exact rfl) (hN:oi.dst = N:=by exact rfl) (hc:zjq T l.toList (l.setIfInBounds i true).toList i = true:=by kernel_rfl) (hQ:∀ c a w,Q (.panic c) (a.put oi.dst v) w → Q (.panic c) a w:=by exact fun _ _ _ h=>h)
  (hg:Region.wanted oi (yielded ops a.tmps) = true:=by rfl) (hy:∀ w,(execOp a.eval oi).run P w = .ok (.value v) w:=by intro w';go_simp;with_reducible rfl) (ha:a.put N v = a':=by simp only [Act.put,List.setIfInBounds_toArray,List.set_cons_zero,List.set_cons_succ,vU,uW];rfl) :
  qj P md ops Q S ds (fuel + 1) l a w:=uY _ hi hN (vE HT.out hc) hQ (Or.inl ⟨hg,hy⟩) ha h
theorem jK {B:List Nat} (i:Nat) (N:Option Tmp) {oi:Oper} {v:Value} {fuel:Nat} {l:Array Bool} {a a':Act} {w:World} (HT:zx (uj md ops = T)) (HW:zx (uh T.2 B = true)) (hS:S w) (h:qj P md ops Q S ds fuel (l.setIfInBounds i true) a' w)
  (hi:ops[i]? = some oi:=by exact rfl) (hN:oi.dst = N:=by exact rfl) (hc:zvj T B ds l.toList (l.setIfInBounds i true).toList i = true:=by kernel_rfl) (hQ:∀ c a w,Q (.panic c) (a.put oi.dst v) w → Q (.panic c) a w:=by exact fun _ _ _ h=>h)
  (hg:Region.wanted oi (yielded ops a.tmps) = true:=by rfl) (hy:∀ w,S w → (execOp a.eval oi).run P w = .ok (.value v) w:=by intro w' hs_;go_simp;with_reducible rfl) (ha:a.put N v = a':=by simp only [Act.put,List.setIfInBounds_toArray,List.set_cons_zero,List.set_cons_succ,vU,uW];rfl) :
  qj P md ops Q S ds (fuel + 1) l a w:=Qu _ hi hN (V5 HT.out HW.out hc) hQ (Or.inl ⟨hg,hy⟩) hS ha h
theorem ZF (N:Option Tmp) {v:Value} {fuel:Nat} {l:Array Bool} {a a':Act} {w:World} (h:qj P md ops Q S ds fuel l a' w) (ha:a.put N v = a':=by simp only [Act.put,List.setIfInBounds_toArray,List.set_cons_zero,List.set_cons_succ,vU,uW];rfl):qj P md ops Q S ds fuel l (a.put N v) w:=QC ha h
theorem vaS {oi:Oper} {N:Option Tmp} {a:Act} {w w1:World} {v:Value} {K:Act → World → Prop} (h:K (a.put N v) w1) (hw:Region.wanted oi (yielded ops a.tmps) = true:=by rfl) (hN:oi.dst = N:=by exact rfl) (hrun:(execOp a.eval oi).run P w = .ok (.value v) w1:=by go_simp <;> (constructor <;> rfl)) :
  if Region.wanted oi (yielded ops a.tmps) = true then Oper.wp P oi a w K Q else K (a.put N undef) w:=zvq hw hN hrun h
theorem Zr (i:Nat) (N:Option Tmp) {oi:Oper} {fuel:Nat} {l:Array Bool} {a:Act} {w:World} (HT:zx (uj md ops = T))
  (h:∀ K:Act → World → Prop,Shut (∀ a' w',S w' → (S w' → qj P md ops Q S ds fuel (l.setIfInBounds i true) a' w') → K a' w') → if Region.wanted oi (yielded ops a.tmps) = true then Oper.wp P oi a w K Q else K (a.put N undef) w)
  (hi:ops[i]? = some oi:=by exact rfl) (hN:oi.dst = N:=by exact rfl) (hc:(dF T.2 l.toList == [i] && l.toList.set i true == (l.setIfInBounds i true).toList) = true:=by kernel_rfl) (hd:i ∉ ds:=by decide) :
  qj P md ops Q S ds (fuel + 1) l a w:=V4 _ hi hN (Zv HT.out hc) hd h
end
theorem qV {W W':World} {g:Nat} {o:Obj} (h:W.heap[g]? = some o) (e:W.heap[g]? = some o → W'.heap[g]? = some o:=by intro h_;(with_reducible repeat (first | refine jE ?_ _ | refine xV ?_ | refine qx ?_ _));exact h_):W'.heap[g]? = some o:=e h
theorem vQ {α:Type} {d:Kd α} {e base:Nat} {W W':World} {ok:Nat → Prop} {v:Value} {xs:List α} (h:d.R e W base ok v xs) (k:d.R e W base ok v xs → d.R e W' base ok v xs:=by intro h_;(with_reducible repeat (first | apply Kd.Ym | apply Kd.Yn | apply Kd.uw));exact h_):d.R e W' base ok v xs:=k h
theorem ckS {α:Type} {d:Kd α} {W W':World} {A:Option Addr} {n:Nat} {xs:List α} (h:d.C W A n xs) (k:d.C W A n xs → d.C W' A n xs:=by intro h_;repeat (first | (with_reducible exact h_) | (with_reducible refine Kd.zv0 ?_ _) | (with_reducible refine Kd.zv1 ?_ _) | (with_reducible refine Kd.zqW ?_) | exact h_)):d.C W' A n xs:=k h
theorem wT {α:Type} {d:Kd α} {e base:Nat} {W W':World} {ok:Nat → Prop} {v:Value} {xs:List α} (h:Kd.V d e W base ok v xs) (k:Kd.V d e W base ok v xs → Kd.V d e W' base ok v xs:=by intro h_;(with_reducible repeat (first | apply Kd.XM | apply Kd.XO | apply Kd.Zk));exact h_):Kd.V d e W' base ok v xs:=k h
theorem pK {α:Type} {d:Kd α} {e base:Nat} {W W':World} {ok:Nat → Prop} {v:Value} {xs:List α} (h:Kd.N d e W base ok v xs) (k:Kd.N d e W base ok v xs → Kd.N d e W' base ok v xs:=by intro h_;(with_reducible repeat (first | apply Kd.zv9 | apply Kd.zkz | apply Kd.rA));exact h_):Kd.N d e W' base ok v xs:=k h
theorem aG {α:Type} {d:Kd α} {e base:Nat} {W W':World} {ok:Nat → Prop} {v:Value} {xs:List α} (h:Kd.S d e W base ok v xs) (k:Kd.S d e W base ok v xs → Kd.S d e W' base ok v xs:=by intro h_;(with_reducible repeat (first | apply Kd.vR | apply Kd.vS | apply Kd.vZ));exact h_):Kd.S d e W' base ok v xs:=k h
end Go.Proofs.YtggifbbiiickmaaGreatDoor
namespace Go.Proofs.YtggifbbiiickmaaGreatDoor
open Go.RowKit Go.Proofs.zk.zu Go.Proofs.zk.yD Go.Proofs.zk.yA
theorem zG {b:Nat} {w0 W W':World} (h:Below b w0 W) (k:Below b w0 W → Below b w0 W':=by intro h_;repeat (first | (with_reducible first | exact h_ | apply yX | apply zL | apply zR | refine qK ?_ (zx.out (by assumption))) | exact h_)):Below b w0 W':=k h
theorem xH {w0 w:World} {a:Addr} {u:Value} {j:Nat} (g:Nat) (hw:w0.cell? a = some u) (hg:w0.heap.size ≤ g) (v:Value):(w.setCell ⟨g,j,none⟩ v).cell? a = w.cell? a:=cell_far (p:=⟨g,j,none⟩) (Nat.ne_of_lt (Nat.lt_of_lt_of_le (World.block_lt_of_cell? _ _ hw) hg)) v
theorem yF {p:Prop} (h:p:=by first | (with_reducible assumption) | assumption):p:=h
theorem qY {p q:Prop} (h:p) (k:p → q:=by intro h_;repeat (first | exact h_ | (with_reducible refine Kd.zv0 ?_ _) | (with_reducible refine Kd.zv1 ?_ _) | (with_reducible refine Kd.zqW ?_))):q:=k h
theorem zw {W:World} {g:Nat} {cs:Array Value} {t:TypeId} {v:Value} (h:zx (W.heap[g]? = some (.cells cs t (0,0)))) (i:Nat) (e:cs[i]? = some v:=by exact rfl):W.cell? ⟨g,i,none⟩ = some v:=(zX h.out i).trans e
theorem jg {P:Program} {ops:Array Oper} {Q:Exit → Act → World → Prop} {rest:List Oper} {oi:Oper} {a:Act} {w:World} (N:Option Tmp) {f:FuncId} {fn:Func} {aps:Array Operand} {ts:Array TypeId} (hf:P.funcs[f]? = some fn) (args:Array Value) (h:Calls P f args w fun e w'=>∃ v,e = .returned v ∧ wpList P ops Q rest (a.put N v) w')
  (hd:oi.dst = N:=by exact rfl) (hg:oi.guard = none:=by exact rfl) (hname:(fn.name == "runtime.NumGoroutine") = false:=by kernel_rfl) (hb:fn.body.isSome = true:=by exact rfl) (hop:oi.op = .call { callee:=.value (.func f),args:=aps,argTypes:=ts }:=by exact rfl)
  (hargs:aps.map a.eval = args:=by (try simp only [List.map_toArray,List.map_cons,List.map_nil]);first | done | rfl | (simp only [List.length_drop,List.length_take];rfl)):wpList P ops Q (oi :: rest) a w:=zil N hd hg hf hname hb args hop hargs h
end Go.Proofs.YtggifbbiiickmaaGreatDoor
namespace Go.Proofs.YtggifbbiiickmaaGreatDoor
open Go.ChangeShapes Go.WideShapes Go.ChangeAt Go.RowKit
def znY (s:ChangeSpec) (n:Nat):Prop:=s.vars = [] ∧ ∀ (H:Type) (ds:List (DataW H)),ds.length = n → (s.fn H ds).results = [.lit (.bool true)] ∧ (s.fn H ds).args = ds ∧ (s.fn H ds).vars = []
theorem zvw {H:Type} {enc:TypeId × Value → H} {P:Program} (hl:laidOutB P = true) {W W':World} (hb:Below W.heap.size W W') :
  ∀ {ts:List TypeId} {vs:List Value} {ds:List (DataW H)} {ps:List MemPlace},(∀ t ∈ ts,P.readableRec t = true ∧ t < P.types.size) →
   DataW.TrodAll enc P W 0 (fun _=>true) true ts vs ds ps → DataW.TrodAll enc P W' 0 (fun b=>decide (b < W.heap.size)) true ts vs ds ps
 | [],[],[],_,_,h=>h
 | t :: ts,v :: vs,d :: ds,ps,ht,⟨a,b,h1,h2,e⟩=>by
  have hlt:∀ x ∈ a,x.block < W.heap.size:=by obtain ⟨m,hm⟩:=h1;exact DataW.trod_lt m _ _ _ hm
  exact ⟨a,b,Below.trod hl (ht t (by simp)).1 (ht t (by simp)).2 h1 hb hlt,zvw hl hb (fun t' h'=>ht t' (by simp [h'])) h2,e⟩
theorem trodAll_length {H:Type} {enc:TypeId × Value → H} {P:Program} {W:World} {sp:Nat → Bool} {held:Bool} :
  ∀ {ts:List TypeId} {vs:List Value} {ds:List (DataW H)} {ps:List MemPlace},DataW.TrodAll enc P W 0 sp held ts vs ds ps → ds.length = ts.length
 | [],[],[],_,_=>rfl
 | _ :: _,_ :: _,_ :: _,_,⟨_,_,_,h2,_⟩=>by simp [trodAll_length h2]
theorem zYE {H:Type} {enc:TypeId × Value → H} {C:Checked} {os:Os} {f:FuncId} {fn:Func} {s:ChangeSpec} {X:World → Array Value → Prop} {tb:TypeId}
  (hX:∀ (w w':World) (args:Array Value),w.heap = w'.heap → X w args → X w' args)
  (own:ownKnob C.prog.godebug = none) (started:os.Started) (noInit:C.prog.inits.idxOf? f = none) (hfn:C.prog.funcs[f]? = some fn)
  (witness:∃ (w:World) (tape:Tape) (i:Input),w.os = os ∧ (w.forCall tape i).Shaped C.prog ∧ i.vars = [] ∧ Input.okWide C.prog (w.forCall tape i) .any w.heap.size f i ∧
   ((s.pre enc C.prog fn [] false (w.forCall tape i).memory i.args ∧ X (w.forCall tape i).memory i.args) ∧ sizedMet enc C.prog fn (OpenSpec.ofChange s) false (w.forCall tape i).memory i.args) ∧ ({}:Assume).holds C.prog (lone (Frame.enter C.prog f i.args .normal) [] (w.forCall tape i)))
  (hl:laidOutB C.prog = true) (hs:znY s fn.params.toList.length) (hres:fn.resultTypes = #[tb]) (htb:C.prog.underlying tb = some .bool)
  (hread:∀ t ∈ fn.params.toList,C.prog.readableRec t = true ∧ t < C.prog.types.size)
  (walk:∀ (W:World) (base:Nat) (args:Array Value) (ds:List (DataW H)) (ps:List MemPlace),
   (∀ (j:Nat) t v,fn.params[j]? = some t → args[j]? = some v → Value.okWide C.prog W .any base t v) →
   DataW.TrodAll enc C.prog W 0 (fun _=>true) true fn.params.toList args.toList ds ps →
   (DataW.weightsEach C.prog fn.params.toList ds).all (· ≤ reachBytes) = true → X W args → W.ShapedOpen C.prog →
   Calls C.prog f args W fun e W'=>e = .returned (.bool true) ∧ Below W.heap.size W W') :
  ReturnsInHanded {} C os f .any (fun w args=>(s.pre enc C.prog fn [] false w args ∧ X w args) ∧ sizedMet enc C.prog fn (OpenSpec.ofChange s) false w args) (s.post enc C.prog fn false true false false):=by
 refine returnsInHanded_of_calls own started noInit witness ?_
 intro w tape i _ hsh _ hok hpre _
 obtain ⟨_,_,_,fn',hfn',_,_,_,_,hval⟩:=hok
 have e:fn' = fn:=Option.some.inj (hfn'.symm.trans hfn)
 subst e
 obtain ⟨⟨⟨ds,gs,before,hw,_⟩,hx⟩,hz⟩:=hpre
 have hw':=DataW.Whole.of_heap (w':=w.forCall tape i) (by rfl) hw
 have hwt:(DataW.weightsEach C.prog (fn'.params.toList ++ s.plain.varTypes C.prog) (ds ++ gs)).all (· ≤ reachBytes) = true:=hz.weights hw
 obtain ⟨p,q,hA,hV,rfl,hfz,hnd⟩:=hw'
 have hV':=hV
 rw [hs.1] at hV'
 obtain ⟨rfl,rfl⟩:=trodVars_none hV'
 have zrQ:(DataW.weightsEach C.prog fn'.params.toList ds).all (· ≤ reachBytes) = true:=by
  have hvt:s.plain.varTypes C.prog = []:=by
   simp [DataSpec.varTypes,ChangeSpec.plain,hs.1]
  rw [hvt,List.append_nil,List.append_nil] at hwt
  exact hwt
 obtain ⟨e1,e2,e3⟩:=hs.2 H ds (trodAll_length hA)
 refine (walk (w.forCall tape i) w.heap.size i.args ds p hval hA zrQ (hX _ _ _ (by rfl) hx) hsh).mono fun e W' ⟨he,hb⟩=>?_
 subst he
 have hp:s.post enc C.prog fn' false true false false (w.forCall tape i) i.args (.bool true) W':=by
  refine ⟨ds,[],p ++ [],[],p,[],⟨p,[],hA,hV,rfl,hfz,hnd⟩,?_,?_,?_,hb.frame _,fun h=>by cases h⟩
  ·rw [List.append_nil,e1,hres]
   exact trodAll_mk1 (shut_bool htb _)
  ·rw [List.append_nil,e2]
   exact zvw hl hb hread hA
  ·rw [List.append_nil,e3,hs.1]
   rfl
 exact ChangeSpec.post_blind hp
section
variable {H:Type} {enc:TypeId × Value → H} {P:Program} {w:World} {base:Nat} {spare:Nat → Bool} {held:Bool}
end
theorem zqK {P:Program} {W:World} {name:String} {k:IntKind} {zs:List Int} {laid:List (String × DataW Unit)} {g:Nat} {t e:TypeId} {n:Nat}
  (hg:P.globalNamed name = some g) (hty:(P.globals[g]?).map (·.type) = some t) (ht:P.underlying t = some (.array n e)) (he:P.underlying e = some (.int k)) (hce:P.cellsOf e = 1) (hct:P.cellsOf t = n)
  (h:laidMet P laid W) (hm:(name,Lib.tabData k zs) ∈ laid):Lib.TabIs P W name k zs:=by
 obtain ⟨g',t',cs,fuel,p,hg',ht',hvar,hd⟩:=Lib.laidMet.reads h hm
 obtain rfl:=Option.some.inj (hg.symm.trans hg')
 obtain rfl:=Option.some.inj (hty.symm.trans ht')
 unfold Lib.TabIs
 rw [hvar,← Lib.cells_of_tab ht he hce hct hd]
theorem zcs {H:Type} {enc:TypeId × Value → H} {P:Program} {W:World} {t:TypeId} {args:Array Value} {ds:List (DataW H)} {ps:List MemPlace} (h:DataW.TrodAll enc P W 0 (fun _=>true) true [t] args.toList ds ps) :
  ∃ v d p,args = #[v] ∧ ds = [d] ∧ DataW.Trod enc P W 0 (fun _=>true) true t v d p:=by
 obtain ⟨v,vs,d,ds',p,q,e,rfl,rfl,h0,h1⟩:=trodAll_cons h
 obtain ⟨rfl,rfl,rfl⟩:=trodAll_nil h1
 exact ⟨v,d,p,by cases args;simp_all,rfl,h0⟩
end Go.Proofs.YtggifbbiiickmaaGreatDoor
namespace Go.Proofs.YtggifbbiiickmaaGreatDoor.PX
open Go.RowKit Go.Proofs.zk.zu Go.Proofs.zk.yD Go.Proofs.zk.yA
attribute [local go_sem] xP xR vG vH xB xC xS xU   -- for this text's walks alone
set_option linter.unusedVariables false
set_option linter.unusedSimpArgs false
def vX.l0:Nat → ByteArray → Int → Option (Bool)
 | 0,_,_=>none
 | k + 1,x0,x3=>if x3 < (x0.size:Int) then (if 0 ≤ x3 then (if (bt x0 x3) < 33 then (some false) else (if (bt x0 x3) > 126 then (some false) else (vX.l0 k x0 (wrap64 (x3 + 1))))) else (none)) else (if (x0.size:Int) ≥ 1 then (some (decide ((x0.size:Int) ≤ 10))) else (some false))
def vX.f (k:Nat) (a0:ByteArray):Option (Bool):=vX.l0 k a0 0
set_option maxHeartbeats 8000000 in
set_option maxRecDepth 100000 in
theorem vX.calls (k:Nat) (a0:ByteArray) (r:Bool) (w:World) (h:vX.f k a0 = some r) :
  Calls Tryz.prog 138 #[.string a0] w fun e w'=>e = .returned (.bool r) ∧ yt w w':=by
 have H:(vX.l0 k a0 0) = some r:=h
 clear h
 have H':=zx.mk H
 clear H
 go_enter Tryz.func138,Tryz.ntmps138
 go_wp2
 go_loopg [3] k (fun kq v3 w'=>∃ (qX:Int),v3 = .int .i64 qX ∧ zx (vX.l0 kq a0 qX = some r) ∧ zx (kq ≤ k) ∧ yt w w')
 case atStart=>exact ⟨(0),(by first | rfl | (simp;done) | (simp [*];done)),H',⟨Nat.le_refl _⟩,by repeat (first | exact yt.refl _ | apply yt.step)⟩
 case round =>
  clear H'
  obtain ⟨qX,rfl,HA,uK,⟨m1,rfl⟩⟩:=hrel
  cases gk with
  | zero=>exact absurd HA.out (by simp [vX.l0])
  | succ k1 =>
   have H:=HA.out
   clear HA
   simp only [vX.l0] at H
   by_cases c2:qX < (a0.size:Int)
   ·rw [if_pos c2] at H
    have rE:decide (qX < (a0.size:Int)) = true:=decide_eq_true c2
    clear c2
    by_cases c3:0 ≤ qX
    ·rw [if_pos c3] at H
     have ZR:decide (0 ≤ qX) = true:=decide_eq_true c3
     clear c3
     by_cases c5:(bt a0 qX) < 33
     ·rw [if_pos c5] at H
      have pY:decide ((bt a0 qX) < 33) = true:=decide_eq_true c5
      clear c5
      obtain rfl:=Option.some.inj H
      have p4:0 ≤ (qX:Int):=of_decide_eq_true yF
      have q4:qX < (a0.size:Int):=of_decide_eq_true yF
      have hx4:=Wq a0 qX
      replace p4:=eq_true p4
      replace q4:=eq_true q4
      go_wp2
      go_ret
      exact ⟨by first | rfl | (simp;done) | (simp [*];done),by repeat (first | exact yt.refl _ | apply yt.step)⟩
     ·rw [if_neg c5] at H
      have pY:decide ((bt a0 qX) < 33) = false:=decide_eq_false c5
      clear c5
      by_cases c7:(bt a0 qX) > 126
      ·rw [if_pos c7] at H
       have Xn:decide (126 < (bt a0 qX)) = true:=decide_eq_true c7
       clear c7
       obtain rfl:=Option.some.inj H
       have p4:0 ≤ (qX:Int):=of_decide_eq_true yF
       have q4:qX < (a0.size:Int):=of_decide_eq_true yF
       have hx4:=Wq a0 qX
       replace p4:=eq_true p4
       replace q4:=eq_true q4
       have p6:0 ≤ (qX:Int):=of_decide_eq_true yF
       have q6:qX < (a0.size:Int):=of_decide_eq_true yF
       have hx6:=Wq a0 qX
       replace p6:=eq_true p6
       replace q6:=eq_true q6
       go_wp2
       go_ret
       exact ⟨by first | rfl | (simp;done) | (simp [*];done),by repeat (first | exact yt.refl _ | apply yt.step)⟩
      ·rw [if_neg c7] at H
       have Xn:decide (126 < (bt a0 qX)) = false:=decide_eq_false c7
       clear c7
       have H':=zx.mk H
       clear H
       have p4:0 ≤ (qX:Int):=of_decide_eq_true yF
       have q4:qX < (a0.size:Int):=of_decide_eq_true yF
       have hx4:=Wq a0 qX
       replace p4:=eq_true p4
       replace q4:=eq_true q4
       have p6:0 ≤ (qX:Int):=of_decide_eq_true yF
       have q6:qX < (a0.size:Int):=of_decide_eq_true yF
       have hx6:=Wq a0 qX
       replace p6:=eq_true p6
       replace q6:=eq_true q6
       go_wp2
       go_roundg k1
       case measure=>have:=uK.out;omega
       case rel=>exact ⟨(wrap64 (qX + 1)),(by first | rfl | (simp;done) | (simp [*];done)),H',⟨by have:=uK.out;omega⟩,by repeat (first | exact yt.refl _ | apply yt.step)⟩
    ·rw [if_neg c3] at H
     exact absurd H (by simp)
   ·rw [if_neg c2] at H
    have rE:decide (qX < (a0.size:Int)) = false:=decide_eq_false c2
    clear c2
    by_cases c8:(a0.size:Int) ≥ 1
    ·rw [if_pos c8] at H
     have Zt:decide (1 ≤ (a0.size:Int)) = true:=decide_eq_true c8
     have V6:decide (1 ≤ a0.size) = true:=decide_eq_true (by omega)
     clear c8
     obtain rfl:=Option.some.inj H
     go_wp2
     go_ret
     exact ⟨by first | rfl | (simp;done) | (simp [*];done),by repeat (first | exact yt.refl _ | apply yt.step)⟩
    ·rw [if_neg c8] at H
     have Zt:decide (1 ≤ (a0.size:Int)) = false:=decide_eq_false c8
     have V6:decide (1 ≤ a0.size) = false:=decide_eq_false (by omega)
     clear c8
     obtain rfl:=Option.some.inj H
     go_wp2
     go_ret
     exact ⟨by first | rfl | (simp;done) | (simp [*];done),by repeat (first | exact yt.refl _ | apply yt.step)⟩
end Go.Proofs.YtggifbbiiickmaaGreatDoor.PX
namespace Go.Proofs
open Go.Shelf
def Tryz.lays160_ren:Go.Shelf.Ren:=⟨fun | 160=>129 | 232=>154 | 231=>153 | 227=>155 | 234=>157 | 233=>156 | 236=>159 | 235=>158 | 228=>182 | 271=>185 | 151=>184 | 197=>183 | 120=>198 | 152=>197 | 260=>196 | 137=>113 | 119=>203 | 224=>180 | 225=>179 | 217=>145 | 266=>171 | n=>n,fun | 9=>9 | 4=>4 | 3=>3 | 5=>5 | 117=>201 | 116=>200 | 0=>0 | 124=>204 | 21=>21 | 105=>234 | 46=>47 | 119=>169 | 139=>263 | 138=>262 | n=>n,fun | 3=>5 | 4=>6 | n=>n⟩
theorem Tryz.lays160:Go.Proofs.Lays.n160 Tryz.prog Tryz.lays160_ren:={
 mixed:=by kernel_rfl
 f119:=Tryz.func203.trans (congrArg some (by kernel_rfl))
 f120:=Tryz.func198.trans (congrArg some (by kernel_rfl))
 f137:=Tryz.func113.trans (congrArg some (by kernel_rfl))
 f151:=Tryz.func184.trans (congrArg some (by kernel_rfl))
 f152:=Tryz.func197.trans (congrArg some (by kernel_rfl))
 f160:=Tryz.func129.trans (congrArg some (by kernel_rfl))
 f197:=Tryz.func183.trans (congrArg some (by kernel_rfl))
 f217:=Tryz.func145.trans (congrArg some (by kernel_rfl))
 f224:=Tryz.func180.trans (congrArg some (by kernel_rfl))
 f225:=Tryz.func179.trans (congrArg some (by kernel_rfl))
 f227:=Tryz.func155.trans (congrArg some (by kernel_rfl))
 f228:=Tryz.func182.trans (congrArg some (by kernel_rfl))
 f231:=Tryz.func153.trans (congrArg some (by kernel_rfl))
 f232:=Tryz.func154.trans (congrArg some (by kernel_rfl))
 f233:=Tryz.func156.trans (congrArg some (by kernel_rfl))
 f234:=Tryz.func157.trans (congrArg some (by kernel_rfl))
 f235:=Tryz.func158.trans (congrArg some (by kernel_rfl))
 f236:=Tryz.func159.trans (congrArg some (by kernel_rfl))
 f260:=Tryz.func196.trans (congrArg some (by kernel_rfl))
 f266:=Tryz.func171.trans (congrArg some (by kernel_rfl))
 f271:=Tryz.func185.trans (congrArg some (by kernel_rfl))
 t0:=Tryz.underlying0
 a0:=Tryz.isAgg0
 z0:=Tryz.sizeOf0
 v0:=Tryz.zeroValue0
 t3:=Tryz.underlying3
 a3:=Tryz.isAgg3
 z3:=Tryz.sizeOf3
 v3:=Tryz.zeroValue3
 t4:=Tryz.underlying4
 a4:=Tryz.isAgg4
 z4:=Tryz.sizeOf4
 v4:=Tryz.zeroValue4
 t5:=Tryz.underlying5
 a5:=Tryz.isAgg5
 z5:=Tryz.sizeOf5
 v5:=Tryz.zeroValue5
 t9:=Tryz.underlying9
 a9:=Tryz.isAgg9
 z9:=Tryz.sizeOf9
 v9:=Tryz.zeroValue9
 t21:=Tryz.underlying21
 a21:=Tryz.isAgg21
 z21:=Tryz.sizeOf21
 v21:=Tryz.zeroValue21
 t46:=Tryz.underlying47
 a46:=Tryz.isAgg47
 z46:=Tryz.sizeOf47
 v46:=Tryz.zeroValue47
 t105:=Tryz.underlying234
 a105:=Tryz.isAgg234
 z105:=Tryz.sizeOf234
 v105:=Tryz.zeroValue234
 t116:=Tryz.underlying200
 a116:=Tryz.isAgg200
 z116:=Tryz.sizeOf200
 t117:=Tryz.underlying201
 a117:=Tryz.isAgg201
 z117:=Tryz.sizeOf201
 v117:=Tryz.zeroValue201
 t119:=Tryz.underlying169
 a119:=Tryz.isAgg169
 z119:=Tryz.sizeOf169
 t124:=Tryz.underlying204
 a124:=Tryz.isAgg204
 z124:=Tryz.sizeOf204
 v124:=Tryz.zeroValue204
 t138:=Tryz.underlying262
 a138:=Tryz.isAgg262
 z138:=Tryz.sizeOf262
 v138:=Tryz.zeroValue262
 t139:=Tryz.underlying263
 a139:=Tryz.isAgg263
 z139:=Tryz.sizeOf263
 v139:=Tryz.zeroValue263
 g3:=by kernel_rfl
 g4:=by kernel_rfl }
def Tryz.lays137_ren:Go.Shelf.Ren:=⟨fun | 137=>113 | 217=>145 | 266=>171 | n=>n,fun | 9=>9 | 5=>5 | 3=>3 | n=>n,fun | n=>n⟩
theorem Tryz.lays137:Go.Proofs.Lays.n137 Tryz.prog Tryz.lays137_ren:={
 mixed:=by kernel_rfl
 f137:=Tryz.func113.trans (congrArg some (by kernel_rfl))
 f217:=Tryz.func145.trans (congrArg some (by kernel_rfl))
 f266:=Tryz.func171.trans (congrArg some (by kernel_rfl))
 t3:=Tryz.underlying3
 a3:=Tryz.isAgg3
 z3:=Tryz.sizeOf3
 v3:=Tryz.zeroValue3
 t5:=Tryz.underlying5
 a5:=Tryz.isAgg5
 z5:=Tryz.sizeOf5
 v5:=Tryz.zeroValue5
 t9:=Tryz.underlying9
 a9:=Tryz.isAgg9
 z9:=Tryz.sizeOf9
 v9:=Tryz.zeroValue9 }
open Go.RowKit in
theorem Tryz.strings_IndexByte (s:ByteArray) (c:Int) (w:World) :
  Calls Tryz.prog 113 #[.string s,.int .u8 c] w fun e w'=>e = .returned (.int .i64 (Lib.indexByte s.data.toList c.toNat.toUInt8)) ∧ w' = w:=Any.strings_IndexByte Tryz.lays137 s c w
def Tryz.laysC172_ren:Go.Shelf.Ren:=⟨fun | 172=>116 | 244=>147 | 245=>148 | 247=>174 | 279=>175 | 280=>176 | 281=>177 | 282=>178 | 287=>191 | 316=>192 | 171=>194 | 205=>193 | 321=>200 | 322=>201 | 243=>202 | 246=>204 | 283=>205 | 284=>206 | 285=>207 | 286=>208 | 129=>170 | 317=>209 | 318=>210 | 319=>211 | 320=>212 | 337=>213 | 338=>214 | n=>n,fun | 9=>9 | 3=>3 | 75=>133 | 76=>135 | 4=>4 | 5=>5 | 167=>226 | 37=>129 | 0=>0 | 85=>227 | 2=>2 | 168=>229 | 53=>214 | 175=>245 | 46=>47 | 210=>248 | 127=>175 | 145=>260 | 143=>258 | 21=>21 | 171=>265 | 173=>267 | 212=>270 | 51=>191 | 20=>20 | 213=>271 | 232=>272 | 233=>273 | 80=>137 | n=>n,fun | 15=>3 | 16=>4 | 17=>7 | 18=>8 | 19=>9 | n=>n⟩
theorem Tryz.laysC172:Go.Proofs.LaysC.n172 Tryz.prog Tryz.laysC172_ren:={
 mixed:=by kernel_rfl
 f129:=Tryz.func170.trans (congrArg some (by kernel_rfl))
 f171:=Tryz.func194.trans (congrArg some (by kernel_rfl))
 f172:=Tryz.func116.trans (congrArg some (by kernel_rfl))
 f205:=Tryz.func193.trans (congrArg some (by kernel_rfl))
 f243:=Tryz.func202.trans (congrArg some (by kernel_rfl))
 f244:=Tryz.func147.trans (congrArg some (by kernel_rfl))
 f245:=Tryz.func148.trans (congrArg some (by kernel_rfl))
 f246:=Tryz.func204.trans (congrArg some (by kernel_rfl))
 f247:=Tryz.func174.trans (congrArg some (by kernel_rfl))
 f279:=Tryz.func175.trans (congrArg some (by kernel_rfl))
 f280:=Tryz.func176.trans (congrArg some (by kernel_rfl))
 f281:=Tryz.func177.trans (congrArg some (by kernel_rfl))
 f282:=Tryz.func178.trans (congrArg some (by kernel_rfl))
 f283:=Tryz.func205.trans (congrArg some (by kernel_rfl))
 f284:=Tryz.func206.trans (congrArg some (by kernel_rfl))
 f285:=Tryz.func207.trans (congrArg some (by kernel_rfl))
 f286:=Tryz.func208.trans (congrArg some (by kernel_rfl))
 f287:=Tryz.func191.trans (congrArg some (by kernel_rfl))
 f316:=Tryz.func192.trans (congrArg some (by kernel_rfl))
 f317:=Tryz.func209.trans (congrArg some (by kernel_rfl))
 f318:=Tryz.func210.trans (congrArg some (by kernel_rfl))
 f319:=Tryz.func211.trans (congrArg some (by kernel_rfl))
 f320:=Tryz.func212.trans (congrArg some (by kernel_rfl))
 f321:=Tryz.func200.trans (congrArg some (by kernel_rfl))
 f322:=Tryz.func201.trans (congrArg some (by kernel_rfl))
 f337:=Tryz.func213.trans (congrArg some (by kernel_rfl))
 f338:=Tryz.func214.trans (congrArg some (by kernel_rfl))
 t0:=Tryz.underlying0
 a0:=Tryz.isAgg0
 z0:=Tryz.sizeOf0
 v0:=Tryz.zeroValue0
 t2:=Tryz.underlying2
 a2:=Tryz.isAgg2
 z2:=Tryz.sizeOf2
 v2:=Tryz.zeroValue2
 t3:=Tryz.underlying3
 a3:=Tryz.isAgg3
 z3:=Tryz.sizeOf3
 v3:=Tryz.zeroValue3
 t4:=Tryz.underlying4
 a4:=Tryz.isAgg4
 z4:=Tryz.sizeOf4
 v4:=Tryz.zeroValue4
 t5:=Tryz.underlying5
 a5:=Tryz.isAgg5
 z5:=Tryz.sizeOf5
 v5:=Tryz.zeroValue5
 t9:=Tryz.underlying9
 a9:=Tryz.isAgg9
 z9:=Tryz.sizeOf9
 v9:=Tryz.zeroValue9
 t20:=Tryz.underlying20
 a20:=Tryz.isAgg20
 z20:=Tryz.sizeOf20
 v20:=Tryz.zeroValue20
 t21:=Tryz.underlying21
 a21:=Tryz.isAgg21
 z21:=Tryz.sizeOf21
 v21:=Tryz.zeroValue21
 t37:=Tryz.underlying129
 a37:=Tryz.isAgg129
 z37:=Tryz.sizeOf129
 v37:=Tryz.zeroValue129
 t46:=Tryz.underlying47
 a46:=Tryz.isAgg47
 z46:=Tryz.sizeOf47
 v46:=Tryz.zeroValue47
 t51:=Tryz.underlying191
 a51:=Tryz.isAgg191
 z51:=Tryz.sizeOf191
 v51:=Tryz.zeroValue191
 t53:=Tryz.underlying214
 a53:=Tryz.isAgg214
 z53:=Tryz.sizeOf214
 v53:=Tryz.zeroValue214
 t75:=Tryz.underlying133
 a75:=Tryz.isAgg133
 z75:=Tryz.sizeOf133
 v75:=Tryz.zeroValue133
 t76:=Tryz.underlying135
 a76:=Tryz.isAgg135
 z76:=Tryz.sizeOf135
 v76:=Tryz.zeroValue135
 t85:=Tryz.underlying227
 a85:=Tryz.isAgg227
 z85:=Tryz.sizeOf227
 v85:=Tryz.zeroValue227
 t127:=Tryz.underlying175
 a127:=Tryz.isAgg175
 z127:=Tryz.sizeOf175
 v127:=Tryz.zeroValue175
 t143:=Tryz.underlying258
 a143:=Tryz.isAgg258
 z143:=Tryz.sizeOf258
 v143:=Tryz.zeroValue258
 t145:=Tryz.underlying260
 a145:=Tryz.isAgg260
 z145:=Tryz.sizeOf260
 v145:=Tryz.zeroValue260
 t167:=Tryz.underlying226
 a167:=Tryz.isAgg226
 z167:=Tryz.sizeOf226
 v167:=Tryz.zeroValue226
 t168:=Tryz.underlying229
 a168:=Tryz.isAgg229
 z168:=Tryz.sizeOf229
 v168:=Tryz.zeroValue229
 t171:=Tryz.underlying265
 a171:=Tryz.isAgg265
 z171:=Tryz.sizeOf265
 v171:=Tryz.zeroValue265
 t173:=Tryz.underlying267
 a173:=Tryz.isAgg267
 z173:=Tryz.sizeOf267
 v173:=Tryz.zeroValue267
 t175:=Tryz.underlying245
 a175:=Tryz.isAgg245
 z175:=Tryz.sizeOf245
 v175:=Tryz.zeroValue245
 t210:=Tryz.underlying248
 a210:=Tryz.isAgg248
 z210:=Tryz.sizeOf248
 v210:=Tryz.zeroValue248
 t212:=Tryz.underlying270
 a212:=Tryz.isAgg270
 z212:=Tryz.sizeOf270
 v212:=Tryz.zeroValue270
 t213:=Tryz.underlying271
 a213:=Tryz.isAgg271
 z213:=Tryz.sizeOf271
 t232:=Tryz.underlying272
 a232:=Tryz.isAgg272
 z232:=Tryz.sizeOf272
 v232:=Tryz.zeroValue272
 t233:=Tryz.underlying273
 a233:=Tryz.isAgg273
 z233:=Tryz.sizeOf273
 v233:=Tryz.zeroValue273
 g15:=by kernel_rfl
 g16:=by kernel_rfl
 g17:=by kernel_rfl
 g18:=by kernel_rfl
 g19:=by kernel_rfl
 t80:=Tryz.underlying137
 a80:=Tryz.isAgg137
 z80:=Tryz.sizeOf137
 v80:=Tryz.zeroValue137
 i0:=by kernel_rfl
 i2:=by kernel_rfl
 i3:=by kernel_rfl
 i4:=by kernel_rfl
 i5:=by kernel_rfl
 i9:=by kernel_rfl
 i20:=by kernel_rfl
 i21:=by kernel_rfl
 i37:=by kernel_rfl
 i46:=by kernel_rfl
 i51:=by kernel_rfl
 i53:=by kernel_rfl
 i75:=by kernel_rfl
 i76:=by kernel_rfl
 i80:=by kernel_rfl
 i85:=by kernel_rfl
 i127:=by kernel_rfl
 i143:=by kernel_rfl
 i145:=by kernel_rfl
 i167:=by kernel_rfl
 i168:=by kernel_rfl
 i171:=by kernel_rfl
 i173:=by kernel_rfl
 i175:=by kernel_rfl
 i210:=by kernel_rfl
 i212:=by kernel_rfl
 i232:=by kernel_rfl
 i233:=by kernel_rfl
 m15:=by kernel_rfl
 m16:=by kernel_rfl
 m17:=by kernel_rfl
 m18:=by kernel_rfl
 m19:=by kernel_rfl
 c0:=by kernel_rfl
 c2:=by kernel_rfl
 c3:=by kernel_rfl
 c4:=by kernel_rfl
 c5:=by kernel_rfl
 c9:=by kernel_rfl
 c20:=by kernel_rfl
 c21:=by kernel_rfl
 c37:=by kernel_rfl
 c46:=by kernel_rfl
 c51:=by kernel_rfl
 c53:=by kernel_rfl
 c75:=by kernel_rfl
 c76:=by kernel_rfl
 c80:=by kernel_rfl
 c85:=by kernel_rfl
 c127:=by kernel_rfl
 c143:=by kernel_rfl
 c145:=by kernel_rfl
 c167:=by kernel_rfl
 c168:=by kernel_rfl
 c171:=by kernel_rfl
 c173:=by kernel_rfl
 c175:=by kernel_rfl
 c210:=by kernel_rfl
 c212:=by kernel_rfl
 c213:=by kernel_rfl
 c232:=by kernel_rfl
 c233:=by kernel_rfl }
open Go.RowKit in
theorem Tryz.strconv_Atoi_ok (s:ByteArray) (hmax:s.size ≤ 9223372036854775806) (v:Int) (h:Lib.atoiAll s.data.toList = .ok v) (w:World) :
  Calls Tryz.prog 116 #[.string s] w fun e w'=>e = .returned (.tuple #[.int .i64 v,.nilIface]) ∧ (w' = w ∨ ∃ t,w' = Lib.bytesWorld w 5 t):=Any.strconv_Atoi_ok Tryz.laysC172 s hmax v h w
open Go.RowKit in
theorem Tryz.strconv_Atoi_syntax_var (s:ByteArray) (hlim:s.size ≤ 281474976710656) (h:Lib.atoiAll s.data.toList = Lib.atoiAll []) (tp:TypeId) (p:Value) (w:World) (hvar:w.var? Tryz.prog "strconv.ErrSyntax" = some #[.iface tp p]) :
  Calls Tryz.prog 116 #[.string s] w fun e w'=>∃ N,e = .returned (.tuple #[.int .i64 0,.iface 229 (.pointer (some ⟨N,0,none⟩))]) ∧ w.heap.size ≤ N ∧ w'.heap[N]? = some (.cells #[.string ⟨#[65,116,111,105]⟩,.string s,.iface tp p] 248 (0,0)) ∧ Below w.heap.size w w':=Any.strconv_Atoi_syntax_var Tryz.laysC172 s hlim h tp p w hvar
open Go.RowKit in
theorem Tryz.strconv_Atoi_range_var (s:ByteArray) (hlim:s.size ≤ 281474976710656) (h:Lib.atoiAll s.data.toList = .range) (tp:TypeId) (p:Value) (w:World) (hvar:w.var? Tryz.prog "strconv.ErrRange" = some #[.iface tp p]) :
  Calls Tryz.prog 116 #[.string s] w fun e w'=>∃ N,e = .returned (.tuple #[.int .i64 (Lib.atoiSat s.data.toList),.iface 229 (.pointer (some ⟨N,0,none⟩))]) ∧ w.heap.size ≤ N ∧ w'.heap[N]? = some (.cells #[.string ⟨#[65,116,111,105]⟩,.string s,.iface tp p] 248 (0,0)) ∧ Below w.heap.size w w':=Any.strconv_Atoi_range_var Tryz.laysC172 s hlim h tp p w hvar
def Tryz.laysGw17_ren:Go.Shelf.Ren:=⟨fun | 17=>81 | 15=>128 | 20=>152 | n=>n,fun | 9=>9 | 23=>142 | 4=>4 | 3=>3 | 0=>0 | 21=>21 | n=>n,fun | n=>n⟩
theorem Tryz.laysGw17:Go.Proofs.LaysGw.n17 Tryz.prog Tryz.laysGw17_ren:={
 mixed:=by kernel_rfl
 f15:=Tryz.func128.trans (congrArg some (by kernel_rfl))
 f17:=Tryz.func81.trans (congrArg some (by kernel_rfl))
 f20:=Tryz.func152.trans (congrArg some (by kernel_rfl))
 t0:=Tryz.underlying0
 a0:=Tryz.isAgg0
 z0:=Tryz.sizeOf0
 v0:=Tryz.zeroValue0
 i0:=by kernel_rfl
 t3:=Tryz.underlying3
 a3:=Tryz.isAgg3
 z3:=Tryz.sizeOf3
 v3:=Tryz.zeroValue3
 i3:=by kernel_rfl
 t4:=Tryz.underlying4
 a4:=Tryz.isAgg4
 z4:=Tryz.sizeOf4
 v4:=Tryz.zeroValue4
 i4:=by kernel_rfl
 t9:=Tryz.underlying9
 a9:=Tryz.isAgg9
 z9:=Tryz.sizeOf9
 v9:=Tryz.zeroValue9
 i9:=by kernel_rfl
 t21:=Tryz.underlying21
 a21:=Tryz.isAgg21
 z21:=Tryz.sizeOf21
 v21:=Tryz.zeroValue21
 i21:=by kernel_rfl
 t23:=Tryz.underlying142
 a23:=Tryz.isAgg142
 z23:=Tryz.sizeOf142
 v23:=Tryz.zeroValue142
 i23:=by kernel_rfl }
open Go.RowKit Go.Lib in
theorem Tryz.strings_ContainsFunc (g:Nat) (lb:Array Value) (eg:∀ args w,(callFunc g args).run Tryz.prog w = .ok (.enter g args) w) (p:Nat → Bool) (s:ByteArray) (w:World) (hp:PredAt Tryz.prog g lb encR p w) :
  Calls Tryz.prog 81 #[.string s,.func (.func g) #[] lb] w fun e w'=>e = .returned (.bool (decide (0 ≤ Lib.idxFunc p true s))) ∧ Below w.heap.size w w':=Any.strings_ContainsFunc Tryz.laysGw17 g lb eg p s w hp
def Tryz.lays157_ren:Go.Shelf.Ren:=⟨fun | 157=>60 | 229=>114 | 199=>115 | 261=>146 | 311=>172 | 312=>173 | n=>n,fun | 9=>9 | 31=>27 | 3=>3 | 5=>5 | 4=>4 | 119=>169 | 0=>0 | 40=>142 | 152=>188 | 21=>21 | 154=>190 | 51=>191 | 141=>193 | 196=>218 | 193=>215 | 198=>221 | 49=>219 | 194=>216 | 201=>224 | 226=>243 | 46=>47 | 227=>244 | n=>n,fun | 0=>0 | 6=>1 | n=>n⟩
theorem Tryz.lays157:Go.Proofs.Lays.n157 Tryz.prog Tryz.lays157_ren:={
 mixed:=by kernel_rfl
 f157:=Tryz.func60.trans (congrArg some (by kernel_rfl))
 f199:=Tryz.func115.trans (congrArg some (by kernel_rfl))
 f229:=Tryz.func114.trans (congrArg some (by kernel_rfl))
 f261:=Tryz.func146.trans (congrArg some (by kernel_rfl))
 f311:=Tryz.func172.trans (congrArg some (by kernel_rfl))
 f312:=Tryz.func173.trans (congrArg some (by kernel_rfl))
 t0:=Tryz.underlying0
 a0:=Tryz.isAgg0
 z0:=Tryz.sizeOf0
 v0:=Tryz.zeroValue0
 t3:=Tryz.underlying3
 a3:=Tryz.isAgg3
 z3:=Tryz.sizeOf3
 v3:=Tryz.zeroValue3
 t4:=Tryz.underlying4
 a4:=Tryz.isAgg4
 z4:=Tryz.sizeOf4
 v4:=Tryz.zeroValue4
 t5:=Tryz.underlying5
 a5:=Tryz.isAgg5
 z5:=Tryz.sizeOf5
 v5:=Tryz.zeroValue5
 t9:=Tryz.underlying9
 a9:=Tryz.isAgg9
 z9:=Tryz.sizeOf9
 v9:=Tryz.zeroValue9
 t21:=Tryz.underlying21
 a21:=Tryz.isAgg21
 z21:=Tryz.sizeOf21
 v21:=Tryz.zeroValue21
 t31:=Tryz.underlying27
 a31:=Tryz.isAgg27
 z31:=Tryz.sizeOf27
 v31:=Tryz.zeroValue27
 t40:=Tryz.underlying142
 a40:=Tryz.isAgg142
 z40:=Tryz.sizeOf142
 v40:=Tryz.zeroValue142
 t46:=Tryz.underlying47
 a46:=Tryz.isAgg47
 z46:=Tryz.sizeOf47
 v46:=Tryz.zeroValue47
 t49:=Tryz.underlying219
 a49:=Tryz.isAgg219
 z49:=Tryz.sizeOf219
 v49:=Tryz.zeroValue219
 t51:=Tryz.underlying191
 a51:=Tryz.isAgg191
 z51:=Tryz.sizeOf191
 v51:=Tryz.zeroValue191
 t119:=Tryz.underlying169
 a119:=Tryz.isAgg169
 z119:=Tryz.sizeOf169
 t141:=Tryz.underlying193
 a141:=Tryz.isAgg193
 z141:=Tryz.sizeOf193
 v141:=Tryz.zeroValue193
 t152:=Tryz.underlying188
 a152:=Tryz.isAgg188
 z152:=Tryz.sizeOf188
 v152:=Tryz.zeroValue188
 t154:=Tryz.underlying190
 a154:=Tryz.isAgg190
 z154:=Tryz.sizeOf190
 v154:=Tryz.zeroValue190
 t193:=Tryz.underlying215
 a193:=Tryz.isAgg215
 z193:=Tryz.sizeOf215
 v193:=Tryz.zeroValue215
 t194:=Tryz.underlying216
 a194:=Tryz.isAgg216
 z194:=Tryz.sizeOf216
 v194:=Tryz.zeroValue216
 t196:=Tryz.underlying218
 a196:=Tryz.isAgg218
 z196:=Tryz.sizeOf218
 v196:=Tryz.zeroValue218
 t198:=Tryz.underlying221
 a198:=Tryz.isAgg221
 z198:=Tryz.sizeOf221
 v198:=Tryz.zeroValue221
 t201:=Tryz.underlying224
 a201:=Tryz.isAgg224
 z201:=Tryz.sizeOf224
 v201:=Tryz.zeroValue224
 t226:=Tryz.underlying243
 a226:=Tryz.isAgg243
 z226:=Tryz.sizeOf243
 v226:=Tryz.zeroValue243
 t227:=Tryz.underlying244
 a227:=Tryz.isAgg244
 z227:=Tryz.sizeOf244
 v227:=Tryz.zeroValue244
 g0:=by kernel_rfl
 g6:=by kernel_rfl }
open Go.RowKit Go.Lib in
theorem Tryz.strings_Fields (s:ByteArray) (w:World) (hs:s.size < 4294967281) (hascii:∀ (j:Nat) b,s.data.toList[j]? = some b → b.toNat < 128) (htab:Lib.TabIs Tryz.prog w "strings.asciiSpace" .u8 Lib.asciiSpaceTab) :
  Calls Tryz.prog 60 #[.string s] w fun e w' =>
   e = .returned (.slice (some ⟨w.heap.size,0,none⟩) (Lib.fields s.data.toList).length (Lib.fields s.data.toList).length) ∧ w' = w.alloc (.cells ((Lib.fields s.data.toList).map fun l=>Value.string ⟨l.toArray⟩).toArray 9):=Any.strings_Fields Tryz.lays157 (by kernel_rfl) (by kernel_rfl) s w hs hascii htab
def Tryz.hasG_ren:Go.Shelf.Ren:=⟨fun | 8=>86 | 6=>130 | n=>n,fun | 22=>56 | 23=>105 | 25=>145 | 4=>4 | 3=>3 | 0=>0 | n=>n,fun | n=>n⟩
theorem Tryz.hasG:Go.Proofs.SlLaysH0.n8 Tryz.prog Tryz.hasG_ren:={
 mixed:=by kernel_rfl
 f6:=⟨Tryz.f130.name,by decide,Tryz.func130.trans (congrArg some (by kernel_rfl))⟩
 f8:=⟨Tryz.f86.name,by decide,Tryz.func86.trans (congrArg some (by kernel_rfl))⟩
 t0:=Tryz.underlying0
 a0:=Tryz.isAgg0
 z0:=Tryz.sizeOf0
 v0:=Tryz.zeroValue0
 t3:=Tryz.underlying3
 a3:=Tryz.isAgg3
 z3:=Tryz.sizeOf3
 v3:=Tryz.zeroValue3
 t4:=Tryz.underlying4
 a4:=Tryz.isAgg4
 z4:=Tryz.sizeOf4
 v4:=Tryz.zeroValue4
 t22:=Tryz.underlying56
 a22:=Tryz.isAgg56
 z22:=Tryz.sizeOf56
 v22:=Tryz.zeroValue56
 t25:=Tryz.underlying145
 a25:=Tryz.isAgg145
 z25:=Tryz.sizeOf145
 v25:=Tryz.zeroValue145 }
def Tryz.hasL_ren:Go.Shelf.Ren:=⟨fun | 8=>92 | 6=>133 | n=>n,fun | 22=>57 | 23=>108 | 25=>151 | 4=>4 | 3=>3 | 0=>0 | n=>n,fun | n=>n⟩
theorem Tryz.hasL:Go.Proofs.SlLaysH0.n8 Tryz.prog Tryz.hasL_ren:={
 mixed:=by kernel_rfl
 f6:=⟨Tryz.f133.name,by decide,Tryz.func133.trans (congrArg some (by kernel_rfl))⟩
 f8:=⟨Tryz.f92.name,by decide,Tryz.func92.trans (congrArg some (by kernel_rfl))⟩
 t0:=Tryz.underlying0
 a0:=Tryz.isAgg0
 z0:=Tryz.sizeOf0
 v0:=Tryz.zeroValue0
 t3:=Tryz.underlying3
 a3:=Tryz.isAgg3
 z3:=Tryz.sizeOf3
 v3:=Tryz.zeroValue3
 t4:=Tryz.underlying4
 a4:=Tryz.isAgg4
 z4:=Tryz.sizeOf4
 v4:=Tryz.zeroValue4
 t22:=Tryz.underlying57
 a22:=Tryz.isAgg57
 z22:=Tryz.sizeOf57
 v22:=Tryz.zeroValue57
 t25:=Tryz.underlying151
 a25:=Tryz.isAgg151
 z25:=Tryz.sizeOf151
 v25:=Tryz.zeroValue151 }
def Tryz.hasK_ren:Go.Shelf.Ren:=⟨fun | 8=>99 | 6=>134 | n=>n,fun | 22=>58 | 23=>111 | 25=>155 | 4=>4 | 3=>3 | 0=>0 | n=>n,fun | n=>n⟩
theorem Tryz.hasK:Go.Proofs.SlLaysH0.n8 Tryz.prog Tryz.hasK_ren:={
 mixed:=by kernel_rfl
 f6:=⟨Tryz.f134.name,by decide,Tryz.func134.trans (congrArg some (by kernel_rfl))⟩
 f8:=⟨Tryz.f99.name,by decide,Tryz.func99.trans (congrArg some (by kernel_rfl))⟩
 t0:=Tryz.underlying0
 a0:=Tryz.isAgg0
 z0:=Tryz.sizeOf0
 v0:=Tryz.zeroValue0
 t3:=Tryz.underlying3
 a3:=Tryz.isAgg3
 z3:=Tryz.sizeOf3
 v3:=Tryz.zeroValue3
 t4:=Tryz.underlying4
 a4:=Tryz.isAgg4
 z4:=Tryz.sizeOf4
 v4:=Tryz.zeroValue4
 t22:=Tryz.underlying58
 a22:=Tryz.isAgg58
 z22:=Tryz.sizeOf58
 v22:=Tryz.zeroValue58
 t25:=Tryz.underlying155
 a25:=Tryz.isAgg155
 z25:=Tryz.sizeOf155
 v25:=Tryz.zeroValue155 }
def Tryz.sortG_ren:Go.Shelf.Ren:=⟨fun | 6=>110 | 15=>144 | 14=>143 | 28=>169 | 29=>170 | 20=>161 | 21=>162 | 22=>163 | 23=>164 | 24=>165 | 25=>166 | 26=>167 | 27=>168 | 46=>186 | 47=>187 | 48=>188 | 49=>189 | 50=>190 | 57=>199 | n=>n,fun | 22=>56 | 24=>105 | 25=>148 | 3=>3 | 39=>47 | 0=>0 | 53=>191 | 55=>214 | 4=>4 | 46=>207 | 45=>206 | 50=>117 | 5=>5 | 9=>9 | 66=>237 | 70=>241 | 76=>254 | 77=>255 | n=>n,fun | n=>n⟩
theorem Tryz.sortG:Go.Proofs.SlLaysF0.n6 Tryz.prog Tryz.sortG_ren:={
 mixed:=by kernel_rfl
 f6:=⟨Tryz.f110.name,by decide,Tryz.func110.trans (congrArg some (by kernel_rfl))⟩
 f14:=⟨Tryz.f143.name,by decide,Tryz.func143.trans (congrArg some (by kernel_rfl))⟩
 f15:=Tryz.func144.trans (congrArg some (by kernel_rfl))
 f20:=⟨Tryz.f161.name,by decide,Tryz.func161.trans (congrArg some (by kernel_rfl))⟩
 f21:=⟨Tryz.f162.name,by decide,Tryz.func162.trans (congrArg some (by kernel_rfl))⟩
 f22:=⟨Tryz.f163.name,by decide,Tryz.func163.trans (congrArg some (by kernel_rfl))⟩
 f23:=⟨Tryz.f164.name,by decide,Tryz.func164.trans (congrArg some (by kernel_rfl))⟩
 f24:=⟨Tryz.f165.name,by decide,Tryz.func165.trans (congrArg some (by kernel_rfl))⟩
 f25:=⟨Tryz.f166.name,by decide,Tryz.func166.trans (congrArg some (by kernel_rfl))⟩
 f26:=⟨Tryz.f167.name,by decide,Tryz.func167.trans (congrArg some (by kernel_rfl))⟩
 f27:=⟨Tryz.f168.name,by decide,Tryz.func168.trans (congrArg some (by kernel_rfl))⟩
 f28:=Tryz.func169.trans (congrArg some (by kernel_rfl))
 f29:=Tryz.func170.trans (congrArg some (by kernel_rfl))
 f46:=⟨Tryz.f186.name,by decide,Tryz.func186.trans (congrArg some (by kernel_rfl))⟩
 f47:=Tryz.func187.trans (congrArg some (by kernel_rfl))
 f48:=Tryz.func188.trans (congrArg some (by kernel_rfl))
 f49:=⟨Tryz.f189.name,by decide,Tryz.func189.trans (congrArg some (by kernel_rfl))⟩
 f50:=⟨Tryz.f190.name,by decide,Tryz.func190.trans (congrArg some (by kernel_rfl))⟩
 f57:=⟨Tryz.f199.name,by decide,Tryz.func199.trans (congrArg some (by kernel_rfl))⟩
 t0:=Tryz.underlying0
 a0:=Tryz.isAgg0
 z0:=Tryz.sizeOf0
 v0:=Tryz.zeroValue0
 t3:=Tryz.underlying3
 a3:=Tryz.isAgg3
 z3:=Tryz.sizeOf3
 v3:=Tryz.zeroValue3
 t4:=Tryz.underlying4
 a4:=Tryz.isAgg4
 z4:=Tryz.sizeOf4
 v4:=Tryz.zeroValue4
 t5:=Tryz.underlying5
 a5:=Tryz.isAgg5
 z5:=Tryz.sizeOf5
 v5:=Tryz.zeroValue5
 t9:=Tryz.underlying9
 a9:=Tryz.isAgg9
 z9:=Tryz.sizeOf9
 v9:=Tryz.zeroValue9
 t22:=Tryz.underlying56
 a22:=Tryz.isAgg56
 z22:=Tryz.sizeOf56
 v22:=Tryz.zeroValue56
 t25:=Tryz.underlying148
 a25:=Tryz.isAgg148
 z25:=Tryz.sizeOf148
 v25:=Tryz.zeroValue148
 t39:=Tryz.underlying47
 a39:=Tryz.isAgg47
 z39:=Tryz.sizeOf47
 v39:=Tryz.zeroValue47
 t45:=Tryz.underlying206
 a45:=Tryz.isAgg206
 z45:=Tryz.sizeOf206
 v45:=Tryz.zeroValue206
 t46:=Tryz.underlying207
 a46:=Tryz.isAgg207
 z46:=Tryz.sizeOf207
 v46:=Tryz.zeroValue207
 t50:=Tryz.underlying117
 a50:=Tryz.isAgg117
 z50:=Tryz.sizeOf117
 v50:=Tryz.zeroValue117
 t53:=Tryz.underlying191
 a53:=Tryz.isAgg191
 z53:=Tryz.sizeOf191
 v53:=Tryz.zeroValue191
 t55:=Tryz.underlying214
 a55:=Tryz.isAgg214
 z55:=Tryz.sizeOf214
 v55:=Tryz.zeroValue214
 t66:=Tryz.underlying237
 a66:=Tryz.isAgg237
 z66:=Tryz.sizeOf237
 v66:=Tryz.zeroValue237
 t70:=Tryz.underlying241
 a70:=Tryz.isAgg241
 z70:=Tryz.sizeOf241
 v70:=Tryz.zeroValue241
 t76:=Tryz.underlying254
 a76:=Tryz.isAgg254
 z76:=Tryz.sizeOf254
 v76:=Tryz.zeroValue254
 t77:=Tryz.underlying255
 a77:=Tryz.isAgg255
 z77:=Tryz.sizeOf255
 v77:=Tryz.zeroValue255 }
end Go.Proofs
namespace Go.Proofs.YtggifbbiiickmaaGreatDoor
open Go.RowKit Go.Proofs.zk.zu
theorem wK {x:Int} (a:-9223372036854775808 ≤ x) (b:x ≤ 9223372036854775807):wrap64 x = x:=IntWalk.wrap64_in x ⟨a,b⟩
theorem yJ {α:Type} {c:Prop} [Decidable c] {a b:Nat → Option α} {r:α} (h:c) (k:Ev a r):Ev (fun n=>if c then a n else b n) r:=by
 simp only [if_pos h];exact k
theorem xQ {α:Type} {c:Prop} [Decidable c] {a b:Nat → Option α} {r:α} (h:¬ c) (k:Ev b r):Ev (fun n=>if c then a n else b n) r:=by
 simp only [if_neg h];exact k
theorem zwW {α β:Type} {x:α} {f:Nat → α → Option β} {r:β} (k:Ev (fun n=>f n x) r):Ev (fun n=>(some x).bind (f n)) r:=k
theorem Wv {α β:Type} {x:Option α} {y:α} {f:Nat → α → Option β} {r:β} (h:x = some y) (k:Ev (fun n=>f n y) r):Ev (fun n=>x.bind (f n)) r:=by
 subst h;exact k
theorem jM {α:Type} {g:Nat → Option α} {r r':α} (h:r = r') (k:Ev g r):Ev g r':=h ▸ k
def bar (l:List UInt8):ByteArray:=⟨l.toArray⟩
theorem zct (l:List UInt8):(bar l).data.toList = l:=rfl
theorem WO (l:List UInt8):(bar l).size = l.length:=by simp [bar,ByteArray.size]
theorem zwE (s:ByteArray):bar s.data.toList = s:=by
 apply ByteArray.ext;apply Array.toList_inj.1;rfl
theorem ziN (l:List UInt8) (i:Int) (h:i.toNat < l.length):bt (bar l) i = (l[i.toNat].toNat:Int):=by
 unfold bt
 rw [dif_pos (by rw [WO];exact h)]
 rfl
theorem zfU (s:ByteArray):∃ l,s = bar l:=⟨s.data.toList,(zwE s).symm⟩
theorem zkx (l:List UInt8) (i:Nat) (h:i < l.length):bt (bar l) (i:Int) = (l[i].toNat:Int):=ziN l i (by simpa using h)
theorem zwF {α:Type} (d:α) (l:List α) (i:Nat):qb d l (i:Int) = l.getD i d:=rfl
end Go.Proofs.YtggifbbiiickmaaGreatDoor
namespace Go.Proofs.YtggifbbiiickmaaGreatDoor
open Go.RowKit
structure GW (w:World):Prop where
 tab:Lib.TabIs Tryz.prog w "internal/strconv.uint64pow10" .u64 Lib.pow10Tab
 ziO:∃ tp p,w.var? Tryz.prog "strconv.ErrSyntax" = some #[.iface tp p]
 rng:∃ tp p,w.var? Tryz.prog "strconv.ErrRange" = some #[.iface tp p]
 spc:Lib.TabIs Tryz.prog w "strings.asciiSpace" .u8 Lib.asciiSpaceTab
 mx:∃ m,w.cell? ⟨2,0,none⟩ = some (.int .i64 m)
 inside:10 < w.heap.size
theorem GW.under {w w':World} (h:GW w) (hb:Below w.heap.size w w'):GW w':=by
 obtain ⟨t1,p1,e1⟩:=h.ziO
 obtain ⟨t2,p2,e2⟩:=h.rng
 obtain ⟨m,e3⟩:=h.mx
 have hi:=h.inside
 exact ⟨var?_below hb (by kernel_rfl) (by omega:7 < w.heap.size) h.tab,⟨t1,p1,var?_below hb (by kernel_rfl) (by omega:3 < w.heap.size) e1⟩,⟨t2,p2,var?_below hb (by kernel_rfl) (by omega:4 < w.heap.size) e2⟩,
  var?_below hb (by kernel_rfl) (by omega:0 < w.heap.size) h.spc,
  ⟨m,(hb.cell (p:=⟨2,0,none⟩) (by show 2 < w.heap.size;omega)).trans e3⟩,Nat.lt_of_lt_of_le hi hb.size⟩
end Go.Proofs.YtggifbbiiickmaaGreatDoor
namespace Go.Proofs.YtggifbbiiickmaaGreatDoor
open Go.RowKit
def zwa (l:List UInt8):Int:=match Lib.atoiAll l with | .ok v=>v | .range=>Lib.atoiSat l | _=>0
def zvZ (l:List UInt8):Bool:=match Lib.atoiAll l with | .ok _=>true | _=>false
theorem zcu (s:ByteArray) (w:World) (hs:s.size ≤ 140737488355328) (hG:GW w) :
  Calls Tryz.prog 116 #[.string s] w fun e w'=>∃ ev,e = .returned (.tuple #[.int .i64 (zwa s.data.toList),ev]) ∧ (zvZ s.data.toList = true → ev = .nilIface) ∧ (zvZ s.data.toList = false → ∃ te pe,ev = .iface te pe) ∧ Below w.heap.size w w':=by
 unfold zwa zvZ
 cases h:Lib.atoiAll s.data.toList with
 | ok v =>
  refine (Tryz.strconv_Atoi_ok s (by omega) v h w).mono fun e w' ⟨h1,h2⟩=>⟨.nilIface,h1,fun _=>rfl,(fun h=>nomatch h),?_⟩
  rcases h2 with rfl | ⟨t,rfl⟩
  ·exact Below.refl _ _
  ·exact Lib.bytesWorld_below _ _ _
 | range =>
  obtain ⟨tp,p,hv⟩:=hG.rng
  exact (Tryz.strconv_Atoi_range_var s (by omega) h tp p w hv).mono fun e w' ⟨N,h1,_,_,h2⟩=>⟨_,h1,(fun h=>nomatch h),fun _=>⟨_,_,rfl⟩,h2⟩
 | _ =>
  obtain ⟨tp,p,hv⟩:=hG.ziO
  exact (Tryz.strconv_Atoi_syntax_var s (by omega) h tp p w hv).mono fun e w' ⟨N,h1,_,_,h2⟩=>⟨_,h1,(fun h=>nomatch h),fun _=>⟨_,_,rfl⟩,h2⟩
end Go.Proofs.YtggifbbiiickmaaGreatDoor
namespace Go.Proofs.YtggifbbiiickmaaGreatDoor
open Go.RowKit Go.Shelf
def okB (b:UInt8):Bool:=decide (33 ≤ b.toNat) && decide (b.toNat ≤ 126)
def Zi (l:List UInt8):Bool:=decide (1 ≤ l.length) && (decide (l.length ≤ 10) && l.all okB)
def Zy (b:UInt8):Bool:=(decide (97 ≤ b.toNat) && decide (b.toNat ≤ 122)) || (decide (65 ≤ b.toNat) && decide (b.toNat ≤ 90))
def Xo (b:UInt8):Bool:=decide (48 ≤ b.toNat) && decide (b.toNat ≤ 57)
def XF (l:List UInt8):Bool:=decide (1 ≤ l.length) && (decide (l.length ≤ 10) && (l.all (fun b=>Zy b || Xo b) && (l.head?.map Zy).getD false))
def ZT (r:Nat):Bool:=decide (r < 33) || decide (126 < r)
theorem zaB (s:ByteArray):∀ (f pos:Nat),s.size ≤ pos + f → pos ≤ s.size → (0 ≤ Lib.idxFuncFrom ZT true s f pos ↔ ¬ ((s.data.toList.drop pos).all okB = true)):=by
 intro f
 induction f with
 | zero =>
  intro pos h1 h2
  rw [Lib.idxFuncFrom_end _ _ _ _ _ (by omega),List.drop_eq_nil_of_le (by simp;omega)]
  simp
 | succ f ih =>
  intro pos h1 h2
  by_cases hp:pos < s.size
  ·have hd:s.data.toList.drop pos = s[pos] :: s.data.toList.drop (pos + 1):=by
    rw [List.drop_eq_getElem_cons (by simpa using hp)];rfl
   rw [hd,List.all_cons]
   unfold Lib.idxFuncFrom
   rw [if_pos hp]
   by_cases ha:s[pos].toNat < 128
   ·rw [decode_ascii s pos hp ha]
    simp only
    by_cases hb:okB s[pos] = true
    ·have hn:ZT s[pos].toNat = false:=by
      unfold okB at hb;unfold ZT;simp at hb ⊢;omega
     rw [hn,if_neg (by simp),ih (pos + 1) (by omega) (by omega),hb]
     simp
    ·have hn:ZT s[pos].toNat = true:=by
      unfold okB at hb;unfold ZT;simp at hb ⊢;omega
     rw [hn,if_pos rfl]
     simp [hb]
   ·have hh:=decode_high s pos hp (by omega)
    have hn:ZT (Utf8.decode s pos).1 = true:=by unfold ZT;simp;omega
    have hb:okB s[pos] = false:=by unfold okB;simp;omega
    rw [hn,if_pos rfl,hb]
    simp
  ·rw [Lib.idxFuncFrom_end _ _ _ _ _ hp,List.drop_eq_nil_of_le (by simp;omega)]
   simp
theorem zYF (w:World):PredAt Tryz.prog 131 #[] encR ZT w:=fun W r _=>by
 unfold FnGives
 show Calls Tryz.prog 131 #[.int .i32 r] W _
 by_cases h1:r < 33
 ·have e1:ZT r = true:=by unfold ZT;simp [h1]
  have d1:decide ((r:Int) < 33) = true:=by simp;omega
  rw [e1];clear e1 h1
  go_enter Tryz.func131,Tryz.ntmps131
  go_wp2
  go_ret
  exact ⟨rfl,0,rfl⟩
 ·have d1:decide ((r:Int) < 33) = false:=by simp;omega
  by_cases h2:126 < r
  ·have e1:ZT r = true:=by unfold ZT;simp [h2]
   have d2:decide ((126:Int) < (r:Int)) = true:=by simp;omega
   rw [e1];clear e1 h1 h2
   go_enter Tryz.func131,Tryz.ntmps131
   go_wp2
   go_ret
   exact ⟨rfl,0,rfl⟩
  ·have e1:ZT r = false:=by unfold ZT;simp;omega
   have d2:decide ((126:Int) < (r:Int)) = false:=by simp;omega
   rw [e1];clear e1 h1 h2
   go_enter Tryz.func131,Tryz.ntmps131
   go_wp2
   go_ret
   exact ⟨rfl,0,rfl⟩
set_option maxRecDepth 100000 in
theorem zaC (s:ByteArray) (w:World) :
  Calls Tryz.prog 88 #[.string s] w fun e w'=>e = .returned (.bool (Zi s.data.toList)) ∧ Below w.heap.size w w':=by
 have hl:s.data.toList.length = s.size:=Array.length_toList
 have hc:=Tryz.strings_ContainsFunc 131 #[] (enters_of Tryz.func131 (by kernel_rfl) rfl) ZT s w (zYF w)
 have hv:decide (0 ≤ Lib.idxFunc ZT true s) = !(s.data.toList.all okB):=by
  have:=zaB s s.size 0 (by omega) (by omega)
  rw [List.drop_zero] at this
  unfold Lib.idxFunc
  cases h:s.data.toList.all okB with
  | true=>rw [h] at this;simp at this;simp;omega
  | false=>rw [h] at this;simp at this;simp [this]
 rw [hv] at hc
 unfold Zi
 rw [hl]
 generalize s.data.toList.all okB = b at hc ⊢
 clear hl hv
 by_cases h1:1 ≤ s.size
 ·have d1:decide (1 ≤ s.size) = true:=decide_eq_true h1
  have g1:decide ((1:Int) ≤ (s.size:Int)) = true:=by simp;omega
  by_cases h2:s.size ≤ 10
  ·have d2:decide (s.size ≤ 10) = true:=decide_eq_true h2
   have g2:decide ((s.size:Int) ≤ 10) = true:=by simp;omega
   rw [d1,d2]
   clear d1 d2
   cases b with
   | true =>
    go_enter Tryz.func88,Tryz.ntmps88
    go_wp2_with (go_at_call 81;refine hc.mono ?_;rintro e w1 ⟨rfl,hb1⟩)
    go_ret
    exact ⟨rfl,hb1⟩
   | false =>
    go_enter Tryz.func88,Tryz.ntmps88
    go_wp2_with (go_at_call 81;refine hc.mono ?_;rintro e w1 ⟨rfl,hb1⟩)
    go_ret
    exact ⟨rfl,hb1⟩
  ·have d2:decide (s.size ≤ 10) = false:=decide_eq_false h2
   have g2:decide ((s.size:Int) ≤ 10) = false:=by simp;omega
   rw [d1,d2]
   clear d1 d2 hc
   go_enter Tryz.func88,Tryz.ntmps88
   go_wp2
   go_ret
   exact ⟨rfl,Below.refl _ _⟩
 ·have d1:decide (1 ≤ s.size) = false:=decide_eq_false h1
  have g1:decide ((1:Int) ≤ (s.size:Int)) = false:=by simp;omega
  rw [d1]
  clear d1 hc
  go_enter Tryz.func88,Tryz.ntmps88
  go_wp2
  go_ret
  exact ⟨rfl,Below.refl _ _⟩
theorem zwz {P:UInt8 → Prop} (h:∀ n:Fin 256,P (UInt8.ofNat n.val)) (c:UInt8):P c:=by
 have:=h ⟨c.toNat,c.toNat_lt⟩
 rwa [UInt8.ofNat_toNat] at this
theorem zaD (c:UInt8):decide (0 ≤ Lib.indexByte (⟨#[97,98,99,100,101,102,103,104,105,106,107,108,109,110,111,112,113,114,115,116,117,118,119,120,121,122,65,66,67,68,69,70,71,72,73,74,75,76,77,78,79,80,81,82,83,84,85,86,87,88,89,90]⟩:ByteArray).data.toList c) = Zy c :=
 zwz (P:=fun c=>decide (0 ≤ Lib.indexByte (⟨#[97,98,99,100,101,102,103,104,105,106,107,108,109,110,111,112,113,114,115,116,117,118,119,120,121,122,65,66,67,68,69,70,71,72,73,74,75,76,77,78,79,80,81,82,83,84,85,86,87,88,89,90]⟩:ByteArray).data.toList c) = Zy c) (by decide +kernel) c
theorem zYG (c:UInt8):((⟨#[97,98,99,100,101,102,103,104,105,106,107,108,109,110,111,112,113,114,115,116,117,118,119,120,121,122,65,66,67,68,69,70,71,72,73,74,75,76,77,78,79,80,81,82,83,84,85,86,87,88,89,90,48,49,50,51,52,53,54,55,56,57]⟩:ByteArray).data.toList.contains c) = (Zy c || Xo c) :=
 zwz (P:=fun c=>((⟨#[97,98,99,100,101,102,103,104,105,106,107,108,109,110,111,112,113,114,115,116,117,118,119,120,121,122,65,66,67,68,69,70,71,72,73,74,75,76,77,78,79,80,81,82,83,84,85,86,87,88,89,90,48,49,50,51,52,53,54,55,56,57]⟩:ByteArray).data.toList.contains c) = (Zy c || Xo c)) (by decide +kernel) c
theorem dropWhile_nil {α:Type} (p:α → Bool) (l:List α):(l.dropWhile p).isEmpty = l.all p:=by
 induction l with
 | nil=>rfl
 | cons a l ih =>
  rw [List.dropWhile_cons,List.all_cons]
  cases h:p a with
  | true=>simpa using ih
  | false=>rfl
theorem zx3 {α:Type} (p:α → Bool) (l:List α) (h:(l.dropWhile p).all p = true):l.all p = true:=by
 induction l with
 | nil=>rfl
 | cons a l ih =>
  rw [List.dropWhile_cons] at h
  cases hp:p a with
  | true=>rw [hp] at h;rw [List.all_cons,hp,ih (by simpa using h)];rfl
  | false=>rw [hp] at h;simp [hp] at h
theorem zaE (l cs:List UInt8):(Lib.trimS l cs).isEmpty = l.all (cs.contains ·):=by
 unfold Lib.trimS Lib.trimLeftS
 rw [dropWhile_nil]
 unfold Lib.trimRightS
 rw [List.all_reverse]
 cases h:(List.dropWhile (fun x=>cs.contains x) l.reverse).all (fun x=>cs.contains x) with
 | true =>
  have:=zx3 _ _ h
  rw [List.all_reverse] at this
  exact this.symm
 | false =>
  cases h2:l.all (fun x=>cs.contains x) with
  | false=>rfl
  | true =>
   have h3:(List.dropWhile (fun x=>cs.contains x) l.reverse).isEmpty = true:=by rw [dropWhile_nil,List.all_reverse];exact h2
   rw [List.isEmpty_iff.1 h3] at h
   exact absurd h (by simp)
set_option maxRecDepth 100000 in
theorem zaF (s:ByteArray) (w:World) (hs:s.size ≤ 9223372036854775807) :
  Calls Tryz.prog 129 #[.string s,.string ⟨#[97,98,99,100,101,102,103,104,105,106,107,108,109,110,111,112,113,114,115,116,117,118,119,120,121,122,65,66,67,68,69,70,71,72,73,74,75,76,77,78,79,80,81,82,83,84,85,86,87,88,89,90,48,49,50,51,52,53,54,55,56,57]⟩] w fun e w'=>∃ r:ByteArray,e = .returned (.string r) ∧ r.toList.isEmpty = s.data.toList.all (fun b=>Zy b || Xo b) ∧ Below w.heap.size w w':=by
 refine (Any.strings_Trim_laid Tryz.lays160 (by kernel_rfl) s ⟨#[97,98,99,100,101,102,103,104,105,106,107,108,109,110,111,112,113,114,115,116,117,118,119,120,121,122,65,66,67,68,69,70,71,72,73,74,75,76,77,78,79,80,81,82,83,84,85,86,87,88,89,90,48,49,50,51,52,53,54,55,56,57]⟩ w hs (by decide) (ascii_of_all (by decide +kernel))).mono fun e w' ⟨h1,h2⟩=>⟨_,h1,?_,h2⟩
 rw [ByteArray.toList_eq]
 show (Lib.trimS s.data.toList _).isEmpty = _
 rw [zaE]
 congr 1
 funext b
 exact zYG b
set_option maxRecDepth 100000 in
set_option maxHeartbeats 1000000 in
theorem zwX (s:ByteArray) (w:World) :
  Calls Tryz.prog 85 #[.string s] w fun e w'=>e = .returned (.bool (XF s.data.toList)) ∧ Below w.heap.size w w':=by
 have hl:s.data.toList.length = s.size:=Array.length_toList
 have ht0:=fun h:s.size ≤ 10=>zaF s w (by omega)
 unfold XF
 rw [hl]
 clear hl
 by_cases h1:1 ≤ s.size
 ·have d1:decide (1 ≤ s.size) = true:=decide_eq_true h1
  have g1:decide ((1:Int) ≤ (s.size:Int)) = true:=by simp;omega
  by_cases h2:s.size ≤ 10
  ·have ht:=ht0 h2
   clear ht0
   have d2:decide (s.size ≤ 10) = true:=decide_eq_true h2
   have g2:decide ((s.size:Int) ≤ 10) = true:=by simp;omega
   rw [d1,d2]
   have hh:(s.data.toList.head?.map Zy).getD false = Zy s[0]:=by
    have:s.data.toList.head? = some s[0]:=by
     rw [List.head?_eq_getElem?,List.getElem?_eq_getElem (by simp;omega)];rfl
    rw [this];rfl
   rw [hh]
   clear d1 d2 hh
   generalize s.data.toList.all (fun b=>Zy b || Xo b) = al at ht ⊢
   have hi:=fun W=>Tryz.strings_IndexByte ⟨#[97,98,99,100,101,102,103,104,105,106,107,108,109,110,111,112,113,114,115,116,117,118,119,120,121,122,65,66,67,68,69,70,71,72,73,74,75,76,77,78,79,80,81,82,83,84,85,86,87,88,89,90]⟩ (s[0].toNat:Int) W
   have hc8:((s[0].toNat:Int).toNat.toUInt8) = s[0]:=by rw [Int.toNat_natCast];exact UInt8.ofNat_toNat
   rw [hc8] at hi
   have hx:=zaD s[0]
   generalize Lib.indexByte (⟨#[97,98,99,100,101,102,103,104,105,106,107,108,109,110,111,112,113,114,115,116,117,118,119,120,121,122,65,66,67,68,69,70,71,72,73,74,75,76,77,78,79,80,81,82,83,84,85,86,87,88,89,90]⟩:ByteArray).data.toList s[0] = ix at hi hx
   have HX:=Lib.hid hx
   clear hx hc8
   cases al with
   | false =>
    go_enter Tryz.func85,Tryz.ntmps85
    go_wp2_with (go_at_call 129;refine ht.mono ?_;rintro e w1 ⟨r,rfl,hr,hb1⟩)
    all_goals first | (exfalso;simp_all;done) | skip
    go_ret
    exact ⟨rfl,hb1⟩
   | true =>
    cases hb:Zy s[0] with
    | true =>
     rw [hb] at HX
     have g3:decide (0 ≤ ix) = true:=HX.out
     go_enter Tryz.func85,Tryz.ntmps85
     go_wp2_with (first | (go_at_call 129;refine ht.mono ?_;rintro e w1 ⟨r,rfl,hr,hb1⟩) | (go_at_call 113;refine (hi _).mono ?_;rintro e w2 ⟨rfl,rfl⟩))
     all_goals first | (exfalso;simp_all;done) | skip
     go_ret
     exact ⟨rfl,hb1⟩
    | false =>
     rw [hb] at HX
     have g3:decide (0 ≤ ix) = false:=HX.out
     go_enter Tryz.func85,Tryz.ntmps85
     go_wp2_with (first | (go_at_call 129;refine ht.mono ?_;rintro e w1 ⟨r,rfl,hr,hb1⟩) | (go_at_call 113;refine (hi _).mono ?_;rintro e w2 ⟨rfl,rfl⟩))
     all_goals first | (exfalso;simp_all;done) | skip
     go_ret
     exact ⟨rfl,hb1⟩
  ·have d2:decide (s.size ≤ 10) = false:=decide_eq_false h2
   have g2:decide ((s.size:Int) ≤ 10) = false:=by simp;omega
   rw [d1,d2]
   clear d1 d2 ht0
   go_enter Tryz.func85,Tryz.ntmps85
   go_wp2
   go_ret
   exact ⟨rfl,Below.refl _ _⟩
 ·have d1:decide (1 ≤ s.size) = false:=decide_eq_false h1
  have g1:decide ((1:Int) ≤ (s.size:Int)) = false:=by simp;omega
  rw [d1]
  clear d1 ht0
  go_enter Tryz.func85,Tryz.ntmps85
  go_wp2
  go_ret
  exact ⟨rfl,Below.refl _ _⟩
end Go.Proofs.YtggifbbiiickmaaGreatDoor
namespace Go.Proofs.YtggifbbiiickmaaGreatDoor
open Go.RowKit Go.Proofs.zk.zu Go.Proofs.zk.yA Go.Proofs.YtggifbbiiickmaaGreatDoor.PX
set_option linter.unusedSimpArgs false
set_option linter.unusedVariables false
def dH:List UInt8 → Nat → Bool
 | [],_=>true
 | b :: r,i=>(Zy b || (decide (i ≠ 0) && Xo b)) && dH r (i + 1)
theorem zvQ:∀ (l:List UInt8) (i:Nat),i ≠ 0 → dH l i = l.all fun b=>Zy b || Xo b
 | [],_,_=>rfl
 | b :: r,i,h=>by rw [dH,zvQ r (i + 1) (by omega),List.all_cons,decide_eq_true h,Bool.true_and]
theorem zwG (l:List UInt8):(dH l 0 && (decide (1 ≤ l.length) && decide (l.length ≤ 10))) = XF l:=by
 unfold XF
 cases l with
 | nil=>rfl
 | cons b r =>
  rw [dH,zvQ r 1 (by omega),List.all_cons]
  simp only [List.head?_cons,Option.map_some,Option.getD_some,ne_eq,not_true_eq_false,decide_false,Bool.false_and,Bool.or_false]
  cases Zy b <;> cases (r.all fun b=>Zy b || Xo b) <;> cases decide (1 ≤ (b :: r).length) <;> cases decide ((b :: r).length ≤ 10) <;> cases Xo b <;> rfl
set_option maxRecDepth 100000 in
set_option maxHeartbeats 4000000 in
theorem zf0 (s:ByteArray) (hs:s.size ≤ 140737488355328) (w:World):Calls Tryz.prog 137 #[.string s] w fun e w'=>e = .returned (.bool (XF s.data.toList)) ∧ yt w w':=by
 have hlen:s.data.toList.length = s.size:=Array.length_toList
 have h0:=zwG s.data.toList
 generalize XF s.data.toList = V at h0 ⊢
 have hbt:∀ (i:Nat) (h:i < s.data.toList.length),bt s (i:Int) = ((s.data.toList[i]).toNat:Int):=fun i h=>by
  have:=zkx s.data.toList i h
  rwa [zwE] at this
 have HBT:=zx.mk hbt
 clear hbt
 generalize s.data.toList = l at h0 hlen HBT
 have HX:=zx.mk (Wq s)
 go_enter Tryz.func137,Tryz.ntmps137
 go_wp2
 go_loopw [3] (fun y W=>∃ i:Nat,y = .int .i64 (i:Int) ∧ i ≤ s.size ∧ W = w ∧ zx ((dH (l.drop i) i && (decide (1 ≤ l.length) && decide (l.length ≤ 10))) = V)) (fun y _=>s.size - (intOf y).toNat)
 case atStart=>exact ⟨0,rfl,Nat.zero_le _,rfl,⟨by rw [List.drop_zero];exact h0⟩⟩
 case round =>
  clear h0
  obtain ⟨i,rfl,hi,rfl,HV⟩:=hrel
  by_cases hlt:i < s.size
  ·have h1:i < l.length:=by omega
   have hn:=HBT.out i h1
   have hv:=HV.out
   rw [List.drop_eq_getElem_cons h1,dH] at hv
   generalize l[i] = b at hn hv
   have hx:=HX.out (i:Int)
   have hx0:(0:Int) ≤ bt s (i:Int):=by omega
   rw [Int.toNat_natCast] at hx
   generalize bt s (i:Int) = n at hn hx hx0
   have p1:((i:Int) < (s.size:Int)) = True:=eq_true (by omega)
   have p0:((0:Int) ≤ (i:Int)) = True:=eq_true (by omega)
   have p3:i < s.size:=hlt
   have jT:=zx.mk hv
   have HN:=zx.mk hn
   clear hv HV HBT HX hn
   have hc:(97 ≤ n ∧ n ≤ 122) ∨ 122 < n ∨ (91 ≤ n ∧ n ≤ 96) ∨ (65 ≤ n ∧ n ≤ 90) ∨ (58 ≤ n ∧ n ≤ 64) ∨ (48 ≤ n ∧ n ≤ 57) ∨ n < 48:=by omega
   rcases hc with hc | hc | hc | hc | hc | hc | hc
   ·have d0:decide (97 ≤ n) = true:=decide_eq_true (by omega)
    have d1:decide (n ≤ 122) = true:=decide_eq_true (by omega)
    have d2:decide (65 ≤ n) = true:=decide_eq_true (by omega)
    have d3:decide (n ≤ 90) = false:=decide_eq_false (by omega)
    have d4:decide (n < 48) = false:=decide_eq_false (by omega)
    have d5:decide (57 < n) = true:=decide_eq_true (by omega)
    have e1:Zy b = true:=by have:=HN.out;unfold Zy;first | (rw [decide_eq_true (by omega:97 ≤ b.toNat),decide_eq_true (by omega:b.toNat ≤ 122)];rfl) | (rw [decide_eq_true (by omega:65 ≤ b.toNat),decide_eq_true (by omega:b.toNat ≤ 90),Bool.and_true,Bool.or_true])
    have hv2:=jT.out
    rw [e1,Bool.true_or,Bool.true_and] at hv2
    clear hc
    go_wp2
    go_roundw
    case rel=>exact ⟨i + 1,by first | rfl | (simp;done) | go_num,by omega,by first | rfl | trivial,⟨hv2⟩⟩
    case measure=>simp [intOf];omega
   ·have d0:decide (97 ≤ n) = true:=decide_eq_true (by omega)
    have d1:decide (n ≤ 122) = false:=decide_eq_false (by omega)
    have d2:decide (65 ≤ n) = true:=decide_eq_true (by omega)
    have d3:decide (n ≤ 90) = false:=decide_eq_false (by omega)
    have d4:decide (n < 48) = false:=decide_eq_false (by omega)
    have d5:decide (57 < n) = true:=decide_eq_true (by omega)
    have e1:Zy b = false:=by have:=HN.out;unfold Zy;simp only [Bool.or_eq_false_iff,Bool.and_eq_false_iff,decide_eq_false_iff_not];omega
    have e2:Xo b = false:=by have:=HN.out;unfold Xo;simp only [Bool.and_eq_false_iff,decide_eq_false_iff_not];omega
    by_cases hi0:i = 0
    ·have d9:decide ((i:Int) = 0) = true:=decide_eq_true (by omega)
     have d8:((i:Int) == 0) = true:=beq_iff_eq.2 (by omega)
     have hv2:false = V:=by rw [← jT.out,e1,decide_eq_false (by omega:¬ i ≠ 0)];rfl
     subst hv2
     clear hc
     try clear hi0
     try clear d9
     go_wp2
     go_ret
     exact ⟨rfl,yt.refl _⟩
    ·have d9:decide ((i:Int) = 0) = false:=decide_eq_false (by omega)
     have d8:((i:Int) == 0) = false:=beq_eq_false_iff_ne.2 (by omega)
     have hv2:false = V:=by rw [← jT.out,e1,e2,Bool.and_false];rfl
     subst hv2
     clear hc
     try clear hi0
     try clear d9
     go_wp2
     go_ret
     exact ⟨rfl,yt.refl _⟩
   ·have d0:decide (97 ≤ n) = false:=decide_eq_false (by omega)
    have d1:decide (n ≤ 122) = true:=decide_eq_true (by omega)
    have d2:decide (65 ≤ n) = true:=decide_eq_true (by omega)
    have d3:decide (n ≤ 90) = false:=decide_eq_false (by omega)
    have d4:decide (n < 48) = false:=decide_eq_false (by omega)
    have d5:decide (57 < n) = true:=decide_eq_true (by omega)
    have e1:Zy b = false:=by have:=HN.out;unfold Zy;simp only [Bool.or_eq_false_iff,Bool.and_eq_false_iff,decide_eq_false_iff_not];omega
    have e2:Xo b = false:=by have:=HN.out;unfold Xo;simp only [Bool.and_eq_false_iff,decide_eq_false_iff_not];omega
    by_cases hi0:i = 0
    ·have d9:decide ((i:Int) = 0) = true:=decide_eq_true (by omega)
     have d8:((i:Int) == 0) = true:=beq_iff_eq.2 (by omega)
     have hv2:false = V:=by rw [← jT.out,e1,decide_eq_false (by omega:¬ i ≠ 0)];rfl
     subst hv2
     clear hc
     try clear hi0
     try clear d9
     go_wp2
     go_ret
     exact ⟨rfl,yt.refl _⟩
    ·have d9:decide ((i:Int) = 0) = false:=decide_eq_false (by omega)
     have d8:((i:Int) == 0) = false:=beq_eq_false_iff_ne.2 (by omega)
     have hv2:false = V:=by rw [← jT.out,e1,e2,Bool.and_false];rfl
     subst hv2
     clear hc
     try clear hi0
     try clear d9
     go_wp2
     go_ret
     exact ⟨rfl,yt.refl _⟩
   ·have d0:decide (97 ≤ n) = false:=decide_eq_false (by omega)
    have d1:decide (n ≤ 122) = true:=decide_eq_true (by omega)
    have d2:decide (65 ≤ n) = true:=decide_eq_true (by omega)
    have d3:decide (n ≤ 90) = true:=decide_eq_true (by omega)
    have d4:decide (n < 48) = false:=decide_eq_false (by omega)
    have d5:decide (57 < n) = true:=decide_eq_true (by omega)
    have e1:Zy b = true:=by have:=HN.out;unfold Zy;first | (rw [decide_eq_true (by omega:97 ≤ b.toNat),decide_eq_true (by omega:b.toNat ≤ 122)];rfl) | (rw [decide_eq_true (by omega:65 ≤ b.toNat),decide_eq_true (by omega:b.toNat ≤ 90),Bool.and_true,Bool.or_true])
    have hv2:=jT.out
    rw [e1,Bool.true_or,Bool.true_and] at hv2
    clear hc
    go_wp2
    go_roundw
    case rel=>exact ⟨i + 1,by first | rfl | (simp;done) | go_num,by omega,by first | rfl | trivial,⟨hv2⟩⟩
    case measure=>simp [intOf];omega
   ·have d0:decide (97 ≤ n) = false:=decide_eq_false (by omega)
    have d1:decide (n ≤ 122) = true:=decide_eq_true (by omega)
    have d2:decide (65 ≤ n) = false:=decide_eq_false (by omega)
    have d3:decide (n ≤ 90) = true:=decide_eq_true (by omega)
    have d4:decide (n < 48) = false:=decide_eq_false (by omega)
    have d5:decide (57 < n) = true:=decide_eq_true (by omega)
    have e1:Zy b = false:=by have:=HN.out;unfold Zy;simp only [Bool.or_eq_false_iff,Bool.and_eq_false_iff,decide_eq_false_iff_not];omega
    have e2:Xo b = false:=by have:=HN.out;unfold Xo;simp only [Bool.and_eq_false_iff,decide_eq_false_iff_not];omega
    by_cases hi0:i = 0
    ·have d9:decide ((i:Int) = 0) = true:=decide_eq_true (by omega)
     have d8:((i:Int) == 0) = true:=beq_iff_eq.2 (by omega)
     have hv2:false = V:=by rw [← jT.out,e1,decide_eq_false (by omega:¬ i ≠ 0)];rfl
     subst hv2
     clear hc
     try clear hi0
     try clear d9
     go_wp2
     go_ret
     exact ⟨rfl,yt.refl _⟩
    ·have d9:decide ((i:Int) = 0) = false:=decide_eq_false (by omega)
     have d8:((i:Int) == 0) = false:=beq_eq_false_iff_ne.2 (by omega)
     have hv2:false = V:=by rw [← jT.out,e1,e2,Bool.and_false];rfl
     subst hv2
     clear hc
     try clear hi0
     try clear d9
     go_wp2
     go_ret
     exact ⟨rfl,yt.refl _⟩
   ·have d0:decide (97 ≤ n) = false:=decide_eq_false (by omega)
    have d1:decide (n ≤ 122) = true:=decide_eq_true (by omega)
    have d2:decide (65 ≤ n) = false:=decide_eq_false (by omega)
    have d3:decide (n ≤ 90) = true:=decide_eq_true (by omega)
    have d4:decide (n < 48) = false:=decide_eq_false (by omega)
    have d5:decide (57 < n) = false:=decide_eq_false (by omega)
    have e1:Zy b = false:=by have:=HN.out;unfold Zy;simp only [Bool.or_eq_false_iff,Bool.and_eq_false_iff,decide_eq_false_iff_not];omega
    have e2:Xo b = true:=by have:=HN.out;unfold Xo;rw [decide_eq_true (by omega:48 ≤ b.toNat),decide_eq_true (by omega:b.toNat ≤ 57)];rfl
    by_cases hi0:i = 0
    ·have d9:decide ((i:Int) = 0) = true:=decide_eq_true (by omega)
     have d8:((i:Int) == 0) = true:=beq_iff_eq.2 (by omega)
     have hv2:false = V:=by rw [← jT.out,e1,decide_eq_false (by omega:¬ i ≠ 0)];rfl
     subst hv2
     clear hc
     try clear hi0
     try clear d9
     go_wp2
     go_ret
     exact ⟨rfl,yt.refl _⟩
    ·have d9:decide ((i:Int) = 0) = false:=decide_eq_false (by omega)
     have d8:((i:Int) == 0) = false:=beq_eq_false_iff_ne.2 (by omega)
     have hv2:=jT.out
     rw [e1,e2,decide_eq_true (by omega:i ≠ 0),Bool.true_and,Bool.or_true,Bool.true_and] at hv2
     clear hc
     go_wp2
     go_roundw
     case rel=>exact ⟨i + 1,by first | rfl | (simp;done) | go_num,by omega,by first | rfl | trivial,⟨hv2⟩⟩
     case measure=>simp [intOf];omega
   ·have d0:decide (97 ≤ n) = false:=decide_eq_false (by omega)
    have d1:decide (n ≤ 122) = true:=decide_eq_true (by omega)
    have d2:decide (65 ≤ n) = false:=decide_eq_false (by omega)
    have d3:decide (n ≤ 90) = true:=decide_eq_true (by omega)
    have d4:decide (n < 48) = true:=decide_eq_true (by omega)
    have d5:decide (57 < n) = false:=decide_eq_false (by omega)
    have e1:Zy b = false:=by have:=HN.out;unfold Zy;simp only [Bool.or_eq_false_iff,Bool.and_eq_false_iff,decide_eq_false_iff_not];omega
    have e2:Xo b = false:=by have:=HN.out;unfold Xo;simp only [Bool.and_eq_false_iff,decide_eq_false_iff_not];omega
    by_cases hi0:i = 0
    ·have d9:decide ((i:Int) = 0) = true:=decide_eq_true (by omega)
     have d8:((i:Int) == 0) = true:=beq_iff_eq.2 (by omega)
     have hv2:false = V:=by rw [← jT.out,e1,decide_eq_false (by omega:¬ i ≠ 0)];rfl
     subst hv2
     clear hc
     try clear hi0
     try clear d9
     go_wp2
     go_ret
     exact ⟨rfl,yt.refl _⟩
    ·have d9:decide ((i:Int) = 0) = false:=decide_eq_false (by omega)
     have d8:((i:Int) == 0) = false:=beq_eq_false_iff_ne.2 (by omega)
     have hv2:false = V:=by rw [← jT.out,e1,e2,Bool.and_false];rfl
     subst hv2
     clear hc
     try clear hi0
     try clear d9
     go_wp2
     go_ret
     exact ⟨rfl,yt.refl _⟩
  ·obtain rfl:i = s.size:=by omega
   have hv:=HV.out
   rw [List.drop_eq_nil_of_le (by omega),dH,Bool.true_and,hlen] at hv
   have q2:decide ((s.size:Int) < (s.size:Int)) = false:=decide_eq_false (by omega)
   by_cases g1:1 ≤ s.size
   ·have d1:decide ((1:Int) ≤ (s.size:Int)) = true:=decide_eq_true (by omega)
    have hv2:decide ((s.size:Int) ≤ 10) = V:=by rw [← hv,decide_eq_true g1,Bool.true_and];exact decide_eq_decide.2 (by omega)
    clear hv HV HBT HX
    go_wp2
    go_ret
    exact ⟨by first | (rw [← hv2];done) | (rw [hv2];done) | (simp [hv2];done),yt.refl _⟩
   ·have d1:decide ((1:Int) ≤ (s.size:Int)) = false:=decide_eq_false (by omega)
    have hv2:false = V:=by rw [← hv,decide_eq_false g1];rfl
    subst hv2
    clear hv HV HBT HX
    go_wp2
    go_ret
    exact ⟨rfl,yt.refl _⟩
end Go.Proofs.YtggifbbiiickmaaGreatDoor
namespace Go.Proofs.YtggifbbiiickmaaGreatDoor
open Go.RowKit Go.Proofs.zk.zu Go.Proofs.zk.yA Go.Proofs.YtggifbbiiickmaaGreatDoor.PX
set_option linter.unusedSimpArgs false
set_option linter.unusedVariables false
theorem znW (l:List UInt8) (hl:l.length ≤ 140737488355328):∀ d i,l.length - i = d → i ≤ l.length → Ev (fun k=>vX.l0 k (bar l) (i:Int)) ((l.drop i).all okB && (decide (1 ≤ l.length) && decide (l.length ≤ 10))):=by
 intro d
 induction d with
 | zero =>
  intro i hd hi
  have e:l.drop i = []:=List.drop_eq_nil_of_le (by omega)
  rw [e]
  refine Ev.step (fun k=>by rw [vX.l0,WO]) (xQ (by omega) ?_)
  by_cases h:1 ≤ l.length
  ·refine yJ (by omega) (jM ?_ (Ev.now _))
   rw [List.all_nil,decide_eq_true h,Bool.true_and,Bool.true_and]
   exact decide_eq_decide.2 (by omega)
  ·refine xQ (by omega) (jM ?_ (Ev.now _))
   rw [List.all_nil,decide_eq_false h];rfl
 | succ d ih =>
  intro i hd hi
  have h1:i < l.length:=by omega
  have q0:(0:Int) ≤ (i:Int):=by omega
  have q1:(i:Int) < (l.length:Int):=by omega
  have hw:wrap64 ((i:Int) + 1) = ((i + 1:Nat):Int):=(wK (by omega) (by omega)).trans (by omega)
  have hr:=ih (i + 1) (by omega) (by omega)
  have hb:=zkx l i h1
  rw [List.drop_eq_getElem_cons h1,List.all_cons]
  refine Ev.step (fun k=>by rw [vX.l0,WO,hb,hw]) (yJ q1 (yJ q0 ?_))
  clear hb hw
  generalize l[i] = b at *
  by_cases a1:b.toNat < 33
  ·refine yJ (by omega) (jM ?_ (Ev.now _))
   have:okB b = false:=by unfold okB;rw [decide_eq_false (by omega:¬ 33 ≤ b.toNat)];rfl
   rw [this];rfl
  ·refine xQ (by omega) ?_
   by_cases a2:126 < b.toNat
   ·refine yJ (by omega) (jM ?_ (Ev.now _))
    have:okB b = false:=by unfold okB;rw [decide_eq_false (by omega:¬ b.toNat ≤ 126),Bool.and_false]
    rw [this];rfl
   ·refine xQ (by omega) (jM ?_ hr)
    have:okB b = true:=by unfold okB;rw [decide_eq_true (by omega:33 ≤ b.toNat),decide_eq_true (by omega:b.toNat ≤ 126)];rfl
    rw [this,Bool.true_and]
theorem zf1 (l:List UInt8) (hl:l.length ≤ 140737488355328):Ev (fun k=>vX.f k (bar l)) (Zi l):=by
 have h1:Ev (fun k=>vX.l0 k (bar l) 0) _:=znW l hl _ 0 rfl (Nat.zero_le _)
 refine Ev.congr (fun k=>by rw [vX.f]) (jM ?_ h1)
 rw [List.drop_zero]
 unfold Zi
 rw [Bool.and_comm,Bool.and_assoc]
theorem zaG (s:ByteArray) (hs:s.size ≤ 140737488355328) (W:World):Calls Tryz.prog 138 #[.string s] W fun e w'=>e = .returned (.bool (Zi s.data.toList)) ∧ yt W w':=by
 obtain ⟨k,hk⟩:=(zf1 s.data.toList (by rw [Array.length_toList];exact hs)).rounds
 rw [zwE] at hk
 exact vX.calls k s _ W hk
end Go.Proofs.YtggifbbiiickmaaGreatDoor
namespace Go.Proofs.YtggifbbiiickmaaGreatDoor.PX
open Go.RowKit Go.Proofs.zk.zu Go.Proofs.zk.yD Go.Proofs.zk.yA
attribute [local go_sem] xP xR vG vH xB xC xS xU   -- for this text's walks alone
set_option linter.unusedVariables false
set_option linter.unusedSimpArgs false
def qg.l0:Nat → ByteArray → Int → ByteArray → Bool → Int → List (uX) → List (uG) → List (uN) → Option (Bool)
 | 0,_,_,_,_,_,_,_,_=>none
 | k + 1,x1,x5,zf2,zf3,zf4,zkj,zf5,zf6=>if x5 < (zkj.length:Int) then (if 0 ≤ x5 then (if ((vK zkj x5).f0).toList = x1.toList then (some true) else (qg.l0 k x1 (wrap64 (x5 + 1)) zf2 zf3 zf4 zkj zf5 zf6)) else (none)) else (some false)
def qg.f (k:Nat) (zD:ByteArray) (ze:Bool) (za:Int) (zn:List (uX)) (zF:List (uG)) (zY:List (uN)) (a1:ByteArray):Option (Bool):=qg.l0 k a1 0 zD ze za zn zF zY
set_option maxHeartbeats 8000000 in
set_option maxRecDepth 100000 in
theorem qg.calls (k:Nat) (zD:ByteArray) (ze:Bool) (za:Int) (yT:Option Addr) (yU:Nat) (zn:List (uX)) (y7:Option Addr) (y8:Nat) (zF:List (uG)) (yZ:Option Addr) (yQ:Nat) (zY:List (uN)) (a1:ByteArray) (r:Bool) (w:World) (jq:Kd.C Yi w yT zn.length zn) (jN:zn.length ≤ yU) (jO:Kd.C YE w y7 zF.length zF) (jP:zF.length ≤ y8) (jm:Kd.C YP w yZ zY.length zY) (jo:zY.length ≤ yQ) (h:qg.f k zD ze za zn zF zY a1 = some r) :
  Calls Tryz.prog 139 #[.agg #[.string zD,.bool ze,.int .i64 za,.slice yT zn.length yU,.slice y7 zF.length y8,.slice yZ zY.length yQ],.string a1] w fun e w'=>e = .returned (.bool r) ∧ Below w.heap.size w w':=by
 have VH:=Tryz.underlying101
 have jF:=zx.mk jq
 have kU:=zx.mk jN
 clear jq jN
 have jG:=zx.mk jO
 have wz:=zx.mk jP
 clear jO jP
 have uD:=zx.mk jm
 have jh:=zx.mk jo
 clear jm jo
 have HB:=zx.mk (Below.refl w.heap.size w)
 have H:(qg.l0 k a1 0 zD ze za zn zF zY) = some r:=h
 clear h
 have H':=zx.mk H
 clear H
 go_enter Tryz.func139,Tryz.ntmps139
 go_wp2_with (first | ((with_reducible refine qA (N:=2) rfl ?_);refine qH ?hg (N:=2) ?hd (cs:=#[.string zD,.bool ze,.int .i64 za,.slice yT zn.length yU,.slice y7 zF.length y8,.slice yZ zY.length yQ]) (t:=101) ?hr ?_;(case hd=>rfl);(case hg=>rfl);(case hr=>first | (go_simp;done) | (go_simp;rfl));intro Zl hg w3 qd hb;have zW:=zx.mk (zC (zG HB.out) hb);have zh:=zx.mk (qd);have zo:=zx.mk ((by rw [hg];exact (zf (zG HB.out)):w.heap.size ≤ Zl));have zM:=zx.mk ((by rw [hg];exact (zf (zG HB.out)):w.heap.size ≤ Zl));clear HB;have HB:=zW;have jw:=zh;have zDJ:=zo;have zeS:=zM;clear zW zh zo zM;clear hb qd hg))
 go_loopg [5] k (fun kq v5 w'=>∃ (zN:Int),v5 = .int .i64 zN ∧ zx (qg.l0 kq a1 zN zD ze za zn zF zY = some r) ∧ zx (kq ≤ k) ∧ zx (w'.heap[Zl]? = some (.cells #[.string zD,.bool ze,.int .i64 za,(.slice yT zn.length yU),(.slice y7 zF.length y8),(.slice yZ zY.length yQ)] 101 (0,0))) ∧ zx (Below w.heap.size w w'))
 case atStart=>exact ⟨(0),(by first | rfl | (simp;done) | (simp [*];done)),H',⟨Nat.le_refl _⟩,⟨qV jw.out⟩,⟨zG HB.out⟩⟩
 case round =>
  clear H'
  obtain ⟨zN,rfl,HA,uK,jw,HB⟩:=hrel
  cases gk with
  | zero=>exact absurd HA.out (by simp [qg.l0])
  | succ k1 =>
   have H:=HA.out
   clear HA
   simp only [qg.l0] at H
   by_cases c4:zN < (zn.length:Int)
   ·rw [if_pos c4] at H
    have Z8:decide (zN < (zn.length:Int)) = true:=decide_eq_true c4
    clear c4
    by_cases c5:0 ≤ zN
    ·rw [if_pos c5] at H
     have pY:decide (0 ≤ zN) = true:=decide_eq_true c5
     clear c5
     by_cases c6:((vK zn zN).f0).toList = a1.toList
     ·rw [if_pos c6] at H
      have wP:(((vK zn zN).f0).toList == a1.toList) = true:=beq_iff_eq.mpr c6
      have zqe:(((vK zn zN).f0).toList != a1.toList) = false:=bne_eq_false_iff_eq.mpr c6
      clear c6
      obtain rfl:=Option.some.inj H
      have zwH:wr.cell? ⟨Zl,0,none⟩ = some (.string zD):=zw jw 0
      have zaH:wr.cell? ⟨Zl,1,none⟩ = some (.bool ze):=zw jw 1
      have zaI:wr.cell? ⟨Zl,2,none⟩ = some (.int .i64 za):=zw jw 2
      have zaL:wr.cell? ⟨Zl,3,none⟩ = some (.slice yT zn.length yU):=zw jw 3
      have ziP:wr.cell? ⟨Zl,4,none⟩ = some (.slice y7 zF.length y8):=zw jw 4
      have ziR:wr.cell? ⟨Zl,5,none⟩ = some (.slice yZ zY.length yQ):=zw jw 5
      have zwI:=zy jw.out 0
      have zaM:=zy jw.out 1
      have zaN:=zy jw.out 2
      have zaO:=zy jw.out 3
      have ziS:=zy jw.out 4
      have ziT:=zy jw.out 5
      have zjv:0 ≤ (zN:Int):=of_decide_eq_true yF
      have zjk:zN < (zn.length:Int):=of_decide_eq_true yF
      obtain ⟨zna,e166,WR,WS⟩:=WM jF.out zN zjv zjk
      cases e166
      replace WR:=(HB.out.cell (World.block_lt_of_cell? w _ WR)).trans WR
      replace WS:=(HB.out.cell (World.block_lt_of_cell? w _ WS)).trans WS
      replace zjv:=eq_true zjv
      replace zjk:=eq_true zjk
      go_wp2
      go_ret
      exact ⟨by first | rfl | (simp [zH,zI] <;> rfl) | (simp [*,zH,zI] <;> rfl),by repeat (first | (with_reducible first | exact HB.out | apply yX | apply zL | apply zR | refine qK ?_ zeS.out) | exact HB.out)⟩
     ·rw [if_neg c6] at H
      have wP:(((vK zn zN).f0).toList == a1.toList) = false:=beq_eq_false_iff_ne.mpr c6
      have zqe:(((vK zn zN).f0).toList != a1.toList) = true:=bne_iff_ne.mpr c6
      have H':=zx.mk H
      clear H
      have zaP:wr.cell? ⟨Zl,0,none⟩ = some (.string zD):=zw jw 0
      have ziU:wr.cell? ⟨Zl,1,none⟩ = some (.bool ze):=zw jw 1
      have zi0:wr.cell? ⟨Zl,2,none⟩ = some (.int .i64 za):=zw jw 2
      have zi1:wr.cell? ⟨Zl,3,none⟩ = some (.slice yT zn.length yU):=zw jw 3
      have zi2:wr.cell? ⟨Zl,4,none⟩ = some (.slice y7 zF.length y8):=zw jw 4
      have zi3:wr.cell? ⟨Zl,5,none⟩ = some (.slice yZ zY.length yQ):=zw jw 5
      have zaR:=zy jw.out 0
      have zi4:=zy jw.out 1
      have zi5:=zy jw.out 2
      have zi6:=zy jw.out 3
      have zi7:=zy jw.out 4
      have zi8:=zy jw.out 5
      have zjv:0 ≤ (zN:Int):=of_decide_eq_true yF
      have zjk:zN < (zn.length:Int):=of_decide_eq_true yF
      obtain ⟨zna,e166,WR,WS⟩:=WM jF.out zN zjv zjk
      cases e166
      replace WR:=(HB.out.cell (World.block_lt_of_cell? w _ WR)).trans WR
      replace WS:=(HB.out.cell (World.block_lt_of_cell? w _ WS)).trans WS
      replace zjv:=eq_true zjv
      replace zjk:=eq_true zjk
      go_wp2
      go_roundg k1
      case measure=>have:=uK.out;omega
      case rel=>exact ⟨(wrap64 (zN + 1)),(by first | rfl | (simp;done) | (simp [*];done)),H',⟨by have:=uK.out;omega⟩,⟨qV jw.out⟩,⟨zG HB.out⟩⟩
    ·rw [if_neg c5] at H
     exact absurd H (by simp)
   ·rw [if_neg c4] at H
    have Z8:decide (zN < (zn.length:Int)) = false:=decide_eq_false c4
    clear c4
    obtain rfl:=Option.some.inj H
    have Wy:wr.cell? ⟨Zl,0,none⟩ = some (.string zD):=zw jw 0
    have Ww:wr.cell? ⟨Zl,1,none⟩ = some (.bool ze):=zw jw 1
    have WZ:wr.cell? ⟨Zl,2,none⟩ = some (.int .i64 za):=zw jw 2
    have WQ:wr.cell? ⟨Zl,3,none⟩ = some (.slice yT zn.length yU):=zw jw 3
    have dI:wr.cell? ⟨Zl,4,none⟩ = some (.slice y7 zF.length y8):=zw jw 4
    have dL:wr.cell? ⟨Zl,5,none⟩ = some (.slice yZ zY.length yQ):=zw jw 5
    have WX:=zy jw.out 0
    have WJ:=zy jw.out 1
    have WV:=zy jw.out 2
    have WK:=zy jw.out 3
    have dM:=zy jw.out 4
    have dN:=zy jw.out 5
    go_wp2
    go_ret
    exact ⟨by first | rfl | (simp [zH,zI] <;> rfl) | (simp [*,zH,zI] <;> rfl),by repeat (first | (with_reducible first | exact HB.out | apply yX | apply zL | apply zR | refine qK ?_ zeS.out) | exact HB.out)⟩
end Go.Proofs.YtggifbbiiickmaaGreatDoor.PX
namespace Go.Proofs.YtggifbbiiickmaaGreatDoor.PX
open Go.RowKit Go.Proofs.zk.zu Go.Proofs.zk.yD Go.Proofs.zk.yA
attribute [local go_sem] xP xR vG vH xB xC xS xU   -- for this text's walks alone
set_option linter.unusedVariables false
set_option linter.unusedSimpArgs false
def Yr.f (a0:ByteArray) (a1:ByteArray) (a2:ByteArray) (a3:ByteArray):Option (Bool):=if (Op.bytesLess a0.toList a2.toList) = true then (some true) else (if a0.toList = a2.toList then (some (Op.bytesLess a1.toList a3.toList)) else (some false))
set_option maxHeartbeats 8000000 in
set_option maxRecDepth 100000 in
theorem Yr.calls (a0:ByteArray) (a1:ByteArray) (a2:ByteArray) (a3:ByteArray) (r:Bool) (w:World) (h:Yr.f a0 a1 a2 a3 = some r) :
  Calls Tryz.prog 140 #[.string a0,.string a1,.string a2,.string a3] w fun e w'=>e = .returned (.bool r) ∧ yt w w':=by
 have H:(if (Op.bytesLess a0.toList a2.toList) = true then (some true) else (if a0.toList = a2.toList then (some (Op.bytesLess a1.toList a3.toList)) else (some false))) = some r:=h
 clear h
 by_cases c5:(Op.bytesLess a0.toList a2.toList) = true
 ·rw [if_pos c5] at H
  have pY:(Op.bytesLess a0.toList a2.toList) = true:=c5
  have zrX:(!(Op.bytesLess a2.toList a0.toList || a2.toList == a0.toList)) = true:=(mQ _ _).trans (c5)
  have zrJ:(a0.toList == a2.toList) = false:=zYD (c5)
  have zrV:(a2.toList == a0.toList) = false:=zwD (c5)
  have zEa:Op.bytesLess a2.toList a0.toList = false:=zkq (c5)
  clear c5
  obtain rfl:=Option.some.inj H
  go_enter Tryz.func140,Tryz.ntmps140
  go_wp2
  go_ret
  exact ⟨by first | rfl | (simp;done) | (simp [*];done),by repeat (first | exact yt.refl _ | apply yt.step)⟩
 ·rw [if_neg c5] at H
  have pY:(Op.bytesLess a0.toList a2.toList) = false:=by simpa using c5
  have zrX:(!(Op.bytesLess a2.toList a0.toList || a2.toList == a0.toList)) = false:=(mQ _ _).trans (by simpa using c5)
  try have zrJ:(a0.toList == a2.toList) = true:=zxx (x:=a0.toList) (y:=a2.toList) (by assumption) (by assumption)
  try have zrV:(a2.toList == a0.toList) = true:=zxx (x:=a2.toList) (y:=a0.toList) (by assumption) (by assumption)
  clear c5
  by_cases c6:a0.toList = a2.toList
  ·rw [if_pos c6] at H
   have wP:(a0.toList == a2.toList) = true:=beq_iff_eq.mpr c6
   have zqe:(a0.toList != a2.toList) = false:=bne_eq_false_iff_eq.mpr c6
   clear c6
   obtain rfl:=Option.some.inj H
   go_enter Tryz.func140,Tryz.ntmps140
   go_wp2
   go_ret
   exact ⟨by first | rfl | (simp;done) | (simp [*];done),by repeat (first | exact yt.refl _ | apply yt.step)⟩
  ·rw [if_neg c6] at H
   have wP:(a0.toList == a2.toList) = false:=beq_eq_false_iff_ne.mpr c6
   have zqe:(a0.toList != a2.toList) = true:=bne_iff_ne.mpr c6
   obtain rfl:=Option.some.inj H
   go_enter Tryz.func140,Tryz.ntmps140
   go_wp2
   go_ret
   exact ⟨by first | rfl | (simp;done) | (simp [*];done),by repeat (first | exact yt.refl _ | apply yt.step)⟩
end Go.Proofs.YtggifbbiiickmaaGreatDoor.PX
