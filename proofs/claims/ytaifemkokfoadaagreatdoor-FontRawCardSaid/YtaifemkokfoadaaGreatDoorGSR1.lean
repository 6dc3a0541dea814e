/-
  Texts that lean on one another, laid in one file. No condition.
-/
import Derived.WalkKit
import Derived.ProofKit
import Derived.Handed
import Derived.HandedShaped
import Derived.OpenShut
import Derived.ShutString
import Derived.ChangeOld
import Derived.Carry
import Derived.LaidMore
import Derived.Lay
import Derived.Shelf.Vars
import Derived.Lib.LaidU8
import Derived.Lib.LaidTab
import Derived.ChangeSlices
import Derived.Test.YtaifemkokfoadaaGreatDoorProg
import Derived.Below
import Derived.Deep.Draws
import Derived.Deep.AppendLies
import Derived.Maps.AppendAt
import Derived.OwnWalk
import Derived.Laws.BytesArg
import Derived.Laws.MakeOwn
import Derived.Laws.OwnMore
import Derived.Deep.OwnRows
import Derived.Tactics
import Derived.Lib.ConvBytes
import Derived.Laws.Slices
import Derived.KernelRfl
import Derived.RowKit3
import Derived.Deep.LoopGhost
import Derived.Deep.QuietTactic
import Derived.BigQuiet
import Derived.WideLaws
import Derived.Deep.DeepCutAuto
import Derived.Deep.CutBlock
import Derived.Deep.RegionHeld3
import Derived.Laws.Rows
import Derived.Lib.AppendStr
import Derived.ArgAppend
import Derived.Laws.IdiomCopy
import Derived.OrdersHeld
import Derived.Laws.BitsLemmas
import Derived.RowKit
import Derived.Laws.Cover1
import Derived.Test.YtaifemkokfoadaaGreatDoorWWords
import Derived.Test.YtaifemkokfoadaaGreatDoorWLast
import Derived.Test.YtaifemkokfoadaaGreatDoorWTab
import Derived.Test.YtaifemkokfoadaaGreatDoorWQPut
import Derived.Test.YtaifemkokfoadaaGreatDoorWApart
import Derived.Test.YtaifemkokfoadaaGreatDoorWArr
import Derived.Test.YtaifemkokfoadaaGreatDoorWZeros
import Derived.Test.YtaifemkokfoadaaGreatDoorWFoot
import Derived.Test.YtaifemkokfoadaaGreatDoorWKept
import Derived.Test.YtaifemkokfoadaaGreatDoorWShare
import Derived.Test.YtaifemkokfoadaaGreatDoorWN
import Derived.Test.YtaifemkokfoadaaGreatDoorWEqStruct
import Derived.Test.YtaifemkokfoadaaGreatDoorWRepsOne
import Derived.Test.YtaifemkokfoadaaGreatDoorWGuard
import Derived.Test.YtaifemkokfoadaaGreatDoorWNEv
import Derived.Test.YtaifemkokfoadaaGreatDoorWMore
import Derived.Shelf.Strings.Builder1
import Derived.Shelf.Strings.Trim
import Derived.Shelf.Small.Utf8
import Derived.Shelf.Small.Bits
import Derived.Shelf.Small.Strs
import Derived.Shelf.Strings.BuilderF
import Derived.Shelf.Strings.BuilderK
import Derived.Shelf.Utf8.RuneCount
import Derived.Shelf.Strconv.Atoi
import Derived.Shelf.Strconv.Itoa0
import Derived.Shelf.Strconv.Itoa1
import Derived.Shelf.LaysM
import Derived.Shelf.Strconv.Itoa2
import Derived.Shelf.Strconv.Itoa3
import Derived.Shelf.Strconv.AtoiErrFast
import Derived.Shelf.Strconv.ParseIntEmpty
import Derived.Shelf.Strconv.AtoiFail
import Derived.Shelf.Strconv.Clone
import Derived.Shelf.Strconv.SyntaxError
import Derived.Shelf.LaysC
import Derived.Shelf.Strconv.ToError
import Derived.Shelf.Strconv.AtoiErr
import Derived.Shelf.Strconv.ErrVar
import Derived.Shelf.Strconv.Lower
import Derived.Shelf.Strconv.ParseUint10
import Derived.Shelf.Strconv.ParseUint10Empty
import Derived.Shelf.Strconv.ParseUint10Any
import Derived.Shelf.Strconv.ParseInt10
import Derived.Shelf.Strconv.AtoiLong
import Derived.Shelf.Strconv.AtoiInnerAll
import Derived.Shelf.Strconv.RangeError
import Derived.Shelf.Strconv.ToErrorRange
import Derived.Shelf.Strconv.AtoiAll
import Derived.Shelf.Strconv.ErrVarAll
import Derived.Shelf.Strconv.ParseUintEmpty
import Derived.Shelf.Strconv.ParseUint10b64
import Derived.Shelf.Strconv.ParseUint10b32
import Derived.Shelf.Strconv.ParseUint10b16
import Derived.Shelf.Strconv.ParseUint10b8
import Derived.Shelf.Strconv.ParseUint10At
import Derived.Shelf.Strconv.ParseInt10At64
import Derived.Shelf.Strconv.ParseInt10At32
import Derived.Shelf.Strconv.ParseInt10At16
import Derived.Shelf.Strconv.ParseInt10At8
import Derived.Shelf.Strconv.ParseInt10All
import Derived.Shelf.Strings.Search1
import Derived.Shelf.Strings.Search2
import Derived.Shelf.Strings.Search3
import Derived.Shelf.Strings.Count
import Derived.Shelf.Strings.Shaped
import Derived.Shelf.GgClosure.StringsIndexFunc
import Derived.Ground.GgwProg
import Derived.Shelf.GgClosure.StringsIndexFuncTop
import Derived.Shelf.GgClosure.StringsRunes
import Derived.Shelf.Strings.Prefix
import Derived.Shelf.Strings.Split
import Derived.Shelf.Strings.Fields
import Derived.Shelf.Strings.SplitShaped
import Derived.Shelf.Unicode.Latin
import Derived.Shelf.Unicode.Decode
import Derived.Shelf.Strings.Runes
import Derived.Shelf.Strings.RuneCount
import Derived.Shelf.Strings.AsciiSet
import Derived.Shelf.Strings.Explode
import Derived.Shelf.Unicode.DecodeSlow
import Derived.Shelf.Unicode.DecodeAny
import Derived.Shelf.Unicode.Is16White
import Derived.Shelf.Unicode.IsSpaceAny
import Derived.Shelf.Unicode.DecodeLast
import Derived.Shelf.Unicode.Is16WhiteD
import Derived.Shelf.Unicode.IsSpaceAnyD
import Derived.Shelf.Strings.FieldsAny
import Derived.Shelf.Strings.FieldsFuncAny
import Derived.Shelf.Unicode.Is16Any
import Derived.Shelf.Unicode.Is32Any
import Derived.Shelf.Unicode.ExclAny
import Derived.Shelf.Strings.FuncGrows
import Derived.Shelf.Strings.FieldsFuncGrows
import Derived.Shelf.Strings.BuilderCap
import Derived.Shelf.SlicesQ.IndexFunc
import Derived.Shelf.SlicesQ.Equal
import Derived.Ground.SlgfProg
import Derived.Ground.SlgqProg
import Derived.Lib.ItoaNum
import Derived.Lib.Strings
import Derived.IntWalk
import Derived.WalkSmall
import Derived.Shelf.Strings.SlTrimAscii
import Derived.Laws.RangeAny
import Derived.Laws.RangeString
import Derived.WalkSpells
import Derived.Outline
import Derived.Lib.Hide
import Derived.StillTailTactics
import Derived.StillTactics
import Derived.RangeFuncRecord
import Derived.Laws.EntriesVeiled
import Derived.Sort.Walk0
namespace Go.Proofs.YtaifemkokfoadaaGreatDoor
open Go.ChangeShapes Go.WideShapes Go.ChangeAt Go.RowKit
/-- A law's specification, at any number of arguments: true, and each argument as it was. -/
def IsLaw (s : ChangeSpec) (n : Nat) : Prop := s.vars = [] ∧ ∀ (H : Type) (ds : List (DataW H)), ds.length = n → (s.fn H ds).results = [.lit (.bool true)] ∧ (s.fn H ds).args = ds ∧ (s.fn H ds).vars = []
theorem args_again {H : Type} {enc : TypeId × Value → H} {P : Program} (hl : laidOutB P = true) {W W' : World} (hb : Below W.heap.size W W') :
    ∀ {ts : List TypeId} {vs : List Value} {ds : List (DataW H)} {ps : List MemPlace}, (∀ t ∈ ts, P.readableRec t = true ∧ t < P.types.size) →
      DataW.TrodAll enc P W 0 (fun _ => true) true ts vs ds ps → DataW.TrodAll enc P W' 0 (fun b => decide (b < W.heap.size)) true ts vs ds ps
  | [], [], [], _, _, h => h
  | t :: ts, v :: vs, d :: ds, ps, ht, ⟨a, b, h1, h2, e⟩ => by
    have hlt : ∀ x ∈ a, x.block < W.heap.size := by obtain ⟨m, hm⟩ := h1; exact DataW.trod_lt m _ _ _ hm
    exact ⟨a, b, Below.trod hl (ht t (by simp)).1 (ht t (by simp)).2 h1 hb hlt, args_again hl hb (fun t' h' => ht t' (by simp [h'])) h2, e⟩
theorem trodAll_length {H : Type} {enc : TypeId × Value → H} {P : Program} {W : World} {sp : Nat → Bool} {held : Bool} :
    ∀ {ts : List TypeId} {vs : List Value} {ds : List (DataW H)} {ps : List MemPlace}, DataW.TrodAll enc P W 0 sp held ts vs ds ps → ds.length = ts.length
  | [], [], [], _, _ => rfl
  | _ :: _, _ :: _, _ :: _, _, ⟨_, _, _, h2, _⟩ => by simp [trodAll_length h2]
theorem law_lifted {H : Type} {enc : TypeId × Value → H} {C : Checked} {os : Os} {f : FuncId} {fn : Func} {s : ChangeSpec} {X : World → Array Value → Prop} {tb : TypeId}
    (hX : ∀ (w w' : World) (args : Array Value), w.heap = w'.heap → X w args → X w' args)
    (own : ownKnob C.prog.godebug = none) (started : os.Started) (noInit : C.prog.inits.idxOf? f = none) (hfn : C.prog.funcs[f]? = some fn)
    (witness : ∃ (w : World) (tape : Tape) (i : Input), w.os = os ∧ (w.forCall tape i).Shaped C.prog ∧ i.vars = [] ∧ Input.okWide C.prog (w.forCall tape i) .any w.heap.size f i ∧
      ((s.pre enc C.prog fn [] false (w.forCall tape i).memory i.args ∧ X (w.forCall tape i).memory i.args) ∧ sizedMet enc C.prog fn (OpenSpec.ofChange s) false (w.forCall tape i).memory i.args) ∧ ({} : Assume).holds C.prog (lone (Frame.enter C.prog f i.args .normal) [] (w.forCall tape i)))
    (hl : laidOutB C.prog = true) (hs : IsLaw s fn.params.toList.length) (hres : fn.resultTypes = #[tb]) (htb : C.prog.underlying tb = some .bool)
    (hread : ∀ t ∈ fn.params.toList, C.prog.readableRec t = true ∧ t < C.prog.types.size)
    (walk : ∀ (W : World) (base : Nat) (args : Array Value) (ds : List (DataW H)) (ps : List MemPlace),
      (∀ (j : Nat) t v, fn.params[j]? = some t → args[j]? = some v → Value.okWide C.prog W .any base t v) →
      DataW.TrodAll enc C.prog W 0 (fun _ => true) true fn.params.toList args.toList ds ps →
      (DataW.weightsEach C.prog fn.params.toList ds).all (· ≤ reachBytes) = true → X W args → W.ShapedOpen C.prog →
      Calls C.prog f args W fun e W' => e = .returned (.bool true) ∧ Below W.heap.size W W') :
    ReturnsInHanded {} C os f .any (fun w args => (s.pre enc C.prog fn [] false w args ∧ X w args) ∧ sizedMet enc C.prog fn (OpenSpec.ofChange s) false w args) (s.post enc C.prog fn false true false false) := by
  refine returnsInHanded_of_calls own started noInit witness ?_
  intro w tape i _ hsh _ hok hpre _
  obtain ⟨_, _, _, fn', hfn', _, _, _, _, hval⟩ := hok
  have e : fn' = fn := Option.some.inj (hfn'.symm.trans hfn)
  subst e
  obtain ⟨⟨⟨ds, gs, before, hw, _⟩, hx⟩, hz⟩ := hpre
  have hw' := DataW.Whole.of_heap (w' := w.forCall tape i) (by rfl) hw
  have hwt : (DataW.weightsEach C.prog (fn'.params.toList ++ s.plain.varTypes C.prog) (ds ++ gs)).all (· ≤ reachBytes) = true := hz.weights hw
  obtain ⟨p, q, hA, hV, rfl, hfz, hnd⟩ := hw'
  have hV' := hV
  rw [hs.1] at hV'
  obtain ⟨rfl, rfl⟩ := trodVars_none hV'
  have hwt' : (DataW.weightsEach C.prog fn'.params.toList ds).all (· ≤ reachBytes) = true := by
    have hvt : s.plain.varTypes C.prog = [] := by
      simp [DataSpec.varTypes, ChangeSpec.plain, hs.1]
    rw [hvt, List.append_nil, List.append_nil] at hwt
    exact hwt
  obtain ⟨e1, e2, e3⟩ := hs.2 H ds (trodAll_length hA)
  refine (walk (w.forCall tape i) w.heap.size i.args ds p hval hA hwt' (hX _ _ _ (by rfl) hx) hsh).mono fun e W' ⟨he, hb⟩ => ?_
  subst he
  have hp : s.post enc C.prog fn' false true false false (w.forCall tape i) i.args (.bool true) W' := by
    refine ⟨ds, [], p ++ [], [], p, [], ⟨p, [], hA, hV, rfl, hfz, hnd⟩, ?_, ?_, ?_, hb.frame _, fun h => by cases h⟩
    · rw [List.append_nil, e1, hres]
      exact trodAll_mk1 (shut_bool htb _)
    · rw [List.append_nil, e2]
      exact args_again hl hb hread hA
    · rw [List.append_nil, e3, hs.1]
      rfl
  exact ChangeSpec.post_blind hp
section
variable {H : Type} {enc : TypeId × Value → H} {P : Program} {w : World} {base : Nat} {spare : Nat → Bool} {held : Bool}
end
/-- A listed table of integers, wherever it stands on the list. -/
theorem tabIs_of_laid {P : Program} {W : World} {name : String} {k : IntKind} {zs : List Int} {laid : List (String × DataW Unit)} {g : Nat} {t e : TypeId} {n : Nat}
    (hg : P.globalNamed name = some g) (hty : (P.globals[g]?).map (·.type) = some t) (ht : P.underlying t = some (.array n e)) (he : P.underlying e = some (.int k)) (hce : P.cellsOf e = 1) (hct : P.cellsOf t = n)
    (h : laidMet P laid W) (hm : (name, Lib.tabData k zs) ∈ laid) : Lib.TabIs P W name k zs := by
  obtain ⟨g', t', cs, fuel, p, hg', ht', hvar, hd⟩ := Lib.laidMet.reads h hm
  obtain rfl := Option.some.inj (hg.symm.trans hg')
  obtain rfl := Option.some.inj (hty.symm.trans ht')
  unfold Lib.TabIs
  rw [hvar, ← Lib.cells_of_tab ht he hce hct hd]
theorem args_one {H : Type} {enc : TypeId × Value → H} {P : Program} {W : World} {t : TypeId} {args : Array Value} {ds : List (DataW H)} {ps : List MemPlace} (h : DataW.TrodAll enc P W 0 (fun _ => true) true [t] args.toList ds ps) :
    ∃ v d p, args = #[v] ∧ ds = [d] ∧ DataW.Trod enc P W 0 (fun _ => true) true t v d p := by
  obtain ⟨v, vs, d, ds', p, q, e, rfl, rfl, h0, h1⟩ := trodAll_cons h
  obtain ⟨rfl, rfl, rfl⟩ := trodAll_nil h1
  exact ⟨v, d, p, by cases args; simp_all, rfl, h0⟩
end Go.Proofs.YtaifemkokfoadaaGreatDoor

namespace Go.Proofs.YtaifemkokfoadaaGreatDoor.PX
open Go.RowKit Go.Proofs.YtaifemkokfoadaaGreatDoorW.PrintWords Go.Proofs.YtaifemkokfoadaaGreatDoorW.PrintLast Go.Proofs.YtaifemkokfoadaaGreatDoorW.PrintMore
attribute [local go_sem] max2_int min2_int max_two min_two max_three min_three max_four min_four   -- for this text's walks alone
set_option linter.unusedVariables false
set_option linter.unusedSimpArgs false
def errW : Option Int → Value
  | none => .nilIface
  | some c => .iface 0 (.int .i64 c)
theorem errW_none : errW none = .nilIface := rfl
theorem errW_some (c : Int) : errW (some c) = .iface 0 (.int .i64 c) := rfl
theorem info31 : (Tryz.prog.info? 31).map (fun i => (i.zero, i.size, i.bytes)) = some (some (.agg #[(.string ⟨#[]⟩), (.int .i64 0)]), 2, 24) := by kernel_rfl
theorem info81 : (Tryz.prog.info? 81).map (fun i => (i.zero, i.size, i.bytes)) = some (some (.agg #[(.string ⟨#[]⟩), (.int .i64 0)]), 2, 24) := by kernel_rfl
theorem info83 : (Tryz.prog.info? 83).map (fun i => (i.zero, i.size, i.bytes)) = some (some (.agg #[(.string ⟨#[]⟩), (.string ⟨#[]⟩), (.string ⟨#[]⟩)]), 3, 48) := by kernel_rfl
theorem info84 : (Tryz.prog.info? 84).map (fun i => (i.zero, i.size, i.bytes)) = some (some (.agg #[(.string ⟨#[]⟩), (.string ⟨#[]⟩), (.int .i64 0)]), 3, 40) := by kernel_rfl
-- the values' own types
structure S81 where
  f0 : ByteArray
  f1 : Int
def z81 : S81 := ⟨(⟨#[]⟩ : ByteArray), (0 : Int)⟩
def k81 : Kd S81 := Kd.iso (Kd.pair Kd.string (Kd.int .i64)) (fun x : S81 => (x.f0, x.f1))
theorem k81_open {w : World} {x : S81} {cs : List Value} (h : k81.K w x cs) : cs = [.string x.f0, .int .i64 x.f1] := by
  obtain ⟨_, _, rfl, rfl, rfl⟩ := h
  exact rfl
theorem k81_mkM (w : World) (base : Nat) (ok : Nat → Prop) (x : S81)  : k81.M w base ok x [.string x.f0, .int .i64 x.f1] := ⟨[.string x.f0], [.int .i64 x.f1], rfl, rfl, rfl⟩
def rd_T81 (xs : List S81) (i : Int) : S81 := xs.getD i.toNat z81
theorem at_T81 {w : World} {A : Option Addr} {n : Nat} {xs : List S81} (h : Kd.C k81 w A n xs) (i : Int) (h0 : 0 ≤ i) (h1 : i < n) : ∃ ad , A = some ad ∧ w.cell? (ad.add (i.toNat * 2)) = some (.string (rd_T81 xs i).f0) ∧ w.cell? ⟨(ad.add (i.toNat * 2)).block, (ad.add (i.toNat * 2)).off + 1, none⟩ = some (.int .i64 (rd_T81 xs i).f1) := by
  obtain ⟨ad, c, e, _, hK, hc0⟩ := Kd.C_get h z81 i h0 h1
  have hc : ∀ j u, c[j]? = some u → w.cell? (ad.add (i.toNat * 2 + j)) = some u := hc0
  obtain rfl := k81_open hK
  exact ⟨ad, e, hc 0 _ rfl, by rw [← add_field _ _ 1 (by omega)]; exact hc 1 _ rfl⟩
structure S83 where
  f0 : ByteArray
  f1 : ByteArray
  f2 : ByteArray
def z83 : S83 := ⟨(⟨#[]⟩ : ByteArray), (⟨#[]⟩ : ByteArray), (⟨#[]⟩ : ByteArray)⟩
def k83 : Kd S83 := Kd.iso (Kd.pair Kd.string (Kd.pair Kd.string Kd.string)) (fun x : S83 => (x.f0, x.f1, x.f2))
theorem k83_open {w : World} {x : S83} {cs : List Value} (h : k83.K w x cs) : cs = [.string x.f0, .string x.f1, .string x.f2] := by
  obtain ⟨_, _, rfl, rfl, ⟨_, _, rfl, rfl, rfl⟩⟩ := h
  exact rfl
theorem k83_mkM (w : World) (base : Nat) (ok : Nat → Prop) (x : S83)  : k83.M w base ok x [.string x.f0, .string x.f1, .string x.f2] := ⟨[.string x.f0], [.string x.f1, .string x.f2], rfl, rfl, ⟨[.string x.f1], [.string x.f2], rfl, rfl, rfl⟩⟩
def rd_T83 (xs : List S83) (i : Int) : S83 := xs.getD i.toNat z83
theorem at_T83 {w : World} {A : Option Addr} {n : Nat} {xs : List S83} (h : Kd.C k83 w A n xs) (i : Int) (h0 : 0 ≤ i) (h1 : i < n) : ∃ ad , A = some ad ∧ w.cell? (ad.add (i.toNat * 3)) = some (.string (rd_T83 xs i).f0) ∧ w.cell? ⟨(ad.add (i.toNat * 3)).block, (ad.add (i.toNat * 3)).off + 1, none⟩ = some (.string (rd_T83 xs i).f1) ∧ w.cell? ⟨(ad.add (i.toNat * 3)).block, (ad.add (i.toNat * 3)).off + 2, none⟩ = some (.string (rd_T83 xs i).f2) := by
  obtain ⟨ad, c, e, _, hK, hc0⟩ := Kd.C_get h z83 i h0 h1
  have hc : ∀ j u, c[j]? = some u → w.cell? (ad.add (i.toNat * 3 + j)) = some u := hc0
  obtain rfl := k83_open hK
  exact ⟨ad, e, hc 0 _ rfl, by rw [← add_field _ _ 1 (by omega)]; exact hc 1 _ rfl, by rw [← add_field _ _ 2 (by omega)]; exact hc 2 _ rfl⟩
structure S84 where
  f0 : ByteArray
  f1 : ByteArray
  f2 : Int
def z84 : S84 := ⟨(⟨#[]⟩ : ByteArray), (⟨#[]⟩ : ByteArray), (0 : Int)⟩
def k84 : Kd S84 := Kd.iso (Kd.pair Kd.string (Kd.pair Kd.string (Kd.int .i64))) (fun x : S84 => (x.f0, x.f1, x.f2))
theorem k84_open {w : World} {x : S84} {cs : List Value} (h : k84.K w x cs) : cs = [.string x.f0, .string x.f1, .int .i64 x.f2] := by
  obtain ⟨_, _, rfl, rfl, ⟨_, _, rfl, rfl, rfl⟩⟩ := h
  exact rfl
theorem k84_mkM (w : World) (base : Nat) (ok : Nat → Prop) (x : S84)  : k84.M w base ok x [.string x.f0, .string x.f1, .int .i64 x.f2] := ⟨[.string x.f0], [.string x.f1, .int .i64 x.f2], rfl, rfl, ⟨[.string x.f1], [.int .i64 x.f2], rfl, rfl, rfl⟩⟩
def rd_T84 (xs : List S84) (i : Int) : S84 := xs.getD i.toNat z84
theorem at_T84 {w : World} {A : Option Addr} {n : Nat} {xs : List S84} (h : Kd.C k84 w A n xs) (i : Int) (h0 : 0 ≤ i) (h1 : i < n) : ∃ ad , A = some ad ∧ w.cell? (ad.add (i.toNat * 3)) = some (.string (rd_T84 xs i).f0) ∧ w.cell? ⟨(ad.add (i.toNat * 3)).block, (ad.add (i.toNat * 3)).off + 1, none⟩ = some (.string (rd_T84 xs i).f1) ∧ w.cell? ⟨(ad.add (i.toNat * 3)).block, (ad.add (i.toNat * 3)).off + 2, none⟩ = some (.int .i64 (rd_T84 xs i).f2) := by
  obtain ⟨ad, c, e, _, hK, hc0⟩ := Kd.C_get h z84 i h0 h1
  have hc : ∀ j u, c[j]? = some u → w.cell? (ad.add (i.toNat * 3 + j)) = some u := hc0
  obtain rfl := k84_open hK
  exact ⟨ad, e, hc 0 _ rfl, by rw [← add_field _ _ 1 (by omega)]; exact hc 1 _ rfl, by rw [← add_field _ _ 2 (by omega)]; exact hc 2 _ rfl⟩
structure S31 where
  f0 : ByteArray
  f1 : Int
def z31 : S31 := ⟨(⟨#[]⟩ : ByteArray), (0 : Int)⟩
def k31 : Kd S31 := Kd.iso (Kd.pair Kd.string (Kd.int .i64)) (fun x : S31 => (x.f0, x.f1))
theorem k31_open {w : World} {x : S31} {cs : List Value} (h : k31.K w x cs) : cs = [.string x.f0, .int .i64 x.f1] := by
  obtain ⟨_, _, rfl, rfl, rfl⟩ := h
  exact rfl
theorem k31_openM {w : World} {base : Nat} {ok : Nat → Prop} {x : S31} {cs : List Value} (h : k31.M w base ok x cs) : cs = [.string x.f0, .int .i64 x.f1] := by
  obtain ⟨_, _, rfl, rfl, rfl⟩ := h
  exact rfl
theorem k31_mk (w : World) (x : S31)  : k31.K w x [.string x.f0, .int .i64 x.f1] := ⟨[.string x.f0], [.int .i64 x.f1], rfl, rfl, rfl⟩
theorem k31_mkM (w : World) (base : Nat) (ok : Nat → Prop) (x : S31)  : k31.M w base ok x [.string x.f0, .int .i64 x.f1] := ⟨[.string x.f0], [.int .i64 x.f1], rfl, rfl, rfl⟩
def rd_T31 (xs : List S31) (i : Int) : S31 := xs.getD i.toNat z31
theorem at_T31 {w : World} {A : Option Addr} {n : Nat} {xs : List S31} (h : Kd.C k31 w A n xs) (i : Int) (h0 : 0 ≤ i) (h1 : i < n) : ∃ ad , A = some ad ∧ w.cell? (ad.add (i.toNat * 2)) = some (.string (rd_T31 xs i).f0) ∧ w.cell? ⟨(ad.add (i.toNat * 2)).block, (ad.add (i.toNat * 2)).off + 1, none⟩ = some (.int .i64 (rd_T31 xs i).f1) := by
  obtain ⟨ad, c, e, _, hK, hc0⟩ := Kd.C_get h z31 i h0 h1
  have hc : ∀ j u, c[j]? = some u → w.cell? (ad.add (i.toNat * 2 + j)) = some u := hc0
  obtain rfl := k31_open hK
  exact ⟨ad, e, hc 0 _ rfl, by rw [← add_field _ _ 1 (by omega)]; exact hc 1 _ rfl⟩
structure S86 where
  f0 : ByteArray
  f1 : ByteArray
  f2 : ByteArray
def z86 : S86 := ⟨(⟨#[]⟩ : ByteArray), (⟨#[]⟩ : ByteArray), (⟨#[]⟩ : ByteArray)⟩
def k86 : Kd S86 := Kd.iso (Kd.pair Kd.string (Kd.pair Kd.string Kd.string)) (fun x : S86 => (x.f0, x.f1, x.f2))
theorem k86_open {w : World} {x : S86} {cs : List Value} (h : k86.K w x cs) : cs = [.string x.f0, .string x.f1, .string x.f2] := by
  obtain ⟨_, _, rfl, rfl, ⟨_, _, rfl, rfl, rfl⟩⟩ := h
  exact rfl
theorem k86_mk (w : World) (x : S86)  : k86.K w x [.string x.f0, .string x.f1, .string x.f2] := ⟨[.string x.f0], [.string x.f1, .string x.f2], rfl, rfl, ⟨[.string x.f1], [.string x.f2], rfl, rfl, rfl⟩⟩
theorem k86_mkM (w : World) (base : Nat) (ok : Nat → Prop) (x : S86)  : k86.M w base ok x [.string x.f0, .string x.f1, .string x.f2] := ⟨[.string x.f0], [.string x.f1, .string x.f2], rfl, rfl, ⟨[.string x.f1], [.string x.f2], rfl, rfl, rfl⟩⟩
def rd_T86 (xs : List S86) (i : Int) : S86 := xs.getD i.toNat z86
theorem at_T86 {w : World} {A : Option Addr} {n : Nat} {xs : List S86} (h : Kd.C k86 w A n xs) (i : Int) (h0 : 0 ≤ i) (h1 : i < n) : ∃ ad , A = some ad ∧ w.cell? (ad.add (i.toNat * 3)) = some (.string (rd_T86 xs i).f0) ∧ w.cell? ⟨(ad.add (i.toNat * 3)).block, (ad.add (i.toNat * 3)).off + 1, none⟩ = some (.string (rd_T86 xs i).f1) ∧ w.cell? ⟨(ad.add (i.toNat * 3)).block, (ad.add (i.toNat * 3)).off + 2, none⟩ = some (.string (rd_T86 xs i).f2) := by
  obtain ⟨ad, c, e, _, hK, hc0⟩ := Kd.C_get h z86 i h0 h1
  have hc : ∀ j u, c[j]? = some u → w.cell? (ad.add (i.toNat * 3 + j)) = some u := hc0
  obtain rfl := k86_open hK
  exact ⟨ad, e, hc 0 _ rfl, by rw [← add_field _ _ 1 (by omega)]; exact hc 1 _ rfl, by rw [← add_field _ _ 2 (by omega)]; exact hc 2 _ rfl⟩
structure S76 where
  f0 : ByteArray
  f1 : ByteArray
  f2 : Int
def z76 : S76 := ⟨(⟨#[]⟩ : ByteArray), (⟨#[]⟩ : ByteArray), (0 : Int)⟩
def k76 : Kd S76 := Kd.iso (Kd.pair Kd.string (Kd.pair Kd.string (Kd.int .i64))) (fun x : S76 => (x.f0, x.f1, x.f2))
theorem k76_open {w : World} {x : S76} {cs : List Value} (h : k76.K w x cs) : cs = [.string x.f0, .string x.f1, .int .i64 x.f2] := by
  obtain ⟨_, _, rfl, rfl, ⟨_, _, rfl, rfl, rfl⟩⟩ := h
  exact rfl
theorem k76_mk (w : World) (x : S76)  : k76.K w x [.string x.f0, .string x.f1, .int .i64 x.f2] := ⟨[.string x.f0], [.string x.f1, .int .i64 x.f2], rfl, rfl, ⟨[.string x.f1], [.int .i64 x.f2], rfl, rfl, rfl⟩⟩
theorem k76_mkM (w : World) (base : Nat) (ok : Nat → Prop) (x : S76)  : k76.M w base ok x [.string x.f0, .string x.f1, .int .i64 x.f2] := ⟨[.string x.f0], [.string x.f1, .int .i64 x.f2], rfl, rfl, ⟨[.string x.f1], [.int .i64 x.f2], rfl, rfl, rfl⟩⟩
def rd_T76 (xs : List S76) (i : Int) : S76 := xs.getD i.toNat z76
theorem at_T76 {w : World} {A : Option Addr} {n : Nat} {xs : List S76} (h : Kd.C k76 w A n xs) (i : Int) (h0 : 0 ≤ i) (h1 : i < n) : ∃ ad , A = some ad ∧ w.cell? (ad.add (i.toNat * 3)) = some (.string (rd_T76 xs i).f0) ∧ w.cell? ⟨(ad.add (i.toNat * 3)).block, (ad.add (i.toNat * 3)).off + 1, none⟩ = some (.string (rd_T76 xs i).f1) ∧ w.cell? ⟨(ad.add (i.toNat * 3)).block, (ad.add (i.toNat * 3)).off + 2, none⟩ = some (.int .i64 (rd_T76 xs i).f2) := by
  obtain ⟨ad, c, e, _, hK, hc0⟩ := Kd.C_get h z76 i h0 h1
  have hc : ∀ j u, c[j]? = some u → w.cell? (ad.add (i.toNat * 3 + j)) = some u := hc0
  obtain rfl := k76_open hK
  exact ⟨ad, e, hc 0 _ rfl, by rw [← add_field _ _ 1 (by omega)]; exact hc 1 _ rfl, by rw [← add_field _ _ 2 (by omega)]; exact hc 2 _ rfl⟩
structure S26 where
  f0 : ByteArray
  f1 : Bool
  f2 : Int
  f3 : (List S31)
  f4 : (List S86)
  f5 : (List S76)
def z26 : S26 := ⟨(⟨#[]⟩ : ByteArray), false, (0 : Int), ([] : List S31), ([] : List S86), ([] : List S76)⟩
def k26 : Kd S26 := Kd.iso (Kd.pair Kd.string (Kd.pair Kd.bool (Kd.pair (Kd.int .i64) (Kd.pair (Kd.slice 31 k31) (Kd.pair (Kd.slice 86 k86) (Kd.slice 76 k76)))))) (fun x : S26 => (x.f0, x.f1, x.f2, x.f3, x.f4, x.f5))
theorem k26_open {w : World} {x : S26} {cs : List Value} (h : k26.K w x cs) : ∃ A3 c3 A4 c4 A5 c5, cs = [.string x.f0, .bool x.f1, .int .i64 x.f2, .slice A3 x.f3.length c3, .slice A4 x.f4.length c4, .slice A5 x.f5.length c5] ∧ x.f3.length ≤ c3 ∧ k31.C w A3 x.f3.length x.f3 ∧ x.f4.length ≤ c4 ∧ k86.C w A4 x.f4.length x.f4 ∧ x.f5.length ≤ c5 ∧ k76.C w A5 x.f5.length x.f5 := by
  obtain ⟨_, _, rfl, rfl, ⟨_, _, rfl, rfl, ⟨_, _, rfl, rfl, ⟨_, _, rfl, ⟨A3, c3, rfl, l3, g3⟩, ⟨_, _, rfl, ⟨A4, c4, rfl, l4, g4⟩, ⟨A5, c5, rfl, l5, g5⟩⟩⟩⟩⟩⟩ := h
  exact ⟨A3, c3, A4, c4, A5, c5, rfl, l3, g3, l4, g4, l5, g5⟩
theorem k26_openM {w : World} {base : Nat} {ok : Nat → Prop} {x : S26} {cs : List Value} (h : k26.M w base ok x cs) : ∃ v3 v4 v5, cs = [.string x.f0, .bool x.f1, .int .i64 x.f2, v3, v4, v5] ∧ k31.R 31 w base ok v3 x.f3 ∧ k86.R 86 w base ok v4 x.f4 ∧ k76.R 76 w base ok v5 x.f5 := by
  obtain ⟨_, _, rfl, rfl, ⟨_, _, rfl, rfl, ⟨_, _, rfl, rfl, ⟨_, _, rfl, ⟨v3, rfl, g3⟩, ⟨_, _, rfl, ⟨v4, rfl, g4⟩, ⟨v5, rfl, g5⟩⟩⟩⟩⟩⟩ := h
  exact ⟨v3, v4, v5, rfl, g3, g4, g5⟩
theorem k26_mkM (w : World) (base : Nat) (ok : Nat → Prop) (x : S26) {v3 : Value} (g3 : k31.R 31 w base ok v3 x.f3) {v4 : Value} (g4 : k86.R 86 w base ok v4 x.f4) {v5 : Value} (g5 : k76.R 76 w base ok v5 x.f5) : k26.M w base ok x [.string x.f0, .bool x.f1, .int .i64 x.f2, v3, v4, v5] := ⟨[.string x.f0], [.bool x.f1, .int .i64 x.f2, v3, v4, v5], rfl, rfl, ⟨[.bool x.f1], [.int .i64 x.f2, v3, v4, v5], rfl, rfl, ⟨[.int .i64 x.f2], [v3, v4, v5], rfl, rfl, ⟨[v3], [v4, v5], rfl, ⟨v3, rfl, g3⟩, ⟨[v4], [v5], rfl, ⟨v4, rfl, g4⟩, ⟨v5, rfl, g5⟩⟩⟩⟩⟩⟩
def rd_T26 (xs : List S26) (i : Int) : S26 := xs.getD i.toNat z26
theorem at_T26 {w : World} {A : Option Addr} {n : Nat} {xs : List S26} (h : Kd.C k26 w A n xs) (i : Int) (h0 : 0 ≤ i) (h1 : i < n) : ∃ ad A3 c3 A4 c4 A5 c5, A = some ad ∧ w.cell? (ad.add (i.toNat * 6)) = some (.string (rd_T26 xs i).f0) ∧ w.cell? ⟨(ad.add (i.toNat * 6)).block, (ad.add (i.toNat * 6)).off + 1, none⟩ = some (.bool (rd_T26 xs i).f1) ∧ w.cell? ⟨(ad.add (i.toNat * 6)).block, (ad.add (i.toNat * 6)).off + 2, none⟩ = some (.int .i64 (rd_T26 xs i).f2) ∧ w.cell? ⟨(ad.add (i.toNat * 6)).block, (ad.add (i.toNat * 6)).off + 3, none⟩ = some (.slice A3 (rd_T26 xs i).f3.length c3) ∧ w.cell? ⟨(ad.add (i.toNat * 6)).block, (ad.add (i.toNat * 6)).off + 4, none⟩ = some (.slice A4 (rd_T26 xs i).f4.length c4) ∧ w.cell? ⟨(ad.add (i.toNat * 6)).block, (ad.add (i.toNat * 6)).off + 5, none⟩ = some (.slice A5 (rd_T26 xs i).f5.length c5) ∧ (rd_T26 xs i).f3.length ≤ c3 ∧ k31.C w A3 (rd_T26 xs i).f3.length (rd_T26 xs i).f3 ∧ (rd_T26 xs i).f4.length ≤ c4 ∧ k86.C w A4 (rd_T26 xs i).f4.length (rd_T26 xs i).f4 ∧ (rd_T26 xs i).f5.length ≤ c5 ∧ k76.C w A5 (rd_T26 xs i).f5.length (rd_T26 xs i).f5 := by
  obtain ⟨ad, c, e, _, hK, hc0⟩ := Kd.C_get h z26 i h0 h1
  have hc : ∀ j u, c[j]? = some u → w.cell? (ad.add (i.toNat * 6 + j)) = some u := hc0
  obtain ⟨A3, c3, A4, c4, A5, c5, rfl, l3, g3, l4, g4, l5, g5⟩ := k26_open hK
  exact ⟨ad, A3, c3, A4, c4, A5, c5, e, hc 0 _ rfl, by rw [← add_field _ _ 1 (by omega)]; exact hc 1 _ rfl, by rw [← add_field _ _ 2 (by omega)]; exact hc 2 _ rfl, by rw [← add_field _ _ 3 (by omega)]; exact hc 3 _ rfl, by rw [← add_field _ _ 4 (by omega)]; exact hc 4 _ rfl, by rw [← add_field _ _ 5 (by omega)]; exact hc 5 _ rfl, l3, g3, l4, g4, l5, g5⟩
theorem bl_tri : ∀ (x y : List UInt8), (!(Op.bytesLess x y || x == y)) = Op.bytesLess y x
  | [], [] => rfl
  | [], _ :: _ => rfl
  | _ :: _, [] => rfl
  | a :: x, b :: y => by
    have ih := bl_tri x y
    unfold Op.bytesLess
    by_cases h1 : a < b
    · have h2 : ¬ b < a := UInt8.not_lt.2 (UInt8.le_of_lt h1)
      have h3 : ¬ a = b := fun e => by subst e; exact h2 h1
      have h4 : ¬ b = a := fun e => h3 e.symm
      simp [h1, h2, h3, h4]
    · by_cases h2 : b < a
      · have h3 : a ≠ b := fun e => by subst e; exact absurd h2 h1
        simp [h1, h2, h3]
      · have h3 : a = b := UInt8.le_antisymm (UInt8.not_lt.1 h2) (UInt8.not_lt.1 h1)
        subst h3
        simp [h1, ← ih]
theorem bl_flip (x y : List UInt8) : (!(Op.bytesLess x y || x == y)) = Op.bytesLess y x := bl_tri x y
theorem bl_irr : ∀ x : List UInt8, Op.bytesLess x x = false
  | [] => rfl
  | a :: x => by
    have h : ¬ a < a := fun h => absurd h (UInt8.not_lt.2 (UInt8.le_refl a))
    simp [Op.bytesLess, h, bl_irr x]
theorem bl_ne {x y : List UInt8} (h : Op.bytesLess x y = true) : (x == y) = false := by
  rw [beq_eq_false_iff_ne]; intro e; subst e; rw [bl_irr] at h; cases h
theorem bl_ne' {x y : List UInt8} (h : Op.bytesLess x y = true) : (y == x) = false := by
  rw [beq_eq_false_iff_ne]; intro e; subst e; rw [bl_irr] at h; cases h
theorem bl_asym {x y : List UInt8} (h : Op.bytesLess x y = true) : Op.bytesLess y x = false := by
  rw [← bl_tri x y, h]; rfl
theorem bl_eq {x y : List UInt8} (h : Op.bytesLess x y = false) (k : Op.bytesLess y x = false) : (x == y) = true := by
  have := bl_tri x y
  rw [h, k] at this
  simpa using this
end Go.Proofs.YtaifemkokfoadaaGreatDoor.PX

namespace Go.Proofs.YtaifemkokfoadaaGreatDoor.PX
open Go.RowKit Go.Proofs.YtaifemkokfoadaaGreatDoorW.PrintWords Go.Proofs.YtaifemkokfoadaaGreatDoorW.PrintLast Go.Proofs.YtaifemkokfoadaaGreatDoorW.PrintMore
attribute [local go_sem] max2_int min2_int max_two min_two max_three min_three max_four min_four   -- for this text's walks alone
set_option linter.unusedVariables false
set_option linter.unusedSimpArgs false
def frisketref07_Name.l0 : Nat → ByteArray → Int → Option (Bool)
 | 0, _, _ => none
 | k + 1, x0, x3 => if x3 < (x0.size : Int) then (if 0 ≤ x3 then (if (bt x0 x3) < 33 then (some false) else (if (bt x0 x3) > 126 then (some false) else (frisketref07_Name.l0 k x0 (wrap64 (x3 + 1))))) else (none)) else (if (x0.size : Int) ≥ 1 then (some (decide ((x0.size : Int) ≤ 10))) else (some false))
def frisketref07_Name.f (k : Nat) (a0 : ByteArray) : Option (Bool) := frisketref07_Name.l0 k a0 0
set_option maxHeartbeats 8000000 in
set_option maxRecDepth 100000 in
theorem frisketref07_Name.calls (k : Nat) (a0 : ByteArray) (r : Bool) (w : World) (h : frisketref07_Name.f k a0 = some r) :
  Calls Tryz.prog 105 #[.string a0] w fun e w' => e = .returned (.bool r) ∧ Drawn0 w w' := by
 have H : (frisketref07_Name.l0 k a0 0) = some r := h
 clear h
 have H' := Aside0.mk H
 clear H
 go_enter Tryz.func105, Tryz.ntmps105
 go_wp2
 go_loopg [3] k (fun kq v3 w' => ∃ (x3_1 : Int), v3 = .int .i64 x3_1 ∧ Aside0 (frisketref07_Name.l0 kq a0 x3_1 = some r) ∧ Aside0 (kq ≤ k) ∧ Drawn0 w w')
 case atStart => exact ⟨(0), (by first | rfl | (simp; done) | (simp [*]; done)), H', ⟨Nat.le_refl _⟩, by repeat (first | exact Drawn0.refl _ | apply Drawn0.step)⟩
 case round =>
  clear H'
  try clear c1
  obtain ⟨x3_1, rfl, HA, HK1, ⟨m1, rfl⟩⟩ := hrel
  cases gk with
  | zero => exact absurd HA.out (by simp [frisketref07_Name.l0])
  | succ k1 =>
   have H := HA.out
   clear HA
   simp only [frisketref07_Name.l0] at H
   by_cases c2 : x3_1 < (a0.size : Int)
   ·rw [if_pos c2] at H
    have c2b0 : decide (x3_1 < (a0.size : Int)) = true := decide_eq_true c2
    clear c2
    by_cases c3 : 0 ≤ x3_1
    ·rw [if_pos c3] at H
     have c3b0 : decide (0 ≤ x3_1) = true := decide_eq_true c3
     clear c3
     by_cases c5 : (bt a0 x3_1) < 33
     ·rw [if_pos c5] at H
      have c5b0 : decide ((bt a0 x3_1) < 33) = true := decide_eq_true c5
      clear c5
      obtain rfl := Option.some.inj H
      have p4 : 0 ≤ (x3_1 : Int) := of_decide_eq_true (by first | (with_reducible assumption) | assumption)
      have q4 : x3_1 < (a0.size : Int) := of_decide_eq_true (by first | (with_reducible assumption) | assumption)
      have hx4 := bt_at a0 x3_1
      replace p4 := eq_true p4
      replace q4 := eq_true q4
      go_wp2
      go_ret
      exact ⟨by first | rfl | (simp; done) | (simp [*]; done), by repeat (first | exact Drawn0.refl _ | apply Drawn0.step)⟩
     ·rw [if_neg c5] at H
      have c5b0 : decide ((bt a0 x3_1) < 33) = false := decide_eq_false c5
      clear c5
      by_cases c7 : (bt a0 x3_1) > 126
      ·rw [if_pos c7] at H
       have c7b0 : decide (126 < (bt a0 x3_1)) = true := decide_eq_true c7
       clear c7
       obtain rfl := Option.some.inj H
       have p4 : 0 ≤ (x3_1 : Int) := of_decide_eq_true (by first | (with_reducible assumption) | assumption)
       have q4 : x3_1 < (a0.size : Int) := of_decide_eq_true (by first | (with_reducible assumption) | assumption)
       have hx4 := bt_at a0 x3_1
       replace p4 := eq_true p4
       replace q4 := eq_true q4
       have p6 : 0 ≤ (x3_1 : Int) := of_decide_eq_true (by first | (with_reducible assumption) | assumption)
       have q6 : x3_1 < (a0.size : Int) := of_decide_eq_true (by first | (with_reducible assumption) | assumption)
       have hx6 := bt_at a0 x3_1
       replace p6 := eq_true p6
       replace q6 := eq_true q6
       go_wp2
       go_ret
       exact ⟨by first | rfl | (simp; done) | (simp [*]; done), by repeat (first | exact Drawn0.refl _ | apply Drawn0.step)⟩
      ·rw [if_neg c7] at H
       have c7b0 : decide (126 < (bt a0 x3_1)) = false := decide_eq_false c7
       clear c7
       have H' := Aside0.mk H
       clear H
       have p4 : 0 ≤ (x3_1 : Int) := of_decide_eq_true (by first | (with_reducible assumption) | assumption)
       have q4 : x3_1 < (a0.size : Int) := of_decide_eq_true (by first | (with_reducible assumption) | assumption)
       have hx4 := bt_at a0 x3_1
       replace p4 := eq_true p4
       replace q4 := eq_true q4
       have p6 : 0 ≤ (x3_1 : Int) := of_decide_eq_true (by first | (with_reducible assumption) | assumption)
       have q6 : x3_1 < (a0.size : Int) := of_decide_eq_true (by first | (with_reducible assumption) | assumption)
       have hx6 := bt_at a0 x3_1
       replace p6 := eq_true p6
       replace q6 := eq_true q6
       go_wp2
       go_roundg k1
       case measure => have := HK1.out; omega
       case rel => exact ⟨(wrap64 (x3_1 + 1)), (by first | rfl | (simp; done) | (simp [*]; done)), H', ⟨by have := HK1.out; omega⟩, by repeat (first | exact Drawn0.refl _ | apply Drawn0.step)⟩
    ·rw [if_neg c3] at H
     exact absurd H (by simp)
   ·rw [if_neg c2] at H
    have c2b0 : decide (x3_1 < (a0.size : Int)) = false := decide_eq_false c2
    clear c2
    by_cases c8 : (a0.size : Int) ≥ 1
    ·rw [if_pos c8] at H
     have c8b0 : decide (1 ≤ (a0.size : Int)) = true := decide_eq_true c8
     have c8b1 : decide (1 ≤ a0.size) = true := decide_eq_true (by omega)
     clear c8
     obtain rfl := Option.some.inj H
     go_wp2
     go_ret
     exact ⟨by first | rfl | (simp; done) | (simp [*]; done), by repeat (first | exact Drawn0.refl _ | apply Drawn0.step)⟩
    ·rw [if_neg c8] at H
     have c8b0 : decide (1 ≤ (a0.size : Int)) = false := decide_eq_false c8
     have c8b1 : decide (1 ≤ a0.size) = false := decide_eq_false (by omega)
     clear c8
     obtain rfl := Option.some.inj H
     go_wp2
     go_ret
     exact ⟨by first | rfl | (simp; done) | (simp [*]; done), by repeat (first | exact Drawn0.refl _ | apply Drawn0.step)⟩
end Go.Proofs.YtaifemkokfoadaaGreatDoor.PX

namespace Go.Proofs
open Go.Shelf
def Tryz.lays169_ren : Go.Shelf.Ren := ⟨fun | 169 => 85 | n => n, fun | 70 => 127 | 9 => 9 | 0 => 0 | 72 => 129 | 37 => 66 | 127 => 155 | 3 => 3 | 5 => 5 | n => n, fun | n => n⟩
theorem Tryz.lays169 : Go.Proofs.Lays.n169 Tryz.prog Tryz.lays169_ren := {
  mixed := by kernel_rfl
  f169 := Tryz.func85.trans (congrArg some (by kernel_rfl))
  t0 := Tryz.underlying0
  a0 := Tryz.isAgg0
  z0 := Tryz.sizeOf0
  v0 := Tryz.zeroValue0
  t3 := Tryz.underlying3
  a3 := Tryz.isAgg3
  z3 := Tryz.sizeOf3
  v3 := Tryz.zeroValue3
  t9 := Tryz.underlying9
  a9 := Tryz.isAgg9
  z9 := Tryz.sizeOf9
  v9 := Tryz.zeroValue9
  t37 := Tryz.underlying66
  a37 := Tryz.isAgg66
  z37 := Tryz.sizeOf66
  v37 := Tryz.zeroValue66
  t70 := Tryz.underlying127
  a70 := Tryz.isAgg127
  z70 := Tryz.sizeOf127
  v70 := Tryz.zeroValue127
  t72 := Tryz.underlying129
  a72 := Tryz.isAgg129
  z72 := Tryz.sizeOf129
  v72 := Tryz.zeroValue129
  t127 := Tryz.underlying155
  a127 := Tryz.isAgg155
  z127 := Tryz.sizeOf155
  v127 := Tryz.zeroValue155 }
theorem Tryz.Builder_Extra_169 : Builder.Extra Tryz.prog Tryz.lays169_ren := {
  sizeBuilder := by kernel_rfl
  liesBuilder := by kernel_rfl
  t5 := Tryz.underlying5
  a5 := Tryz.isAgg5
  z5 := Tryz.sizeOf5
  v5 := Tryz.zeroValue5
  infoByte := by kernel_rfl
  cellsByte := by kernel_rfl
  sizeByte := by kernel_rfl
  neB5 := by decide }
open Go.RowKit in
theorem Tryz.Builder_String_any (B b : Nat) (l : List UInt8) (w : World) (h : Lib.IsBuilder 129 5 B b (Lib.byteCells l) w) (hBw : B ≤ w.heap.size) :
    Calls Tryz.prog 85 #[.pointer (some ⟨b, 0, none⟩)] w fun e w' => e = .returned (.string ⟨l.toArray⟩) ∧ Below B w w' := Any.Builder_String_any Tryz.lays169 Tryz.Builder_Extra_169 B b l w h hBw
def Tryz.lays160_ren : Go.Shelf.Ren := ⟨fun | 160 => 97 | 232 => 127 | 231 => 126 | 227 => 128 | 234 => 130 | 233 => 129 | 236 => 132 | 235 => 131 | 228 => 159 | 271 => 162 | 151 => 161 | 197 => 160 | 120 => 178 | 152 => 177 | 260 => 176 | 137 => 92 | 119 => 189 | 224 => 180 | 225 => 179 | 217 => 122 | 266 => 151 | n => n, fun | 9 => 9 | 4 => 4 | 3 => 3 | 5 => 5 | 117 => 168 | 116 => 167 | 0 => 0 | 124 => 171 | 21 => 21 | 105 => 205 | 46 => 29 | 119 => 140 | 139 => 240 | 138 => 239 | n => n, fun | 3 => 5 | 4 => 6 | n => n⟩
theorem Tryz.lays160 : Go.Proofs.Lays.n160 Tryz.prog Tryz.lays160_ren := {
  mixed := by kernel_rfl
  f119 := Tryz.func189.trans (congrArg some (by kernel_rfl))
  f120 := Tryz.func178.trans (congrArg some (by kernel_rfl))
  f137 := Tryz.func92.trans (congrArg some (by kernel_rfl))
  f151 := Tryz.func161.trans (congrArg some (by kernel_rfl))
  f152 := Tryz.func177.trans (congrArg some (by kernel_rfl))
  f160 := Tryz.func97.trans (congrArg some (by kernel_rfl))
  f197 := Tryz.func160.trans (congrArg some (by kernel_rfl))
  f217 := Tryz.func122.trans (congrArg some (by kernel_rfl))
  f224 := Tryz.func180.trans (congrArg some (by kernel_rfl))
  f225 := Tryz.func179.trans (congrArg some (by kernel_rfl))
  f227 := Tryz.func128.trans (congrArg some (by kernel_rfl))
  f228 := Tryz.func159.trans (congrArg some (by kernel_rfl))
  f231 := Tryz.func126.trans (congrArg some (by kernel_rfl))
  f232 := Tryz.func127.trans (congrArg some (by kernel_rfl))
  f233 := Tryz.func129.trans (congrArg some (by kernel_rfl))
  f234 := Tryz.func130.trans (congrArg some (by kernel_rfl))
  f235 := Tryz.func131.trans (congrArg some (by kernel_rfl))
  f236 := Tryz.func132.trans (congrArg some (by kernel_rfl))
  f260 := Tryz.func176.trans (congrArg some (by kernel_rfl))
  f266 := Tryz.func151.trans (congrArg some (by kernel_rfl))
  f271 := Tryz.func162.trans (congrArg some (by kernel_rfl))
  t0 := Tryz.underlying0
  a0 := Tryz.isAgg0
  z0 := Tryz.sizeOf0
  v0 := Tryz.zeroValue0
  t3 := Tryz.underlying3
  a3 := Tryz.isAgg3
  z3 := Tryz.sizeOf3
  v3 := Tryz.zeroValue3
  t4 := Tryz.underlying4
  a4 := Tryz.isAgg4
  z4 := Tryz.sizeOf4
  v4 := Tryz.zeroValue4
  t5 := Tryz.underlying5
  a5 := Tryz.isAgg5
  z5 := Tryz.sizeOf5
  v5 := Tryz.zeroValue5
  t9 := Tryz.underlying9
  a9 := Tryz.isAgg9
  z9 := Tryz.sizeOf9
  v9 := Tryz.zeroValue9
  t21 := Tryz.underlying21
  a21 := Tryz.isAgg21
  z21 := Tryz.sizeOf21
  v21 := Tryz.zeroValue21
  t46 := Tryz.underlying29
  a46 := Tryz.isAgg29
  z46 := Tryz.sizeOf29
  v46 := Tryz.zeroValue29
  t105 := Tryz.underlying205
  a105 := Tryz.isAgg205
  z105 := Tryz.sizeOf205
  v105 := Tryz.zeroValue205
  t116 := Tryz.underlying167
  a116 := Tryz.isAgg167
  z116 := Tryz.sizeOf167
  t117 := Tryz.underlying168
  a117 := Tryz.isAgg168
  z117 := Tryz.sizeOf168
  v117 := Tryz.zeroValue168
  t119 := Tryz.underlying140
  a119 := Tryz.isAgg140
  z119 := Tryz.sizeOf140
  t124 := Tryz.underlying171
  a124 := Tryz.isAgg171
  z124 := Tryz.sizeOf171
  v124 := Tryz.zeroValue171
  t138 := Tryz.underlying239
  a138 := Tryz.isAgg239
  z138 := Tryz.sizeOf239
  v138 := Tryz.zeroValue239
  t139 := Tryz.underlying240
  a139 := Tryz.isAgg240
  z139 := Tryz.sizeOf240
  v139 := Tryz.zeroValue240
  g3 := by kernel_rfl
  g4 := by kernel_rfl }
def Tryz.lays137_ren : Go.Shelf.Ren := ⟨fun | 137 => 92 | 217 => 122 | 266 => 151 | n => n, fun | 9 => 9 | 5 => 5 | 3 => 3 | n => n, fun | n => n⟩
theorem Tryz.lays137 : Go.Proofs.Lays.n137 Tryz.prog Tryz.lays137_ren := {
  mixed := by kernel_rfl
  f137 := Tryz.func92.trans (congrArg some (by kernel_rfl))
  f217 := Tryz.func122.trans (congrArg some (by kernel_rfl))
  f266 := Tryz.func151.trans (congrArg some (by kernel_rfl))
  t3 := Tryz.underlying3
  a3 := Tryz.isAgg3
  z3 := Tryz.sizeOf3
  v3 := Tryz.zeroValue3
  t5 := Tryz.underlying5
  a5 := Tryz.isAgg5
  z5 := Tryz.sizeOf5
  v5 := Tryz.zeroValue5
  t9 := Tryz.underlying9
  a9 := Tryz.isAgg9
  z9 := Tryz.sizeOf9
  v9 := Tryz.zeroValue9 }
open Go.RowKit in
theorem Tryz.strings_IndexByte (s : ByteArray) (c : Int) (w : World) :
    Calls Tryz.prog 92 #[.string s, .int .u8 c] w fun e w' => e = .returned (.int .i64 (Lib.indexByte s.data.toList c.toNat.toUInt8)) ∧ w' = w := Any.strings_IndexByte Tryz.lays137 s c w
def Tryz.laysM171_ren : Go.Shelf.Ren := ⟨fun | 171 => 119 | 243 => 140 | 246 => 167 | 283 => 182 | 284 => 183 | 285 => 184 | 286 => 185 | 129 => 150 | 317 => 191 | 318 => 192 | 319 => 193 | 320 => 194 | 337 => 195 | 338 => 196 | n => n, fun | 3 => 3 | 9 => 9 | 2 => 2 | 4 => 4 | 171 => 227 | 0 => 0 | 53 => 186 | 37 => 66 | 5 => 5 | 173 => 229 | 212 => 244 | 51 => 161 | 20 => 20 | 213 => 245 | 46 => 29 | 232 => 246 | 233 => 247 | n => n, fun | 17 => 7 | 18 => 8 | 19 => 9 | n => n⟩
theorem Tryz.laysM171 : Go.Proofs.LaysM.n171 Tryz.prog Tryz.laysM171_ren := {
  mixed := by kernel_rfl
  f129 := Tryz.func150.trans (congrArg some (by kernel_rfl))
  f171 := Tryz.func119.trans (congrArg some (by kernel_rfl))
  f243 := Tryz.func140.trans (congrArg some (by kernel_rfl))
  f246 := Tryz.func167.trans (congrArg some (by kernel_rfl))
  f283 := Tryz.func182.trans (congrArg some (by kernel_rfl))
  f284 := Tryz.func183.trans (congrArg some (by kernel_rfl))
  f285 := Tryz.func184.trans (congrArg some (by kernel_rfl))
  f286 := Tryz.func185.trans (congrArg some (by kernel_rfl))
  f317 := Tryz.func191.trans (congrArg some (by kernel_rfl))
  f318 := Tryz.func192.trans (congrArg some (by kernel_rfl))
  f319 := Tryz.func193.trans (congrArg some (by kernel_rfl))
  f320 := Tryz.func194.trans (congrArg some (by kernel_rfl))
  f337 := Tryz.func195.trans (congrArg some (by kernel_rfl))
  f338 := Tryz.func196.trans (congrArg some (by kernel_rfl))
  t0 := Tryz.underlying0
  a0 := Tryz.isAgg0
  z0 := Tryz.sizeOf0
  v0 := Tryz.zeroValue0
  t2 := Tryz.underlying2
  a2 := Tryz.isAgg2
  z2 := Tryz.sizeOf2
  v2 := Tryz.zeroValue2
  t3 := Tryz.underlying3
  a3 := Tryz.isAgg3
  z3 := Tryz.sizeOf3
  v3 := Tryz.zeroValue3
  t4 := Tryz.underlying4
  a4 := Tryz.isAgg4
  z4 := Tryz.sizeOf4
  v4 := Tryz.zeroValue4
  t5 := Tryz.underlying5
  a5 := Tryz.isAgg5
  z5 := Tryz.sizeOf5
  v5 := Tryz.zeroValue5
  t9 := Tryz.underlying9
  a9 := Tryz.isAgg9
  z9 := Tryz.sizeOf9
  v9 := Tryz.zeroValue9
  t20 := Tryz.underlying20
  a20 := Tryz.isAgg20
  z20 := Tryz.sizeOf20
  v20 := Tryz.zeroValue20
  t37 := Tryz.underlying66
  a37 := Tryz.isAgg66
  z37 := Tryz.sizeOf66
  v37 := Tryz.zeroValue66
  t46 := Tryz.underlying29
  a46 := Tryz.isAgg29
  z46 := Tryz.sizeOf29
  v46 := Tryz.zeroValue29
  t51 := Tryz.underlying161
  a51 := Tryz.isAgg161
  z51 := Tryz.sizeOf161
  v51 := Tryz.zeroValue161
  t53 := Tryz.underlying186
  a53 := Tryz.isAgg186
  z53 := Tryz.sizeOf186
  v53 := Tryz.zeroValue186
  t171 := Tryz.underlying227
  a171 := Tryz.isAgg227
  z171 := Tryz.sizeOf227
  v171 := Tryz.zeroValue227
  t173 := Tryz.underlying229
  a173 := Tryz.isAgg229
  z173 := Tryz.sizeOf229
  v173 := Tryz.zeroValue229
  t212 := Tryz.underlying244
  a212 := Tryz.isAgg244
  z212 := Tryz.sizeOf244
  v212 := Tryz.zeroValue244
  t213 := Tryz.underlying245
  a213 := Tryz.isAgg245
  z213 := Tryz.sizeOf245
  t232 := Tryz.underlying246
  a232 := Tryz.isAgg246
  z232 := Tryz.sizeOf246
  v232 := Tryz.zeroValue246
  t233 := Tryz.underlying247
  a233 := Tryz.isAgg247
  z233 := Tryz.sizeOf247
  v233 := Tryz.zeroValue247
  g17 := by kernel_rfl
  g18 := by kernel_rfl
  g19 := by kernel_rfl
  i0 := by kernel_rfl
  i2 := by kernel_rfl
  i3 := by kernel_rfl
  i4 := by kernel_rfl
  i5 := by kernel_rfl
  i9 := by kernel_rfl
  i20 := by kernel_rfl
  i37 := by kernel_rfl
  i46 := by kernel_rfl
  i51 := by kernel_rfl
  i53 := by kernel_rfl
  i171 := by kernel_rfl
  i173 := by kernel_rfl
  i212 := by kernel_rfl
  i232 := by kernel_rfl
  i233 := by kernel_rfl
  m17 := by kernel_rfl
  m18 := by kernel_rfl
  m19 := by kernel_rfl }
open Go.RowKit Go.Sort Go.Lib in
theorem Tryz.strconv_Itoa (n : Int) (h0 : -9223372036854775808 ≤ n) (h1 : n ≤ 9223372036854775807) (w : World) (htab : Lib.TabIs Tryz.prog w "internal/strconv.uint64pow10" .u64 Lib.pow10Tab) :
    Calls Tryz.prog 119 #[.int .i64 n] w fun e w' => e = .returned (.string ⟨(Lib.itoa n).toArray⟩) ∧ ∃ k os, w' = grow (w.drewN k) os := Any.strconv_Itoa Tryz.laysM171 n h0 h1 w htab
def Tryz.laysC172_ren : Go.Shelf.Ren := ⟨fun | 172 => 95 | 244 => 124 | 245 => 125 | 247 => 154 | 279 => 155 | 280 => 156 | 281 => 157 | 282 => 158 | 287 => 173 | 316 => 174 | 171 => 119 | 205 => 175 | 321 => 187 | 322 => 188 | 243 => 140 | 246 => 167 | 283 => 182 | 284 => 183 | 285 => 184 | 286 => 185 | 129 => 150 | 317 => 191 | 318 => 192 | 319 => 193 | 320 => 194 | 337 => 195 | 338 => 196 | n => n, fun | 9 => 9 | 3 => 3 | 75 => 131 | 76 => 132 | 4 => 4 | 5 => 5 | 167 => 198 | 37 => 66 | 0 => 0 | 85 => 199 | 2 => 2 | 168 => 201 | 53 => 186 | 175 => 219 | 46 => 29 | 210 => 223 | 127 => 155 | 145 => 237 | 143 => 235 | 21 => 21 | 171 => 227 | 173 => 229 | 212 => 244 | 51 => 161 | 20 => 20 | 213 => 245 | 232 => 246 | 233 => 247 | 80 => 135 | n => n, fun | 15 => 3 | 16 => 4 | 17 => 7 | 18 => 8 | 19 => 9 | n => n⟩
theorem Tryz.laysC172 : Go.Proofs.LaysC.n172 Tryz.prog Tryz.laysC172_ren := {
  mixed := by kernel_rfl
  f129 := Tryz.func150.trans (congrArg some (by kernel_rfl))
  f171 := Tryz.func119.trans (congrArg some (by kernel_rfl))
  f172 := Tryz.func95.trans (congrArg some (by kernel_rfl))
  f205 := Tryz.func175.trans (congrArg some (by kernel_rfl))
  f243 := Tryz.func140.trans (congrArg some (by kernel_rfl))
  f244 := Tryz.func124.trans (congrArg some (by kernel_rfl))
  f245 := Tryz.func125.trans (congrArg some (by kernel_rfl))
  f246 := Tryz.func167.trans (congrArg some (by kernel_rfl))
  f247 := Tryz.func154.trans (congrArg some (by kernel_rfl))
  f279 := Tryz.func155.trans (congrArg some (by kernel_rfl))
  f280 := Tryz.func156.trans (congrArg some (by kernel_rfl))
  f281 := Tryz.func157.trans (congrArg some (by kernel_rfl))
  f282 := Tryz.func158.trans (congrArg some (by kernel_rfl))
  f283 := Tryz.func182.trans (congrArg some (by kernel_rfl))
  f284 := Tryz.func183.trans (congrArg some (by kernel_rfl))
  f285 := Tryz.func184.trans (congrArg some (by kernel_rfl))
  f286 := Tryz.func185.trans (congrArg some (by kernel_rfl))
  f287 := Tryz.func173.trans (congrArg some (by kernel_rfl))
  f316 := Tryz.func174.trans (congrArg some (by kernel_rfl))
  f317 := Tryz.func191.trans (congrArg some (by kernel_rfl))
  f318 := Tryz.func192.trans (congrArg some (by kernel_rfl))
  f319 := Tryz.func193.trans (congrArg some (by kernel_rfl))
  f320 := Tryz.func194.trans (congrArg some (by kernel_rfl))
  f321 := Tryz.func187.trans (congrArg some (by kernel_rfl))
  f322 := Tryz.func188.trans (congrArg some (by kernel_rfl))
  f337 := Tryz.func195.trans (congrArg some (by kernel_rfl))
  f338 := Tryz.func196.trans (congrArg some (by kernel_rfl))
  t0 := Tryz.underlying0
  a0 := Tryz.isAgg0
  z0 := Tryz.sizeOf0
  v0 := Tryz.zeroValue0
  t2 := Tryz.underlying2
  a2 := Tryz.isAgg2
  z2 := Tryz.sizeOf2
  v2 := Tryz.zeroValue2
  t3 := Tryz.underlying3
  a3 := Tryz.isAgg3
  z3 := Tryz.sizeOf3
  v3 := Tryz.zeroValue3
  t4 := Tryz.underlying4
  a4 := Tryz.isAgg4
  z4 := Tryz.sizeOf4
  v4 := Tryz.zeroValue4
  t5 := Tryz.underlying5
  a5 := Tryz.isAgg5
  z5 := Tryz.sizeOf5
  v5 := Tryz.zeroValue5
  t9 := Tryz.underlying9
  a9 := Tryz.isAgg9
  z9 := Tryz.sizeOf9
  v9 := Tryz.zeroValue9
  t20 := Tryz.underlying20
  a20 := Tryz.isAgg20
  z20 := Tryz.sizeOf20
  v20 := Tryz.zeroValue20
  t21 := Tryz.underlying21
  a21 := Tryz.isAgg21
  z21 := Tryz.sizeOf21
  v21 := Tryz.zeroValue21
  t37 := Tryz.underlying66
  a37 := Tryz.isAgg66
  z37 := Tryz.sizeOf66
  v37 := Tryz.zeroValue66
  t46 := Tryz.underlying29
  a46 := Tryz.isAgg29
  z46 := Tryz.sizeOf29
  v46 := Tryz.zeroValue29
  t51 := Tryz.underlying161
  a51 := Tryz.isAgg161
  z51 := Tryz.sizeOf161
  v51 := Tryz.zeroValue161
  t53 := Tryz.underlying186
  a53 := Tryz.isAgg186
  z53 := Tryz.sizeOf186
  v53 := Tryz.zeroValue186
  t75 := Tryz.underlying131
  a75 := Tryz.isAgg131
  z75 := Tryz.sizeOf131
  v75 := Tryz.zeroValue131
  t76 := Tryz.underlying132
  a76 := Tryz.isAgg132
  z76 := Tryz.sizeOf132
  v76 := Tryz.zeroValue132
  t85 := Tryz.underlying199
  a85 := Tryz.isAgg199
  z85 := Tryz.sizeOf199
  v85 := Tryz.zeroValue199
  t127 := Tryz.underlying155
  a127 := Tryz.isAgg155
  z127 := Tryz.sizeOf155
  v127 := Tryz.zeroValue155
  t143 := Tryz.underlying235
  a143 := Tryz.isAgg235
  z143 := Tryz.sizeOf235
  v143 := Tryz.zeroValue235
  t145 := Tryz.underlying237
  a145 := Tryz.isAgg237
  z145 := Tryz.sizeOf237
  v145 := Tryz.zeroValue237
  t167 := Tryz.underlying198
  a167 := Tryz.isAgg198
  z167 := Tryz.sizeOf198
  v167 := Tryz.zeroValue198
  t168 := Tryz.underlying201
  a168 := Tryz.isAgg201
  z168 := Tryz.sizeOf201
  v168 := Tryz.zeroValue201
  t171 := Tryz.underlying227
  a171 := Tryz.isAgg227
  z171 := Tryz.sizeOf227
  v171 := Tryz.zeroValue227
  t173 := Tryz.underlying229
  a173 := Tryz.isAgg229
  z173 := Tryz.sizeOf229
  v173 := Tryz.zeroValue229
  t175 := Tryz.underlying219
  a175 := Tryz.isAgg219
  z175 := Tryz.sizeOf219
  v175 := Tryz.zeroValue219
  t210 := Tryz.underlying223
  a210 := Tryz.isAgg223
  z210 := Tryz.sizeOf223
  v210 := Tryz.zeroValue223
  t212 := Tryz.underlying244
  a212 := Tryz.isAgg244
  z212 := Tryz.sizeOf244
  v212 := Tryz.zeroValue244
  t213 := Tryz.underlying245
  a213 := Tryz.isAgg245
  z213 := Tryz.sizeOf245
  t232 := Tryz.underlying246
  a232 := Tryz.isAgg246
  z232 := Tryz.sizeOf246
  v232 := Tryz.zeroValue246
  t233 := Tryz.underlying247
  a233 := Tryz.isAgg247
  z233 := Tryz.sizeOf247
  v233 := Tryz.zeroValue247
  g15 := by kernel_rfl
  g16 := by kernel_rfl
  g17 := by kernel_rfl
  g18 := by kernel_rfl
  g19 := by kernel_rfl
  t80 := Tryz.underlying135
  a80 := Tryz.isAgg135
  z80 := Tryz.sizeOf135
  v80 := Tryz.zeroValue135
  i0 := by kernel_rfl
  i2 := by kernel_rfl
  i3 := by kernel_rfl
  i4 := by kernel_rfl
  i5 := by kernel_rfl
  i9 := by kernel_rfl
  i20 := by kernel_rfl
  i21 := by kernel_rfl
  i37 := by kernel_rfl
  i46 := by kernel_rfl
  i51 := by kernel_rfl
  i53 := by kernel_rfl
  i75 := by kernel_rfl
  i76 := by kernel_rfl
  i80 := by kernel_rfl
  i85 := by kernel_rfl
  i127 := by kernel_rfl
  i143 := by kernel_rfl
  i145 := by kernel_rfl
  i167 := by kernel_rfl
  i168 := by kernel_rfl
  i171 := by kernel_rfl
  i173 := by kernel_rfl
  i175 := by kernel_rfl
  i210 := by kernel_rfl
  i212 := by kernel_rfl
  i232 := by kernel_rfl
  i233 := by kernel_rfl
  m15 := by kernel_rfl
  m16 := by kernel_rfl
  m17 := by kernel_rfl
  m18 := by kernel_rfl
  m19 := by kernel_rfl
  c0 := by kernel_rfl
  c2 := by kernel_rfl
  c3 := by kernel_rfl
  c4 := by kernel_rfl
  c5 := by kernel_rfl
  c9 := by kernel_rfl
  c20 := by kernel_rfl
  c21 := by kernel_rfl
  c37 := by kernel_rfl
  c46 := by kernel_rfl
  c51 := by kernel_rfl
  c53 := by kernel_rfl
  c75 := by kernel_rfl
  c76 := by kernel_rfl
  c80 := by kernel_rfl
  c85 := by kernel_rfl
  c127 := by kernel_rfl
  c143 := by kernel_rfl
  c145 := by kernel_rfl
  c167 := by kernel_rfl
  c168 := by kernel_rfl
  c171 := by kernel_rfl
  c173 := by kernel_rfl
  c175 := by kernel_rfl
  c210 := by kernel_rfl
  c212 := by kernel_rfl
  c213 := by kernel_rfl
  c232 := by kernel_rfl
  c233 := by kernel_rfl }
open Go.RowKit in
theorem Tryz.strconv_Atoi_ok (s : ByteArray) (hmax : s.size ≤ 9223372036854775806) (v : Int) (h : Lib.atoiAll s.data.toList = .ok v) (w : World) :
    Calls Tryz.prog 95 #[.string s] w fun e w' => e = .returned (.tuple #[.int .i64 v, .nilIface]) ∧ (w' = w ∨ ∃ t, w' = Lib.bytesWorld w 5 t) := Any.strconv_Atoi_ok Tryz.laysC172 s hmax v h w
open Go.RowKit in
theorem Tryz.strconv_Atoi_syntax_var (s : ByteArray) (hlim : s.size ≤ 281474976710656) (h : Lib.atoiAll s.data.toList = Lib.atoiAll []) (tp : TypeId) (p : Value) (w : World) (hvar : w.var? Tryz.prog "strconv.ErrSyntax" = some #[.iface tp p]) :
    Calls Tryz.prog 95 #[.string s] w fun e w' => ∃ N, e = .returned (.tuple #[.int .i64 0, .iface 201 (.pointer (some ⟨N, 0, none⟩))]) ∧ w.heap.size ≤ N ∧ w'.heap[N]? = some (.cells #[.string ⟨#[65, 116, 111, 105]⟩, .string s, .iface tp p] 223 (0, 0)) ∧ Below w.heap.size w w' := Any.strconv_Atoi_syntax_var Tryz.laysC172 s hlim h tp p w hvar
open Go.RowKit in
theorem Tryz.strconv_Atoi_range_var (s : ByteArray) (hlim : s.size ≤ 281474976710656) (h : Lib.atoiAll s.data.toList = .range) (tp : TypeId) (p : Value) (w : World) (hvar : w.var? Tryz.prog "strconv.ErrRange" = some #[.iface tp p]) :
    Calls Tryz.prog 95 #[.string s] w fun e w' => ∃ N, e = .returned (.tuple #[.int .i64 (Lib.atoiSat s.data.toList), .iface 201 (.pointer (some ⟨N, 0, none⟩))]) ∧ w.heap.size ≤ N ∧ w'.heap[N]? = some (.cells #[.string ⟨#[65, 116, 111, 105]⟩, .string s, .iface tp p] 223 (0, 0)) ∧ Below w.heap.size w w' := Any.strconv_Atoi_range_var Tryz.laysC172 s hlim h tp p w hvar
def Tryz.laysGw17_ren : Go.Shelf.Ren := ⟨fun | 17 => 99 | 15 => 133 | 20 => 163 | n => n, fun | 9 => 9 | 23 => 142 | 4 => 4 | 3 => 3 | 0 => 0 | 21 => 21 | n => n, fun | n => n⟩
theorem Tryz.laysGw17 : Go.Proofs.LaysGw.n17 Tryz.prog Tryz.laysGw17_ren := {
  mixed := by kernel_rfl
  f15 := Tryz.func133.trans (congrArg some (by kernel_rfl))
  f17 := Tryz.func99.trans (congrArg some (by kernel_rfl))
  f20 := Tryz.func163.trans (congrArg some (by kernel_rfl))
  t0 := Tryz.underlying0
  a0 := Tryz.isAgg0
  z0 := Tryz.sizeOf0
  v0 := Tryz.zeroValue0
  i0 := by kernel_rfl
  t3 := Tryz.underlying3
  a3 := Tryz.isAgg3
  z3 := Tryz.sizeOf3
  v3 := Tryz.zeroValue3
  i3 := by kernel_rfl
  t4 := Tryz.underlying4
  a4 := Tryz.isAgg4
  z4 := Tryz.sizeOf4
  v4 := Tryz.zeroValue4
  i4 := by kernel_rfl
  t9 := Tryz.underlying9
  a9 := Tryz.isAgg9
  z9 := Tryz.sizeOf9
  v9 := Tryz.zeroValue9
  i9 := by kernel_rfl
  t21 := Tryz.underlying21
  a21 := Tryz.isAgg21
  z21 := Tryz.sizeOf21
  v21 := Tryz.zeroValue21
  i21 := by kernel_rfl
  t23 := Tryz.underlying142
  a23 := Tryz.isAgg142
  z23 := Tryz.sizeOf142
  v23 := Tryz.zeroValue142
  i23 := by kernel_rfl }
open Go.RowKit Go.Lib in
theorem Tryz.strings_ContainsFunc (g : Nat) (lb : Array Value) (eg : ∀ args w, (callFunc g args).run Tryz.prog w = .ok (.enter g args) w) (p : Nat → Bool) (s : ByteArray) (w : World) (hp : PredAt Tryz.prog g lb encR p w) :
    Calls Tryz.prog 99 #[.string s, .func (.func g) #[] lb] w fun e w' => e = .returned (.bool (decide (0 ≤ Lib.idxFunc p true s))) ∧ Below w.heap.size w w' := Any.strings_ContainsFunc Tryz.laysGw17 g lb eg p s w hp
def Tryz.lays157_ren : Go.Shelf.Ren := ⟨fun | 157 => 35 | 229 => 93 | 199 => 94 | 261 => 123 | 311 => 152 | 312 => 153 | n => n, fun | 9 => 9 | 31 => 77 | 3 => 3 | 5 => 5 | 4 => 4 | 119 => 140 | 0 => 0 | 40 => 142 | 152 => 158 | 21 => 21 | 154 => 160 | 51 => 161 | 141 => 163 | 196 => 190 | 193 => 187 | 198 => 193 | 49 => 191 | 194 => 188 | 201 => 196 | 226 => 217 | 46 => 29 | 227 => 218 | n => n, fun | 0 => 0 | 6 => 1 | n => n⟩
theorem Tryz.lays157 : Go.Proofs.Lays.n157 Tryz.prog Tryz.lays157_ren := {
  mixed := by kernel_rfl
  f157 := Tryz.func35.trans (congrArg some (by kernel_rfl))
  f199 := Tryz.func94.trans (congrArg some (by kernel_rfl))
  f229 := Tryz.func93.trans (congrArg some (by kernel_rfl))
  f261 := Tryz.func123.trans (congrArg some (by kernel_rfl))
  f311 := Tryz.func152.trans (congrArg some (by kernel_rfl))
  f312 := Tryz.func153.trans (congrArg some (by kernel_rfl))
  t0 := Tryz.underlying0
  a0 := Tryz.isAgg0
  z0 := Tryz.sizeOf0
  v0 := Tryz.zeroValue0
  t3 := Tryz.underlying3
  a3 := Tryz.isAgg3
  z3 := Tryz.sizeOf3
  v3 := Tryz.zeroValue3
  t4 := Tryz.underlying4
  a4 := Tryz.isAgg4
  z4 := Tryz.sizeOf4
  v4 := Tryz.zeroValue4
  t5 := Tryz.underlying5
  a5 := Tryz.isAgg5
  z5 := Tryz.sizeOf5
  v5 := Tryz.zeroValue5
  t9 := Tryz.underlying9
  a9 := Tryz.isAgg9
  z9 := Tryz.sizeOf9
  v9 := Tryz.zeroValue9
  t21 := Tryz.underlying21
  a21 := Tryz.isAgg21
  z21 := Tryz.sizeOf21
  v21 := Tryz.zeroValue21
  t31 := Tryz.underlying77
  a31 := Tryz.isAgg77
  z31 := Tryz.sizeOf77
  v31 := Tryz.zeroValue77
  t40 := Tryz.underlying142
  a40 := Tryz.isAgg142
  z40 := Tryz.sizeOf142
  v40 := Tryz.zeroValue142
  t46 := Tryz.underlying29
  a46 := Tryz.isAgg29
  z46 := Tryz.sizeOf29
  v46 := Tryz.zeroValue29
  t49 := Tryz.underlying191
  a49 := Tryz.isAgg191
  z49 := Tryz.sizeOf191
  v49 := Tryz.zeroValue191
  t51 := Tryz.underlying161
  a51 := Tryz.isAgg161
  z51 := Tryz.sizeOf161
  v51 := Tryz.zeroValue161
  t119 := Tryz.underlying140
  a119 := Tryz.isAgg140
  z119 := Tryz.sizeOf140
  t141 := Tryz.underlying163
  a141 := Tryz.isAgg163
  z141 := Tryz.sizeOf163
  v141 := Tryz.zeroValue163
  t152 := Tryz.underlying158
  a152 := Tryz.isAgg158
  z152 := Tryz.sizeOf158
  v152 := Tryz.zeroValue158
  t154 := Tryz.underlying160
  a154 := Tryz.isAgg160
  z154 := Tryz.sizeOf160
  v154 := Tryz.zeroValue160
  t193 := Tryz.underlying187
  a193 := Tryz.isAgg187
  z193 := Tryz.sizeOf187
  v193 := Tryz.zeroValue187
  t194 := Tryz.underlying188
  a194 := Tryz.isAgg188
  z194 := Tryz.sizeOf188
  v194 := Tryz.zeroValue188
  t196 := Tryz.underlying190
  a196 := Tryz.isAgg190
  z196 := Tryz.sizeOf190
  v196 := Tryz.zeroValue190
  t198 := Tryz.underlying193
  a198 := Tryz.isAgg193
  z198 := Tryz.sizeOf193
  v198 := Tryz.zeroValue193
  t201 := Tryz.underlying196
  a201 := Tryz.isAgg196
  z201 := Tryz.sizeOf196
  v201 := Tryz.zeroValue196
  t226 := Tryz.underlying217
  a226 := Tryz.isAgg217
  z226 := Tryz.sizeOf217
  v226 := Tryz.zeroValue217
  t227 := Tryz.underlying218
  a227 := Tryz.isAgg218
  z227 := Tryz.sizeOf218
  v227 := Tryz.zeroValue218
  g0 := by kernel_rfl
  g6 := by kernel_rfl }
open Go.RowKit Go.Lib in
theorem Tryz.strings_Fields (s : ByteArray) (w : World) (hs : s.size < 4294967281) (hascii : ∀ (j : Nat) b, s.data.toList[j]? = some b → b.toNat < 128) (htab : Lib.TabIs Tryz.prog w "strings.asciiSpace" .u8 Lib.asciiSpaceTab) :
    Calls Tryz.prog 35 #[.string s] w fun e w' =>
      e = .returned (.slice (some ⟨w.heap.size, 0, none⟩) (Lib.fields s.data.toList).length (Lib.fields s.data.toList).length) ∧ w' = w.alloc (.cells ((Lib.fields s.data.toList).map fun l => Value.string ⟨l.toArray⟩).toArray 9) := Any.strings_Fields Tryz.lays157 (by kernel_rfl) (by kernel_rfl) s w hs hascii htab
def Tryz.hasG_ren : Go.Shelf.Ren := ⟨fun | 8 => 42 | 6 => 98 | n => n, fun | 22 => 22 | 23 => 31 | 25 => 89 | 4 => 4 | 3 => 3 | 0 => 0 | n => n, fun | n => n⟩
theorem Tryz.hasG : Go.Proofs.SlLaysH0.n8 Tryz.prog Tryz.hasG_ren := {
  mixed := by kernel_rfl
  f6 := ⟨Tryz.f98.name, by decide, Tryz.func98.trans (congrArg some (by kernel_rfl))⟩
  f8 := ⟨Tryz.f42.name, by decide, Tryz.func42.trans (congrArg some (by kernel_rfl))⟩
  t0 := Tryz.underlying0
  a0 := Tryz.isAgg0
  z0 := Tryz.sizeOf0
  v0 := Tryz.zeroValue0
  t3 := Tryz.underlying3
  a3 := Tryz.isAgg3
  z3 := Tryz.sizeOf3
  v3 := Tryz.zeroValue3
  t4 := Tryz.underlying4
  a4 := Tryz.isAgg4
  z4 := Tryz.sizeOf4
  v4 := Tryz.zeroValue4
  t22 := Tryz.underlying22
  a22 := Tryz.isAgg22
  z22 := Tryz.sizeOf22
  v22 := Tryz.zeroValue22
  t25 := Tryz.underlying89
  a25 := Tryz.isAgg89
  z25 := Tryz.sizeOf89
  v25 := Tryz.zeroValue89 }
def Tryz.hasL_ren : Go.Shelf.Ren := ⟨fun | 8 => 48 | 6 => 102 | n => n, fun | 22 => 23 | 23 => 86 | 25 => 95 | 4 => 4 | 3 => 3 | 0 => 0 | n => n, fun | n => n⟩
theorem Tryz.hasL : Go.Proofs.SlLaysH0.n8 Tryz.prog Tryz.hasL_ren := {
  mixed := by kernel_rfl
  f6 := ⟨Tryz.f102.name, by decide, Tryz.func102.trans (congrArg some (by kernel_rfl))⟩
  f8 := ⟨Tryz.f48.name, by decide, Tryz.func48.trans (congrArg some (by kernel_rfl))⟩
  t0 := Tryz.underlying0
  a0 := Tryz.isAgg0
  z0 := Tryz.sizeOf0
  v0 := Tryz.zeroValue0
  t3 := Tryz.underlying3
  a3 := Tryz.isAgg3
  z3 := Tryz.sizeOf3
  v3 := Tryz.zeroValue3
  t4 := Tryz.underlying4
  a4 := Tryz.isAgg4
  z4 := Tryz.sizeOf4
  v4 := Tryz.zeroValue4
  t22 := Tryz.underlying23
  a22 := Tryz.isAgg23
  z22 := Tryz.sizeOf23
  v22 := Tryz.zeroValue23
  t25 := Tryz.underlying95
  a25 := Tryz.isAgg95
  z25 := Tryz.sizeOf95
  v25 := Tryz.zeroValue95 }
def Tryz.hasK_ren : Go.Shelf.Ren := ⟨fun | 8 => 55 | 6 => 103 | n => n, fun | 22 => 24 | 23 => 76 | 25 => 99 | 4 => 4 | 3 => 3 | 0 => 0 | n => n, fun | n => n⟩
theorem Tryz.hasK : Go.Proofs.SlLaysH0.n8 Tryz.prog Tryz.hasK_ren := {
  mixed := by kernel_rfl
  f6 := ⟨Tryz.f103.name, by decide, Tryz.func103.trans (congrArg some (by kernel_rfl))⟩
  f8 := ⟨Tryz.f55.name, by decide, Tryz.func55.trans (congrArg some (by kernel_rfl))⟩
  t0 := Tryz.underlying0
  a0 := Tryz.isAgg0
  z0 := Tryz.sizeOf0
  v0 := Tryz.zeroValue0
  t3 := Tryz.underlying3
  a3 := Tryz.isAgg3
  z3 := Tryz.sizeOf3
  v3 := Tryz.zeroValue3
  t4 := Tryz.underlying4
  a4 := Tryz.isAgg4
  z4 := Tryz.sizeOf4
  v4 := Tryz.zeroValue4
  t22 := Tryz.underlying24
  a22 := Tryz.isAgg24
  z22 := Tryz.sizeOf24
  v22 := Tryz.zeroValue24
  t25 := Tryz.underlying99
  a25 := Tryz.isAgg99
  z25 := Tryz.sizeOf99
  v25 := Tryz.zeroValue99 }
def Tryz.lays166_ren : Go.Shelf.Ren := ⟨fun | 166 => 83 | 240 => 118 | 276 => 139 | n => n, fun | 0 => 0 | 3 => 3 | 4 => 4 | 5 => 5 | 9 => 9 | 20 => 20 | 37 => 66 | 70 => 127 | 72 => 129 | 75 => 131 | 80 => 135 | 164 => 175 | n => n, fun n => n⟩
theorem Tryz.lays166 : Go.Proofs.Lays.n166 Tryz.prog Tryz.lays166_ren := {
  mixed := by kernel_rfl
  f166 := Tryz.func83.trans (congrArg some (by kernel_rfl))
  f240 := Tryz.func118.trans (congrArg some (by kernel_rfl))
  f276 := Tryz.func139.trans (congrArg some (by kernel_rfl))
  t0 := Tryz.underlying0
  a0 := Tryz.isAgg0
  z0 := Tryz.sizeOf0
  v0 := Tryz.zeroValue0
  t3 := Tryz.underlying3
  a3 := Tryz.isAgg3
  z3 := Tryz.sizeOf3
  v3 := Tryz.zeroValue3
  t4 := Tryz.underlying4
  a4 := Tryz.isAgg4
  z4 := Tryz.sizeOf4
  v4 := Tryz.zeroValue4
  t9 := Tryz.underlying9
  a9 := Tryz.isAgg9
  z9 := Tryz.sizeOf9
  v9 := Tryz.zeroValue9
  t20 := Tryz.underlying20
  a20 := Tryz.isAgg20
  z20 := Tryz.sizeOf20
  v20 := Tryz.zeroValue20
  t37 := Tryz.underlying66
  a37 := Tryz.isAgg66
  z37 := Tryz.sizeOf66
  v37 := Tryz.zeroValue66
  t70 := Tryz.underlying127
  a70 := Tryz.isAgg127
  z70 := Tryz.sizeOf127
  v70 := Tryz.zeroValue127
  t72 := Tryz.underlying129
  a72 := Tryz.isAgg129
  z72 := Tryz.sizeOf129
  v72 := Tryz.zeroValue129
  t75 := Tryz.underlying131
  a75 := Tryz.isAgg131
  z75 := Tryz.sizeOf131
  v75 := Tryz.zeroValue131
  t164 := Tryz.underlying175
  a164 := Tryz.isAgg175
  z164 := Tryz.sizeOf175
  v164 := Tryz.zeroValue175 }
theorem Tryz.Builder_Extra_166 : Builder.Extra Tryz.prog Tryz.lays166_ren := {
  sizeBuilder := by kernel_rfl
  liesBuilder := by kernel_rfl
  t5 := Tryz.underlying5
  a5 := Tryz.isAgg5
  z5 := Tryz.sizeOf5
  v5 := Tryz.zeroValue5
  infoByte := by kernel_rfl
  cellsByte := by kernel_rfl
  sizeByte := by kernel_rfl
  neB5 := by decide }
open Go.RowKit in
theorem Tryz.Builder_WriteString (B b : Nat) (bs : List Value) (s : ByteArray) (w : World) (h : Lib.IsBuilder 129 5 B b bs w) (hlen : bs.length + s.size ≤ 140737488355328) (hBw : B ≤ w.heap.size) :
    Calls Tryz.prog 83 #[.pointer (some ⟨b, 0, none⟩), .string s] w fun e w' => e = .returned (.tuple #[.int .i64 s.size, .nilIface]) ∧ (Lib.BuilderAt 129 5 B b (.pointer (some ⟨b, 0, none⟩)) (bs ++ Lib.strCells s) w' ∧ Below B w w') := Any.Builder_WriteString Tryz.lays166 Tryz.Builder_Extra_166 B b bs s w h hlen hBw
end Go.Proofs

namespace Go.Proofs.YtaifemkokfoadaaGreatDoor
open Go.RowKit Go.Proofs.YtaifemkokfoadaaGreatDoorW.PrintWords
theorem w64 {x : Int} (a : -9223372036854775808 ≤ x) (b : x ≤ 9223372036854775807) : wrap64 x = x := IntWalk.wrap64_in x ⟨a, b⟩
theorem evPos {α : Type} {c : Prop} [Decidable c] {a b : Nat → Option α} {r : α} (h : c) (k : Ev a r) : Ev (fun n => if c then a n else b n) r := by
  simp only [if_pos h]; exact k
theorem evNeg {α : Type} {c : Prop} [Decidable c] {a b : Nat → Option α} {r : α} (h : ¬ c) (k : Ev b r) : Ev (fun n => if c then a n else b n) r := by
  simp only [if_neg h]; exact k
theorem evLet {α β : Type} {x : α} {f : Nat → α → Option β} {r : β} (k : Ev (fun n => f n x) r) : Ev (fun n => (some x).bind (f n)) r := k
theorem evUse {α β : Type} {x : Option α} {y : α} {f : Nat → α → Option β} {r : β} (h : x = some y) (k : Ev (fun n => f n y) r) : Ev (fun n => x.bind (f n)) r := by
  subst h; exact k
theorem evOf {α : Type} {x : Option α} {r : α} (h : x = some r) : Ev (fun _ => x) r := by subst h; exact Ev.now r
theorem evEq {α : Type} {g : Nat → Option α} {r r' : α} (h : r = r') (k : Ev g r) : Ev g r' := h ▸ k
def bar (l : List UInt8) : ByteArray := ⟨l.toArray⟩
theorem bar_data (l : List UInt8) : (bar l).data.toList = l := rfl
theorem bar_size (l : List UInt8) : (bar l).size = l.length := by simp [bar, ByteArray.size]
theorem bar_of (s : ByteArray) : bar s.data.toList = s := by
  apply ByteArray.ext; apply Array.toList_inj.1; rfl
theorem bar_app (a b : List UInt8) : bar a ++ bar b = bar (a ++ b) := by
  apply ByteArray.ext; apply Array.toList_inj.1
  rw [ByteArray.data_append]; simp [bar]
theorem bt_bar (l : List UInt8) (i : Int) (h : i.toNat < l.length) : bt (bar l) i = (l[i.toNat].toNat : Int) := by
  unfold bt
  rw [dif_pos (by rw [bar_size]; exact h)]
  rfl
theorem bt_bar' (l : List UInt8) (i : Nat) (h : i < l.length) : bt (bar l) (i : Int) = (l[i].toNat : Int) := bt_bar l i (by simpa using h)
theorem strOf_one (n : Int) : strOfNums [n] = bar [UInt8.ofNat n.toNat] := rfl
theorem rdOf_nat {α : Type} (d : α) (l : List α) (i : Nat) : rdOf d l (i : Int) = l.getD i d := rfl
end Go.Proofs.YtaifemkokfoadaaGreatDoor

namespace Go.Proofs.YtaifemkokfoadaaGreatDoor
open Go.RowKit
/-- The library's variables that the contracts read. -/
structure GW (w : World) : Prop where
  tab : Lib.TabIs Tryz.prog w "internal/strconv.uint64pow10" .u64 Lib.pow10Tab
  synt : ∃ tp p, w.var? Tryz.prog "strconv.ErrSyntax" = some #[.iface tp p]
  rng : ∃ tp p, w.var? Tryz.prog "strconv.ErrRange" = some #[.iface tp p]
  spc : Lib.TabIs Tryz.prog w "strings.asciiSpace" .u8 Lib.asciiSpaceTab
  mx : ∃ m, w.cell? ⟨2, 0, none⟩ = some (.int .i64 m)
  inside : 10 < w.heap.size
theorem GW.under {w w' : World} (h : GW w) (hb : Below w.heap.size w w') : GW w' := by
  obtain ⟨t1, p1, e1⟩ := h.synt
  obtain ⟨t2, p2, e2⟩ := h.rng
  obtain ⟨m, e3⟩ := h.mx
  have hi := h.inside
  exact ⟨var?_below hb (by kernel_rfl) (by omega : 7 < w.heap.size) h.tab, ⟨t1, p1, var?_below hb (by kernel_rfl) (by omega : 3 < w.heap.size) e1⟩, ⟨t2, p2, var?_below hb (by kernel_rfl) (by omega : 4 < w.heap.size) e2⟩,
    var?_below hb (by kernel_rfl) (by omega : 0 < w.heap.size) h.spc,
    ⟨m, (hb.cell (p := ⟨2, 0, none⟩) (by show 2 < w.heap.size; omega)).trans e3⟩, Nat.lt_of_lt_of_le hi hb.size⟩
theorem growBelow (w : World) (k : Nat) (os : Array Obj) : Below w.heap.size w (Sort.grow (w.drewN k) os) := by
  refine ⟨rfl, rfl, rfl, by simp [Sort.grow, World.drewN], fun i hi => ?_⟩
  show ((w.drewN k).heap ++ os)[i]? = _
  rw [Array.getElem?_append_left (by simpa [World.drewN] using hi)]
  rfl
theorem itoa_any (n : Int) (w : World) (h0 : -9223372036854775808 ≤ n) (h1 : n ≤ 9223372036854775807) (ht : GW w) :
    Calls Tryz.prog 119 #[.int .i64 n] w fun e w' => e = .returned (.string (bar (Lib.itoa n))) ∧ Below w.heap.size w w' :=
  (Tryz.strconv_Itoa n h0 h1 w ht.tab).mono fun e w' ⟨h1, k, os, h2⟩ => ⟨h1, by rw [h2]; exact growBelow w k os⟩
end Go.Proofs.YtaifemkokfoadaaGreatDoor

namespace Go.Proofs.YtaifemkokfoadaaGreatDoor
open Go.RowKit
/-- strconv.Atoi: the number, and whether the text is one. -/
def atoiN (l : List UInt8) : Int := match Lib.atoiAll l with | .ok v => v | .range => Lib.atoiSat l | _ => 0
def atoiB (l : List UInt8) : Bool := match Lib.atoiAll l with | .ok _ => true | _ => false
theorem atoi_any (s : ByteArray) (w : World) (hs : s.size ≤ 140737488355328) (hG : GW w) :
    Calls Tryz.prog 95 #[.string s] w fun e w' => ∃ ev, e = .returned (.tuple #[.int .i64 (atoiN s.data.toList), ev]) ∧ (atoiB s.data.toList = true → ev = .nilIface) ∧ (atoiB s.data.toList = false → ∃ te pe, ev = .iface te pe) ∧ Below w.heap.size w w' := by
  unfold atoiN atoiB
  cases h : Lib.atoiAll s.data.toList with
  | ok v =>
    refine (Tryz.strconv_Atoi_ok s (by omega) v h w).mono fun e w' ⟨h1, h2⟩ => ⟨.nilIface, h1, fun _ => rfl, (fun h => nomatch h), ?_⟩
    rcases h2 with rfl | ⟨t, rfl⟩
    · exact Below.refl _ _
    · exact Lib.bytesWorld_below _ _ _
  | range =>
    obtain ⟨tp, p, hv⟩ := hG.rng
    exact (Tryz.strconv_Atoi_range_var s (by omega) h tp p w hv).mono fun e w' ⟨N, h1, _, _, h2⟩ => ⟨_, h1, (fun h => nomatch h), fun _ => ⟨_, _, rfl⟩, h2⟩
  | _ =>
    obtain ⟨tp, p, hv⟩ := hG.synt
    exact (Tryz.strconv_Atoi_syntax_var s (by omega) h tp p w hv).mono fun e w' ⟨N, h1, _, _, h2⟩ => ⟨_, h1, (fun h => nomatch h), fun _ => ⟨_, _, rfl⟩, h2⟩
end Go.Proofs.YtaifemkokfoadaaGreatDoor

namespace Go.Proofs.YtaifemkokfoadaaGreatDoor
open Go.RowKit Go.Shelf
/-- A byte that a name may have. -/
def okB (b : UInt8) : Bool := decide (33 ≤ b.toNat) && decide (b.toNat ≤ 126)
/-- Whether a text may be a glyph's name. -/
def nameB (l : List UInt8) : Bool := decide (1 ≤ l.length) && (decide (l.length ≤ 10) && l.all okB)
def letB (b : UInt8) : Bool := (decide (97 ≤ b.toNat) && decide (b.toNat ≤ 122)) || (decide (65 ≤ b.toNat) && decide (b.toNat ≤ 90))
def digB (b : UInt8) : Bool := decide (48 ≤ b.toNat) && decide (b.toNat ≤ 57)
/-- Whether a text may be a font's name. -/
def fnameB (l : List UInt8) : Bool := decide (1 ≤ l.length) && (decide (l.length ≤ 10) && (l.all (fun b => letB b || digB b) && (l.head?.map letB).getD false))
def badR (r : Nat) : Bool := decide (r < 33) || decide (126 < r)
theorem idxBad (s : ByteArray) : ∀ (f pos : Nat), s.size ≤ pos + f → pos ≤ s.size → (0 ≤ Lib.idxFuncFrom badR true s f pos ↔ ¬ ((s.data.toList.drop pos).all okB = true)) := by
  intro f
  induction f with
  | zero =>
    intro pos h1 h2
    rw [Lib.idxFuncFrom_end _ _ _ _ _ (by omega), List.drop_eq_nil_of_le (by simp; omega)]
    simp
  | succ f ih =>
    intro pos h1 h2
    by_cases hp : pos < s.size
    · have hd : s.data.toList.drop pos = s[pos] :: s.data.toList.drop (pos + 1) := by
        rw [List.drop_eq_getElem_cons (by simpa using hp)]; rfl
      rw [hd, List.all_cons]
      unfold Lib.idxFuncFrom
      rw [if_pos hp]
      by_cases ha : s[pos].toNat < 128
      · rw [decode_ascii s pos hp ha]
        simp only
        by_cases hb : okB s[pos] = true
        · have hn : badR s[pos].toNat = false := by
            unfold okB at hb; unfold badR; simp at hb ⊢; omega
          rw [hn, if_neg (by simp), ih (pos + 1) (by omega) (by omega), hb]
          simp
        · have hn : badR s[pos].toNat = true := by
            unfold okB at hb; unfold badR; simp at hb ⊢; omega
          rw [hn, if_pos rfl]
          simp [hb]
      · have hh := decode_high s pos hp (by omega)
        have hn : badR (Utf8.decode s pos).1 = true := by unfold badR; simp; omega
        have hb : okB s[pos] = false := by unfold okB; simp; omega
        rw [hn, if_pos rfl, hb]
        simp
    · rw [Lib.idxFuncFrom_end _ _ _ _ _ hp, List.drop_eq_nil_of_le (by simp; omega)]
      simp
theorem named_pred (w : World) : PredAt Tryz.prog 100 #[] encR badR w := fun W r _ => by
  unfold FnGives
  show Calls Tryz.prog 100 #[.int .i32 r] W _
  by_cases h1 : r < 33
  · have e1 : badR r = true := by unfold badR; simp [h1]
    have d1 : decide ((r : Int) < 33) = true := by simp; omega
    rw [e1]; clear e1 h1
    go_enter Tryz.func100, Tryz.ntmps100
    go_wp2
    go_ret
    exact ⟨rfl, 0, rfl⟩
  · have d1 : decide ((r : Int) < 33) = false := by simp; omega
    by_cases h2 : 126 < r
    · have e1 : badR r = true := by unfold badR; simp [h2]
      have d2 : decide ((126 : Int) < (r : Int)) = true := by simp; omega
      rw [e1]; clear e1 h1 h2
      go_enter Tryz.func100, Tryz.ntmps100
      go_wp2
      go_ret
      exact ⟨rfl, 0, rfl⟩
    · have e1 : badR r = false := by unfold badR; simp; omega
      have d2 : decide ((126 : Int) < (r : Int)) = false := by simp; omega
      rw [e1]; clear e1 h1 h2
      go_enter Tryz.func100, Tryz.ntmps100
      go_wp2
      go_ret
      exact ⟨rfl, 0, rfl⟩
set_option maxRecDepth 100000 in
theorem named_any (s : ByteArray) (w : World) :
    Calls Tryz.prog 44 #[.string s] w fun e w' => e = .returned (.bool (nameB s.data.toList)) ∧ Below w.heap.size w w' := by
  have hl : s.data.toList.length = s.size := Array.length_toList
  have hc := Tryz.strings_ContainsFunc 100 #[] (enters_of Tryz.func100 (by kernel_rfl) rfl) badR s w (named_pred w)
  have hv : decide (0 ≤ Lib.idxFunc badR true s) = !(s.data.toList.all okB) := by
    have := idxBad s s.size 0 (by omega) (by omega)
    rw [List.drop_zero] at this
    unfold Lib.idxFunc
    cases h : s.data.toList.all okB with
    | true => rw [h] at this; simp at this; simp; omega
    | false => rw [h] at this; simp at this; simp [this]
  rw [hv] at hc
  unfold nameB
  rw [hl]
  generalize s.data.toList.all okB = b at hc ⊢
  clear hl hv
  by_cases h1 : 1 ≤ s.size
  · have d1 : decide (1 ≤ s.size) = true := decide_eq_true h1
    have g1 : decide ((1 : Int) ≤ (s.size : Int)) = true := by simp; omega
    by_cases h2 : s.size ≤ 10
    · have d2 : decide (s.size ≤ 10) = true := decide_eq_true h2
      have g2 : decide ((s.size : Int) ≤ 10) = true := by simp; omega
      rw [d1, d2]
      clear d1 d2
      cases b with
      | true =>
        go_enter Tryz.func44, Tryz.ntmps44
        go_wp2_with (go_at_call 99; refine hc.mono ?_; rintro e w1 ⟨rfl, hb1⟩)
        go_ret
        exact ⟨rfl, hb1⟩
      | false =>
        go_enter Tryz.func44, Tryz.ntmps44
        go_wp2_with (go_at_call 99; refine hc.mono ?_; rintro e w1 ⟨rfl, hb1⟩)
        go_ret
        exact ⟨rfl, hb1⟩
    · have d2 : decide (s.size ≤ 10) = false := decide_eq_false h2
      have g2 : decide ((s.size : Int) ≤ 10) = false := by simp; omega
      rw [d1, d2]
      clear d1 d2 hc
      go_enter Tryz.func44, Tryz.ntmps44
      go_wp2
      go_ret
      exact ⟨rfl, Below.refl _ _⟩
  · have d1 : decide (1 ≤ s.size) = false := decide_eq_false h1
    have g1 : decide ((1 : Int) ≤ (s.size : Int)) = false := by simp; omega
    rw [d1]
    clear d1 hc
    go_enter Tryz.func44, Tryz.ntmps44
    go_wp2
    go_ret
    exact ⟨rfl, Below.refl _ _⟩
theorem all_bytes {P : UInt8 → Prop} (h : ∀ n : Fin 256, P (UInt8.ofNat n.val)) (c : UInt8) : P c := by
  have := h ⟨c.toNat, c.toNat_lt⟩
  rwa [UInt8.ofNat_toNat] at this
theorem let_index (c : UInt8) : decide (0 ≤ Lib.indexByte (⟨#[97, 98, 99, 100, 101, 102, 103, 104, 105, 106, 107, 108, 109, 110, 111, 112, 113, 114, 115, 116, 117, 118, 119, 120, 121, 122, 65, 66, 67, 68, 69, 70, 71, 72, 73, 74, 75, 76, 77, 78, 79, 80, 81, 82, 83, 84, 85, 86, 87, 88, 89, 90]⟩ : ByteArray).data.toList c) = letB c :=
  all_bytes (P := fun c => decide (0 ≤ Lib.indexByte (⟨#[97, 98, 99, 100, 101, 102, 103, 104, 105, 106, 107, 108, 109, 110, 111, 112, 113, 114, 115, 116, 117, 118, 119, 120, 121, 122, 65, 66, 67, 68, 69, 70, 71, 72, 73, 74, 75, 76, 77, 78, 79, 80, 81, 82, 83, 84, 85, 86, 87, 88, 89, 90]⟩ : ByteArray).data.toList c) = letB c) (by decide +kernel) c
theorem letdig_has (c : UInt8) : ((⟨#[97, 98, 99, 100, 101, 102, 103, 104, 105, 106, 107, 108, 109, 110, 111, 112, 113, 114, 115, 116, 117, 118, 119, 120, 121, 122, 65, 66, 67, 68, 69, 70, 71, 72, 73, 74, 75, 76, 77, 78, 79, 80, 81, 82, 83, 84, 85, 86, 87, 88, 89, 90, 48, 49, 50, 51, 52, 53, 54, 55, 56, 57]⟩ : ByteArray).data.toList.contains c) = (letB c || digB c) :=
  all_bytes (P := fun c => ((⟨#[97, 98, 99, 100, 101, 102, 103, 104, 105, 106, 107, 108, 109, 110, 111, 112, 113, 114, 115, 116, 117, 118, 119, 120, 121, 122, 65, 66, 67, 68, 69, 70, 71, 72, 73, 74, 75, 76, 77, 78, 79, 80, 81, 82, 83, 84, 85, 86, 87, 88, 89, 90, 48, 49, 50, 51, 52, 53, 54, 55, 56, 57]⟩ : ByteArray).data.toList.contains c) = (letB c || digB c)) (by decide +kernel) c
theorem dropWhile_nil {α : Type} (p : α → Bool) (l : List α) : (l.dropWhile p).isEmpty = l.all p := by
  induction l with
  | nil => rfl
  | cons a l ih =>
    rw [List.dropWhile_cons, List.all_cons]
    cases h : p a with
    | true => simpa using ih
    | false => rfl
theorem dropWhile_all_not {α : Type} (p : α → Bool) (l : List α) (h : (l.dropWhile p).all p = true) : l.all p = true := by
  induction l with
  | nil => rfl
  | cons a l ih =>
    rw [List.dropWhile_cons] at h
    cases hp : p a with
    | true => rw [hp] at h; rw [List.all_cons, hp, ih (by simpa using h)]; rfl
    | false => rw [hp] at h; simp [hp] at h
theorem trimS_nil (l cs : List UInt8) : (Lib.trimS l cs).isEmpty = l.all (cs.contains ·) := by
  unfold Lib.trimS Lib.trimLeftS
  rw [dropWhile_nil]
  unfold Lib.trimRightS
  rw [List.all_reverse]
  cases h : (List.dropWhile (fun x => cs.contains x) l.reverse).all (fun x => cs.contains x) with
  | true =>
    have := dropWhile_all_not _ _ h
    rw [List.all_reverse] at this
    exact this.symm
  | false =>
    cases h2 : l.all (fun x => cs.contains x) with
    | false => rfl
    | true =>
      have h3 : (List.dropWhile (fun x => cs.contains x) l.reverse).isEmpty = true := by rw [dropWhile_nil, List.all_reverse]; exact h2
      rw [List.isEmpty_iff.1 h3] at h
      exact absurd h (by simp)
set_option maxRecDepth 100000 in
theorem trimF_any (s : ByteArray) (w : World) (hs : s.size ≤ 9223372036854775807) :
    Calls Tryz.prog 97 #[.string s, .string ⟨#[97, 98, 99, 100, 101, 102, 103, 104, 105, 106, 107, 108, 109, 110, 111, 112, 113, 114, 115, 116, 117, 118, 119, 120, 121, 122, 65, 66, 67, 68, 69, 70, 71, 72, 73, 74, 75, 76, 77, 78, 79, 80, 81, 82, 83, 84, 85, 86, 87, 88, 89, 90, 48, 49, 50, 51, 52, 53, 54, 55, 56, 57]⟩] w fun e w' => ∃ r : ByteArray, e = .returned (.string r) ∧ r.toList.isEmpty = s.data.toList.all (fun b => letB b || digB b) ∧ Below w.heap.size w w' := by
  refine (Any.strings_Trim_laid Tryz.lays160 (by kernel_rfl) s ⟨#[97, 98, 99, 100, 101, 102, 103, 104, 105, 106, 107, 108, 109, 110, 111, 112, 113, 114, 115, 116, 117, 118, 119, 120, 121, 122, 65, 66, 67, 68, 69, 70, 71, 72, 73, 74, 75, 76, 77, 78, 79, 80, 81, 82, 83, 84, 85, 86, 87, 88, 89, 90, 48, 49, 50, 51, 52, 53, 54, 55, 56, 57]⟩ w hs (by decide) (ascii_of_all (by decide +kernel))).mono fun e w' ⟨h1, h2⟩ => ⟨_, h1, ?_, h2⟩
  rw [ByteArray.toList_eq]
  show (Lib.trimS s.data.toList _).isEmpty = _
  rw [trimS_nil]
  congr 1
  funext b
  exact letdig_has b
set_option maxRecDepth 100000 in
set_option maxHeartbeats 1000000 in
theorem fontNamed_any (s : ByteArray) (w : World) :
    Calls Tryz.prog 41 #[.string s] w fun e w' => e = .returned (.bool (fnameB s.data.toList)) ∧ Below w.heap.size w w' := by
  have hl : s.data.toList.length = s.size := Array.length_toList
  have ht0 := fun h : s.size ≤ 10 => trimF_any s w (by omega)
  unfold fnameB
  rw [hl]
  clear hl
  by_cases h1 : 1 ≤ s.size
  · have d1 : decide (1 ≤ s.size) = true := decide_eq_true h1
    have g1 : decide ((1 : Int) ≤ (s.size : Int)) = true := by simp; omega
    by_cases h2 : s.size ≤ 10
    · have ht := ht0 h2
      clear ht0
      have d2 : decide (s.size ≤ 10) = true := decide_eq_true h2
      have g2 : decide ((s.size : Int) ≤ 10) = true := by simp; omega
      rw [d1, d2]
      have hh : (s.data.toList.head?.map letB).getD false = letB s[0] := by
        have : s.data.toList.head? = some s[0] := by
          rw [List.head?_eq_getElem?, List.getElem?_eq_getElem (by simp; omega)]; rfl
        rw [this]; rfl
      rw [hh]
      clear d1 d2 hh
      generalize s.data.toList.all (fun b => letB b || digB b) = al at ht ⊢
      have hi := fun W => Tryz.strings_IndexByte ⟨#[97, 98, 99, 100, 101, 102, 103, 104, 105, 106, 107, 108, 109, 110, 111, 112, 113, 114, 115, 116, 117, 118, 119, 120, 121, 122, 65, 66, 67, 68, 69, 70, 71, 72, 73, 74, 75, 76, 77, 78, 79, 80, 81, 82, 83, 84, 85, 86, 87, 88, 89, 90]⟩ (s[0].toNat : Int) W
      have hc8 : ((s[0].toNat : Int).toNat.toUInt8) = s[0] := by rw [Int.toNat_natCast]; exact UInt8.ofNat_toNat
      rw [hc8] at hi
      have hx := let_index s[0]
      generalize Lib.indexByte (⟨#[97, 98, 99, 100, 101, 102, 103, 104, 105, 106, 107, 108, 109, 110, 111, 112, 113, 114, 115, 116, 117, 118, 119, 120, 121, 122, 65, 66, 67, 68, 69, 70, 71, 72, 73, 74, 75, 76, 77, 78, 79, 80, 81, 82, 83, 84, 85, 86, 87, 88, 89, 90]⟩ : ByteArray).data.toList s[0] = ix at hi hx
      have HX := Lib.hid hx
      clear hx hc8
      cases al with
      | false =>
        go_enter Tryz.func41, Tryz.ntmps41
        go_wp2_with (go_at_call 97; refine ht.mono ?_; rintro e w1 ⟨r, rfl, hr, hb1⟩)
        all_goals first | (exfalso; simp_all; done) | skip
        go_ret
        exact ⟨rfl, hb1⟩
      | true =>
        cases hb : letB s[0] with
        | true =>
          rw [hb] at HX
          have g3 : decide (0 ≤ ix) = true := HX.out
          go_enter Tryz.func41, Tryz.ntmps41
          go_wp2_with (first | (go_at_call 97; refine ht.mono ?_; rintro e w1 ⟨r, rfl, hr, hb1⟩) | (go_at_call 92; refine (hi _).mono ?_; rintro e w2 ⟨rfl, rfl⟩))
          all_goals first | (exfalso; simp_all; done) | skip
          go_ret
          exact ⟨rfl, hb1⟩
        | false =>
          rw [hb] at HX
          have g3 : decide (0 ≤ ix) = false := HX.out
          go_enter Tryz.func41, Tryz.ntmps41
          go_wp2_with (first | (go_at_call 97; refine ht.mono ?_; rintro e w1 ⟨r, rfl, hr, hb1⟩) | (go_at_call 92; refine (hi _).mono ?_; rintro e w2 ⟨rfl, rfl⟩))
          all_goals first | (exfalso; simp_all; done) | skip
          go_ret
          exact ⟨rfl, hb1⟩
    · have d2 : decide (s.size ≤ 10) = false := decide_eq_false h2
      have g2 : decide ((s.size : Int) ≤ 10) = false := by simp; omega
      rw [d1, d2]
      clear d1 d2 ht0
      go_enter Tryz.func41, Tryz.ntmps41
      go_wp2
      go_ret
      exact ⟨rfl, Below.refl _ _⟩
  · have d1 : decide (1 ≤ s.size) = false := decide_eq_false h1
    have g1 : decide ((1 : Int) ≤ (s.size : Int)) = false := by simp; omega
    rw [d1]
    clear d1 ht0
    go_enter Tryz.func41, Tryz.ntmps41
    go_wp2
    go_ret
    exact ⟨rfl, Below.refl _ _⟩
end Go.Proofs.YtaifemkokfoadaaGreatDoor

namespace Go.Proofs.YtaifemkokfoadaaGreatDoor
open Go.RowKit Go.Proofs.YtaifemkokfoadaaGreatDoorW.PrintWords Go.Proofs.YtaifemkokfoadaaGreatDoorW.PrintMore Go.Proofs.YtaifemkokfoadaaGreatDoor.PX
set_option linter.unusedSimpArgs false
set_option linter.unusedVariables false
/-- A name's bytes from place i on. -/
def okFrom : List UInt8 → Nat → Bool
  | [], _ => true
  | b :: r, i => (letB b || (decide (i ≠ 0) && digB b)) && okFrom r (i + 1)
theorem okFrom_all : ∀ (l : List UInt8) (i : Nat), i ≠ 0 → okFrom l i = l.all fun b => letB b || digB b
  | [], _, _ => rfl
  | b :: r, i, h => by rw [okFrom, okFrom_all r (i + 1) (by omega), List.all_cons, decide_eq_true h, Bool.true_and]
theorem okFrom_fname (l : List UInt8) : (okFrom l 0 && (decide (1 ≤ l.length) && decide (l.length ≤ 10))) = fnameB l := by
  unfold fnameB
  cases l with
  | nil => rfl
  | cons b r =>
    rw [okFrom, okFrom_all r 1 (by omega), List.all_cons]
    simp only [List.head?_cons, Option.map_some, Option.getD_some, ne_eq, not_true_eq_false, decide_false, Bool.false_and, Bool.or_false]
    cases letB b <;> cases (r.all fun b => letB b || digB b) <;> cases decide (1 ≤ (b :: r).length) <;> cases decide ((b :: r).length ≤ 10) <;> cases digB b <;> rfl
set_option maxRecDepth 100000 in
set_option maxHeartbeats 4000000 in
theorem fname_q (s : ByteArray) (hs : s.size ≤ 140737488355328) (w : World) : Calls Tryz.prog 104 #[.string s] w fun e w' => e = .returned (.bool (fnameB s.data.toList)) ∧ Drawn0 w w' := by
  have hlen : s.data.toList.length = s.size := Array.length_toList
  have h0 := okFrom_fname s.data.toList
  generalize fnameB s.data.toList = V at h0 ⊢
  have hbt : ∀ (i : Nat) (h : i < s.data.toList.length), bt s (i : Int) = ((s.data.toList[i]).toNat : Int) := fun i h => by
    have := bt_bar' s.data.toList i h
    rwa [bar_of] at this
  have HBT := Aside0.mk hbt
  clear hbt
  generalize s.data.toList = l at h0 hlen HBT
  have HX := Aside0.mk (bt_at s)
  go_enter Tryz.func104, Tryz.ntmps104
  go_wp2
  go_loopw [3] (fun y W => ∃ i : Nat, y = .int .i64 (i : Int) ∧ i ≤ s.size ∧ W = w ∧ Aside0 ((okFrom (l.drop i) i && (decide (1 ≤ l.length) && decide (l.length ≤ 10))) = V)) (fun y _ => s.size - (intOf y).toNat)
  case atStart => exact ⟨0, rfl, Nat.zero_le _, rfl, ⟨by rw [List.drop_zero]; exact h0⟩⟩
  case round =>
    clear h0
    obtain ⟨i, rfl, hi, rfl, HV⟩ := hrel
    by_cases hlt : i < s.size
    · have h1 : i < l.length := by omega
      have hn := HBT.out i h1
      have hv := HV.out
      rw [List.drop_eq_getElem_cons h1, okFrom] at hv
      generalize l[i] = b at hn hv
      have hx := HX.out (i : Int)
      have hx0 : (0 : Int) ≤ bt s (i : Int) := by omega
      rw [Int.toNat_natCast] at hx
      generalize bt s (i : Int) = n at hn hx hx0
      have p1 : ((i : Int) < (s.size : Int)) = True := eq_true (by omega)
      have p0 : ((0 : Int) ≤ (i : Int)) = True := eq_true (by omega)
      have p3 : i < s.size := hlt
      have HV2 := Aside0.mk hv
      have HN := Aside0.mk hn
      clear hv HV HBT HX hn
      have hc : (97 ≤ n ∧ n ≤ 122) ∨ 122 < n ∨ (91 ≤ n ∧ n ≤ 96) ∨ (65 ≤ n ∧ n ≤ 90) ∨ (58 ≤ n ∧ n ≤ 64) ∨ (48 ≤ n ∧ n ≤ 57) ∨ n < 48 := by omega
      rcases hc with hc | hc | hc | hc | hc | hc | hc
      · have d0 : decide (97 ≤ n) = true := decide_eq_true (by omega)
        have d1 : decide (n ≤ 122) = true := decide_eq_true (by omega)
        have d2 : decide (65 ≤ n) = true := decide_eq_true (by omega)
        have d3 : decide (n ≤ 90) = false := decide_eq_false (by omega)
        have d4 : decide (n < 48) = false := decide_eq_false (by omega)
        have d5 : decide (57 < n) = true := decide_eq_true (by omega)
        have e1 : letB b = true := by have := HN.out; unfold letB; first | (rw [decide_eq_true (by omega : 97 ≤ b.toNat), decide_eq_true (by omega : b.toNat ≤ 122)]; rfl) | (rw [decide_eq_true (by omega : 65 ≤ b.toNat), decide_eq_true (by omega : b.toNat ≤ 90), Bool.and_true, Bool.or_true])
        have hv2 := HV2.out
        rw [e1, Bool.true_or, Bool.true_and] at hv2
        clear hc
        go_wp2
        go_roundw
        case rel => exact ⟨i + 1, by first | rfl | (simp; done) | go_num, by omega, by first | rfl | trivial, ⟨hv2⟩⟩
        case measure => simp [intOf]; omega
      · have d0 : decide (97 ≤ n) = true := decide_eq_true (by omega)
        have d1 : decide (n ≤ 122) = false := decide_eq_false (by omega)
        have d2 : decide (65 ≤ n) = true := decide_eq_true (by omega)
        have d3 : decide (n ≤ 90) = false := decide_eq_false (by omega)
        have d4 : decide (n < 48) = false := decide_eq_false (by omega)
        have d5 : decide (57 < n) = true := decide_eq_true (by omega)
        have e1 : letB b = false := by have := HN.out; unfold letB; simp only [Bool.or_eq_false_iff, Bool.and_eq_false_iff, decide_eq_false_iff_not]; omega
        have e2 : digB b = false := by have := HN.out; unfold digB; simp only [Bool.and_eq_false_iff, decide_eq_false_iff_not]; omega
        by_cases hi0 : i = 0
        · have d9 : decide ((i : Int) = 0) = true := decide_eq_true (by omega)
          have d8 : ((i : Int) == 0) = true := beq_iff_eq.2 (by omega)
          have hv2 : false = V := by rw [← HV2.out, e1, decide_eq_false (by omega : ¬ i ≠ 0)]; rfl
          subst hv2
          clear hc
          try clear hi0
          try clear d9
          go_wp2
          go_ret
          exact ⟨rfl, Drawn0.refl _⟩
        · have d9 : decide ((i : Int) = 0) = false := decide_eq_false (by omega)
          have d8 : ((i : Int) == 0) = false := beq_eq_false_iff_ne.2 (by omega)
          have hv2 : false = V := by rw [← HV2.out, e1, e2, Bool.and_false]; rfl
          subst hv2
          clear hc
          try clear hi0
          try clear d9
          go_wp2
          go_ret
          exact ⟨rfl, Drawn0.refl _⟩
      · have d0 : decide (97 ≤ n) = false := decide_eq_false (by omega)
        have d1 : decide (n ≤ 122) = true := decide_eq_true (by omega)
        have d2 : decide (65 ≤ n) = true := decide_eq_true (by omega)
        have d3 : decide (n ≤ 90) = false := decide_eq_false (by omega)
        have d4 : decide (n < 48) = false := decide_eq_false (by omega)
        have d5 : decide (57 < n) = true := decide_eq_true (by omega)
        have e1 : letB b = false := by have := HN.out; unfold letB; simp only [Bool.or_eq_false_iff, Bool.and_eq_false_iff, decide_eq_false_iff_not]; omega
        have e2 : digB b = false := by have := HN.out; unfold digB; simp only [Bool.and_eq_false_iff, decide_eq_false_iff_not]; omega
        by_cases hi0 : i = 0
        · have d9 : decide ((i : Int) = 0) = true := decide_eq_true (by omega)
          have d8 : ((i : Int) == 0) = true := beq_iff_eq.2 (by omega)
          have hv2 : false = V := by rw [← HV2.out, e1, decide_eq_false (by omega : ¬ i ≠ 0)]; rfl
          subst hv2
          clear hc
          try clear hi0
          try clear d9
          go_wp2
          go_ret
          exact ⟨rfl, Drawn0.refl _⟩
        · have d9 : decide ((i : Int) = 0) = false := decide_eq_false (by omega)
          have d8 : ((i : Int) == 0) = false := beq_eq_false_iff_ne.2 (by omega)
          have hv2 : false = V := by rw [← HV2.out, e1, e2, Bool.and_false]; rfl
          subst hv2
          clear hc
          try clear hi0
          try clear d9
          go_wp2
          go_ret
          exact ⟨rfl, Drawn0.refl _⟩
      · have d0 : decide (97 ≤ n) = false := decide_eq_false (by omega)
        have d1 : decide (n ≤ 122) = true := decide_eq_true (by omega)
        have d2 : decide (65 ≤ n) = true := decide_eq_true (by omega)
        have d3 : decide (n ≤ 90) = true := decide_eq_true (by omega)
        have d4 : decide (n < 48) = false := decide_eq_false (by omega)
        have d5 : decide (57 < n) = true := decide_eq_true (by omega)
        have e1 : letB b = true := by have := HN.out; unfold letB; first | (rw [decide_eq_true (by omega : 97 ≤ b.toNat), decide_eq_true (by omega : b.toNat ≤ 122)]; rfl) | (rw [decide_eq_true (by omega : 65 ≤ b.toNat), decide_eq_true (by omega : b.toNat ≤ 90), Bool.and_true, Bool.or_true])
        have hv2 := HV2.out
        rw [e1, Bool.true_or, Bool.true_and] at hv2
        clear hc
        go_wp2
        go_roundw
        case rel => exact ⟨i + 1, by first | rfl | (simp; done) | go_num, by omega, by first | rfl | trivial, ⟨hv2⟩⟩
        case measure => simp [intOf]; omega
      · have d0 : decide (97 ≤ n) = false := decide_eq_false (by omega)
        have d1 : decide (n ≤ 122) = true := decide_eq_true (by omega)
        have d2 : decide (65 ≤ n) = false := decide_eq_false (by omega)
        have d3 : decide (n ≤ 90) = true := decide_eq_true (by omega)
        have d4 : decide (n < 48) = false := decide_eq_false (by omega)
        have d5 : decide (57 < n) = true := decide_eq_true (by omega)
        have e1 : letB b = false := by have := HN.out; unfold letB; simp only [Bool.or_eq_false_iff, Bool.and_eq_false_iff, decide_eq_false_iff_not]; omega
        have e2 : digB b = false := by have := HN.out; unfold digB; simp only [Bool.and_eq_false_iff, decide_eq_false_iff_not]; omega
        by_cases hi0 : i = 0
        · have d9 : decide ((i : Int) = 0) = true := decide_eq_true (by omega)
          have d8 : ((i : Int) == 0) = true := beq_iff_eq.2 (by omega)
          have hv2 : false = V := by rw [← HV2.out, e1, decide_eq_false (by omega : ¬ i ≠ 0)]; rfl
          subst hv2
          clear hc
          try clear hi0
          try clear d9
          go_wp2
          go_ret
          exact ⟨rfl, Drawn0.refl _⟩
        · have d9 : decide ((i : Int) = 0) = false := decide_eq_false (by omega)
          have d8 : ((i : Int) == 0) = false := beq_eq_false_iff_ne.2 (by omega)
          have hv2 : false = V := by rw [← HV2.out, e1, e2, Bool.and_false]; rfl
          subst hv2
          clear hc
          try clear hi0
          try clear d9
          go_wp2
          go_ret
          exact ⟨rfl, Drawn0.refl _⟩
      · have d0 : decide (97 ≤ n) = false := decide_eq_false (by omega)
        have d1 : decide (n ≤ 122) = true := decide_eq_true (by omega)
        have d2 : decide (65 ≤ n) = false := decide_eq_false (by omega)
        have d3 : decide (n ≤ 90) = true := decide_eq_true (by omega)
        have d4 : decide (n < 48) = false := decide_eq_false (by omega)
        have d5 : decide (57 < n) = false := decide_eq_false (by omega)
        have e1 : letB b = false := by have := HN.out; unfold letB; simp only [Bool.or_eq_false_iff, Bool.and_eq_false_iff, decide_eq_false_iff_not]; omega
        have e2 : digB b = true := by have := HN.out; unfold digB; rw [decide_eq_true (by omega : 48 ≤ b.toNat), decide_eq_true (by omega : b.toNat ≤ 57)]; rfl
        by_cases hi0 : i = 0
        · have d9 : decide ((i : Int) = 0) = true := decide_eq_true (by omega)
          have d8 : ((i : Int) == 0) = true := beq_iff_eq.2 (by omega)
          have hv2 : false = V := by rw [← HV2.out, e1, decide_eq_false (by omega : ¬ i ≠ 0)]; rfl
          subst hv2
          clear hc
          try clear hi0
          try clear d9
          go_wp2
          go_ret
          exact ⟨rfl, Drawn0.refl _⟩
        · have d9 : decide ((i : Int) = 0) = false := decide_eq_false (by omega)
          have d8 : ((i : Int) == 0) = false := beq_eq_false_iff_ne.2 (by omega)
          have hv2 := HV2.out
          rw [e1, e2, decide_eq_true (by omega : i ≠ 0), Bool.true_and, Bool.or_true, Bool.true_and] at hv2
          clear hc
          go_wp2
          go_roundw
          case rel => exact ⟨i + 1, by first | rfl | (simp; done) | go_num, by omega, by first | rfl | trivial, ⟨hv2⟩⟩
          case measure => simp [intOf]; omega
      · have d0 : decide (97 ≤ n) = false := decide_eq_false (by omega)
        have d1 : decide (n ≤ 122) = true := decide_eq_true (by omega)
        have d2 : decide (65 ≤ n) = false := decide_eq_false (by omega)
        have d3 : decide (n ≤ 90) = true := decide_eq_true (by omega)
        have d4 : decide (n < 48) = true := decide_eq_true (by omega)
        have d5 : decide (57 < n) = false := decide_eq_false (by omega)
        have e1 : letB b = false := by have := HN.out; unfold letB; simp only [Bool.or_eq_false_iff, Bool.and_eq_false_iff, decide_eq_false_iff_not]; omega
        have e2 : digB b = false := by have := HN.out; unfold digB; simp only [Bool.and_eq_false_iff, decide_eq_false_iff_not]; omega
        by_cases hi0 : i = 0
        · have d9 : decide ((i : Int) = 0) = true := decide_eq_true (by omega)
          have d8 : ((i : Int) == 0) = true := beq_iff_eq.2 (by omega)
          have hv2 : false = V := by rw [← HV2.out, e1, decide_eq_false (by omega : ¬ i ≠ 0)]; rfl
          subst hv2
          clear hc
          try clear hi0
          try clear d9
          go_wp2
          go_ret
          exact ⟨rfl, Drawn0.refl _⟩
        · have d9 : decide ((i : Int) = 0) = false := decide_eq_false (by omega)
          have d8 : ((i : Int) == 0) = false := beq_eq_false_iff_ne.2 (by omega)
          have hv2 : false = V := by rw [← HV2.out, e1, e2, Bool.and_false]; rfl
          subst hv2
          clear hc
          try clear hi0
          try clear d9
          go_wp2
          go_ret
          exact ⟨rfl, Drawn0.refl _⟩
    · obtain rfl : i = s.size := by omega
      have hv := HV.out
      rw [List.drop_eq_nil_of_le (by omega), okFrom, Bool.true_and, hlen] at hv
      have q2 : decide ((s.size : Int) < (s.size : Int)) = false := decide_eq_false (by omega)
      by_cases g1 : 1 ≤ s.size
      · have d1 : decide ((1 : Int) ≤ (s.size : Int)) = true := decide_eq_true (by omega)
        have hv2 : decide ((s.size : Int) ≤ 10) = V := by rw [← hv, decide_eq_true g1, Bool.true_and]; exact decide_eq_decide.2 (by omega)
        clear hv HV HBT HX
        go_wp2
        go_ret
        exact ⟨by first | (rw [← hv2]; done) | (rw [hv2]; done) | (simp [hv2]; done), Drawn0.refl _⟩
      · have d1 : decide ((1 : Int) ≤ (s.size : Int)) = false := decide_eq_false (by omega)
        have hv2 : false = V := by rw [← hv, decide_eq_false g1]; rfl
        subst hv2
        clear hv HV HBT HX
        go_wp2
        go_ret
        exact ⟨rfl, Drawn0.refl _⟩
end Go.Proofs.YtaifemkokfoadaaGreatDoor

namespace Go.Proofs.YtaifemkokfoadaaGreatDoor
open Go.RowKit Go.Proofs.YtaifemkokfoadaaGreatDoorW.PrintWords Go.Proofs.YtaifemkokfoadaaGreatDoorW.PrintMore Go.Proofs.YtaifemkokfoadaaGreatDoor.PX
set_option linter.unusedSimpArgs false
set_option linter.unusedVariables false
theorem nameL (l : List UInt8) (hl : l.length ≤ 140737488355328) : ∀ d i, l.length - i = d → i ≤ l.length → Ev (fun k => frisketref07_Name.l0 k (bar l) (i : Int)) ((l.drop i).all okB && (decide (1 ≤ l.length) && decide (l.length ≤ 10))) := by
  intro d
  induction d with
  | zero =>
    intro i hd hi
    have e : l.drop i = [] := List.drop_eq_nil_of_le (by omega)
    rw [e]
    refine Ev.step (fun k => by rw [frisketref07_Name.l0, bar_size]) (evNeg (by omega) ?_)
    by_cases h : 1 ≤ l.length
    · refine evPos (by omega) (evEq ?_ (Ev.now _))
      rw [List.all_nil, decide_eq_true h, Bool.true_and, Bool.true_and]
      exact decide_eq_decide.2 (by omega)
    · refine evNeg (by omega) (evEq ?_ (Ev.now _))
      rw [List.all_nil, decide_eq_false h]; rfl
  | succ d ih =>
    intro i hd hi
    have h1 : i < l.length := by omega
    have q0 : (0 : Int) ≤ (i : Int) := by omega
    have q1 : (i : Int) < (l.length : Int) := by omega
    have hw : wrap64 ((i : Int) + 1) = ((i + 1 : Nat) : Int) := (w64 (by omega) (by omega)).trans (by omega)
    have hr := ih (i + 1) (by omega) (by omega)
    have hb := bt_bar' l i h1
    rw [List.drop_eq_getElem_cons h1, List.all_cons]
    refine Ev.step (fun k => by rw [frisketref07_Name.l0, bar_size, hb, hw]) (evPos q1 (evPos q0 ?_))
    clear hb hw
    generalize l[i] = b at *
    by_cases a1 : b.toNat < 33
    · refine evPos (by omega) (evEq ?_ (Ev.now _))
      have : okB b = false := by unfold okB; rw [decide_eq_false (by omega : ¬ 33 ≤ b.toNat)]; rfl
      rw [this]; rfl
    · refine evNeg (by omega) ?_
      by_cases a2 : 126 < b.toNat
      · refine evPos (by omega) (evEq ?_ (Ev.now _))
        have : okB b = false := by unfold okB; rw [decide_eq_false (by omega : ¬ b.toNat ≤ 126), Bool.and_false]
        rw [this]; rfl
      · refine evNeg (by omega) (evEq ?_ hr)
        have : okB b = true := by unfold okB; rw [decide_eq_true (by omega : 33 ≤ b.toNat), decide_eq_true (by omega : b.toNat ≤ 126)]; rfl
        rw [this, Bool.true_and]
theorem name_ev (l : List UInt8) (hl : l.length ≤ 140737488355328) : Ev (fun k => frisketref07_Name.f k (bar l)) (nameB l) := by
  have h1 : Ev (fun k => frisketref07_Name.l0 k (bar l) 0) _ := nameL l hl _ 0 rfl (Nat.zero_le _)
  refine Ev.congr (fun k => by rw [frisketref07_Name.f]) (evEq ?_ h1)
  rw [List.drop_zero]
  unfold nameB
  rw [Bool.and_comm, Bool.and_assoc]
theorem name_q (s : ByteArray) (hs : s.size ≤ 140737488355328) (W : World) : Calls Tryz.prog 105 #[.string s] W fun e w' => e = .returned (.bool (nameB s.data.toList)) ∧ Drawn0 W w' := by
  obtain ⟨k, hk⟩ := (name_ev s.data.toList (by rw [Array.length_toList]; exact hs)).rounds
  rw [bar_of] at hk
  exact frisketref07_Name.calls k s _ W hk
end Go.Proofs.YtaifemkokfoadaaGreatDoor

namespace Go.Proofs.YtaifemkokfoadaaGreatDoor.PX
open Go.RowKit Go.Proofs.YtaifemkokfoadaaGreatDoorW.PrintWords Go.Proofs.YtaifemkokfoadaaGreatDoorW.PrintLast Go.Proofs.YtaifemkokfoadaaGreatDoorW.PrintMore
attribute [local go_sem] max2_int min2_int max_two min_two max_three min_three max_four min_four   -- for this text's walks alone
set_option linter.unusedVariables false
set_option linter.unusedSimpArgs false
def frisketref07_Has.l0 : Nat → ByteArray → Int → ByteArray → Bool → Int → List (S81) → List (S83) → List (S84) → Option (Bool)
 | 0, _, _, _, _, _, _, _, _ => none
 | k + 1, x1, x5, x379000, x379001, x379002, x379003, x379004, x379005 => if x5 < (x379003.length : Int) then (if 0 ≤ x5 then (if ((rd_T81 x379003 x5).f0).toList = x1.toList then (some true) else (frisketref07_Has.l0 k x1 (wrap64 (x5 + 1)) x379000 x379001 x379002 x379003 x379004 x379005)) else (none)) else (some false)
def frisketref07_Has.f (k : Nat) (a0_0 : ByteArray) (a0_1 : Bool) (a0_2 : Int) (l0_3 : List (S81)) (l0_4 : List (S83)) (l0_5 : List (S84)) (a1 : ByteArray) : Option (Bool) := frisketref07_Has.l0 k a1 0 a0_0 a0_1 a0_2 l0_3 l0_4 l0_5
set_option maxHeartbeats 8000000 in
set_option maxRecDepth 100000 in
theorem frisketref07_Has.calls (k : Nat) (a0_0 : ByteArray) (a0_1 : Bool) (a0_2 : Int) (A0_3 : Option Addr) (c0_3 : Nat) (l0_3 : List (S81)) (A0_4 : Option Addr) (c0_4 : Nat) (l0_4 : List (S83)) (A0_5 : Option Addr) (c0_5 : Nat) (l0_5 : List (S84)) (a1 : ByteArray) (r : Bool) (w : World) (hr0_3 : Kd.C k81 w A0_3 l0_3.length l0_3) (hc0_3 : l0_3.length ≤ c0_3) (hr0_4 : Kd.C k83 w A0_4 l0_4.length l0_4) (hc0_4 : l0_4.length ≤ c0_4) (hr0_5 : Kd.C k84 w A0_5 l0_5.length l0_5) (hc0_5 : l0_5.length ≤ c0_5) (h : frisketref07_Has.f k a0_0 a0_1 a0_2 l0_3 l0_4 l0_5 a1 = some r) :
  Calls Tryz.prog 63 #[.agg #[.string a0_0, .bool a0_1, .int .i64 a0_2, .slice A0_3 l0_3.length c0_3, .slice A0_4 l0_4.length c0_4, .slice A0_5 l0_5.length c0_5], .string a1] w fun e w' => e = .returned (.bool r) ∧ Below w.heap.size w w' := by
 have hu44 := Tryz.underlying44
 have HR0_3 := Aside0.mk hr0_3
 have HC0_3 := Aside0.mk hc0_3
 clear hr0_3 hc0_3
 have HR0_4 := Aside0.mk hr0_4
 have HC0_4 := Aside0.mk hc0_4
 clear hr0_4 hc0_4
 have HR0_5 := Aside0.mk hr0_5
 have HC0_5 := Aside0.mk hc0_5
 clear hr0_5 hc0_5
 have HB := Aside0.mk (Below.refl w.heap.size w)
 have H : (frisketref07_Has.l0 k a1 0 a0_0 a0_1 a0_2 l0_3 l0_4 l0_5) = some r := h
 clear h
 have H' := Aside0.mk H
 clear H
 go_enter Tryz.func63, Tryz.ntmps63
 go_wp2_with (first | ((with_reducible refine gate_dst (N := 2) rfl ?_); refine box_event ?hg (N := 2) ?hd (cs := #[.string a0_0, .bool a0_1, .int .i64 a0_2, .slice A0_3 l0_3.length c0_3, .slice A0_4 l0_4.length c0_4, .slice A0_5 l0_5.length c0_5]) (t := 44) ?hr ?_; (case hd => rfl); (case hg => rfl); (case hr => first | (go_simp; done) | (go_simp; rfl)); intro gb378 hg w3 hbox hb; have n0_ := Aside0.mk (below_step (by repeat (first | (with_reducible first | exact HB.out | apply below_alloc | apply pw_below_drewN | apply below_drew1) | exact HB.out)) hb); have n1_ := Aside0.mk (hbox); have n2_ := Aside0.mk ((by rw [hg]; exact (below_size (by repeat (first | (with_reducible first | exact HB.out | apply below_alloc | apply pw_below_drewN | apply below_drew1) | exact HB.out))) : w.heap.size ≤ gb378)); have n3_ := Aside0.mk ((by rw [hg]; exact (below_size (by repeat (first | (with_reducible first | exact HB.out | apply below_alloc | apply pw_below_drewN | apply below_drew1) | exact HB.out))) : w.heap.size ≤ gb378)); clear HB; have HB := n0_; have BK378 := n1_; have GW378 := n2_; have GE378 := n3_; clear n0_ n1_ n2_ n3_; clear hb hbox hg))
 go_loopg [5] k (fun kq v5 w' => ∃ (x5_1 : Int), v5 = .int .i64 x5_1 ∧ Aside0 (frisketref07_Has.l0 kq a1 x5_1 a0_0 a0_1 a0_2 l0_3 l0_4 l0_5 = some r) ∧ Aside0 (kq ≤ k) ∧ Aside0 (w'.heap[gb378]? = some (.cells #[.string a0_0, .bool a0_1, .int .i64 a0_2, (.slice A0_3 l0_3.length c0_3), (.slice A0_4 l0_4.length c0_4), (.slice A0_5 l0_5.length c0_5)] 44 (0, 0))) ∧ Aside0 (Below w.heap.size w w'))
 case atStart => exact ⟨(0), (by first | rfl | (simp; done) | (simp [*]; done)), H', ⟨Nat.le_refl _⟩, ⟨by (with_reducible repeat (first | refine blk_drewN ?_ _ | refine blk_drew ?_ | refine blk_alloc ?_ _)); exact BK378.out⟩, ⟨by repeat (first | (with_reducible first | exact HB.out | apply below_alloc | apply pw_below_drewN | apply below_drew1 | refine below_set ?_ GE378.out) | exact HB.out)⟩⟩
 case round =>
  clear H'
  try clear p2
  obtain ⟨x5_1, rfl, HA, HK1, BK378, HB⟩ := hrel
  cases gk with
  | zero => exact absurd HA.out (by simp [frisketref07_Has.l0])
  | succ k1 =>
   have H := HA.out
   clear HA
   simp only [frisketref07_Has.l0] at H
   by_cases c4 : x5_1 < (l0_3.length : Int)
   ·rw [if_pos c4] at H
    have c4b0 : decide (x5_1 < (l0_3.length : Int)) = true := decide_eq_true c4
    clear c4
    by_cases c5 : 0 ≤ x5_1
    ·rw [if_pos c5] at H
     have c5b0 : decide (0 ≤ x5_1) = true := decide_eq_true c5
     clear c5
     by_cases c6 : ((rd_T81 l0_3 x5_1).f0).toList = a1.toList
     ·rw [if_pos c6] at H
      have c6b0 : (((rd_T81 l0_3 x5_1).f0).toList == a1.toList) = true := beq_iff_eq.mpr c6
      have c6b1 : (((rd_T81 l0_3 x5_1).f0).toList != a1.toList) = false := bne_eq_false_iff_eq.mpr c6
      clear c6
      obtain rfl := Option.some.inj H
      have hcz7_0 : wr.cell? ⟨gb378, 0, none⟩ = some (.string a0_0) := (blk_cell BK378.out 0).trans rfl
      have hcz7_1 : wr.cell? ⟨gb378, 1, none⟩ = some (.bool a0_1) := (blk_cell BK378.out 1).trans rfl
      have hcz7_2 : wr.cell? ⟨gb378, 2, none⟩ = some (.int .i64 a0_2) := (blk_cell BK378.out 2).trans rfl
      have hcz7_3 : wr.cell? ⟨gb378, 3, none⟩ = some (.slice A0_3 l0_3.length c0_3) := (blk_cell BK378.out 3).trans rfl
      have hcz7_4 : wr.cell? ⟨gb378, 4, none⟩ = some (.slice A0_4 l0_4.length c0_4) := (blk_cell BK378.out 4).trans rfl
      have hcz7_5 : wr.cell? ⟨gb378, 5, none⟩ = some (.slice A0_5 l0_5.length c0_5) := (blk_cell BK378.out 5).trans rfl
      have hfz7_0 := blk_frozen BK378.out 0
      have hfz7_1 := blk_frozen BK378.out 1
      have hfz7_2 := blk_frozen BK378.out 2
      have hfz7_3 := blk_frozen BK378.out 3
      have hfz7_4 := blk_frozen BK378.out 4
      have hfz7_5 := blk_frozen BK378.out 5
      have p379 : 0 ≤ (x5_1 : Int) := of_decide_eq_true (by first | (with_reducible assumption) | assumption)
      have q379 : x5_1 < (l0_3.length : Int) := of_decide_eq_true (by first | (with_reducible assumption) | assumption)
      obtain ⟨ad379, e379, hx379_0, hx379_1⟩ := at_T81 HR0_3.out x5_1 p379 q379
      cases e379
      replace hx379_0 := (HB.out.cell (World.block_lt_of_cell? w _ hx379_0)).trans hx379_0
      replace hx379_1 := (HB.out.cell (World.block_lt_of_cell? w _ hx379_1)).trans hx379_1
      replace p379 := eq_true p379
      replace q379 := eq_true q379
      go_wp2
      go_ret
      exact ⟨by first | rfl | (simp [errW_none, errW_some] <;> rfl) | (simp [*, errW_none, errW_some] <;> rfl), by repeat (first | (with_reducible first | exact HB.out | apply below_alloc | apply pw_below_drewN | apply below_drew1 | refine below_set ?_ GE378.out) | exact HB.out)⟩
     ·rw [if_neg c6] at H
      have c6b0 : (((rd_T81 l0_3 x5_1).f0).toList == a1.toList) = false := beq_eq_false_iff_ne.mpr c6
      have c6b1 : (((rd_T81 l0_3 x5_1).f0).toList != a1.toList) = true := bne_iff_ne.mpr c6
      have H' := Aside0.mk H
      clear H
      have hcz8_0 : wr.cell? ⟨gb378, 0, none⟩ = some (.string a0_0) := (blk_cell BK378.out 0).trans rfl
      have hcz8_1 : wr.cell? ⟨gb378, 1, none⟩ = some (.bool a0_1) := (blk_cell BK378.out 1).trans rfl
      have hcz8_2 : wr.cell? ⟨gb378, 2, none⟩ = some (.int .i64 a0_2) := (blk_cell BK378.out 2).trans rfl
      have hcz8_3 : wr.cell? ⟨gb378, 3, none⟩ = some (.slice A0_3 l0_3.length c0_3) := (blk_cell BK378.out 3).trans rfl
      have hcz8_4 : wr.cell? ⟨gb378, 4, none⟩ = some (.slice A0_4 l0_4.length c0_4) := (blk_cell BK378.out 4).trans rfl
      have hcz8_5 : wr.cell? ⟨gb378, 5, none⟩ = some (.slice A0_5 l0_5.length c0_5) := (blk_cell BK378.out 5).trans rfl
      have hfz8_0 := blk_frozen BK378.out 0
      have hfz8_1 := blk_frozen BK378.out 1
      have hfz8_2 := blk_frozen BK378.out 2
      have hfz8_3 := blk_frozen BK378.out 3
      have hfz8_4 := blk_frozen BK378.out 4
      have hfz8_5 := blk_frozen BK378.out 5
      have p379 : 0 ≤ (x5_1 : Int) := of_decide_eq_true (by first | (with_reducible assumption) | assumption)
      have q379 : x5_1 < (l0_3.length : Int) := of_decide_eq_true (by first | (with_reducible assumption) | assumption)
      obtain ⟨ad379, e379, hx379_0, hx379_1⟩ := at_T81 HR0_3.out x5_1 p379 q379
      cases e379
      replace hx379_0 := (HB.out.cell (World.block_lt_of_cell? w _ hx379_0)).trans hx379_0
      replace hx379_1 := (HB.out.cell (World.block_lt_of_cell? w _ hx379_1)).trans hx379_1
      replace p379 := eq_true p379
      replace q379 := eq_true q379
      go_wp2
      go_roundg k1
      case measure => have := HK1.out; omega
      case rel => exact ⟨(wrap64 (x5_1 + 1)), (by first | rfl | (simp; done) | (simp [*]; done)), H', ⟨by have := HK1.out; omega⟩, ⟨by (with_reducible repeat (first | refine blk_drewN ?_ _ | refine blk_drew ?_ | refine blk_alloc ?_ _)); exact BK378.out⟩, ⟨by repeat (first | (with_reducible first | exact HB.out | apply below_alloc | apply pw_below_drewN | apply below_drew1 | refine below_set ?_ GE378.out) | exact HB.out)⟩⟩
    ·rw [if_neg c5] at H
     exact absurd H (by simp)
   ·rw [if_neg c4] at H
    have c4b0 : decide (x5_1 < (l0_3.length : Int)) = false := decide_eq_false c4
    clear c4
    obtain rfl := Option.some.inj H
    have hcz9_0 : wr.cell? ⟨gb378, 0, none⟩ = some (.string a0_0) := (blk_cell BK378.out 0).trans rfl
    have hcz9_1 : wr.cell? ⟨gb378, 1, none⟩ = some (.bool a0_1) := (blk_cell BK378.out 1).trans rfl
    have hcz9_2 : wr.cell? ⟨gb378, 2, none⟩ = some (.int .i64 a0_2) := (blk_cell BK378.out 2).trans rfl
    have hcz9_3 : wr.cell? ⟨gb378, 3, none⟩ = some (.slice A0_3 l0_3.length c0_3) := (blk_cell BK378.out 3).trans rfl
    have hcz9_4 : wr.cell? ⟨gb378, 4, none⟩ = some (.slice A0_4 l0_4.length c0_4) := (blk_cell BK378.out 4).trans rfl
    have hcz9_5 : wr.cell? ⟨gb378, 5, none⟩ = some (.slice A0_5 l0_5.length c0_5) := (blk_cell BK378.out 5).trans rfl
    have hfz9_0 := blk_frozen BK378.out 0
    have hfz9_1 := blk_frozen BK378.out 1
    have hfz9_2 := blk_frozen BK378.out 2
    have hfz9_3 := blk_frozen BK378.out 3
    have hfz9_4 := blk_frozen BK378.out 4
    have hfz9_5 := blk_frozen BK378.out 5
    go_wp2
    go_ret
    exact ⟨by first | rfl | (simp [errW_none, errW_some] <;> rfl) | (simp [*, errW_none, errW_some] <;> rfl), by repeat (first | (with_reducible first | exact HB.out | apply below_alloc | apply pw_below_drewN | apply below_drew1 | refine below_set ?_ GE378.out) | exact HB.out)⟩
end Go.Proofs.YtaifemkokfoadaaGreatDoor.PX

namespace Go.Proofs.YtaifemkokfoadaaGreatDoor.PX
open Go.RowKit Go.Proofs.YtaifemkokfoadaaGreatDoorW.PrintWords Go.Proofs.YtaifemkokfoadaaGreatDoorW.PrintLast Go.Proofs.YtaifemkokfoadaaGreatDoorW.PrintMore
attribute [local go_sem] max2_int min2_int max_two min_two max_three min_three max_four min_four   -- for this text's walks alone
set_option linter.unusedVariables false
set_option linter.unusedSimpArgs false
def frisketref07_ahead.f (a0 : ByteArray) (a1 : ByteArray) (a2 : ByteArray) (a3 : ByteArray) : Option (Bool) := if (Op.bytesLess a0.toList a2.toList) = true then (some true) else (if a0.toList = a2.toList then (some (Op.bytesLess a1.toList a3.toList)) else (some false))
set_option maxHeartbeats 8000000 in
set_option maxRecDepth 100000 in
theorem frisketref07_ahead.calls (a0 : ByteArray) (a1 : ByteArray) (a2 : ByteArray) (a3 : ByteArray) (r : Bool) (w : World) (h : frisketref07_ahead.f a0 a1 a2 a3 = some r) :
  Calls Tryz.prog 106 #[.string a0, .string a1, .string a2, .string a3] w fun e w' => e = .returned (.bool r) ∧ Drawn0 w w' := by
 have H : (if (Op.bytesLess a0.toList a2.toList) = true then (some true) else (if a0.toList = a2.toList then (some (Op.bytesLess a1.toList a3.toList)) else (some false))) = some r := h
 clear h
 by_cases c5 : (Op.bytesLess a0.toList a2.toList) = true
 ·rw [if_pos c5] at H
  have c5b0 : (Op.bytesLess a0.toList a2.toList) = true := c5
  have c5f0 : (!(Op.bytesLess a2.toList a0.toList || a2.toList == a0.toList)) = true := (bl_flip _ _).trans (c5)
  have c5f1 : (a0.toList == a2.toList) = false := bl_ne (c5)
  have c5f2 : (a2.toList == a0.toList) = false := bl_ne' (c5)
  have c5f3 : Op.bytesLess a2.toList a0.toList = false := bl_asym (c5)
  clear c5
  obtain rfl := Option.some.inj H
  go_enter Tryz.func106, Tryz.ntmps106
  go_wp2
  go_ret
  exact ⟨by first | rfl | (simp; done) | (simp [*]; done), by repeat (first | exact Drawn0.refl _ | apply Drawn0.step)⟩
 ·rw [if_neg c5] at H
  have c5b0 : (Op.bytesLess a0.toList a2.toList) = false := by simpa using c5
  have c5f0 : (!(Op.bytesLess a2.toList a0.toList || a2.toList == a0.toList)) = false := (bl_flip _ _).trans (by simpa using c5)
  try have c5f1 : (a0.toList == a2.toList) = true := bl_eq (x := a0.toList) (y := a2.toList) (by assumption) (by assumption)
  try have c5f2 : (a2.toList == a0.toList) = true := bl_eq (x := a2.toList) (y := a0.toList) (by assumption) (by assumption)
  clear c5
  by_cases c6 : a0.toList = a2.toList
  ·rw [if_pos c6] at H
   have c6b0 : (a0.toList == a2.toList) = true := beq_iff_eq.mpr c6
   have c6b1 : (a0.toList != a2.toList) = false := bne_eq_false_iff_eq.mpr c6
   clear c6
   obtain rfl := Option.some.inj H
   go_enter Tryz.func106, Tryz.ntmps106
   go_wp2
   go_ret
   exact ⟨by first | rfl | (simp; done) | (simp [*]; done), by repeat (first | exact Drawn0.refl _ | apply Drawn0.step)⟩
  ·rw [if_neg c6] at H
   have c6b0 : (a0.toList == a2.toList) = false := beq_eq_false_iff_ne.mpr c6
   have c6b1 : (a0.toList != a2.toList) = true := bne_iff_ne.mpr c6
   obtain rfl := Option.some.inj H
   go_enter Tryz.func106, Tryz.ntmps106
   go_wp2
   go_ret
   exact ⟨by first | rfl | (simp; done) | (simp [*]; done), by repeat (first | exact Drawn0.refl _ | apply Drawn0.step)⟩
end Go.Proofs.YtaifemkokfoadaaGreatDoor.PX

namespace Go.Proofs.YtaifemkokfoadaaGreatDoor.PX
open Go.RowKit Go.Proofs.YtaifemkokfoadaaGreatDoorW.PrintWords Go.Proofs.YtaifemkokfoadaaGreatDoorW.PrintLast Go.Proofs.YtaifemkokfoadaaGreatDoorW.PrintMore
attribute [local go_sem] max2_int min2_int max_two min_two max_three min_three max_four min_four   -- for this text's walks alone
set_option linter.unusedVariables false
set_option linter.unusedSimpArgs false
def font_ligatures.f  : Option ((List (S86))) := some (([(⟨(⟨#[102]⟩ : ByteArray), (⟨#[102]⟩ : ByteArray), (⟨#[102, 102]⟩ : ByteArray)⟩ : S86), (⟨(⟨#[102]⟩ : ByteArray), (⟨#[105]⟩ : ByteArray), (⟨#[102, 105]⟩ : ByteArray)⟩ : S86), (⟨(⟨#[102]⟩ : ByteArray), (⟨#[108]⟩ : ByteArray), (⟨#[102, 108]⟩ : ByteArray)⟩ : S86)] : List (S86)))
set_option maxHeartbeats 8000000 in
set_option maxRecDepth 100000 in
theorem font_ligatures.calls  (r : List (S86)) (w : World) (h : font_ligatures.f  = some r) :
    Calls Tryz.prog 31 #[] w fun e w' => ∃ v0_ : Value, e = .returned (v0_) ∧ Kd.R k86 86 w' w.heap.size (fun _ => True) v0_ r ∧ Below w.heap.size w w' := by
  have hu86 := Tryz.underlying86
  have HB := Aside0.mk (Below.refl w.heap.size w)
  have H : (some (([(⟨(⟨#[102]⟩ : ByteArray), (⟨#[102]⟩ : ByteArray), (⟨#[102, 102]⟩ : ByteArray)⟩ : S86), (⟨(⟨#[102]⟩ : ByteArray), (⟨#[105]⟩ : ByteArray), (⟨#[102, 105]⟩ : ByteArray)⟩ : S86), (⟨(⟨#[102]⟩ : ByteArray), (⟨#[108]⟩ : ByteArray), (⟨#[102, 108]⟩ : ByteArray)⟩ : S86)] : List (S86)))) = some r := h
  clear h
  obtain ⟨y673, hy673⟩ : ∃ y_ : List (S86), y_ = (([(⟨(⟨#[102]⟩ : ByteArray), (⟨#[102]⟩ : ByteArray), (⟨#[102, 102]⟩ : ByteArray)⟩ : S86), (⟨(⟨#[102]⟩ : ByteArray), (⟨#[105]⟩ : ByteArray), (⟨#[102, 105]⟩ : ByteArray)⟩ : S86), (⟨(⟨#[102]⟩ : ByteArray), (⟨#[108]⟩ : ByteArray), (⟨#[102, 108]⟩ : ByteArray)⟩ : S86)] : List (S86))) := ⟨_, rfl⟩
  replace H : (some y673) = some r := by first | (rw [hy673]; with_reducible exact H) | (have H2_ := (Option.bind_some _ _).symm.trans H; rw [hy673]; with_reducible exact H2_) | (have H2_ := (Option.bind_some _ _).symm.trans H; with_reducible exact H2_) | with_reducible exact H | (rw [hy673]; exact H) | exact H
  have Ny673 := Aside0.mk hy673
  clear hy673
  obtain rfl := Option.some.inj H
  go_enter Tryz.func31, Tryz.ntmps31
  go_wp2_with (first | ((with_reducible refine gate_dst (N := 4) rfl ?_); refine Kd.R_lit k86 _ 86 ?hg (N := 4) ?hd (xs := ([(⟨(⟨#[102]⟩ : ByteArray), (⟨#[102]⟩ : ByteArray), (⟨#[102, 102]⟩ : ByteArray)⟩ : S86), (⟨(⟨#[102]⟩ : ByteArray), (⟨#[105]⟩ : ByteArray), (⟨#[102, 105]⟩ : ByteArray)⟩ : S86), (⟨(⟨#[102]⟩ : ByteArray), (⟨#[108]⟩ : ByteArray), (⟨#[102, 108]⟩ : ByteArray)⟩ : S86)] : List (S86))) (inner := [.string (⟨#[102]⟩ : ByteArray), .string (⟨#[102]⟩ : ByteArray), .string (⟨#[102, 102]⟩ : ByteArray), .string (⟨#[102]⟩ : ByteArray), .string (⟨#[105]⟩ : ByteArray), .string (⟨#[102, 105]⟩ : ByteArray), .string (⟨#[102]⟩ : ByteArray), .string (⟨#[108]⟩ : ByteArray), .string (⟨#[102, 108]⟩ : ByteArray)]) (ok := fun _ => True) (okp := fun _ => True) ?hr ?hp (fun _ hk => hk) trivial (Below.refl _ _) (Nat.le_refl _) (by simp) ?_; (case hd => rfl); (case hg => rfl); (case hr => first | (go_simp; done) | (go_simp; rfl)); (case hp => exact (Reps.c3 (show Kd.M k86 _ _ _ (⟨(⟨#[102]⟩ : ByteArray), (⟨#[102]⟩ : ByteArray), (⟨#[102, 102]⟩ : ByteArray)⟩ : S86) [.string (⟨#[102]⟩ : ByteArray), .string (⟨#[102]⟩ : ByteArray), .string (⟨#[102, 102]⟩ : ByteArray)] from (k86_mkM _ _ _ (⟨(⟨#[102]⟩ : ByteArray), (⟨#[102]⟩ : ByteArray), (⟨#[102, 102]⟩ : ByteArray)⟩ : S86) )) (Reps.c3 (show Kd.M k86 _ _ _ (⟨(⟨#[102]⟩ : ByteArray), (⟨#[105]⟩ : ByteArray), (⟨#[102, 105]⟩ : ByteArray)⟩ : S86) [.string (⟨#[102]⟩ : ByteArray), .string (⟨#[105]⟩ : ByteArray), .string (⟨#[102, 105]⟩ : ByteArray)] from (k86_mkM _ _ _ (⟨(⟨#[102]⟩ : ByteArray), (⟨#[105]⟩ : ByteArray), (⟨#[102, 105]⟩ : ByteArray)⟩ : S86) )) (Reps.c3 (show Kd.M k86 _ _ _ (⟨(⟨#[102]⟩ : ByteArray), (⟨#[108]⟩ : ByteArray), (⟨#[102, 108]⟩ : ByteArray)⟩ : S86) [.string (⟨#[102]⟩ : ByteArray), .string (⟨#[108]⟩ : ByteArray), .string (⟨#[102, 108]⟩ : ByteArray)] from (k86_mkM _ _ _ (⟨(⟨#[102]⟩ : ByteArray), (⟨#[108]⟩ : ByteArray), (⟨#[102, 108]⟩ : ByteArray)⟩ : S86) )) (Reps.none _ _))))); intro v674 w1 ho2 hb hg_ hnew_; clear hg_ hnew_; (first | rw [← Ny673.out] at ho2 | (simp only [Int.reduceToNat] at ho2; rw [← Ny673.out] at ho2)); have n0_ := Aside0.mk (Kd.R_lower ho2 (below_size (by repeat (first | (with_reducible first | exact HB.out | apply below_alloc | apply pw_below_drewN | apply below_drew1) | exact HB.out)))); have n1_ := Aside0.mk (below_step (by repeat (first | (with_reducible first | exact HB.out | apply below_alloc | apply pw_below_drewN | apply below_drew1) | exact HB.out)) hb); clear HB; have HO675 := n0_; have HB := n1_; clear n0_ n1_; clear hb ho2))
  go_ret
  exact ⟨_, by first | rfl | (simp [errW_none, errW_some] <;> rfl) | (simp [*, errW_none, errW_some] <;> rfl), by (with_reducible repeat (first | apply Kd.R_alloc | apply Kd.R_drewN | apply Kd.R_drew)); exact HO675.out, by repeat (first | (with_reducible first | exact HB.out | apply below_alloc | apply pw_below_drewN | apply below_drew1) | exact HB.out)⟩
def cmp_isNaN_string.f (a0 : ByteArray) : Option (Bool) := some (a0.toList != a0.toList)
set_option maxHeartbeats 8000000 in
set_option maxRecDepth 100000 in
theorem cmp_isNaN_string.calls (a0 : ByteArray) (r : Bool) (w : World) (h : cmp_isNaN_string.f a0 = some r) :
    Calls Tryz.prog 101 #[.string a0] w fun e w' => e = .returned (.bool r) ∧ Drawn0 w w' := by
  have H : (some (a0.toList != a0.toList)) = some r := h
  clear h
  obtain rfl := Option.some.inj H
  go_enter Tryz.func101, Tryz.ntmps101
  go_wp2
  go_ret
  exact ⟨by first | rfl | (simp; done) | (simp [*]; done), by repeat (first | exact Drawn0.refl _ | apply Drawn0.step)⟩
def cmp_Compare_string.f (a0 : ByteArray) (a1 : ByteArray) : Option (Int) := (cmp_isNaN_string.f a0).bind fun t676 => ((cmp_isNaN_string.f a1).bind fun t677 => (if t676 = true then (if t677 = true then (some 0) else (some (-1))) else (if t677 = true then (some 1) else (if (Op.bytesLess a0.toList a1.toList) = true then (some (-1)) else (if (Op.bytesLess a1.toList a0.toList) = true then (some 1) else (some 0))))))
set_option maxHeartbeats 8000000 in
set_option maxRecDepth 100000 in
theorem cmp_Compare_string.calls (a0 : ByteArray) (a1 : ByteArray) (r : Int) (w : World) (h : cmp_Compare_string.f a0 a1 = some r) :
    Calls Tryz.prog 47 #[.string a0, .string a1] w fun e w' => e = .returned (.int .i64 r) ∧ Drawn0 w w' := by
  have H : ((cmp_isNaN_string.f a0).bind fun t676 => ((cmp_isNaN_string.f a1).bind fun t677 => (if t676 = true then (if t677 = true then (some 0) else (some (-1))) else (if t677 = true then (some 1) else (if (Op.bytesLess a0.toList a1.toList) = true then (some (-1)) else (if (Op.bytesLess a1.toList a0.toList) = true then (some 1) else (some 0))))))) = some r := h
  clear h
  replace H := Option.bind_eq_some_iff.mp H
  obtain ⟨t676, A30, H⟩ := H
  replace H : ((cmp_isNaN_string.f a1).bind fun t677 => (if t676 = true then (if t677 = true then (some 0) else (some (-1))) else (if t677 = true then (some 1) else (if (Op.bytesLess a0.toList a1.toList) = true then (some (-1)) else (if (Op.bytesLess a1.toList a0.toList) = true then (some 1) else (some 0)))))) = some r := H
  have A3 := Aside0.mk A30
  clear A30
  replace H := Option.bind_eq_some_iff.mp H
  obtain ⟨t677, A40, H⟩ := H
  replace H : (if t676 = true then (if t677 = true then (some 0) else (some (-1))) else (if t677 = true then (some 1) else (if (Op.bytesLess a0.toList a1.toList) = true then (some (-1)) else (if (Op.bytesLess a1.toList a0.toList) = true then (some 1) else (some 0))))) = some r := H
  have A4 := Aside0.mk A40
  clear A40
  by_cases c5 : t676 = true
  · subst c5
    have H1 : (if t677 = true then (some 0) else (some (-1))) = some r := by rw [if_pos rfl] at H; exact H
    clear H
    have H := H1
    clear H1
    by_cases c6 : t677 = true
    · subst c6
      have H1 : (some 0) = some r := by rw [if_pos rfl] at H; exact H
      clear H
      have H := H1
      clear H1
      obtain rfl := Option.some.inj H
      go_enter Tryz.func47, Tryz.ntmps47
      go_wp2_with (first | ((with_reducible refine gate_callee (f := 101) rfl ?_); refine goesL_ (some 8) rfl rfl Tryz.func101 (by kernel_rfl) rfl #[.string a0] rfl (by (try simp only [List.map_toArray, List.map_cons, List.map_nil]); first | done | rfl | (simp only [List.length_drop, List.length_take]; rfl)) ?_; (with_reducible refine (cmp_isNaN_string.calls a0 true _ A3.out).mono ?_); rintro e w' ⟨rfl, ⟨nd, rfl⟩⟩; refine ⟨_, rfl, ?_⟩) | ((with_reducible refine gate_callee (f := 101) rfl ?_); refine goesL_ (some 10) rfl rfl Tryz.func101 (by kernel_rfl) rfl #[.string a1] rfl (by (try simp only [List.map_toArray, List.map_cons, List.map_nil]); first | done | rfl | (simp only [List.length_drop, List.length_take]; rfl)) ?_; (with_reducible refine (cmp_isNaN_string.calls a1 true _ A4.out).mono ?_); rintro e w' ⟨rfl, ⟨nd, rfl⟩⟩; refine ⟨_, rfl, ?_⟩))
      go_ret
      exact ⟨by first | rfl | (simp; done) | (simp [*]; done), by repeat (first | exact Drawn0.refl _ | apply Drawn0.step)⟩
    · replace c6 := Bool.eq_false_iff.mpr c6
      subst c6
      have H1 : (some (-1)) = some r := by rw [if_neg (show ¬ (false = true) by decide)] at H; exact H
      clear H
      have H := H1
      clear H1
      obtain rfl := Option.some.inj H
      go_enter Tryz.func47, Tryz.ntmps47
      go_wp2_with (first | ((with_reducible refine gate_callee (f := 101) rfl ?_); refine goesL_ (some 8) rfl rfl Tryz.func101 (by kernel_rfl) rfl #[.string a0] rfl (by (try simp only [List.map_toArray, List.map_cons, List.map_nil]); first | done | rfl | (simp only [List.length_drop, List.length_take]; rfl)) ?_; (with_reducible refine (cmp_isNaN_string.calls a0 true _ A3.out).mono ?_); rintro e w' ⟨rfl, ⟨nd, rfl⟩⟩; refine ⟨_, rfl, ?_⟩) | ((with_reducible refine gate_callee (f := 101) rfl ?_); refine goesL_ (some 10) rfl rfl Tryz.func101 (by kernel_rfl) rfl #[.string a1] rfl (by (try simp only [List.map_toArray, List.map_cons, List.map_nil]); first | done | rfl | (simp only [List.length_drop, List.length_take]; rfl)) ?_; (with_reducible refine (cmp_isNaN_string.calls a1 false _ A4.out).mono ?_); rintro e w' ⟨rfl, ⟨nd, rfl⟩⟩; refine ⟨_, rfl, ?_⟩))
      go_ret
      exact ⟨by first | rfl | (simp; done) | (simp [*]; done), by repeat (first | exact Drawn0.refl _ | apply Drawn0.step)⟩
  · replace c5 := Bool.eq_false_iff.mpr c5
    subst c5
    have H1 : (if t677 = true then (some 1) else (if (Op.bytesLess a0.toList a1.toList) = true then (some (-1)) else (if (Op.bytesLess a1.toList a0.toList) = true then (some 1) else (some 0)))) = some r := by rw [if_neg (show ¬ (false = true) by decide)] at H; exact H
    clear H
    have H := H1
    clear H1
    by_cases c7 : t677 = true
    · subst c7
      have H1 : (some 1) = some r := by rw [if_pos rfl] at H; exact H
      clear H
      have H := H1
      clear H1
      obtain rfl := Option.some.inj H
      go_enter Tryz.func47, Tryz.ntmps47
      go_wp2_with (first | ((with_reducible refine gate_callee (f := 101) rfl ?_); refine goesL_ (some 8) rfl rfl Tryz.func101 (by kernel_rfl) rfl #[.string a0] rfl (by (try simp only [List.map_toArray, List.map_cons, List.map_nil]); first | done | rfl | (simp only [List.length_drop, List.length_take]; rfl)) ?_; (with_reducible refine (cmp_isNaN_string.calls a0 false _ A3.out).mono ?_); rintro e w' ⟨rfl, ⟨nd, rfl⟩⟩; refine ⟨_, rfl, ?_⟩) | ((with_reducible refine gate_callee (f := 101) rfl ?_); refine goesL_ (some 10) rfl rfl Tryz.func101 (by kernel_rfl) rfl #[.string a1] rfl (by (try simp only [List.map_toArray, List.map_cons, List.map_nil]); first | done | rfl | (simp only [List.length_drop, List.length_take]; rfl)) ?_; (with_reducible refine (cmp_isNaN_string.calls a1 true _ A4.out).mono ?_); rintro e w' ⟨rfl, ⟨nd, rfl⟩⟩; refine ⟨_, rfl, ?_⟩))
      go_ret
      exact ⟨by first | rfl | (simp; done) | (simp [*]; done), by repeat (first | exact Drawn0.refl _ | apply Drawn0.step)⟩
    · replace c7 := Bool.eq_false_iff.mpr c7
      subst c7
      have H1 : (if (Op.bytesLess a0.toList a1.toList) = true then (some (-1)) else (if (Op.bytesLess a1.toList a0.toList) = true then (some 1) else (some 0))) = some r := by rw [if_neg (show ¬ (false = true) by decide)] at H; exact H
      clear H
      have H := H1
      clear H1
      by_cases c8 : (Op.bytesLess a0.toList a1.toList) = true
      · rw [if_pos c8] at H
        have c8b0 : (Op.bytesLess a0.toList a1.toList) = true := c8
        have c8f0 : (!(Op.bytesLess a1.toList a0.toList || a1.toList == a0.toList)) = true := (bl_flip _ _).trans (c8)
        have c8f1 : (a0.toList == a1.toList) = false := bl_ne (c8)
        have c8f2 : (a1.toList == a0.toList) = false := bl_ne' (c8)
        have c8f3 : Op.bytesLess a1.toList a0.toList = false := bl_asym (c8)
        clear c8
        obtain rfl := Option.some.inj H
        go_enter Tryz.func47, Tryz.ntmps47
        go_wp2_with (first | ((with_reducible refine gate_callee (f := 101) rfl ?_); refine goesL_ (some 8) rfl rfl Tryz.func101 (by kernel_rfl) rfl #[.string a0] rfl (by (try simp only [List.map_toArray, List.map_cons, List.map_nil]); first | done | rfl | (simp only [List.length_drop, List.length_take]; rfl)) ?_; (with_reducible refine (cmp_isNaN_string.calls a0 false _ A3.out).mono ?_); rintro e w' ⟨rfl, ⟨nd, rfl⟩⟩; refine ⟨_, rfl, ?_⟩) | ((with_reducible refine gate_callee (f := 101) rfl ?_); refine goesL_ (some 10) rfl rfl Tryz.func101 (by kernel_rfl) rfl #[.string a1] rfl (by (try simp only [List.map_toArray, List.map_cons, List.map_nil]); first | done | rfl | (simp only [List.length_drop, List.length_take]; rfl)) ?_; (with_reducible refine (cmp_isNaN_string.calls a1 false _ A4.out).mono ?_); rintro e w' ⟨rfl, ⟨nd, rfl⟩⟩; refine ⟨_, rfl, ?_⟩))
        go_ret
        exact ⟨by first | rfl | (simp; done) | (simp [*]; done), by repeat (first | exact Drawn0.refl _ | apply Drawn0.step)⟩
      · rw [if_neg c8] at H
        have c8b0 : (Op.bytesLess a0.toList a1.toList) = false := by simpa using c8
        have c8f0 : (!(Op.bytesLess a1.toList a0.toList || a1.toList == a0.toList)) = false := (bl_flip _ _).trans (by simpa using c8)
        try have c8f1 : (a0.toList == a1.toList) = true := bl_eq (x := a0.toList) (y := a1.toList) (by assumption) (by assumption)
        try have c8f2 : (a1.toList == a0.toList) = true := bl_eq (x := a1.toList) (y := a0.toList) (by assumption) (by assumption)
        clear c8
        by_cases c9 : (Op.bytesLess a1.toList a0.toList) = true
        · rw [if_pos c9] at H
          have c9b0 : (Op.bytesLess a1.toList a0.toList) = true := c9
          have c9f0 : (!(Op.bytesLess a0.toList a1.toList || a0.toList == a1.toList)) = true := (bl_flip _ _).trans (c9)
          have c9f1 : (a1.toList == a0.toList) = false := bl_ne (c9)
          have c9f2 : (a0.toList == a1.toList) = false := bl_ne' (c9)
          have c9f3 : Op.bytesLess a0.toList a1.toList = false := bl_asym (c9)
          clear c9
          obtain rfl := Option.some.inj H
          go_enter Tryz.func47, Tryz.ntmps47
          go_wp2_with (first | ((with_reducible refine gate_callee (f := 101) rfl ?_); refine goesL_ (some 8) rfl rfl Tryz.func101 (by kernel_rfl) rfl #[.string a0] rfl (by (try simp only [List.map_toArray, List.map_cons, List.map_nil]); first | done | rfl | (simp only [List.length_drop, List.length_take]; rfl)) ?_; (with_reducible refine (cmp_isNaN_string.calls a0 false _ A3.out).mono ?_); rintro e w' ⟨rfl, ⟨nd, rfl⟩⟩; refine ⟨_, rfl, ?_⟩) | ((with_reducible refine gate_callee (f := 101) rfl ?_); refine goesL_ (some 10) rfl rfl Tryz.func101 (by kernel_rfl) rfl #[.string a1] rfl (by (try simp only [List.map_toArray, List.map_cons, List.map_nil]); first | done | rfl | (simp only [List.length_drop, List.length_take]; rfl)) ?_; (with_reducible refine (cmp_isNaN_string.calls a1 false _ A4.out).mono ?_); rintro e w' ⟨rfl, ⟨nd, rfl⟩⟩; refine ⟨_, rfl, ?_⟩))
          go_ret
          exact ⟨by first | rfl | (simp; done) | (simp [*]; done), by repeat (first | exact Drawn0.refl _ | apply Drawn0.step)⟩
        · rw [if_neg c9] at H
          have c9b0 : (Op.bytesLess a1.toList a0.toList) = false := by simpa using c9
          have c9f0 : (!(Op.bytesLess a0.toList a1.toList || a0.toList == a1.toList)) = false := (bl_flip _ _).trans (by simpa using c9)
          try have c9f1 : (a1.toList == a0.toList) = true := bl_eq (x := a1.toList) (y := a0.toList) (by assumption) (by assumption)
          try have c9f2 : (a0.toList == a1.toList) = true := bl_eq (x := a0.toList) (y := a1.toList) (by assumption) (by assumption)
          clear c9
          obtain rfl := Option.some.inj H
          go_enter Tryz.func47, Tryz.ntmps47
          go_wp2_with (first | ((with_reducible refine gate_callee (f := 101) rfl ?_); refine goesL_ (some 8) rfl rfl Tryz.func101 (by kernel_rfl) rfl #[.string a0] rfl (by (try simp only [List.map_toArray, List.map_cons, List.map_nil]); first | done | rfl | (simp only [List.length_drop, List.length_take]; rfl)) ?_; (with_reducible refine (cmp_isNaN_string.calls a0 false _ A3.out).mono ?_); rintro e w' ⟨rfl, ⟨nd, rfl⟩⟩; refine ⟨_, rfl, ?_⟩) | ((with_reducible refine gate_callee (f := 101) rfl ?_); refine goesL_ (some 10) rfl rfl Tryz.func101 (by kernel_rfl) rfl #[.string a1] rfl (by (try simp only [List.map_toArray, List.map_cons, List.map_nil]); first | done | rfl | (simp only [List.length_drop, List.length_take]; rfl)) ?_; (with_reducible refine (cmp_isNaN_string.calls a1 false _ A4.out).mono ?_); rintro e w' ⟨rfl, ⟨nd, rfl⟩⟩; refine ⟨_, rfl, ?_⟩))
          go_ret
          exact ⟨by first | rfl | (simp; done) | (simp [*]; done), by repeat (first | exact Drawn0.refl _ | apply Drawn0.step)⟩
end Go.Proofs.YtaifemkokfoadaaGreatDoor.PX

namespace Go.Proofs.YtaifemkokfoadaaGreatDoor
open Go.RowKit Go.Shelf Go.Proofs.YtaifemkokfoadaaGreatDoorW.PrintWords Go.Proofs.YtaifemkokfoadaaGreatDoorW.PrintMore Go.Proofs.YtaifemkokfoadaaGreatDoor.PX
/-- How two names compare. -/
def cmpB (a b : ByteArray) : Int := if Op.bytesLess a.toList b.toList = true then -1 else if Op.bytesLess b.toList a.toList = true then 1 else 0
theorem compare_f (a b : ByteArray) : cmp_Compare_string.f a b = some (cmpB a b) := by
  have e1 : cmp_isNaN_string.f a = some false := by unfold cmp_isNaN_string.f; simp
  have e2 : cmp_isNaN_string.f b = some false := by unfold cmp_isNaN_string.f; simp
  unfold cmp_Compare_string.f cmpB
  rw [e1, e2]
  simp only [Option.bind_some, Bool.false_eq_true, if_false]
  by_cases h1 : Op.bytesLess a.toList b.toList = true
  · rw [if_pos h1, if_pos h1]
  · rw [if_neg h1, if_neg h1]
    by_cases h2 : Op.bytesLess b.toList a.toList = true
    · rw [if_pos h2, if_pos h2]
    · rw [if_neg h2, if_neg h2]
theorem compare_any (a b : ByteArray) (w : World) : Calls Tryz.prog 47 #[.string a, .string b] w fun e w' => e = .returned (.int .i64 (cmpB a b)) ∧ Below w.heap.size w w' :=
  (cmp_Compare_string.calls a b _ w (compare_f a b)).mono fun e w' ⟨h1, n, h2⟩ => ⟨h1, by rw [h2]; exact ⟨rfl, rfl, rfl, Nat.le_refl _, fun _ _ => rfl⟩⟩
/-- The binary search's loop. -/
def bsL (l : List S31) (n : ByteArray) (i j : Nat) : Nat :=
  if h : i < j then
    if cmpB (rd_T31 l (((i + j) / 2 : Nat) : Int)).f0 n < 0 then bsL l n ((i + j) / 2 + 1) j else bsL l n i ((i + j) / 2)
  else i
termination_by j - i
/-- Where a name is, or would be, and whether it is there. -/
def findV (l : List S31) (n : ByteArray) : Int × Bool :=
  let i := bsL l n 0 l.length
  ((i : Int), decide (i < l.length) && decide (cmpB (rd_T31 l (i : Int)).f0 n = 0))
set_option maxRecDepth 100000 in
theorem findCmp_any (a : ByteArray) (v : Int) (n : ByteArray) (w : World) :
    Calls Tryz.prog 87 #[.agg #[.string a, .int .i64 v], .string n] w fun e w' => e = .returned (.int .i64 (cmpB a n)) ∧ Below w.heap.size w w' := by
  have hb0 : Below w.heap.size w (w.alloc (.cells #[.string a, .int .i64 v] 31)) := (Below.refl _ w).alloc (Nat.le_refl _) _
  have hc := compare_any a n (w.alloc (.cells #[.string a, .int .i64 v] 31))
  generalize cmpB a n = r at hc ⊢
  go_enter Tryz.func87, Tryz.ntmps87
  go_wp2_with (go_at_call 47; refine hc.mono ?_; rintro e w2 ⟨rfl, hb2⟩)
  go_ret
  exact ⟨rfl, hb0.trans (hb2.mono (by simp))⟩
set_option maxRecDepth 100000 in
set_option maxHeartbeats 1000000 in
theorem search_any (A0 : Option Addr) (c0 : Nat) (l : List S31) (n : ByteArray) (w : World) (hr : Kd.C k31 w A0 l.length l) (hl : l.length ≤ 1000000000) :
    Calls Tryz.prog 86 #[.slice A0 l.length c0, .string n, .func (.func 87) #[] #[]] w fun e w' => e = .returned (.tuple #[.int .i64 (findV l n).1, .bool (findV l n).2]) ∧ Below w.heap.size w w' := by
  have hfv : findV l n = ((bsL l n 0 l.length : Int), decide (bsL l n 0 l.length < l.length) && decide (cmpB (rd_T31 l (bsL l n 0 l.length : Int)).f0 n = 0)) := rfl
  generalize findV l n = V at hfv ⊢
  have HFV := Lib.hid hfv
  clear hfv
  go_enter Tryz.func86, Tryz.ntmps86
  go_wp2
  go_loopw [9, 10] (fun x y wr => ∃ i j : Nat, x = .int .i64 i ∧ y = .int .i64 j ∧ i ≤ j ∧ j ≤ l.length ∧ Hid (bsL l n i j = bsL l n 0 l.length) ∧ Below w.heap.size w wr) (fun x y _ => ((intOf y) - (intOf x)).toNat)
  case atStart => exact ⟨0, l.length, rfl, rfl, Nat.zero_le _, Nat.le_refl _, Lib.hid rfl, Below.refl _ _⟩
  case round =>
    obtain ⟨i, j, rfl, rfl, hij, hj, HB, hb⟩ := hrel
    by_cases hlt : i < j
    · have hm : (i + j) / 2 < l.length := by omega
      have hst := HB.out
      rw [bsL, dif_pos hlt] at hst
      have hC := Kd.C_below hr hb
      obtain ⟨ad, e, h0, h1⟩ := at_T31 hC (((i + j) / 2 : Nat) : Int) (by omega) (by omega)
      cases e
      rw [Int.toNat_natCast] at h0 h1
      generalize rd_T31 l (((i + j) / 2 : Nat) : Int) = g at h0 h1 hst
      have hcm := findCmp_any g.f0 g.f1 n wr
      generalize cmpB g.f0 n = r at hcm hst
      have HS := Lib.hid hst
      have e1 : IntKind.i64.wrap ((i : Int) + (j : Int)) = (i : Int) + (j : Int) := IntWalk.i64_in _ (by omega)
      clear hst HB hC hr
      by_cases hr0 : r < 0
      · have d1 : decide (r < 0) = true := decide_eq_true hr0
        rw [if_pos hr0] at HS
        clear hr0
        go_wp2_with fail
        refine hcm.mono ?_; rintro e w2 ⟨rfl, hb2⟩
        go_wp2
        go_roundw
        case rel => exact ⟨(i + j) / 2 + 1, j, by go_num, rfl, by omega, hj, HS, hb.trans (hb2.mono hb.size)⟩
        case measure => simp [intOf]; omega
      · have d1 : decide (r < 0) = false := decide_eq_false hr0
        rw [if_neg hr0] at HS
        clear hr0
        go_wp2_with fail
        refine hcm.mono ?_; rintro e w2 ⟨rfl, hb2⟩
        go_wp2
        go_roundw
        case rel => exact ⟨i, (i + j) / 2, rfl, by go_num, by omega, by omega, HS, hb.trans (hb2.mono hb.size)⟩
        case measure => simp [intOf]; omega
    · obtain rfl : i = j := by omega
      have hst := HB.out
      rw [bsL, dif_neg (by omega)] at hst
      by_cases hi : i < l.length
      · have hC := Kd.C_below hr hb
        obtain ⟨ad, e, h0, h1⟩ := at_T31 hC (i : Int) (by omega) (by omega)
        cases e
        rw [Int.toNat_natCast] at h0 h1
        have hval : V = ((i : Int), decide (i < l.length) && decide (cmpB (rd_T31 l (i : Int)).f0 n = 0)) := by rw [HFV.out, ← hst]
        rw [decide_eq_true hi, Bool.true_and] at hval
        generalize rd_T31 l (i : Int) = g at h0 h1 hval
        have hcm := findCmp_any g.f0 g.f1 n wr
        have hd : (cmpB g.f0 n == 0) = decide (cmpB g.f0 n = 0) := rfl
        generalize cmpB g.f0 n = r at hcm hd hval
        have HV := Lib.hid hval
        have q2 : (i : Int) < (l.length : Int) := by omega
        clear hst HB hC hr hval
        cases hz : decide (r = 0) with
        | true =>
          rw [hz] at hd HV
          clear hz
          go_wp2_with fail
          refine hcm.mono ?_; rintro e w2 ⟨rfl, hb2⟩
          go_wp2
          go_ret2
          exact ⟨by rw [HV.out]; rfl, hb.trans (hb2.mono hb.size)⟩
        | false =>
          rw [hz] at hd HV
          clear hz
          go_wp2_with fail
          refine hcm.mono ?_; rintro e w2 ⟨rfl, hb2⟩
          go_wp2
          go_ret2
          exact ⟨by rw [HV.out]; rfl, hb.trans (hb2.mono hb.size)⟩
      · have q1 : decide (i < l.length) = false := decide_eq_false hi
        have hval : V = ((i : Int), false) := by rw [HFV.out, ← hst, q1, Bool.false_and]
        have HV := Lib.hid hval
        have q2 : ¬ (i : Int) < (l.length : Int) := by omega
        have q3 : decide ((i : Int) < (l.length : Int)) = false := decide_eq_false q2
        clear hst HB hr hval q1
        go_wp2
        go_ret2
        exact ⟨by rw [HV.out]; rfl, hb⟩
/-- As the printed callers ask it. -/
def font_find.f (_ : ByteArray) (_ : Bool) (_ : Int) (l0_3 : List S31) (_ : List S86) (_ : List S76) (a1 : ByteArray) : Option (Int × Bool) := if l0_3.length ≤ 1000000000 then some (findV l0_3 a1) else none
set_option maxRecDepth 100000 in
theorem font_find.calls (a0_0 : ByteArray) (a0_1 : Bool) (a0_2 : Int) (A0_3 : Option Addr) (c0_3 : Nat) (l0_3 : List S31) (A0_4 : Option Addr) (c0_4 : Nat) (l0_4 : List S86) (A0_5 : Option Addr) (c0_5 : Nat) (l0_5 : List S76) (a1 : ByteArray) (r1 : Int) (r2 : Bool) (w : World) (hr0_3 : Kd.C k31 w A0_3 l0_3.length l0_3) (_ : l0_3.length ≤ c0_3) (_ : Kd.C k86 w A0_4 l0_4.length l0_4) (_ : l0_4.length ≤ c0_4) (_ : Kd.C k76 w A0_5 l0_5.length l0_5) (_ : l0_5.length ≤ c0_5) (_ : GW w) (h : font_find.f a0_0 a0_1 a0_2 l0_3 l0_4 l0_5 a1 = some (r1, r2)) :
    Calls Tryz.prog 27 #[.agg #[.string a0_0, .bool a0_1, .int .i64 a0_2, .slice A0_3 l0_3.length c0_3, .slice A0_4 l0_4.length c0_4, .slice A0_5 l0_5.length c0_5], .string a1] w fun e w' => e = .returned (.tuple #[.int .i64 r1, .bool r2]) ∧ Below w.heap.size w w' := by
  unfold font_find.f at h
  split at h
  · rename_i hl
    have he := Option.some.inj h
    have hb0 : Below w.heap.size w (w.alloc (.cells #[.string a0_0, .bool a0_1, .int .i64 a0_2, .slice A0_3 l0_3.length c0_3, .slice A0_4 l0_4.length c0_4, .slice A0_5 l0_5.length c0_5] 26)) := (Below.refl _ w).alloc (Nat.le_refl _) _
    have hs := search_any A0_3 c0_3 l0_3 a1 _ (Kd.C_below hr0_3 hb0) hl
    rw [he] at hs
    clear he h hl hr0_3
    go_enter Tryz.func27, Tryz.ntmps27
    go_wp2_with fail
    refine hs.mono ?_; rintro e w2 ⟨rfl, hb2⟩
    go_wp2
    go_ret2
    exact ⟨rfl, hb0.trans (hb2.mono (by simp))⟩
  · cases h
end Go.Proofs.YtaifemkokfoadaaGreatDoor

namespace Go.Proofs.YtaifemkokfoadaaGreatDoor.PX
open Go.RowKit Go.Proofs.YtaifemkokfoadaaGreatDoorW.PrintWords Go.Proofs.YtaifemkokfoadaaGreatDoorW.PrintLast Go.Proofs.YtaifemkokfoadaaGreatDoorW.PrintMore
attribute [local go_sem] max2_int min2_int max_two min_two max_three min_three max_four min_four   -- for this text's walks alone
set_option linter.unusedVariables false
set_option linter.unusedSimpArgs false
def cmp_Or_int.l0 : Nat → Int → List Int → Int → Int → Option (Int)
  | 0, _, _, _, _ => none
  | k + 1, x3, x6, x7, x8 => if x8 < x7 then (if 0 ≤ x8 then (if x8 < (x6.length : Int) then (if (rd x6 x8) = x3 then (cmp_Or_int.l0 k x3 x6 x7 (wrap64 (x8 + 1))) else (some (rd x6 x8))) else (none)) else (none)) else (some x3)
def cmp_Or_int.f (k : Nat) (l0 : List Int) : Option (Int) := cmp_Or_int.l0 k 0 l0 (l0.length : Int) 0
set_option maxHeartbeats 8000000 in
set_option maxRecDepth 100000 in
theorem cmp_Or_int.calls (k : Nat) (A0 : Option Addr) (c0 : Nat) (l0 : List Int) (r : Int) (w : World) (hr0 : Kd.C (Kd.int .i64) w A0 l0.length l0) (hc0 : l0.length ≤ c0) (h : cmp_Or_int.f k l0 = some r) :
    Calls Tryz.prog 53 #[.slice A0 l0.length c0] w fun e w' => e = .returned (.int .i64 r) ∧ Drawn0 w w' := by
  have HR0 := Aside0.mk hr0
  have HC0 := Aside0.mk hc0
  clear hr0 hc0
  have H : (cmp_Or_int.l0 k 0 l0 (l0.length : Int) 0) = some r := h
  clear h
  have H' := Aside0.mk H
  clear H
  go_enter Tryz.func53, Tryz.ntmps53
  go_wp2
  go_loopg [8] k (fun kq v8 w' => ∃ (x8_1 : Int), v8 = .int .i64 x8_1 ∧ Aside0 (cmp_Or_int.l0 kq 0 l0 (l0.length : Int) x8_1 = some r) ∧ Aside0 (kq ≤ k) ∧ Drawn0 w w')
  case atStart => exact ⟨(0), (by first | rfl | (simp; done) | (simp [*]; done)), H', ⟨Nat.le_refl _⟩, by repeat (first | exact Drawn0.refl _ | apply Drawn0.step)⟩
  case round =>
    clear H'
    obtain ⟨x8_1, rfl, HA, HK1, ⟨m1, rfl⟩⟩ := hrel
    cases gk with
    | zero => exact absurd HA.out (by simp [cmp_Or_int.l0])
    | succ k1 =>
      have H := HA.out
      clear HA
      simp only [cmp_Or_int.l0] at H
      by_cases c2 : x8_1 < (l0.length : Int)
      · rw [if_pos c2] at H
        have c2b0 : decide (x8_1 < (l0.length : Int)) = true := decide_eq_true c2
        clear c2
        by_cases c3 : 0 ≤ x8_1
        · rw [if_pos c3] at H
          have c3b0 : decide (0 ≤ x8_1) = true := decide_eq_true c3
          clear c3
          by_cases c4 : x8_1 < (l0.length : Int)
          · rw [if_pos c4] at H
            have c4b0 : decide (x8_1 < (l0.length : Int)) = true := decide_eq_true c4
            clear c4
            by_cases c5 : (rd l0 x8_1) = 0
            · rw [if_pos c5] at H
              have c5b0 : ((rd l0 x8_1) == 0) = true := beq_iff_eq.mpr c5
              have c5b1 : ((rd l0 x8_1) != 0) = false := bne_eq_false_iff_eq.mpr c5
              clear c5
              have H' := Aside0.mk H
              clear H
              have p678 : 0 ≤ (x8_1 : Int) := of_decide_eq_true (by first | (with_reducible assumption) | assumption)
              have q678 : x8_1 < (l0.length : Int) := of_decide_eq_true (by first | (with_reducible assumption) | assumption)
              obtain ⟨ad678, e678, hx678_0⟩ := Kd.at_int HR0.out x8_1 p678 q678
              cases e678
              replace p678 := eq_true p678
              replace q678 := eq_true q678
              go_wp2
              go_roundg k1
              case measure => have := HK1.out; omega
              case rel => exact ⟨(wrap64 (x8_1 + 1)), (by first | rfl | (simp; done) | (simp [*]; done)), H', ⟨by have := HK1.out; omega⟩, by repeat (first | exact Drawn0.refl _ | apply Drawn0.step)⟩
            · rw [if_neg c5] at H
              have c5b0 : ((rd l0 x8_1) == 0) = false := beq_eq_false_iff_ne.mpr c5
              have c5b1 : ((rd l0 x8_1) != 0) = true := bne_iff_ne.mpr c5
              obtain rfl := Option.some.inj H
              have p678 : 0 ≤ (x8_1 : Int) := of_decide_eq_true (by first | (with_reducible assumption) | assumption)
              have q678 : x8_1 < (l0.length : Int) := of_decide_eq_true (by first | (with_reducible assumption) | assumption)
              obtain ⟨ad678, e678, hx678_0⟩ := Kd.at_int HR0.out x8_1 p678 q678
              cases e678
              replace p678 := eq_true p678
              replace q678 := eq_true q678
              go_wp2
              go_ret
              exact ⟨by first | rfl | (simp; done) | (simp [*]; done), by repeat (first | exact Drawn0.refl _ | apply Drawn0.step)⟩
          · rw [if_neg c4] at H
            exact absurd H (by simp)
        · rw [if_neg c3] at H
          exact absurd H (by simp)
      · rw [if_neg c2] at H
        have c2b0 : decide (x8_1 < (l0.length : Int)) = false := decide_eq_false c2
        clear c2
        obtain rfl := Option.some.inj H
        go_wp2
        go_ret
        exact ⟨by first | rfl | (simp; done) | (simp [*]; done), by repeat (first | exact Drawn0.refl _ | apply Drawn0.step)⟩
end Go.Proofs.YtaifemkokfoadaaGreatDoor.PX

namespace Go.Proofs.YtaifemkokfoadaaGreatDoor
open Go.RowKit Go.Shelf Go.Proofs.YtaifemkokfoadaaGreatDoorW.PrintWords Go.Proofs.YtaifemkokfoadaaGreatDoorW.PrintMore Go.Proofs.YtaifemkokfoadaaGreatDoor.PX
/-- Whether each of n is less than the next. -/
def ascV (c : Nat → Nat → Int) (n : Nat) : Bool := (List.range (n - 1)).all fun i => decide (c i (i + 1) < 0)
theorem ascV_true {c : Nat → Nat → Int} {n : Nat} (h : ∀ i, i + 1 < n → c i (i + 1) < 0) : ascV c n = true := by
  unfold ascV
  rw [List.all_eq_true]
  intro i hi
  have := List.mem_range.1 hi
  simpa using h i (by omega)
theorem ascV_false {c : Nat → Nat → Int} {n i : Nat} (hi : i + 1 < n) (h : ¬ c i (i + 1) < 0) : ascV c n = false := by
  unfold ascV
  rw [List.all_eq_false]
  exact ⟨i, List.mem_range.2 (by omega), by simpa using h⟩
/-- How glyphs, ligatures, kerns compare. -/
def cmpG (x y : S31) : Int := cmpB x.f0 y.f0
def orV (a b : Int) : Int := if a = 0 then b else a
def cmpL (x y : S86) : Int := orV (cmpB x.f0 y.f0) (cmpB x.f1 y.f1)
def cmpK (x y : S76) : Int := orV (cmpB x.f0 y.f0) (cmpB x.f1 y.f1)
set_option maxRecDepth 100000 in
theorem cmpG_any (x y : S31) (w : World) :
    Calls Tryz.prog 46 #[.agg #[.string x.f0, .int .i64 x.f1], .agg #[.string y.f0, .int .i64 y.f1]] w fun e w' => e = .returned (.int .i64 (cmpG x y)) ∧ Below w.heap.size w w' := by
  unfold cmpG
  have hb0 : Below w.heap.size w ((w.alloc (.cells #[.string x.f0, .int .i64 x.f1] 31)).alloc (.cells #[.string y.f0, .int .i64 y.f1] 31)) := ((Below.refl _ w).alloc (Nat.le_refl _) _).alloc (by simp) _
  have hc := compare_any x.f0 y.f0 ((w.alloc (.cells #[.string x.f0, .int .i64 x.f1] 31)).alloc (.cells #[.string y.f0, .int .i64 y.f1] 31))
  generalize cmpB x.f0 y.f0 = r at hc ⊢
  go_enter Tryz.func46, Tryz.ntmps46
  go_wp2_with (go_at_call 47; refine hc.mono ?_; rintro e w2 ⟨rfl, hb2⟩)
  go_ret
  exact ⟨rfl, hb0.trans (hb2.mono (by simp; omega))⟩
/-- The loop's relation. -/
def ascGJ (l : List S31) (w : World) (x : Value) (wr : World) : Prop :=
  ∃ k : Nat, x = .int .i64 k ∧ 1 ≤ k ∧ k ≤ l.length + 1 ∧ (∀ i, i + 1 < k → i + 1 < l.length → cmpG (rd_T31 l (i : Int)) (rd_T31 l ((i + 1 : Nat) : Int)) < 0) ∧ Below w.heap.size w wr
set_option maxRecDepth 100000 in
set_option maxHeartbeats 1000000 in
theorem ascG_any (A0 : Option Addr) (c0 : Nat) (l : List S31) (w : World) (hr : Kd.C k31 w A0 l.length l) (hl : l.length ≤ 1000000000) :
    Calls Tryz.prog 45 #[.slice A0 l.length c0, .func (.func 46) #[] #[]] w fun e w' => e = .returned (.bool (ascV (fun i j => cmpG (rd_T31 l (i : Int)) (rd_T31 l (j : Int))) l.length)) ∧ Below w.heap.size w w' := by
  generalize hV : ascV (fun i j => cmpG (rd_T31 l (i : Int)) (rd_T31 l (j : Int))) l.length = V
  have HV := Lib.hid hV
  clear hV
  go_enter Tryz.func45, Tryz.ntmps45
  go_wp2
  go_loopw [5] (fun x wr => ascGJ l w x wr) (fun x _ => l.length + 1 - (intOf x).toNat)
  case atStart => exact ⟨1, rfl, by omega, by omega, (fun i h => by omega), Below.refl _ _⟩
  case round =>
    obtain ⟨k, rfl, hk1, hk, hA, hb⟩ := hrel
    have HA := Lib.hid hA
    clear hA
    by_cases hlt : k < l.length
    · obtain ⟨m, rfl⟩ : ∃ m, k = m + 1 := ⟨k - 1, by omega⟩
      have hC := Kd.C_below hr hb
      obtain ⟨ad, e, HH0⟩ := at_T31 hC (m : Int) (by omega) (by omega)
      obtain ⟨ad2, e2, HH1⟩ := at_T31 hC ((m + 1 : Nat) : Int) (by omega) (by omega)
      cases e
      cases e2
      obtain ⟨h0, h1⟩ := HH0
      obtain ⟨h2, h3⟩ := HH1
      rw [Int.toNat_natCast] at h0 h1 h2 h3
      have hstep : ∀ i, i + 1 = m + 1 → cmpG (rd_T31 l (i : Int)) (rd_T31 l ((i + 1 : Nat) : Int)) = cmpG (rd_T31 l (m : Int)) (rd_T31 l ((m + 1 : Nat) : Int)) := fun i hi => by obtain rfl : i = m := (by omega); rfl
      have hbad : ¬ cmpG (rd_T31 l (m : Int)) (rd_T31 l ((m + 1 : Nat) : Int)) < 0 → V = false := fun h => by rw [← HV.out]; exact ascV_false (i := m) (by omega) h
      have hcm := fun W => cmpG_any (rd_T31 l (m : Int)) (rd_T31 l ((m + 1 : Nat) : Int)) W
      generalize rd_T31 l (m : Int) = x at h0 h1 hstep hcm hbad
      generalize rd_T31 l ((m + 1 : Nat) : Int) = y at h2 h3 hstep hcm hbad
      generalize cmpG x y = r at hcm hstep hbad
      have HS := Lib.hid hstep
      have HB := Lib.hid hbad
      have e1 : IntKind.i64.wrap (((m : Int) + 1) - 1) = (m : Int) := by rw [Int.add_sub_cancel]; exact IntWalk.i64_in _ (by omega)
      have q1 : (m : Int) < (l.length : Int) := by omega
      have q2 : (m : Int) + 1 < (l.length : Int) := by omega
      have q3 : ((m : Int) + 1).toNat = m + 1 := by omega
      have q4 : (0 : Int) ≤ (m : Int) + 1 := by omega
      clear hC hr hstep hbad
      have e0 : IntKind.i64.wrap (m : Int) = (m : Int) := IntWalk.i64_in _ (by omega)
      have q5 : (0 : Int) ≤ (m : Int) := by omega
      by_cases hr0 : r < 0
      · have d1 : decide (0 ≤ r) = false := by simp; omega
        have HR := Lib.hid hr0
        clear hr0
        go_wp2_with fail
        go_region_held3 (fun W => W.cell? (ad.add (m * 2)) = some (.string x.f0) ∧ W.cell? ⟨(ad.add (m * 2)).block, (ad.add (m * 2)).off + 1, none⟩ = some (.int .i64 x.f1) ∧ W.cell? (ad.add ((m + 1) * 2)) = some (.string y.f0) ∧ W.cell? ⟨(ad.add ((m + 1) * 2)).block, (ad.add ((m + 1) * 2)).off + 1, none⟩ = some (.int .i64 y.f1)) (first | go_keep | exact ⟨(hb2.cell (World.block_lt_of_cell? wr _ h0)).trans h0, (hb2.cell (World.block_lt_of_cell? wr _ h1)).trans h1, (hb2.cell (World.block_lt_of_cell? wr _ h2)).trans h2, (hb2.cell (World.block_lt_of_cell? wr _ h3)).trans h3⟩) ((go_at_call 46; refine (hcm _).mono ?_; rintro e w2 ⟨rfl, hb2⟩))
        clear e0 e1
        have hb3 : Below w.heap.size w w2 := (hb.drew).trans (hb2.mono hb.size)
        clear hb2
        go_wp2
        refine ⟨⟨m + 1 + 1, by go_num, by omega, by omega, (fun i h1 h2 => ?_), hb3⟩, by simp [intOf]; omega⟩
        by_cases e : i + 1 = m + 1
        · rw [HS.out i e]; exact HR.out
        · exact HA.out i (by omega) h2
      · have d1 : decide (0 ≤ r) = true := by simp; omega
        have hv : V = false := HB.out hr0
        have HV2 := Lib.hid hv
        clear hr0 hv
        go_wp2_with fail
        go_region_held3 (fun W => W.cell? (ad.add (m * 2)) = some (.string x.f0) ∧ W.cell? ⟨(ad.add (m * 2)).block, (ad.add (m * 2)).off + 1, none⟩ = some (.int .i64 x.f1) ∧ W.cell? (ad.add ((m + 1) * 2)) = some (.string y.f0) ∧ W.cell? ⟨(ad.add ((m + 1) * 2)).block, (ad.add ((m + 1) * 2)).off + 1, none⟩ = some (.int .i64 y.f1)) (first | go_keep | exact ⟨(hb2.cell (World.block_lt_of_cell? wr _ h0)).trans h0, (hb2.cell (World.block_lt_of_cell? wr _ h1)).trans h1, (hb2.cell (World.block_lt_of_cell? wr _ h2)).trans h2, (hb2.cell (World.block_lt_of_cell? wr _ h3)).trans h3⟩) ((go_at_call 46; refine (hcm _).mono ?_; rintro e w2 ⟨rfl, hb2⟩))
        clear e0 e1
        have hb3 : Below w.heap.size w w2 := (hb.drew).trans (hb2.mono hb.size)
        clear hb2
        go_wp2
        go_ret
        exact ⟨by rw [HV2.out]; rfl, hb3⟩
    · have hv : V = true := by rw [← HV.out]; exact ascV_true (fun i hi => HA.out i (by omega) hi)
      have HV2 := Lib.hid hv
      have q1 : decide ((k : Int) < (l.length : Int)) = false := decide_eq_false (by omega)
      clear hv hr
      go_wp2
      go_ret
      exact ⟨by rw [HV2.out]; rfl, hb⟩
theorem drawnBelow {w w' : World} (h : Drawn0 w w') : Below w.heap.size w w' := by
  obtain ⟨n, rfl⟩ := h
  exact ⟨rfl, rfl, rfl, Nat.le_refl _, fun _ _ => rfl⟩
/-- cmp.Or of two numbers. -/
theorem or_two (a b : Int) : Ev (fun k => cmp_Or_int.f k [a, b]) (orV a b) := by
  unfold cmp_Or_int.f orV
  have e1 : wrap64 (0 + 1) = 1 := by rw [w64 (by omega) (by omega)]; rfl
  have e2 : wrap64 (1 + 1) = 2 := by rw [w64 (by omega) (by omega)]; rfl
  have hl : (([a, b] : List Int).length : Int) = 2 := rfl
  refine Ev.step (fun k => by rw [cmp_Or_int.l0]) ?_
  rw [hl]
  refine evPos (by omega) (evPos (by omega) (evPos (by omega) ?_))
  rw [show rd [a, b] 0 = a from rfl, e1]
  by_cases h1 : a = 0
  · refine evPos h1 ?_
    rw [if_pos h1]
    refine Ev.step (fun k => by rw [cmp_Or_int.l0]) ?_
    rw [hl]
    refine evPos (by omega) (evPos (by omega) (evPos (by omega) ?_))
    rw [show rd [a, b] 1 = b from rfl, e2]
    by_cases h2 : b = 0
    · refine evPos h2 ?_
      rw [h2]
      refine Ev.step (fun k => by rw [cmp_Or_int.l0]) ?_
      exact evNeg (by omega) (Ev.now _)
    · exact evNeg h2 (Ev.now _)
  · refine evNeg h1 ?_
    rw [if_neg h1]; exact Ev.now _
theorem read_two (B : Nat) (a b : Int) (w : World) (h0 : w.cell? ⟨B, 0, none⟩ = some (.int .i64 a)) (h1 : w.cell? ⟨B, 1, none⟩ = some (.int .i64 b)) : Kd.C (Kd.int .i64) w (some ⟨B, 0, none⟩) 2 [a, b] := by
  have hs : (Kd.int .i64).sz = 1 := rfl
  refine ⟨rfl, by decide, fun _ => ⟨_, rfl, fun j p hj => ?_⟩⟩
  rcases j with _ | _ | j
  · cases hj
    exact ⟨[.int .i64 a], rfl, rfl, fun i u hi => by rcases i with _ | i; cases hi; simpa [Addr.add_lit] using h0; simp at hi⟩
  · cases hj
    exact ⟨[.int .i64 b], rfl, rfl, fun i u hi => by rcases i with _ | i; cases hi; simpa [Addr.add_lit, hs] using h1; simp at hi⟩
  · simp at hj
theorem or_any (a b : Int) (B : Nat) (w : World) (h0 : w.cell? ⟨B, 0, none⟩ = some (.int .i64 a)) (h1 : w.cell? ⟨B, 1, none⟩ = some (.int .i64 b)) :
    Calls Tryz.prog 53 #[.slice (some ⟨B, 0, none⟩) 2 2] w fun e w' => e = .returned (.int .i64 (orV a b)) ∧ Below w.heap.size w w' := by
  obtain ⟨k, hk⟩ := (or_two a b).rounds
  exact (cmp_Or_int.calls k (some ⟨B, 0, none⟩) 2 [a, b] _ w (read_two B a b w h0 h1) (Nat.le_refl _) hk).mono fun e w' h => ⟨h.1, drawnBelow h.2⟩
theorem litA (W : World) (a b : Value) (t : TypeId) : (W.alloc (.cells #[a, b] t)).cell? ⟨W.heap.size, 0, none⟩ = some a := by simp
theorem litB (W : World) (a b : Value) (t : TypeId) : (W.alloc (.cells #[a, b] t)).cell? ⟨W.heap.size, 1, none⟩ = some b := by simp
theorem lit0 (W : World) (n : Nat) (a b : Value) (t : TypeId) : ((W.drewN n).alloc (.cells #[a, b] t)).cell? ⟨W.heap.size, 0, none⟩ = some a := litA (W.drewN n) a b t
theorem lit1 (W : World) (n : Nat) (a b : Value) (t : TypeId) : ((W.drewN n).alloc (.cells #[a, b] t)).cell? ⟨W.heap.size, 1, none⟩ = some b := litB (W.drewN n) a b t
theorem lit_old {W w2 : World} {n : Nat} {o : Obj} {B i : Nat} {v : Value} (h : Below ((W.drewN n).alloc o).heap.size ((W.drewN n).alloc o) w2) (hc : W.cell? ⟨B, i, none⟩ = some v) : w2.cell? ⟨B, i, none⟩ = some v := by
  have hb : Below W.heap.size W ((W.drewN n).alloc o) := Below.trans (⟨rfl, rfl, rfl, Nat.le_refl _, fun _ _ => rfl⟩ : Below W.heap.size W (W.drewN n)) ((Below.refl _ (W.drewN n)).alloc (Nat.le_refl _) o)
  have hl := World.block_lt_of_cell? W _ hc
  exact (h.cell (p := ⟨B, i, none⟩) (Nat.lt_of_lt_of_le hl hb.size)).trans ((hb.cell (p := ⟨B, i, none⟩) hl).trans hc)
theorem lit_below {W w2 : World} {n : Nat} {o : Obj} (h : Below ((W.drewN n).alloc o).heap.size ((W.drewN n).alloc o) w2) : Below W.heap.size W w2 := by
  have hb : Below W.heap.size W ((W.drewN n).alloc o) := Below.trans (⟨rfl, rfl, rfl, Nat.le_refl _, fun _ _ => rfl⟩ : Below W.heap.size W (W.drewN n)) ((Below.refl _ (W.drewN n)).alloc (Nat.le_refl _) o)
  exact hb.trans (h.mono hb.size)
set_option maxRecDepth 100000 in
set_option maxHeartbeats 1000000 in
theorem cmpL_any (x y : S86) (w : World) :
    Calls Tryz.prog 52 #[.agg #[.string x.f0, .string x.f1, .string x.f2], .agg #[.string y.f0, .string y.f1, .string y.f2]] w fun e w' => e = .returned (.int .i64 (cmpL x y)) ∧ Below w.heap.size w w' := by
  unfold cmpL
  have hb0 : Below w.heap.size w ((w.alloc (.cells #[.string x.f0, .string x.f1, .string x.f2] 86)).alloc (.cells #[.string y.f0, .string y.f1, .string y.f2] 86)) := ((Below.refl _ w).alloc (Nat.le_refl _) _).alloc (by simp) _
  have hz : ((w.alloc (.cells #[.string x.f0, .string x.f1, .string x.f2] 86)).alloc (.cells #[.string y.f0, .string y.f1, .string y.f2] 86)).heap.size = w.heap.size + 2 := by simp
  have c0 : ((w.alloc (.cells #[.string x.f0, .string x.f1, .string x.f2] 86)).alloc (.cells #[.string y.f0, .string y.f1, .string y.f2] 86)).cell? ⟨w.heap.size, 0, none⟩ = some (.string x.f0) := by simp
  have c1 : ((w.alloc (.cells #[.string x.f0, .string x.f1, .string x.f2] 86)).alloc (.cells #[.string y.f0, .string y.f1, .string y.f2] 86)).cell? ⟨w.heap.size, 1, none⟩ = some (.string x.f1) := by simp
  have c2 : ((w.alloc (.cells #[.string x.f0, .string x.f1, .string x.f2] 86)).alloc (.cells #[.string y.f0, .string y.f1, .string y.f2] 86)).cell? ⟨w.heap.size + 1, 0, none⟩ = some (.string y.f0) := by simp
  have c3 : ((w.alloc (.cells #[.string x.f0, .string x.f1, .string x.f2] 86)).alloc (.cells #[.string y.f0, .string y.f1, .string y.f2] 86)).cell? ⟨w.heap.size + 1, 1, none⟩ = some (.string y.f1) := by simp
  have hc1 := fun W => cmp_Compare_string.calls x.f0 y.f0 _ W (compare_f x.f0 y.f0)
  have hc2 := fun W => cmp_Compare_string.calls x.f1 y.f1 _ W (compare_f x.f1 y.f1)
  generalize cmpB x.f0 y.f0 = r1 at hc1 ⊢
  generalize cmpB x.f1 y.f1 = r2 at hc2 ⊢
  have hor := fun B W h0 h1 => or_any r1 r2 B W h0 h1
  generalize orV r1 r2 = R at hor ⊢
  go_enter Tryz.func52, Tryz.ntmps52
  go_wp2_with fail
  generalize ((w.alloc (.cells #[.string x.f0, .string x.f1, .string x.f2] 86)).alloc (.cells #[.string y.f0, .string y.f1, .string y.f2] 86)) = W0 at hb0 hz c0 c1 c2 c3 ⊢
  have hz1 := Nat.le_of_eq hz
  have hz2 := Nat.le_of_eq hz.symm
  clear hz
  go_region_held3 (fun W => W.cell? ⟨w.heap.size, 0, none⟩ = some (.string x.f0) ∧ W.cell? ⟨w.heap.size, 1, none⟩ = some (.string x.f1) ∧ W.cell? ⟨w.heap.size + 1, 0, none⟩ = some (.string y.f0) ∧ W.cell? ⟨w.heap.size + 1, 1, none⟩ = some (.string y.f1))
    (first | go_keep | exact ⟨lit_old hb2 c0, lit_old hb2 c1, lit_old hb2 c2, lit_old hb2 c3⟩)
    (first | (go_at_call 47; ((with_reducible refine (hc1 _).mono ?_); rintro e w2 ⟨rfl, nd, rfl⟩)) | (go_at_call 47; ((with_reducible refine (hc2 _).mono ?_); rintro e w2 ⟨rfl, nd, rfl⟩)) | (go_at_call 53; ((refine (hor _ _ (lit0 _ _ _ _ _) (lit1 _ _ _ _ _)).mono ?_); rintro e w2 ⟨rfl, hb2⟩)))
  all_goals
    have hb3 := hb0.trans ((lit_below hb2).mono hb0.size)
    clear hb2 c0 c1 c2 c3
    go_wp2
    go_ret
    exact ⟨rfl, hb3⟩
set_option maxRecDepth 100000 in
set_option maxHeartbeats 1000000 in
theorem cmpK_any (x y : S76) (w : World) :
    Calls Tryz.prog 57 #[.agg #[.string x.f0, .string x.f1, .int .i64 x.f2], .agg #[.string y.f0, .string y.f1, .int .i64 y.f2]] w fun e w' => e = .returned (.int .i64 (cmpK x y)) ∧ Below w.heap.size w w' := by
  unfold cmpK
  have hb0 : Below w.heap.size w ((w.alloc (.cells #[.string x.f0, .string x.f1, .int .i64 x.f2] 76)).alloc (.cells #[.string y.f0, .string y.f1, .int .i64 y.f2] 76)) := ((Below.refl _ w).alloc (Nat.le_refl _) _).alloc (by simp) _
  have hz : ((w.alloc (.cells #[.string x.f0, .string x.f1, .int .i64 x.f2] 76)).alloc (.cells #[.string y.f0, .string y.f1, .int .i64 y.f2] 76)).heap.size = w.heap.size + 2 := by simp
  have c0 : ((w.alloc (.cells #[.string x.f0, .string x.f1, .int .i64 x.f2] 76)).alloc (.cells #[.string y.f0, .string y.f1, .int .i64 y.f2] 76)).cell? ⟨w.heap.size, 0, none⟩ = some (.string x.f0) := by simp
  have c1 : ((w.alloc (.cells #[.string x.f0, .string x.f1, .int .i64 x.f2] 76)).alloc (.cells #[.string y.f0, .string y.f1, .int .i64 y.f2] 76)).cell? ⟨w.heap.size, 1, none⟩ = some (.string x.f1) := by simp
  have c2 : ((w.alloc (.cells #[.string x.f0, .string x.f1, .int .i64 x.f2] 76)).alloc (.cells #[.string y.f0, .string y.f1, .int .i64 y.f2] 76)).cell? ⟨w.heap.size + 1, 0, none⟩ = some (.string y.f0) := by simp
  have c3 : ((w.alloc (.cells #[.string x.f0, .string x.f1, .int .i64 x.f2] 76)).alloc (.cells #[.string y.f0, .string y.f1, .int .i64 y.f2] 76)).cell? ⟨w.heap.size + 1, 1, none⟩ = some (.string y.f1) := by simp
  have hc1 := fun W => cmp_Compare_string.calls x.f0 y.f0 _ W (compare_f x.f0 y.f0)
  have hc2 := fun W => cmp_Compare_string.calls x.f1 y.f1 _ W (compare_f x.f1 y.f1)
  generalize cmpB x.f0 y.f0 = r1 at hc1 ⊢
  generalize cmpB x.f1 y.f1 = r2 at hc2 ⊢
  have hor := fun B W h0 h1 => or_any r1 r2 B W h0 h1
  generalize orV r1 r2 = R at hor ⊢
  go_enter Tryz.func57, Tryz.ntmps57
  go_wp2_with fail
  generalize ((w.alloc (.cells #[.string x.f0, .string x.f1, .int .i64 x.f2] 76)).alloc (.cells #[.string y.f0, .string y.f1, .int .i64 y.f2] 76)) = W0 at hb0 hz c0 c1 c2 c3 ⊢
  have hz1 := Nat.le_of_eq hz
  have hz2 := Nat.le_of_eq hz.symm
  clear hz
  go_region_held3 (fun W => W.cell? ⟨w.heap.size, 0, none⟩ = some (.string x.f0) ∧ W.cell? ⟨w.heap.size, 1, none⟩ = some (.string x.f1) ∧ W.cell? ⟨w.heap.size + 1, 0, none⟩ = some (.string y.f0) ∧ W.cell? ⟨w.heap.size + 1, 1, none⟩ = some (.string y.f1))
    (first | go_keep | exact ⟨lit_old hb2 c0, lit_old hb2 c1, lit_old hb2 c2, lit_old hb2 c3⟩)
    (first | (go_at_call 47; ((with_reducible refine (hc1 _).mono ?_); rintro e w2 ⟨rfl, nd, rfl⟩)) | (go_at_call 47; ((with_reducible refine (hc2 _).mono ?_); rintro e w2 ⟨rfl, nd, rfl⟩)) | (go_at_call 53; ((refine (hor _ _ (lit0 _ _ _ _ _) (lit1 _ _ _ _ _)).mono ?_); rintro e w2 ⟨rfl, hb2⟩)))
  all_goals
    have hb3 := hb0.trans ((lit_below hb2).mono hb0.size)
    clear hb2 c0 c1 c2 c3
    go_wp2
    go_ret
    exact ⟨rfl, hb3⟩
/-- The loop's relation. -/
def ascLJ (l : List S86) (w : World) (x : Value) (wr : World) : Prop :=
  ∃ k : Nat, x = .int .i64 k ∧ 1 ≤ k ∧ k ≤ l.length + 1 ∧ (∀ i, i + 1 < k → i + 1 < l.length → cmpL (rd_T86 l (i : Int)) (rd_T86 l ((i + 1 : Nat) : Int)) < 0) ∧ Below w.heap.size w wr
set_option maxRecDepth 100000 in
set_option maxHeartbeats 1000000 in
theorem ascL_any (A0 : Option Addr) (c0 : Nat) (l : List S86) (w : World) (hr : Kd.C k86 w A0 l.length l) (hl : l.length ≤ 1000000000) :
    Calls Tryz.prog 51 #[.slice A0 l.length c0, .func (.func 52) #[] #[]] w fun e w' => e = .returned (.bool (ascV (fun i j => cmpL (rd_T86 l (i : Int)) (rd_T86 l (j : Int))) l.length)) ∧ Below w.heap.size w w' := by
  generalize hV : ascV (fun i j => cmpL (rd_T86 l (i : Int)) (rd_T86 l (j : Int))) l.length = V
  have HV := Lib.hid hV
  clear hV
  go_enter Tryz.func51, Tryz.ntmps51
  go_wp2
  go_loopw [5] (fun x wr => ascLJ l w x wr) (fun x _ => l.length + 1 - (intOf x).toNat)
  case atStart => exact ⟨1, rfl, by omega, by omega, (fun i h => by omega), Below.refl _ _⟩
  case round =>
    obtain ⟨k, rfl, hk1, hk, hA, hb⟩ := hrel
    have HA := Lib.hid hA
    clear hA
    by_cases hlt : k < l.length
    · obtain ⟨m, rfl⟩ : ∃ m, k = m + 1 := ⟨k - 1, by omega⟩
      have hC := Kd.C_below hr hb
      obtain ⟨ad, e, HH0⟩ := at_T86 hC (m : Int) (by omega) (by omega)
      obtain ⟨ad2, e2, HH1⟩ := at_T86 hC ((m + 1 : Nat) : Int) (by omega) (by omega)
      cases e
      cases e2
      obtain ⟨h0, h1, h2⟩ := HH0
      obtain ⟨h3, h4, h5⟩ := HH1
      rw [Int.toNat_natCast] at h0 h1 h2 h3 h4 h5
      have hstep : ∀ i, i + 1 = m + 1 → cmpL (rd_T86 l (i : Int)) (rd_T86 l ((i + 1 : Nat) : Int)) = cmpL (rd_T86 l (m : Int)) (rd_T86 l ((m + 1 : Nat) : Int)) := fun i hi => by obtain rfl : i = m := (by omega); rfl
      have hbad : ¬ cmpL (rd_T86 l (m : Int)) (rd_T86 l ((m + 1 : Nat) : Int)) < 0 → V = false := fun h => by rw [← HV.out]; exact ascV_false (i := m) (by omega) h
      have hcm := fun W => cmpL_any (rd_T86 l (m : Int)) (rd_T86 l ((m + 1 : Nat) : Int)) W
      generalize rd_T86 l (m : Int) = x at h0 h1 h2 hstep hcm hbad
      generalize rd_T86 l ((m + 1 : Nat) : Int) = y at h3 h4 h5 hstep hcm hbad
      generalize cmpL x y = r at hcm hstep hbad
      have HS := Lib.hid hstep
      have HB := Lib.hid hbad
      have e1 : IntKind.i64.wrap (((m : Int) + 1) - 1) = (m : Int) := by rw [Int.add_sub_cancel]; exact IntWalk.i64_in _ (by omega)
      have q1 : (m : Int) < (l.length : Int) := by omega
      have q2 : (m : Int) + 1 < (l.length : Int) := by omega
      have q3 : ((m : Int) + 1).toNat = m + 1 := by omega
      have q4 : (0 : Int) ≤ (m : Int) + 1 := by omega
      clear hC hr hstep hbad
      have e0 : IntKind.i64.wrap (m : Int) = (m : Int) := IntWalk.i64_in _ (by omega)
      have q5 : (0 : Int) ≤ (m : Int) := by omega
      by_cases hr0 : r < 0
      · have d1 : decide (0 ≤ r) = false := by simp; omega
        have HR := Lib.hid hr0
        clear hr0
        go_wp2_with fail
        go_region_held3 (fun W => W.cell? (ad.add (m * 3)) = some (.string x.f0) ∧ W.cell? ⟨(ad.add (m * 3)).block, (ad.add (m * 3)).off + 1, none⟩ = some (.string x.f1) ∧ W.cell? ⟨(ad.add (m * 3)).block, (ad.add (m * 3)).off + 2, none⟩ = some (.string x.f2) ∧ W.cell? (ad.add ((m + 1) * 3)) = some (.string y.f0) ∧ W.cell? ⟨(ad.add ((m + 1) * 3)).block, (ad.add ((m + 1) * 3)).off + 1, none⟩ = some (.string y.f1) ∧ W.cell? ⟨(ad.add ((m + 1) * 3)).block, (ad.add ((m + 1) * 3)).off + 2, none⟩ = some (.string y.f2)) (first | go_keep | exact ⟨(hb2.cell (World.block_lt_of_cell? wr _ h0)).trans h0, (hb2.cell (World.block_lt_of_cell? wr _ h1)).trans h1, (hb2.cell (World.block_lt_of_cell? wr _ h2)).trans h2, (hb2.cell (World.block_lt_of_cell? wr _ h3)).trans h3, (hb2.cell (World.block_lt_of_cell? wr _ h4)).trans h4, (hb2.cell (World.block_lt_of_cell? wr _ h5)).trans h5⟩) ((go_at_call 52; refine (hcm _).mono ?_; rintro e w2 ⟨rfl, hb2⟩))
        clear e0 e1
        have hb3 : Below w.heap.size w w2 := (hb.drew).trans (hb2.mono hb.size)
        clear hb2
        go_wp2
        refine ⟨⟨m + 1 + 1, by go_num, by omega, by omega, (fun i h1 h2 => ?_), hb3⟩, by simp [intOf]; omega⟩
        by_cases e : i + 1 = m + 1
        · rw [HS.out i e]; exact HR.out
        · exact HA.out i (by omega) h2
      · have d1 : decide (0 ≤ r) = true := by simp; omega
        have hv : V = false := HB.out hr0
        have HV2 := Lib.hid hv
        clear hr0 hv
        go_wp2_with fail
        go_region_held3 (fun W => W.cell? (ad.add (m * 3)) = some (.string x.f0) ∧ W.cell? ⟨(ad.add (m * 3)).block, (ad.add (m * 3)).off + 1, none⟩ = some (.string x.f1) ∧ W.cell? ⟨(ad.add (m * 3)).block, (ad.add (m * 3)).off + 2, none⟩ = some (.string x.f2) ∧ W.cell? (ad.add ((m + 1) * 3)) = some (.string y.f0) ∧ W.cell? ⟨(ad.add ((m + 1) * 3)).block, (ad.add ((m + 1) * 3)).off + 1, none⟩ = some (.string y.f1) ∧ W.cell? ⟨(ad.add ((m + 1) * 3)).block, (ad.add ((m + 1) * 3)).off + 2, none⟩ = some (.string y.f2)) (first | go_keep | exact ⟨(hb2.cell (World.block_lt_of_cell? wr _ h0)).trans h0, (hb2.cell (World.block_lt_of_cell? wr _ h1)).trans h1, (hb2.cell (World.block_lt_of_cell? wr _ h2)).trans h2, (hb2.cell (World.block_lt_of_cell? wr _ h3)).trans h3, (hb2.cell (World.block_lt_of_cell? wr _ h4)).trans h4, (hb2.cell (World.block_lt_of_cell? wr _ h5)).trans h5⟩) ((go_at_call 52; refine (hcm _).mono ?_; rintro e w2 ⟨rfl, hb2⟩))
        clear e0 e1
        have hb3 : Below w.heap.size w w2 := (hb.drew).trans (hb2.mono hb.size)
        clear hb2
        go_wp2
        go_ret
        exact ⟨by rw [HV2.out]; rfl, hb3⟩
    · have hv : V = true := by rw [← HV.out]; exact ascV_true (fun i hi => HA.out i (by omega) hi)
      have HV2 := Lib.hid hv
      have q1 : decide ((k : Int) < (l.length : Int)) = false := decide_eq_false (by omega)
      clear hv hr
      go_wp2
      go_ret
      exact ⟨by rw [HV2.out]; rfl, hb⟩
/-- The loop's relation. -/
def ascKJ (l : List S76) (w : World) (x : Value) (wr : World) : Prop :=
  ∃ k : Nat, x = .int .i64 k ∧ 1 ≤ k ∧ k ≤ l.length + 1 ∧ (∀ i, i + 1 < k → i + 1 < l.length → cmpK (rd_T76 l (i : Int)) (rd_T76 l ((i + 1 : Nat) : Int)) < 0) ∧ Below w.heap.size w wr
set_option maxRecDepth 100000 in
set_option maxHeartbeats 1000000 in
theorem ascK_any (A0 : Option Addr) (c0 : Nat) (l : List S76) (w : World) (hr : Kd.C k76 w A0 l.length l) (hl : l.length ≤ 1000000000) :
    Calls Tryz.prog 56 #[.slice A0 l.length c0, .func (.func 57) #[] #[]] w fun e w' => e = .returned (.bool (ascV (fun i j => cmpK (rd_T76 l (i : Int)) (rd_T76 l (j : Int))) l.length)) ∧ Below w.heap.size w w' := by
  generalize hV : ascV (fun i j => cmpK (rd_T76 l (i : Int)) (rd_T76 l (j : Int))) l.length = V
  have HV := Lib.hid hV
  clear hV
  go_enter Tryz.func56, Tryz.ntmps56
  go_wp2
  go_loopw [5] (fun x wr => ascKJ l w x wr) (fun x _ => l.length + 1 - (intOf x).toNat)
  case atStart => exact ⟨1, rfl, by omega, by omega, (fun i h => by omega), Below.refl _ _⟩
  case round =>
    obtain ⟨k, rfl, hk1, hk, hA, hb⟩ := hrel
    have HA := Lib.hid hA
    clear hA
    by_cases hlt : k < l.length
    · obtain ⟨m, rfl⟩ : ∃ m, k = m + 1 := ⟨k - 1, by omega⟩
      have hC := Kd.C_below hr hb
      obtain ⟨ad, e, HH0⟩ := at_T76 hC (m : Int) (by omega) (by omega)
      obtain ⟨ad2, e2, HH1⟩ := at_T76 hC ((m + 1 : Nat) : Int) (by omega) (by omega)
      cases e
      cases e2
      obtain ⟨h0, h1, h2⟩ := HH0
      obtain ⟨h3, h4, h5⟩ := HH1
      rw [Int.toNat_natCast] at h0 h1 h2 h3 h4 h5
      have hstep : ∀ i, i + 1 = m + 1 → cmpK (rd_T76 l (i : Int)) (rd_T76 l ((i + 1 : Nat) : Int)) = cmpK (rd_T76 l (m : Int)) (rd_T76 l ((m + 1 : Nat) : Int)) := fun i hi => by obtain rfl : i = m := (by omega); rfl
      have hbad : ¬ cmpK (rd_T76 l (m : Int)) (rd_T76 l ((m + 1 : Nat) : Int)) < 0 → V = false := fun h => by rw [← HV.out]; exact ascV_false (i := m) (by omega) h
      have hcm := fun W => cmpK_any (rd_T76 l (m : Int)) (rd_T76 l ((m + 1 : Nat) : Int)) W
      generalize rd_T76 l (m : Int) = x at h0 h1 h2 hstep hcm hbad
      generalize rd_T76 l ((m + 1 : Nat) : Int) = y at h3 h4 h5 hstep hcm hbad
      generalize cmpK x y = r at hcm hstep hbad
      have HS := Lib.hid hstep
      have HB := Lib.hid hbad
      have e1 : IntKind.i64.wrap (((m : Int) + 1) - 1) = (m : Int) := by rw [Int.add_sub_cancel]; exact IntWalk.i64_in _ (by omega)
      have q1 : (m : Int) < (l.length : Int) := by omega
      have q2 : (m : Int) + 1 < (l.length : Int) := by omega
      have q3 : ((m : Int) + 1).toNat = m + 1 := by omega
      have q4 : (0 : Int) ≤ (m : Int) + 1 := by omega
      clear hC hr hstep hbad
      have e0 : IntKind.i64.wrap (m : Int) = (m : Int) := IntWalk.i64_in _ (by omega)
      have q5 : (0 : Int) ≤ (m : Int) := by omega
      by_cases hr0 : r < 0
      · have d1 : decide (0 ≤ r) = false := by simp; omega
        have HR := Lib.hid hr0
        clear hr0
        go_wp2_with fail
        go_region_held3 (fun W => W.cell? (ad.add (m * 3)) = some (.string x.f0) ∧ W.cell? ⟨(ad.add (m * 3)).block, (ad.add (m * 3)).off + 1, none⟩ = some (.string x.f1) ∧ W.cell? ⟨(ad.add (m * 3)).block, (ad.add (m * 3)).off + 2, none⟩ = some (.int .i64 x.f2) ∧ W.cell? (ad.add ((m + 1) * 3)) = some (.string y.f0) ∧ W.cell? ⟨(ad.add ((m + 1) * 3)).block, (ad.add ((m + 1) * 3)).off + 1, none⟩ = some (.string y.f1) ∧ W.cell? ⟨(ad.add ((m + 1) * 3)).block, (ad.add ((m + 1) * 3)).off + 2, none⟩ = some (.int .i64 y.f2)) (first | go_keep | exact ⟨(hb2.cell (World.block_lt_of_cell? wr _ h0)).trans h0, (hb2.cell (World.block_lt_of_cell? wr _ h1)).trans h1, (hb2.cell (World.block_lt_of_cell? wr _ h2)).trans h2, (hb2.cell (World.block_lt_of_cell? wr _ h3)).trans h3, (hb2.cell (World.block_lt_of_cell? wr _ h4)).trans h4, (hb2.cell (World.block_lt_of_cell? wr _ h5)).trans h5⟩) ((go_at_call 57; refine (hcm _).mono ?_; rintro e w2 ⟨rfl, hb2⟩))
        clear e0 e1
        have hb3 : Below w.heap.size w w2 := (hb.drew).trans (hb2.mono hb.size)
        clear hb2
        go_wp2
        refine ⟨⟨m + 1 + 1, by go_num, by omega, by omega, (fun i h1 h2 => ?_), hb3⟩, by simp [intOf]; omega⟩
        by_cases e : i + 1 = m + 1
        · rw [HS.out i e]; exact HR.out
        · exact HA.out i (by omega) h2
      · have d1 : decide (0 ≤ r) = true := by simp; omega
        have hv : V = false := HB.out hr0
        have HV2 := Lib.hid hv
        clear hr0 hv
        go_wp2_with fail
        go_region_held3 (fun W => W.cell? (ad.add (m * 3)) = some (.string x.f0) ∧ W.cell? ⟨(ad.add (m * 3)).block, (ad.add (m * 3)).off + 1, none⟩ = some (.string x.f1) ∧ W.cell? ⟨(ad.add (m * 3)).block, (ad.add (m * 3)).off + 2, none⟩ = some (.int .i64 x.f2) ∧ W.cell? (ad.add ((m + 1) * 3)) = some (.string y.f0) ∧ W.cell? ⟨(ad.add ((m + 1) * 3)).block, (ad.add ((m + 1) * 3)).off + 1, none⟩ = some (.string y.f1) ∧ W.cell? ⟨(ad.add ((m + 1) * 3)).block, (ad.add ((m + 1) * 3)).off + 2, none⟩ = some (.int .i64 y.f2)) (first | go_keep | exact ⟨(hb2.cell (World.block_lt_of_cell? wr _ h0)).trans h0, (hb2.cell (World.block_lt_of_cell? wr _ h1)).trans h1, (hb2.cell (World.block_lt_of_cell? wr _ h2)).trans h2, (hb2.cell (World.block_lt_of_cell? wr _ h3)).trans h3, (hb2.cell (World.block_lt_of_cell? wr _ h4)).trans h4, (hb2.cell (World.block_lt_of_cell? wr _ h5)).trans h5⟩) ((go_at_call 57; refine (hcm _).mono ?_; rintro e w2 ⟨rfl, hb2⟩))
        clear e0 e1
        have hb3 : Below w.heap.size w w2 := (hb.drew).trans (hb2.mono hb.size)
        clear hb2
        go_wp2
        go_ret
        exact ⟨by rw [HV2.out]; rfl, hb3⟩
    · have hv : V = true := by rw [← HV.out]; exact ascV_true (fun i hi => HA.out i (by omega) hi)
      have HV2 := Lib.hid hv
      have q1 : decide ((k : Int) < (l.length : Int)) = false := decide_eq_false (by omega)
      clear hv hr
      go_wp2
      go_ret
      exact ⟨by rw [HV2.out]; rfl, hb⟩
end Go.Proofs.YtaifemkokfoadaaGreatDoor

namespace Go.Proofs.YtaifemkokfoadaaGreatDoor.PX
open Go.RowKit Go.Proofs.YtaifemkokfoadaaGreatDoorW.PrintWords Go.Proofs.YtaifemkokfoadaaGreatDoorW.PrintLast Go.Proofs.YtaifemkokfoadaaGreatDoorW.PrintMore
attribute [local go_sem] max2_int min2_int max_two min_two max_three min_three max_four min_four   -- for this text's walks alone
set_option linter.unusedVariables false
set_option linter.unusedSimpArgs false
def font_all.l0 : Nat → List ByteArray → Int → Int → ByteArray → Bool → Int → List (S31) → List (S86) → List (S76) → Option (Bool)
  | 0, _, _, _, _, _, _, _, _, _ => none
  | k + 1, x9, x10, x11, x670000, x670001, x670002, x670003, x670004, x670005 => if x11 < x10 then (if 0 ≤ x11 then (if x11 < (x9.length : Int) then ((font_find.f x670000 x670001 x670002 x670003 x670004 x670005 (rdOf ByteArray.empty x9 x11)).bind fun bt671 => (if bt671.2 = true then (font_all.l0 k x9 x10 (wrap64 (x11 + 1)) x670000 x670001 x670002 x670003 x670004 x670005) else (some false))) else (none)) else (none)) else (some true)
def font_all.f (k : Nat) (a0_0 : ByteArray) (a0_1 : Bool) (a0_2 : Int) (l0_3 : List (S31)) (l0_4 : List (S86)) (l0_5 : List (S76)) (l1 : List ByteArray) : Option (Bool) := font_all.l0 k l1 (l1.length : Int) 0 a0_0 a0_1 a0_2 l0_3 l0_4 l0_5
set_option maxHeartbeats 8000000 in
set_option maxRecDepth 100000 in
theorem font_all.calls (k : Nat) (a0_0 : ByteArray) (a0_1 : Bool) (a0_2 : Int) (A0_3 : Option Addr) (c0_3 : Nat) (l0_3 : List (S31)) (A0_4 : Option Addr) (c0_4 : Nat) (l0_4 : List (S86)) (A0_5 : Option Addr) (c0_5 : Nat) (l0_5 : List (S76)) (A1 : Option Addr) (c1 : Nat) (l1 : List ByteArray) (r : Bool) (w : World) (hr0_3 : Kd.C k31 w A0_3 l0_3.length l0_3) (hc0_3 : l0_3.length ≤ c0_3) (hr0_4 : Kd.C k86 w A0_4 l0_4.length l0_4) (hc0_4 : l0_4.length ≤ c0_4) (hr0_5 : Kd.C k76 w A0_5 l0_5.length l0_5) (hc0_5 : l0_5.length ≤ c0_5) (hr1 : Kd.C Kd.string w A1 l1.length l1) (hc1 : l1.length ≤ c1) (hG : GW w) (h : font_all.f k a0_0 a0_1 a0_2 l0_3 l0_4 l0_5 l1 = some r) :
    Calls Tryz.prog 50 #[.agg #[.string a0_0, .bool a0_1, .int .i64 a0_2, .slice A0_3 l0_3.length c0_3, .slice A0_4 l0_4.length c0_4, .slice A0_5 l0_5.length c0_5], .slice A1 l1.length c1] w fun e w' => e = .returned (.bool r) ∧ Below w.heap.size w w' := by
  have hu26 := Tryz.underlying26
  have HG := Aside0.mk hG
  clear hG
  have HR0_3 := Aside0.mk hr0_3
  have HC0_3 := Aside0.mk hc0_3
  clear hr0_3 hc0_3
  have HR0_4 := Aside0.mk hr0_4
  have HC0_4 := Aside0.mk hc0_4
  clear hr0_4 hc0_4
  have HR0_5 := Aside0.mk hr0_5
  have HC0_5 := Aside0.mk hc0_5
  clear hr0_5 hc0_5
  have HR1 := Aside0.mk hr1
  have HC1 := Aside0.mk hc1
  clear hr1 hc1
  have HB := Aside0.mk (Below.refl w.heap.size w)
  have H : (font_all.l0 k l1 (l1.length : Int) 0 a0_0 a0_1 a0_2 l0_3 l0_4 l0_5) = some r := h
  clear h
  have H' := Aside0.mk H
  clear H
  go_enter Tryz.func50, Tryz.ntmps50
  go_wp2_with (first | ((with_reducible refine gate_dst (N := 2) rfl ?_); refine box_event ?hg (N := 2) ?hd (cs := #[.string a0_0, .bool a0_1, .int .i64 a0_2, .slice A0_3 l0_3.length c0_3, .slice A0_4 l0_4.length c0_4, .slice A0_5 l0_5.length c0_5]) (t := 26) ?hr ?_; (case hd => rfl); (case hg => rfl); (case hr => first | (go_simp; done) | (go_simp; rfl)); intro gb669 hg w3 hbox hb; have n0_ := Aside0.mk (below_step (by repeat (first | (with_reducible first | exact HB.out | apply below_alloc | apply pw_below_drewN | apply below_drew1) | exact HB.out)) hb); have n1_ := Aside0.mk (hbox); have n2_ := Aside0.mk ((by rw [hg]; exact (below_size (by repeat (first | (with_reducible first | exact HB.out | apply below_alloc | apply pw_below_drewN | apply below_drew1) | exact HB.out))) : w.heap.size ≤ gb669)); have n3_ := Aside0.mk ((by rw [hg]; exact (below_size (by repeat (first | (with_reducible first | exact HB.out | apply below_alloc | apply pw_below_drewN | apply below_drew1) | exact HB.out))) : w.heap.size ≤ gb669)); clear HB; have HB := n0_; have BK669 := n1_; have GW669 := n2_; have GE669 := n3_; clear n0_ n1_ n2_ n3_; clear hb hbox hg))
  go_loopg [11] k (fun kq v11 w' => ∃ (x11_1 : Int), v11 = .int .i64 x11_1 ∧ Aside0 (font_all.l0 kq l1 (l1.length : Int) x11_1 a0_0 a0_1 a0_2 l0_3 l0_4 l0_5 = some r) ∧ Aside0 (kq ≤ k) ∧ Aside0 (w'.heap[gb669]? = some (.cells #[.string a0_0, .bool a0_1, .int .i64 a0_2, (.slice A0_3 l0_3.length c0_3), (.slice A0_4 l0_4.length c0_4), (.slice A0_5 l0_5.length c0_5)] 26 (0, 0))) ∧ Aside0 (Below w.heap.size w w'))
  case atStart => exact ⟨(0), (by first | rfl | (simp; done) | (simp [*]; done)), H', ⟨Nat.le_refl _⟩, ⟨by (with_reducible repeat (first | refine blk_drewN ?_ _ | refine blk_drew ?_ | refine blk_alloc ?_ _)); exact BK669.out⟩, ⟨by repeat (first | (with_reducible first | exact HB.out | apply below_alloc | apply pw_below_drewN | apply below_drew1 | refine below_set ?_ GE669.out) | exact HB.out)⟩⟩
  case round =>
    clear H'
    try clear c1
    try clear p2
    obtain ⟨x11_1, rfl, HA, HK1, BK669, HB⟩ := hrel
    cases gk with
    | zero => exact absurd HA.out (by simp [font_all.l0])
    | succ k1 =>
      have H := HA.out
      clear HA
      simp only [font_all.l0] at H
      by_cases c4 : x11_1 < (l1.length : Int)
      · rw [if_pos c4] at H
        have c4b0 : decide (x11_1 < (l1.length : Int)) = true := decide_eq_true c4
        clear c4
        by_cases c5 : 0 ≤ x11_1
        · rw [if_pos c5] at H
          have c5b0 : decide (0 ≤ x11_1) = true := decide_eq_true c5
          clear c5
          by_cases c6 : x11_1 < (l1.length : Int)
          · rw [if_pos c6] at H
            have c6b0 : decide (x11_1 < (l1.length : Int)) = true := decide_eq_true c6
            clear c6
            replace H := Option.bind_eq_some_iff.mp H
            obtain ⟨⟨t671, t672⟩, A70, H⟩ := H
            replace H : (if t672 = true then (font_all.l0 k1 l1 (l1.length : Int) (wrap64 (x11_1 + 1)) a0_0 a0_1 a0_2 l0_3 l0_4 l0_5) else (some false)) = some r := H
            have A7 := Aside0.mk A70
            clear A70
            by_cases c8 : t672 = true
            · subst c8
              have H1 : (font_all.l0 k1 l1 (l1.length : Int) (wrap64 (x11_1 + 1)) a0_0 a0_1 a0_2 l0_3 l0_4 l0_5) = some r := by rw [if_pos rfl] at H; exact H
              clear H
              have H := H1
              clear H1
              have H' := Aside0.mk H
              clear H
              have p670 : 0 ≤ (x11_1 : Int) := of_decide_eq_true (by first | (with_reducible assumption) | assumption)
              have q670 : x11_1 < (l1.length : Int) := of_decide_eq_true (by first | (with_reducible assumption) | assumption)
              obtain ⟨ad670, e670, hx670_0⟩ := Kd.at_string HR1.out x11_1 p670 q670
              cases e670
              replace hx670_0 := (HB.out.cell (World.block_lt_of_cell? w _ hx670_0)).trans hx670_0
              replace p670 := eq_true p670
              replace q670 := eq_true q670
              have hcz9_0 : wr.cell? ⟨gb669, 0, none⟩ = some (.string a0_0) := (blk_cell BK669.out 0).trans rfl
              have hcz9_1 : wr.cell? ⟨gb669, 1, none⟩ = some (.bool a0_1) := (blk_cell BK669.out 1).trans rfl
              have hcz9_2 : wr.cell? ⟨gb669, 2, none⟩ = some (.int .i64 a0_2) := (blk_cell BK669.out 2).trans rfl
              have hcz9_3 : wr.cell? ⟨gb669, 3, none⟩ = some (.slice A0_3 l0_3.length c0_3) := (blk_cell BK669.out 3).trans rfl
              have hcz9_4 : wr.cell? ⟨gb669, 4, none⟩ = some (.slice A0_4 l0_4.length c0_4) := (blk_cell BK669.out 4).trans rfl
              have hcz9_5 : wr.cell? ⟨gb669, 5, none⟩ = some (.slice A0_5 l0_5.length c0_5) := (blk_cell BK669.out 5).trans rfl
              have hfz9_0 := blk_frozen BK669.out 0
              have hfz9_1 := blk_frozen BK669.out 1
              have hfz9_2 := blk_frozen BK669.out 2
              have hfz9_3 := blk_frozen BK669.out 3
              have hfz9_4 := blk_frozen BK669.out 4
              have hfz9_5 := blk_frozen BK669.out 5
              go_wp2_with (first | ((with_reducible refine gate_callee (f := 27) rfl ?_); refine goesL_ (some 18) rfl rfl Tryz.func27 (by kernel_rfl) rfl #[.agg #[.string a0_0, .bool a0_1, .int .i64 a0_2, .slice A0_3 l0_3.length c0_3, .slice A0_4 l0_4.length c0_4, .slice A0_5 l0_5.length c0_5], .string (rdOf ByteArray.empty l1 x11_1)] rfl (by (try simp only [List.map_toArray, List.map_cons, List.map_nil]); first | done | rfl | (simp only [List.length_drop, List.length_take]; rfl)) ?_; (with_reducible refine (font_find.calls a0_0 a0_1 a0_2 _ _ l0_3 _ _ l0_4 _ _ l0_5 (rdOf ByteArray.empty l1 x11_1) t671 true _ ?side1 ?side2 ?side3 ?side4 ?side5 ?side6 ?side7 A7.out).mono ?_); (case side1 => repeat (first | exact (Kd.C_below HR0_3.out HB.out) | (with_reducible refine Kd.C_alloc ?_ _) | (with_reducible refine Kd.C_drewN ?_ _) | (with_reducible refine Kd.C_drew ?_))); (case side2 => exact HC0_3.out); (case side3 => repeat (first | exact (Kd.C_below HR0_4.out HB.out) | (with_reducible refine Kd.C_alloc ?_ _) | (with_reducible refine Kd.C_drewN ?_ _) | (with_reducible refine Kd.C_drew ?_))); (case side4 => exact HC0_4.out); (case side5 => repeat (first | exact (Kd.C_below HR0_5.out HB.out) | (with_reducible refine Kd.C_alloc ?_ _) | (with_reducible refine Kd.C_drewN ?_ _) | (with_reducible refine Kd.C_drew ?_))); (case side6 => exact HC0_5.out); (case side7 => exact GW.under HG.out (by repeat (first | (with_reducible first | exact HB.out | apply below_alloc | apply pw_below_drewN | apply below_drew1 | refine below_set ?_ GE669.out) | exact HB.out))); rintro e w10 ⟨rfl, hb⟩; refine ⟨_, rfl, ?_⟩; have n0_ := Aside0.mk (blk_below (g := gb669) (o := .cells #[.string a0_0, .bool a0_1, .int .i64 a0_2, .slice A0_3 l0_3.length c0_3, .slice A0_4 l0_4.length c0_4, .slice A0_5 l0_5.length c0_5] 26 (0, 0)) (by (with_reducible repeat (first | refine blk_drewN ?_ _ | refine blk_drew ?_ | refine blk_alloc ?_ _)); exact BK669.out) hb); have n1_ := Aside0.mk (below_step (by repeat (first | (with_reducible first | exact HB.out | apply below_alloc | apply pw_below_drewN | apply below_drew1 | refine below_set ?_ GE669.out) | exact HB.out)) hb); clear BK669; clear HB; have BK669 := n0_; have HB := n1_; clear n0_ n1_; (try clear hb); (try clear hb2); (try clear hk); (try clear hi)))
              go_roundg k1
              case measure => have := HK1.out; omega
              case rel => exact ⟨(wrap64 (x11_1 + 1)), (by first | rfl | (simp; done) | (simp [*]; done)), H', ⟨by have := HK1.out; omega⟩, ⟨by (with_reducible repeat (first | refine blk_drewN ?_ _ | refine blk_drew ?_ | refine blk_alloc ?_ _)); exact BK669.out⟩, ⟨by repeat (first | (with_reducible first | exact HB.out | apply below_alloc | apply pw_below_drewN | apply below_drew1 | refine below_set ?_ GE669.out) | exact HB.out)⟩⟩
            · replace c8 := Bool.eq_false_iff.mpr c8
              subst c8
              have H1 : (some false) = some r := by rw [if_neg (show ¬ (false = true) by decide)] at H; exact H
              clear H
              have H := H1
              clear H1
              obtain rfl := Option.some.inj H
              have p670 : 0 ≤ (x11_1 : Int) := of_decide_eq_true (by first | (with_reducible assumption) | assumption)
              have q670 : x11_1 < (l1.length : Int) := of_decide_eq_true (by first | (with_reducible assumption) | assumption)
              obtain ⟨ad670, e670, hx670_0⟩ := Kd.at_string HR1.out x11_1 p670 q670
              cases e670
              replace hx670_0 := (HB.out.cell (World.block_lt_of_cell? w _ hx670_0)).trans hx670_0
              replace p670 := eq_true p670
              replace q670 := eq_true q670
              have hcz11_0 : wr.cell? ⟨gb669, 0, none⟩ = some (.string a0_0) := (blk_cell BK669.out 0).trans rfl
              have hcz11_1 : wr.cell? ⟨gb669, 1, none⟩ = some (.bool a0_1) := (blk_cell BK669.out 1).trans rfl
              have hcz11_2 : wr.cell? ⟨gb669, 2, none⟩ = some (.int .i64 a0_2) := (blk_cell BK669.out 2).trans rfl
              have hcz11_3 : wr.cell? ⟨gb669, 3, none⟩ = some (.slice A0_3 l0_3.length c0_3) := (blk_cell BK669.out 3).trans rfl
              have hcz11_4 : wr.cell? ⟨gb669, 4, none⟩ = some (.slice A0_4 l0_4.length c0_4) := (blk_cell BK669.out 4).trans rfl
              have hcz11_5 : wr.cell? ⟨gb669, 5, none⟩ = some (.slice A0_5 l0_5.length c0_5) := (blk_cell BK669.out 5).trans rfl
              have hfz11_0 := blk_frozen BK669.out 0
              have hfz11_1 := blk_frozen BK669.out 1
              have hfz11_2 := blk_frozen BK669.out 2
              have hfz11_3 := blk_frozen BK669.out 3
              have hfz11_4 := blk_frozen BK669.out 4
              have hfz11_5 := blk_frozen BK669.out 5
              go_wp2_with (first | ((with_reducible refine gate_callee (f := 27) rfl ?_); refine goesL_ (some 18) rfl rfl Tryz.func27 (by kernel_rfl) rfl #[.agg #[.string a0_0, .bool a0_1, .int .i64 a0_2, .slice A0_3 l0_3.length c0_3, .slice A0_4 l0_4.length c0_4, .slice A0_5 l0_5.length c0_5], .string (rdOf ByteArray.empty l1 x11_1)] rfl (by (try simp only [List.map_toArray, List.map_cons, List.map_nil]); first | done | rfl | (simp only [List.length_drop, List.length_take]; rfl)) ?_; (with_reducible refine (font_find.calls a0_0 a0_1 a0_2 _ _ l0_3 _ _ l0_4 _ _ l0_5 (rdOf ByteArray.empty l1 x11_1) t671 false _ ?side1 ?side2 ?side3 ?side4 ?side5 ?side6 ?side7 A7.out).mono ?_); (case side1 => repeat (first | exact (Kd.C_below HR0_3.out HB.out) | (with_reducible refine Kd.C_alloc ?_ _) | (with_reducible refine Kd.C_drewN ?_ _) | (with_reducible refine Kd.C_drew ?_))); (case side2 => exact HC0_3.out); (case side3 => repeat (first | exact (Kd.C_below HR0_4.out HB.out) | (with_reducible refine Kd.C_alloc ?_ _) | (with_reducible refine Kd.C_drewN ?_ _) | (with_reducible refine Kd.C_drew ?_))); (case side4 => exact HC0_4.out); (case side5 => repeat (first | exact (Kd.C_below HR0_5.out HB.out) | (with_reducible refine Kd.C_alloc ?_ _) | (with_reducible refine Kd.C_drewN ?_ _) | (with_reducible refine Kd.C_drew ?_))); (case side6 => exact HC0_5.out); (case side7 => exact GW.under HG.out (by repeat (first | (with_reducible first | exact HB.out | apply below_alloc | apply pw_below_drewN | apply below_drew1 | refine below_set ?_ GE669.out) | exact HB.out))); rintro e w12 ⟨rfl, hb⟩; refine ⟨_, rfl, ?_⟩; have n0_ := Aside0.mk (blk_below (g := gb669) (o := .cells #[.string a0_0, .bool a0_1, .int .i64 a0_2, .slice A0_3 l0_3.length c0_3, .slice A0_4 l0_4.length c0_4, .slice A0_5 l0_5.length c0_5] 26 (0, 0)) (by (with_reducible repeat (first | refine blk_drewN ?_ _ | refine blk_drew ?_ | refine blk_alloc ?_ _)); exact BK669.out) hb); have n1_ := Aside0.mk (below_step (by repeat (first | (with_reducible first | exact HB.out | apply below_alloc | apply pw_below_drewN | apply below_drew1 | refine below_set ?_ GE669.out) | exact HB.out)) hb); clear BK669; clear HB; have BK669 := n0_; have HB := n1_; clear n0_ n1_; (try clear hb); (try clear hb2); (try clear hk); (try clear hi)))
              go_ret
              exact ⟨by first | rfl | (simp [errW_none, errW_some] <;> rfl) | (simp [*, errW_none, errW_some] <;> rfl), by repeat (first | (with_reducible first | exact HB.out | apply below_alloc | apply pw_below_drewN | apply below_drew1 | refine below_set ?_ GE669.out) | exact HB.out)⟩
          · rw [if_neg c6] at H
            exact absurd H (by simp)
        · rw [if_neg c5] at H
          exact absurd H (by simp)
      · rw [if_neg c4] at H
        have c4b0 : decide (x11_1 < (l1.length : Int)) = false := decide_eq_false c4
        clear c4
        obtain rfl := Option.some.inj H
        go_wp2
        go_ret
        exact ⟨by first | rfl | (simp [errW_none, errW_some] <;> rfl) | (simp [*, errW_none, errW_some] <;> rfl), by repeat (first | (with_reducible first | exact HB.out | apply below_alloc | apply pw_below_drewN | apply below_drew1 | refine below_set ?_ GE669.out) | exact HB.out)⟩
end Go.Proofs.YtaifemkokfoadaaGreatDoor.PX

namespace Go.Proofs.YtaifemkokfoadaaGreatDoor
open Go.RowKit Go.Shelf Go.Proofs.YtaifemkokfoadaaGreatDoorW.PrintWords Go.Proofs.YtaifemkokfoadaaGreatDoorW.PrintMore Go.Proofs.YtaifemkokfoadaaGreatDoor.PX
instance : Inhabited S31 := ⟨z31⟩
instance : Inhabited S86 := ⟨z86⟩
instance : Inhabited S76 := ⟨z76⟩
def encG (x : S31) : List Value := [.string x.f0, .int .i64 x.f1]
def encL (x : S86) : List Value := [.string x.f0, .string x.f1, .string x.f2]
def encK (x : S76) : List Value := [.string x.f0, .string x.f1, .int .i64 x.f2]
/-- A row of elements, cell by cell. -/
theorem cells_of {α : Type} [Inhabited α] (d : Kd α) (enc : α → List Value) (hopen : ∀ (w : World) (x : α) (c : List Value), d.K w x c → c = enc x) (hne : ∀ x, enc x ≠ []) {w : World} {A : Option Addr} {l : List α} (h : Kd.C d w A l.length l) (h0 : l ≠ []) :
    ∃ b off, A = some ⟨b, off, none⟩ ∧ b < w.heap.size ∧ ∀ j, j < l.length → ∀ i v, (enc l[j]!)[i]? = some v → w.cell? ⟨b, off + j * d.sz + i, none⟩ = some v := by
  have hl : 0 < l.length := List.length_pos_iff.2 h0
  obtain ⟨_, _, h3⟩ := h
  obtain ⟨ad, rfl, hc⟩ := h3 hl
  obtain ⟨b, off, spot⟩ := ad
  have hcell : ∀ j, j < l.length → ∀ i v, (enc l[j]!)[i]? = some v → w.cell? ((⟨b, off, spot⟩ : Addr).add (j * d.sz + i)) = some v := by
    intro j hj i v hv
    obtain ⟨c, _, hK, hcc⟩ := hc j l[j] (List.getElem?_eq_getElem hj)
    have e := hopen w _ c hK
    rw [getElem!_pos l j hj, ← e] at hv
    exact hcc i v hv
  obtain ⟨v, hv⟩ : ∃ v, (enc l[0]!)[0]? = some v := by
    cases he : enc l[0]! with
    | nil => exact absurd he (hne _)
    | cons v r => exact ⟨v, rfl⟩
  have hc0 := hcell 0 hl 0 v hv
  have hspot : spot = none := by simpa [Addr.add] using World.cell?_spot hc0
  subst hspot
  refine ⟨b, off, rfl, ?_, fun j hj i v hv => ?_⟩
  · have := World.block_lt_of_cell? w _ hc0
    simpa [Addr.add] using this
  · have := hcell j hj i v hv
    rwa [Addr.add_lit, ← Nat.add_assoc] at this
set_option maxRecDepth 100000 in
theorem idxG_none (A0 : Option Addr) (c0 : Nat) (fv : Value) (w : World) : Calls Tryz.prog 98 #[.slice A0 0 c0, fv] w fun e w' => e = .returned (.int .i64 (-1)) ∧ Below w.heap.size w w' := by
  go_enter Tryz.func98, Tryz.ntmps98
  go_wp2
  go_loop [8] (fun i => i = .int .i64 0) (fun _ => 0)
  case atStart => rfl
  case round =>
    obtain rfl := hrel
    go_wp2
    go_ret
    exact ⟨rfl, Below.refl _ _⟩
set_option maxRecDepth 100000 in
theorem hasG_any (A0 : Option Addr) (c0 : Nat) (l : List S31) (w : World) (hr : Kd.C k31 w A0 l.length l) (hl : l.length ≤ 1000000000) (p : S31 → Bool) (g : Nat) (lb : Array Value) (eg : ∀ args w, (callFunc g args).run Tryz.prog w = .ok (.enter g args) w)
    (hp : PredBelow Tryz.prog g lb (fun x => .agg (encG x).toArray) p w) :
    Calls Tryz.prog 42 #[.slice A0 l.length c0, .func (.func g) #[] lb] w fun e w' => e = .returned (.bool (l.any p)) ∧ Below w.heap.size w w' := by
  by_cases h0 : l = []
  · subst h0
    have h := idxG_none A0 c0 (.func (.func g) #[] lb) w
    go_enter Tryz.func42, Tryz.ntmps42
    go_wp2_with (go_at_call 98; refine h.mono ?_; rintro e w1 ⟨rfl, hb⟩)
    go_ret
    exact ⟨rfl, hb⟩
  · obtain ⟨b, off, rfl, hb, hc⟩ := cells_of k31 encG (fun w x c h => k31_open h) (fun x => by simp [encG]) hr h0
    have := AnyQ.slices_ContainsFunc Tryz.hasG 2 Tryz.isAgg31 Tryz.sizeOf31 encG (fun _ => rfl) p g lb eg b off l.length c0 l w hp (Nat.le_refl _) (by omega) hb hc
    rw [List.take_length] at this
    exact this
set_option maxRecDepth 100000 in
theorem idxL_none (A0 : Option Addr) (c0 : Nat) (fv : Value) (w : World) : Calls Tryz.prog 102 #[.slice A0 0 c0, fv] w fun e w' => e = .returned (.int .i64 (-1)) ∧ Below w.heap.size w w' := by
  go_enter Tryz.func102, Tryz.ntmps102
  go_wp2
  go_loop [8] (fun i => i = .int .i64 0) (fun _ => 0)
  case atStart => rfl
  case round =>
    obtain rfl := hrel
    go_wp2
    go_ret
    exact ⟨rfl, Below.refl _ _⟩
set_option maxRecDepth 100000 in
theorem hasL_any (A0 : Option Addr) (c0 : Nat) (l : List S86) (w : World) (hr : Kd.C k86 w A0 l.length l) (hl : l.length ≤ 1000000000) (p : S86 → Bool) (g : Nat) (lb : Array Value) (eg : ∀ args w, (callFunc g args).run Tryz.prog w = .ok (.enter g args) w)
    (hp : PredBelow Tryz.prog g lb (fun x => .agg (encL x).toArray) p w) :
    Calls Tryz.prog 48 #[.slice A0 l.length c0, .func (.func g) #[] lb] w fun e w' => e = .returned (.bool (l.any p)) ∧ Below w.heap.size w w' := by
  by_cases h0 : l = []
  · subst h0
    have h := idxL_none A0 c0 (.func (.func g) #[] lb) w
    go_enter Tryz.func48, Tryz.ntmps48
    go_wp2_with (go_at_call 102; refine h.mono ?_; rintro e w1 ⟨rfl, hb⟩)
    go_ret
    exact ⟨rfl, hb⟩
  · obtain ⟨b, off, rfl, hb, hc⟩ := cells_of k86 encL (fun w x c h => k86_open h) (fun x => by simp [encL]) hr h0
    have := AnyQ.slices_ContainsFunc Tryz.hasL 3 Tryz.isAgg86 Tryz.sizeOf86 encL (fun _ => rfl) p g lb eg b off l.length c0 l w hp (Nat.le_refl _) (by omega) hb hc
    rw [List.take_length] at this
    exact this
set_option maxRecDepth 100000 in
theorem idxK_none (A0 : Option Addr) (c0 : Nat) (fv : Value) (w : World) : Calls Tryz.prog 103 #[.slice A0 0 c0, fv] w fun e w' => e = .returned (.int .i64 (-1)) ∧ Below w.heap.size w w' := by
  go_enter Tryz.func103, Tryz.ntmps103
  go_wp2
  go_loop [8] (fun i => i = .int .i64 0) (fun _ => 0)
  case atStart => rfl
  case round =>
    obtain rfl := hrel
    go_wp2
    go_ret
    exact ⟨rfl, Below.refl _ _⟩
set_option maxRecDepth 100000 in
theorem hasK_any (A0 : Option Addr) (c0 : Nat) (l : List S76) (w : World) (hr : Kd.C k76 w A0 l.length l) (hl : l.length ≤ 1000000000) (p : S76 → Bool) (g : Nat) (lb : Array Value) (eg : ∀ args w, (callFunc g args).run Tryz.prog w = .ok (.enter g args) w)
    (hp : PredBelow Tryz.prog g lb (fun x => .agg (encK x).toArray) p w) :
    Calls Tryz.prog 55 #[.slice A0 l.length c0, .func (.func g) #[] lb] w fun e w' => e = .returned (.bool (l.any p)) ∧ Below w.heap.size w w' := by
  by_cases h0 : l = []
  · subst h0
    have h := idxK_none A0 c0 (.func (.func g) #[] lb) w
    go_enter Tryz.func55, Tryz.ntmps55
    go_wp2_with (go_at_call 103; refine h.mono ?_; rintro e w1 ⟨rfl, hb⟩)
    go_ret
    exact ⟨rfl, hb⟩
  · obtain ⟨b, off, rfl, hb, hc⟩ := cells_of k76 encK (fun w x c h => k76_open h) (fun x => by simp [encK]) hr h0
    have := AnyQ.slices_ContainsFunc Tryz.hasK 3 Tryz.isAgg76 Tryz.sizeOf76 encK (fun _ => rfl) p g lb eg b off l.length c0 l w hp (Nat.le_refl _) (by omega) hb hc
    rw [List.take_length] at this
    exact this
def wideB (n : Int) : Bool := decide (n < 0) || decide (3000 < n)
set_option maxRecDepth 100000 in
theorem wide_any (n : Int) (w : World) : Calls Tryz.prog 40 #[.int .i64 n] w fun e w' => e = .returned (.bool (wideB n)) ∧ w' = w := by
  unfold wideB
  by_cases h1 : n < 0
  · have d1 : decide (n < 0) = true := decide_eq_true h1
    rw [d1]; clear h1
    go_enter Tryz.func40, Tryz.ntmps40
    go_wp2
    go_ret
    exact ⟨rfl, rfl⟩
  · have d1 : decide (n < 0) = false := decide_eq_false h1
    rw [d1]; clear h1
    cases hd : decide (3000 < n) with
    | true =>
      go_enter Tryz.func40, Tryz.ntmps40
      go_wp2
      go_ret
      exact ⟨rfl, rfl⟩
    | false =>
      go_enter Tryz.func40, Tryz.ntmps40
      go_wp2
      go_ret
      exact ⟨rfl, rfl⟩
/-- A glyph that is none. -/
def badG (x : S31) : Bool := !nameB x.f0.data.toList || wideB x.f1
set_option maxRecDepth 100000 in
theorem badG_any (B : Nat) (w : World) (hB : w.cell? ⟨B, 0, none⟩ = some (.func (.func 40) #[] #[])) :
    PredBelow Tryz.prog 43 #[.pointer (some ⟨B, 0, none⟩)] (fun x => .agg (encG x).toArray) badG w := fun W x hb => by
  have hl := World.block_lt_of_cell? w _ hB
  have hc : W.cell? ⟨B, 0, none⟩ = some (.func (.func 40) #[] #[]) := (hb.cell hl).trans hB
  have hlW : B < W.heap.size := Nat.lt_of_lt_of_le hl hb.size
  show Calls Tryz.prog 43 #[.agg #[.string x.f0, .int .i64 x.f1], .pointer (some ⟨B, 0, none⟩)] W _
  have hb0 : Below w.heap.size w (W.alloc (.cells #[.string x.f0, .int .i64 x.f1] 31)) := hb.alloc hb.size _
  have hbW : Below W.heap.size W (W.alloc (.cells #[.string x.f0, .int .i64 x.f1] 31)) := (Below.refl _ W).alloc (Nat.le_refl _) _
  have hn := named_any x.f0 (W.alloc (.cells #[.string x.f0, .int .i64 x.f1] 31))
  have hw := fun W => wide_any x.f1 W
  have hv : badG x = (!nameB x.f0.data.toList || wideB x.f1) := rfl
  rw [hv]
  clear hv hb
  generalize nameB x.f0.data.toList = b1 at hn ⊢
  generalize wideB x.f1 = b2 at hw ⊢
  cases b1 with
  | false =>
    go_enter Tryz.func43, Tryz.ntmps43
    go_wp2_with (go_at_call 44; refine hn.mono ?_; rintro e w1 ⟨rfl, hb1⟩)
    go_ret
    exact ⟨rfl, hb0.trans (hb1.mono hb0.size)⟩
  | true =>
    go_enter Tryz.func43, Tryz.ntmps43
    go_wp2_with (first | (go_at_call 44; refine hn.mono ?_; rintro e w1 ⟨rfl, hb1⟩; have hc1 := (hb1.cell (p := ⟨B, 0, none⟩) (by simp; omega)).trans ((hbW.cell (p := ⟨B, 0, none⟩) hlW).trans hc); have k1 := (hb1.cell (p := ⟨W.heap.size, 1, none⟩) (by simp)).trans (litB W (.string x.f0) (.int .i64 x.f1) _)) | (go_at_call 40; refine (hw _).mono ?_; rintro e w2 ⟨rfl, rfl⟩))
    go_ret
    exact ⟨by first | rfl | (cases b2 <;> rfl), hb0.trans (hb1.mono hb0.size)⟩
def allV (l : List S31) (ns : List ByteArray) : Bool := ns.all fun n => (findV l n).2
theorem all_l (a : ByteArray) (b : Bool) (c : Int) (l3 : List S31) (l4 : List S86) (l5 : List S76) (h3 : l3.length ≤ 1000000000) (ns : List ByteArray) (hn : ns.length ≤ 1000) : ∀ (d i : Nat), i + d = ns.length →
    Ev (fun k => font_all.l0 k ns (ns.length : Int) (i : Int) a b c l3 l4 l5) (allV l3 (ns.drop i)) := by
  intro d
  induction d with
  | zero =>
    intro i h
    rw [List.drop_eq_nil_of_le (by omega)]
    refine Ev.step (fun k => by rw [font_all.l0]) ?_
    exact evNeg (by omega) (Ev.now _)
  | succ d ih =>
    intro i h
    have hi : i < ns.length := by omega
    have e2 : wrap64 ((i : Int) + 1) = ((i + 1 : Nat) : Int) := by rw [w64 (by omega) (by omega)]; rfl
    have hg : rdOf ByteArray.empty ns (i : Int) = ns[i] := by rw [rdOf_nat, List.getD_eq_getElem?_getD, List.getElem?_eq_getElem hi]; rfl
    have hd : ns.drop i = ns[i] :: ns.drop (i + 1) := List.drop_eq_getElem_cons hi
    refine Ev.step (fun k => by rw [font_all.l0]) ?_
    refine evPos (by omega) (evPos (by omega) (evPos (by omega) ?_))
    rw [hg, e2]
    refine evUse (y := findV l3 ns[i]) (by unfold font_find.f; rw [if_pos h3]) ?_
    rw [hd]
    show Ev _ ((findV l3 ns[i]).2 && allV l3 (ns.drop (i + 1)))
    cases hb : (findV l3 ns[i]).2 with
    | true => exact evPos rfl (ih (i + 1) (by omega))
    | false => exact evNeg (by simp) (Ev.now _)
theorem all_any (a : ByteArray) (b : Bool) (c : Int) (A3 : Option Addr) (c3 : Nat) (l3 : List S31) (A4 : Option Addr) (c4 : Nat) (l4 : List S86) (A5 : Option Addr) (c5 : Nat) (l5 : List S76) (A : Option Addr) (cn : Nat) (ns : List ByteArray) (w : World)
    (h3 : Kd.C k31 w A3 l3.length l3) (g3 : l3.length ≤ c3) (h4 : Kd.C k86 w A4 l4.length l4) (g4 : l4.length ≤ c4) (h5 : Kd.C k76 w A5 l5.length l5) (g5 : l5.length ≤ c5) (hn : Kd.C Kd.string w A ns.length ns) (gn : ns.length ≤ cn) (hG : GW w) (hl3 : l3.length ≤ 1000000000) (hln : ns.length ≤ 1000) :
    Calls Tryz.prog 50 #[.agg #[.string a, .bool b, .int .i64 c, .slice A3 l3.length c3, .slice A4 l4.length c4, .slice A5 l5.length c5], .slice A ns.length cn] w fun e w' => e = .returned (.bool (allV l3 ns)) ∧ Below w.heap.size w w' := by
  obtain ⟨k, hk⟩ := (all_l a b c l3 l4 l5 hl3 ns hln ns.length 0 (by omega)).rounds
  exact font_all.calls k a b c A3 c3 l3 A4 c4 l4 A5 c5 l5 A cn ns _ w h3 g3 h4 g4 h5 g5 hn gn hG hk
/-- A font's cells, and what they lead to. -/
structure FontAt (w : World) (B : Nat) (a : ByteArray) (b : Bool) (c : Int) (A3 : Option Addr) (c3 : Nat) (l3 : List S31) (A4 : Option Addr) (c4 : Nat) (l4 : List S86) (A5 : Option Addr) (c5 : Nat) (l5 : List S76) : Prop where
  blk : w.heap[B]? = some (.cells #[.string a, .bool b, .int .i64 c, .slice A3 l3.length c3, .slice A4 l4.length c4, .slice A5 l5.length c5] 26 (0, 0))
  h3 : Kd.C k31 w A3 l3.length l3
  h4 : Kd.C k86 w A4 l4.length l4
  h5 : Kd.C k76 w A5 l5.length l5
  gw : GW w
theorem FontAt.below {w w' : World} {B : Nat} {a : ByteArray} {b : Bool} {c : Int} {A3 : Option Addr} {c3 : Nat} {l3 : List S31} {A4 : Option Addr} {c4 : Nat} {l4 : List S86} {A5 : Option Addr} {c5 : Nat} {l5 : List S76}
    (h : FontAt w B a b c A3 c3 l3 A4 c4 l4 A5 c5 l5) (hb : Below w.heap.size w w') : FontAt w' B a b c A3 c3 l3 A4 c4 l4 A5 c5 l5 :=
  ⟨(hb.block B (Array.getElem?_eq_some_iff.1 h.blk).1).trans h.blk, Kd.C_below h.h3 hb, Kd.C_below h.h4 hb, Kd.C_below h.h5 hb, h.gw.under hb⟩
theorem cell_blk {w : World} {B : Nat} {cs : Array Value} {t : TypeId} (h : w.heap[B]? = some (.cells cs t (0, 0))) (i : Nat) (v : Value) (hv : cs[i]? = some v) : w.cell? ⟨B, i, none⟩ = some v := by
  simp only [World.cell?, h]
  exact hv
end Go.Proofs.YtaifemkokfoadaaGreatDoor

namespace Go.Proofs.YtaifemkokfoadaaGreatDoor
open Go.RowKit Go.Proofs.YtaifemkokfoadaaGreatDoorW.PrintWords Go.Proofs.YtaifemkokfoadaaGreatDoorW.PrintLast Go.Proofs.YtaifemkokfoadaaGreatDoorW.PrintMore Go.Proofs.YtaifemkokfoadaaGreatDoor.PX
set_option linter.unusedSimpArgs false
set_option linter.unusedVariables false
def rhasV (l : List S81) (n : ByteArray) : Bool := l.any fun x => x.f0.toList == n.toList
def aheadV (a b c d : ByteArray) : Bool := Op.bytesLess a.toList c.toList || (a.toList == c.toList && Op.bytesLess b.toList d.toList)
def wideR (n : Int) : Bool := decide (n < 0) || decide (3000 < n)
def rokG (l : List S81) (i : Nat) : Bool := nameB (rd_T81 l (i : Int)).f0.data.toList && (!wideR (rd_T81 l (i : Int)).f1 && (decide (i = 0) || Op.bytesLess (rd_T81 l ((i : Int) - 1)).f0.toList (rd_T81 l (i : Int)).f0.toList))
def rokL (l3 : List S81) (l : List S83) (i : Nat) : Bool := rhasV l3 (rd_T83 l (i : Int)).f0 && (rhasV l3 (rd_T83 l (i : Int)).f1 && (rhasV l3 (rd_T83 l (i : Int)).f2 && (decide (i = 0) || aheadV (rd_T83 l ((i : Int) - 1)).f0 (rd_T83 l ((i : Int) - 1)).f1 (rd_T83 l (i : Int)).f0 (rd_T83 l (i : Int)).f1)))
def rokK (l3 : List S81) (l : List S84) (i : Nat) : Bool := rhasV l3 (rd_T84 l (i : Int)).f0 && (rhasV l3 (rd_T84 l (i : Int)).f1 && (!decide ((rd_T84 l (i : Int)).f2 = 0) && (!decide ((rd_T84 l (i : Int)).f2 < -500) && (!decide (500 < (rd_T84 l (i : Int)).f2) && (decide (i = 0) || aheadV (rd_T84 l ((i : Int) - 1)).f0 (rd_T84 l ((i : Int) - 1)).f1 (rd_T84 l (i : Int)).f0 (rd_T84 l (i : Int)).f1)))))
def rvalidV (a : ByteArray) (c : Int) (l3 : List S81) (l4 : List S83) (l5 : List S84) : Bool :=
  (fnameB a.data.toList && (!wideR c && (decide (l3.length ≤ 400) && (decide (l4.length ≤ 50) && decide (l5.length ≤ 500))))) && ((List.range l3.length).all (rokG l3) && ((List.range l4.length).all (rokL l3 l4) && (List.range l5.length).all (rokK l3 l5)))
theorem rangeAll {f : Nat → Bool} {n : Nat} (h : ∀ i, i < n → f i = true) : (List.range n).all f = true := List.all_eq_true.2 fun i hi => h i (List.mem_range.1 hi)
theorem rangeNot {f : Nat → Bool} {n i : Nat} (hi : i < n) (h : f i = false) : (List.range n).all f = false := by
  cases e : (List.range n).all f with
  | false => rfl
  | true => exact absurd (List.all_eq_true.1 e i (List.mem_range.2 hi)) (by rw [h]; simp)
theorem hasL (a : ByteArray) (b : Bool) (c : Int) (l : List S81) (l4 : List S83) (l5 : List S84) (n : ByteArray) (hl : l.length ≤ 1000000000) : ∀ d i, l.length - i = d → i ≤ l.length → Ev (fun k => frisketref07_Has.l0 k n (i : Int) a b c l l4 l5) (rhasV (l.drop i) n) := by
  intro d
  induction d with
  | zero =>
    intro i hd hi
    rw [List.drop_eq_nil_of_le (by omega)]
    refine evEq (r := false) rfl (Ev.step (fun k => by rw [frisketref07_Has.l0]) (evNeg (by omega) (Ev.now _)))
  | succ d ih =>
    intro i hd hi
    have h1 : i < l.length := by omega
    have q0 : (0 : Int) ≤ (i : Int) := by omega
    have q1 : (i : Int) < (l.length : Int) := by omega
    have hw : wrap64 ((i : Int) + 1) = ((i + 1 : Nat) : Int) := (w64 (by omega) (by omega)).trans (by omega)
    have hr := ih (i + 1) (by omega) (by omega)
    have e : rd_T81 l (i : Int) = l[i] := by simp [rd_T81, List.getD_eq_getElem?_getD, h1]
    rw [List.drop_eq_getElem_cons h1]
    unfold rhasV
    rw [List.any_cons]
    refine Ev.step (fun k => by rw [frisketref07_Has.l0, hw, e]) (evPos q1 (evPos q0 ?_))
    by_cases hx : l[i].f0.toList = n.toList
    · refine evPos hx (evEq ?_ (Ev.now _))
      rw [beq_iff_eq.2 hx, Bool.true_or]
    · refine evNeg hx (evEq ?_ hr)
      rw [beq_eq_false_iff_ne.2 hx, Bool.false_or]; rfl
theorem has_q (a : ByteArray) (b : Bool) (c : Int) (A3 : Option Addr) (c3 : Nat) (l3 : List S81) (A4 : Option Addr) (c4 : Nat) (l4 : List S83) (A5 : Option Addr) (c5 : Nat) (l5 : List S84) (n : ByteArray) (w : World) (h3 : Kd.C k81 w A3 l3.length l3) (g3 : l3.length ≤ c3) (h4 : Kd.C k83 w A4 l4.length l4) (g4 : l4.length ≤ c4) (h5 : Kd.C k84 w A5 l5.length l5) (g5 : l5.length ≤ c5) (hl3 : l3.length ≤ 1000000000) :
    Calls Tryz.prog 63 #[.agg #[.string a, .bool b, .int .i64 c, .slice A3 l3.length c3, .slice A4 l4.length c4, .slice A5 l5.length c5], .string n] w fun e w' => e = .returned (.bool (rhasV l3 n)) ∧ Below w.heap.size w w' := by
  have h1 : Ev (fun k => frisketref07_Has.l0 k n 0 a b c l3 l4 l5) _ := hasL a b c l3 l4 l5 n hl3 _ 0 rfl (Nat.zero_le _)
  have h2 : Ev (fun k => frisketref07_Has.f k a b c l3 l4 l5 n) (rhasV l3 n) := Ev.congr (fun k => by rw [frisketref07_Has.f]) h1
  obtain ⟨k, hk⟩ := h2.rounds
  exact frisketref07_Has.calls k a b c A3 c3 l3 A4 c4 l4 A5 c5 l5 n _ w h3 g3 h4 g4 h5 g5 hk
theorem ahead_q (a b c d : ByteArray) (w : World) : Calls Tryz.prog 106 #[.string a, .string b, .string c, .string d] w fun e w' => e = .returned (.bool (aheadV a b c d)) ∧ Drawn0 w w' := by
  refine frisketref07_ahead.calls a b c d _ w ?_
  unfold frisketref07_ahead.f aheadV
  by_cases h1 : Op.bytesLess a.toList c.toList = true
  · rw [if_pos h1, h1, Bool.true_or]
  · rw [if_neg h1]
    by_cases h2 : a.toList = c.toList
    · rw [if_pos h2, (by simpa using h1 : Op.bytesLess a.toList c.toList = false), beq_iff_eq.2 h2, Bool.false_or, Bool.true_and]
    · rw [if_neg h2, (by simpa using h1 : Op.bytesLess a.toList c.toList = false), beq_eq_false_iff_ne.2 h2, Bool.false_or, Bool.false_and]
theorem drawn_below {w w' : World} (h : Drawn0 w w') : Below w.heap.size w w' := by
  obtain ⟨⟨n, rfl⟩⟩ := h
  exact pw_below_drewN (Below.refl _ _) n
end Go.Proofs.YtaifemkokfoadaaGreatDoor

namespace Go.Proofs.YtaifemkokfoadaaGreatDoor
open Go.RowKit Go.Shelf Go.Proofs.YtaifemkokfoadaaGreatDoorW.PrintWords Go.Proofs.YtaifemkokfoadaaGreatDoorW.PrintMore Go.Proofs.YtaifemkokfoadaaGreatDoor.PX
set_option linter.unusedSimpArgs false
set_option linter.unusedVariables false
theorem strs_at {w : World} {g : Nat} {ns : List ByteArray} {t : TypeId} (h : w.heap[g]? = some (.cells (ns.map Value.string).toArray t (0, 0))) (hn : ns.length ≤ 1000) : Kd.C Kd.string w (some ⟨g, 0, none⟩) ns.length ns := by
  refine ⟨rfl, by omega, fun _ => ⟨_, rfl, fun j p hj => ⟨[.string p], rfl, rfl, fun i u hi => ?_⟩⟩⟩
  rcases i with _ | i
  · cases hi
    have hs : Kd.string.sz = 1 := rfl
    rw [Addr.add_lit, hs]
    refine cell_blk h _ _ ?_
    simp [hj]
  · simp at hi
/-- A ligature, a kern that is none. -/
def badL (l3 : List S31) (x : S86) : Bool := !allV l3 [x.f0, x.f1, x.f2]
def badK (l3 : List S31) (x : S76) : Bool := decide (x.f2 = 0) || (decide (x.f2 < -500) || (decide (500 < x.f2) || !allV l3 [x.f0, x.f1]))
set_option maxRecDepth 100000 in
set_option maxHeartbeats 1000000 in
theorem badL_any (B : Nat) (a : ByteArray) (b : Bool) (c : Int) (A3 : Option Addr) (c3 : Nat) (l3 : List S31) (A4 : Option Addr) (c4 : Nat) (l4 : List S86) (A5 : Option Addr) (c5 : Nat) (l5 : List S76) (g3 : l3.length ≤ c3) (g4 : l4.length ≤ c4) (g5 : l5.length ≤ c5) (hl3 : l3.length ≤ 1000000000) (w : World) (hF : FontAt w B a b c A3 c3 l3 A4 c4 l4 A5 c5 l5) :
    PredBelow Tryz.prog 49 #[.pointer (some ⟨B, 0, none⟩)] (fun x => .agg (encL x).toArray) (badL l3) w := fun W x hb => by
  have hl := (Array.getElem?_eq_some_iff.1 hF.blk).1
  have hFW := hF.below hb
  have hlW : B < W.heap.size := Nat.lt_of_lt_of_le hl hb.size
  show Calls Tryz.prog 49 #[.agg #[.string x.f0, .string x.f1, .string x.f2], .pointer (some ⟨B, 0, none⟩)] W _
  have hbW : Below W.heap.size W ((W.alloc (.cells #[.string x.f0, .string x.f1, .string x.f2] 86)).alloc (.cells #[.string x.f0, .string x.f1, .string x.f2] 9)) := ((Below.refl _ W).alloc (Nat.le_refl _) _).alloc (by simp) _
  have hF2 := hFW.below hbW
  have hblk : ((W.alloc (.cells #[.string x.f0, .string x.f1, .string x.f2] 86)).alloc (.cells #[.string x.f0, .string x.f1, .string x.f2] 9)).heap[W.heap.size + 1]? = some (.cells (([x.f0, x.f1, x.f2].map Value.string).toArray) 9 (0, 0)) := by
    have := World.alloc_heap_new (W.alloc (.cells #[.string x.f0, .string x.f1, .string x.f2] 86)) (.cells #[.string x.f0, .string x.f1, .string x.f2] 9)
    rwa [World.size_alloc] at this
  have ha := all_any a b c A3 c3 l3 A4 c4 l4 A5 c5 l5 _ 3 [x.f0, x.f1, x.f2] _ hF2.h3 g3 hF2.h4 g4 hF2.h5 g5 (strs_at hblk (by simp)) (by simp) hF2.gw hl3 (by simp)
  have k0 := cell_blk hFW.blk 0 _ rfl
  have k1 := cell_blk hFW.blk 1 _ rfl
  have k2 := cell_blk hFW.blk 2 _ rfl
  have k3 := cell_blk hFW.blk 3 _ rfl
  have k4 := cell_blk hFW.blk 4 _ rfl
  have k5 := cell_blk hFW.blk 5 _ rfl
  have hend := hb.trans (hbW.mono hb.size)
  unfold badL
  generalize allV l3 [x.f0, x.f1, x.f2] = r at ha ⊢
  clear hF hFW hF2 hblk hb g3 g4 g5
  go_enter Tryz.func49, Tryz.ntmps49
  go_wp2_with (go_at_call 50; refine ha.mono ?_; rintro e w1 ⟨rfl, hb1⟩)
  go_ret
  exact ⟨rfl, hend.trans (hb1.mono hend.size)⟩
set_option maxRecDepth 100000 in
set_option maxHeartbeats 1000000 in
theorem badK_any (B : Nat) (a : ByteArray) (b : Bool) (c : Int) (A3 : Option Addr) (c3 : Nat) (l3 : List S31) (A4 : Option Addr) (c4 : Nat) (l4 : List S86) (A5 : Option Addr) (c5 : Nat) (l5 : List S76) (g3 : l3.length ≤ c3) (g4 : l4.length ≤ c4) (g5 : l5.length ≤ c5) (hl3 : l3.length ≤ 1000000000) (w : World) (hF : FontAt w B a b c A3 c3 l3 A4 c4 l4 A5 c5 l5) :
    PredBelow Tryz.prog 54 #[.pointer (some ⟨B, 0, none⟩)] (fun x => .agg (encK x).toArray) (badK l3) w := fun W x hb => by
  have hl := (Array.getElem?_eq_some_iff.1 hF.blk).1
  have hFW := hF.below hb
  have hlW : B < W.heap.size := Nat.lt_of_lt_of_le hl hb.size
  show Calls Tryz.prog 54 #[.agg #[.string x.f0, .string x.f1, .int .i64 x.f2], .pointer (some ⟨B, 0, none⟩)] W _
  have hb1 : Below w.heap.size w (W.alloc (.cells #[.string x.f0, .string x.f1, .int .i64 x.f2] 76)) := hb.alloc hb.size _
  unfold badK
  by_cases q0 : x.f2 = 0
  · have d0 : (x.f2 == 0) = true := beq_iff_eq.2 q0
    rw [decide_eq_true q0]
    clear q0 hF hFW
    go_enter Tryz.func54, Tryz.ntmps54
    go_wp2
    go_ret
    exact ⟨rfl, hb1⟩
  · have d0 : (x.f2 == 0) = false := beq_eq_false_iff_ne.2 q0
    rw [decide_eq_false q0, Bool.false_or]
    clear q0
    by_cases q1 : x.f2 < -500
    · have d1 : decide (x.f2 < -500) = true := decide_eq_true q1
      rw [d1]
      clear q1 hF hFW
      go_enter Tryz.func54, Tryz.ntmps54
      go_wp2
      go_ret
      exact ⟨rfl, hb1⟩
    · have d1 : decide (x.f2 < -500) = false := decide_eq_false q1
      rw [d1, Bool.false_or]
      clear q1
      by_cases q2 : 500 < x.f2
      · have d2 : decide (500 < x.f2) = true := decide_eq_true q2
        rw [d2]
        clear q2 hF hFW
        go_enter Tryz.func54, Tryz.ntmps54
        go_wp2
        go_ret
        exact ⟨rfl, hb1⟩
      · have d2 : decide (500 < x.f2) = false := decide_eq_false q2
        rw [d2, Bool.false_or]
        clear q2
        have hbW : Below W.heap.size W ((W.alloc (.cells #[.string x.f0, .string x.f1, .int .i64 x.f2] 76)).alloc (.cells #[.string x.f0, .string x.f1] 9)) := ((Below.refl _ W).alloc (Nat.le_refl _) _).alloc (by simp) _
        have hF2 := hFW.below hbW
        have hblk : ((W.alloc (.cells #[.string x.f0, .string x.f1, .int .i64 x.f2] 76)).alloc (.cells #[.string x.f0, .string x.f1] 9)).heap[W.heap.size + 1]? = some (.cells (([x.f0, x.f1].map Value.string).toArray) 9 (0, 0)) := by
          have := World.alloc_heap_new (W.alloc (.cells #[.string x.f0, .string x.f1, .int .i64 x.f2] 76)) (.cells #[.string x.f0, .string x.f1] 9)
          rwa [World.size_alloc] at this
        have ha := all_any a b c A3 c3 l3 A4 c4 l4 A5 c5 l5 _ 2 [x.f0, x.f1] _ hF2.h3 g3 hF2.h4 g4 hF2.h5 g5 (strs_at hblk (by simp)) (by simp) hF2.gw hl3 (by simp)
        have k0 := cell_blk hFW.blk 0 _ rfl
        have k1 := cell_blk hFW.blk 1 _ rfl
        have k2 := cell_blk hFW.blk 2 _ rfl
        have k3 := cell_blk hFW.blk 3 _ rfl
        have k4 := cell_blk hFW.blk 4 _ rfl
        have k5 := cell_blk hFW.blk 5 _ rfl
        have hend := hb.trans (hbW.mono hb.size)
        generalize allV l3 [x.f0, x.f1] = r at ha ⊢
        clear hF hFW hF2 hblk hb g3 g4 g5
        go_enter Tryz.func54, Tryz.ntmps54
        go_wp2_with (go_at_call 50; refine ha.mono ?_; rintro e w1 ⟨rfl, hb1⟩)
        go_ret
        exact ⟨rfl, hend.trans (hb1.mono hend.size)⟩
/-- Whether a font is one. -/
def validV (a : ByteArray) (c : Int) (l3 : List S31) (l4 : List S86) (l5 : List S76) : Bool :=
  if (!fnameB a.data.toList || (wideB c || (decide (400 < l3.length) || (decide (50 < l4.length) || decide (500 < l5.length))))) = true then false
  else if (l3.any badG || !ascV (fun i j => cmpG (rd_T31 l3 (i : Int)) (rd_T31 l3 (j : Int))) l3.length) = true then false
  else if (l4.any (badL l3) || !ascV (fun i j => cmpL (rd_T86 l4 (i : Int)) (rd_T86 l4 (j : Int))) l4.length) = true then false
  else !l5.any (badK l3) && ascV (fun i j => cmpK (rd_T76 l5 (i : Int)) (rd_T76 l5 (j : Int))) l5.length
set_option maxRecDepth 100000 in
set_option maxHeartbeats 4000000 in
theorem valid_any (a : ByteArray) (b : Bool) (c : Int) (A3 : Option Addr) (c3 : Nat) (l3 : List S31) (A4 : Option Addr) (c4 : Nat) (l4 : List S86) (A5 : Option Addr) (c5 : Nat) (l5 : List S76) (g3 : l3.length ≤ c3) (g4 : l4.length ≤ c4) (g5 : l5.length ≤ c5) (hl3 : l3.length ≤ 1000000000) (hl4 : l4.length ≤ 1000000000) (hl5 : l5.length ≤ 1000000000) (w : World) (h3 : Kd.C k31 w A3 l3.length l3) (h4 : Kd.C k86 w A4 l4.length l4) (h5 : Kd.C k76 w A5 l5.length l5) (hG : GW w) :
    Calls Tryz.prog 17 #[.agg #[.string a, .bool b, .int .i64 c, .slice A3 l3.length c3, .slice A4 l4.length c4, .slice A5 l5.length c5]] w fun e w' => e = .returned (.bool (validV a c l3 l4 l5)) ∧ Below w.heap.size w w' := by
  have hw1 : Below w.heap.size w ((w.alloc (.cells #[.string a, .bool b, .int .i64 c, .slice A3 l3.length c3, .slice A4 l4.length c4, .slice A5 l5.length c5] 26)).alloc (.cells #[.func (.func 40) #[] #[]] 87)) := ((Below.refl _ w).alloc (Nat.le_refl _) _).alloc (by simp) _
  have hblk : ((w.alloc (.cells #[.string a, .bool b, .int .i64 c, .slice A3 l3.length c3, .slice A4 l4.length c4, .slice A5 l5.length c5] 26)).alloc (.cells #[.func (.func 40) #[] #[]] 87)).heap[w.heap.size]? = some (.cells #[.string a, .bool b, .int .i64 c, .slice A3 l3.length c3, .slice A4 l4.length c4, .slice A5 l5.length c5] 26 (0, 0)) :=
    (Below.heap_alloc _ _ _ (by simp)).trans (World.alloc_heap_new w _)
  have hfb : ((w.alloc (.cells #[.string a, .bool b, .int .i64 c, .slice A3 l3.length c3, .slice A4 l4.length c4, .slice A5 l5.length c5] 26)).alloc (.cells #[.func (.func 40) #[] #[]] 87)).heap[w.heap.size + 1]? = some (.cells #[.func (.func 40) #[] #[]] 87 (0, 0)) := by
    have := World.alloc_heap_new (w.alloc (.cells #[.string a, .bool b, .int .i64 c, .slice A3 l3.length c3, .slice A4 l4.length c4, .slice A5 l5.length c5] 26)) (.cells #[.func (.func 40) #[] #[]] 87)
    rwa [World.size_alloc] at this
  have hF : FontAt ((w.alloc (.cells #[.string a, .bool b, .int .i64 c, .slice A3 l3.length c3, .slice A4 l4.length c4, .slice A5 l5.length c5] 26)).alloc (.cells #[.func (.func 40) #[] #[]] 87)) w.heap.size a b c A3 c3 l3 A4 c4 l4 A5 c5 l5 := ⟨hblk, Kd.C_below h3 hw1, Kd.C_below h4 hw1, Kd.C_below h5 hw1, hG.under hw1⟩
  have hfn := fontNamed_any a ((w.alloc (.cells #[.string a, .bool b, .int .i64 c, .slice A3 l3.length c3, .slice A4 l4.length c4, .slice A5 l5.length c5] 26)).alloc (.cells #[.func (.func 40) #[] #[]] 87))
  have hwd := fun W => wide_any c W
  have hhG := fun W (hF : FontAt W w.heap.size a b c A3 c3 l3 A4 c4 l4 A5 c5 l5) (hB : W.cell? ⟨w.heap.size + 1, 0, none⟩ = some (.func (.func 40) #[] #[])) => hasG_any A3 c3 l3 W hF.h3 hl3 badG 43 #[.pointer (some ⟨w.heap.size + 1, 0, none⟩)] (enters_of Tryz.func43 (by kernel_rfl) rfl) (badG_any _ W hB)
  have haG := fun W (hF : FontAt W w.heap.size a b c A3 c3 l3 A4 c4 l4 A5 c5 l5) => ascG_any A3 c3 l3 W hF.h3 hl3
  have hhL := fun W (hF : FontAt W w.heap.size a b c A3 c3 l3 A4 c4 l4 A5 c5 l5) => hasL_any A4 c4 l4 W hF.h4 hl4 (badL l3) 49 #[.pointer (some ⟨w.heap.size, 0, none⟩)] (enters_of Tryz.func49 (by kernel_rfl) rfl) (badL_any _ a b c A3 c3 l3 A4 c4 l4 A5 c5 l5 g3 g4 g5 hl3 W hF)
  have haL := fun W (hF : FontAt W w.heap.size a b c A3 c3 l3 A4 c4 l4 A5 c5 l5) => ascL_any A4 c4 l4 W hF.h4 hl4
  have hhK := fun W (hF : FontAt W w.heap.size a b c A3 c3 l3 A4 c4 l4 A5 c5 l5) => hasK_any A5 c5 l5 W hF.h5 hl5 (badK l3) 54 #[.pointer (some ⟨w.heap.size, 0, none⟩)] (enters_of Tryz.func54 (by kernel_rfl) rfl) (badK_any _ a b c A3 c3 l3 A4 c4 l4 A5 c5 l5 g3 g4 g5 hl3 W hF)
  have haK := fun W (hF : FontAt W w.heap.size a b c A3 c3 l3 A4 c4 l4 A5 c5 l5) => ascK_any A5 c5 l5 W hF.h5 hl5
  generalize hR : validV a c l3 l4 l5 = R
  have HR := Lib.hid hR
  unfold validV at hR
  generalize fnameB a.data.toList = b1 at hfn hR
  generalize wideB c = b2 at hwd hR
  generalize l3.any badG = b6 at hhG hR
  generalize ascV (fun i j => cmpG (rd_T31 l3 (i : Int)) (rd_T31 l3 (j : Int))) l3.length = b7 at haG hR
  generalize l4.any (badL l3) = b8 at hhL hR
  generalize ascV (fun i j => cmpL (rd_T86 l4 (i : Int)) (rd_T86 l4 (j : Int))) l4.length = b9 at haL hR
  generalize l5.any (badK l3) = b10 at hhK hR
  generalize ascV (fun i j => cmpK (rd_T76 l5 (i : Int)) (rd_T76 l5 (j : Int))) l5.length = b11 at haK hR
  clear g3 g4 g5 h3 h4 h5 hG HR
  go_enter Tryz.func17, Tryz.ntmps17
  have HF0 := Lib.hid hF
  have K0 := Lib.hid (cell_blk hfb 0 _ rfl)
  have HW0 := Lib.hid hw1
  have c0 := cell_blk hblk 0 _ rfl
  have c2 := cell_blk hblk 2 _ rfl
  have c3_ := cell_blk hblk 3 _ rfl
  have c4_ := cell_blk hblk 4 _ rfl
  have c5_ := cell_blk hblk 5 _ rfl
  clear hF hblk hfb hw1
  go_wp2_with fail
  generalize ((w.alloc (.cells #[.string a, .bool b, .int .i64 c, .slice A3 l3.length c3, .slice A4 l4.length c4, .slice A5 l5.length c5] 26)).alloc (.cells #[.func (.func 40) #[] #[]] 87)) = W0 at hfn HF0 K0 HW0 c0 c2 c3_ c4_ c5_ ⊢
  refine hfn.mono ?_; rintro e W1 ⟨rfl, hb1⟩
  clear hfn c0 c2 c3_ c4_ c5_
  have HF1 := Lib.hid (HF0.out.below hb1)
  have K1 := Lib.hid ((hb1.cell (World.block_lt_of_cell? _ _ K0.out)).trans K0.out)
  have HW1 := Lib.hid (HW0.out.trans (hb1.mono HW0.out.size))
  clear hb1
  have c2 := cell_blk HF1.out.blk 2 _ rfl
  have c3_ := cell_blk HF1.out.blk 3 _ rfl
  have c4_ := cell_blk HF1.out.blk 4 _ rfl
  have c5_ := cell_blk HF1.out.blk 5 _ rfl
  have cb := K1.out
  cases b1 with
  | false =>
    obtain rfl : false = R := by simpa using hR
    clear hR
    go_wp2_with fail
    go_ret
    exact ⟨rfl, HW1.out⟩
  | true =>
    go_wp2_with fail
    refine (hwd _).mono ?_; rintro e W1x ⟨rfl, hx⟩; subst hx
    cases b2 with
    | false =>
      by_cases q3 : 400 < l3.length
      · have dq3 : decide ((400 : Int) < (l3.length : Int)) = true := decide_eq_true (by omega)
        rw [decide_eq_true q3] at hR
        clear q3
        obtain rfl : false = R := by simpa using hR
        clear hR
        go_wp2_with fail
        go_ret
        exact ⟨rfl, HW1.out⟩
      · have dq3 : decide ((400 : Int) < (l3.length : Int)) = false := decide_eq_false (by omega)
        rw [decide_eq_false q3] at hR
        clear q3
        by_cases q4 : 50 < l4.length
        · have dq4 : decide ((50 : Int) < (l4.length : Int)) = true := decide_eq_true (by omega)
          rw [decide_eq_true q4] at hR
          clear q4
          obtain rfl : false = R := by simpa using hR
          clear hR
          go_wp2_with fail
          go_ret
          exact ⟨rfl, HW1.out⟩
        · have dq4 : decide ((50 : Int) < (l4.length : Int)) = false := decide_eq_false (by omega)
          rw [decide_eq_false q4] at hR
          clear q4
          by_cases q5 : 500 < l5.length
          · have dq5 : decide ((500 : Int) < (l5.length : Int)) = true := decide_eq_true (by omega)
            rw [decide_eq_true q5] at hR
            clear q5
            obtain rfl : false = R := by simpa using hR
            clear hR
            go_wp2_with fail
            go_ret
            exact ⟨rfl, HW1.out⟩
          · have dq5 : decide ((500 : Int) < (l5.length : Int)) = false := decide_eq_false (by omega)
            rw [decide_eq_false q5] at hR
            clear q5
            simp only [Bool.not_true, Bool.or_self, Bool.false_eq_true, if_false, Bool.or_false] at hR
            go_wp2_with fail
            refine (hhG _ HF1.out K1.out).mono ?_; rintro e W2 ⟨rfl, hb2⟩
            clear c2 c3_ c4_ c5_ cb
            have HF2 := Lib.hid (HF1.out.below hb2)
            have K2 := Lib.hid ((hb2.cell (World.block_lt_of_cell? _ _ K1.out)).trans K1.out)
            have HW2 := Lib.hid (HW1.out.trans (hb2.mono HW1.out.size))
            clear hb2
            have c2 := cell_blk HF2.out.blk 2 _ rfl
            have c3_ := cell_blk HF2.out.blk 3 _ rfl
            have c4_ := cell_blk HF2.out.blk 4 _ rfl
            have c5_ := cell_blk HF2.out.blk 5 _ rfl
            have cb := K2.out
            cases b6 with
            | false =>
              go_wp2_with fail
              refine (haG _ HF2.out).mono ?_; rintro e W3 ⟨rfl, hb3⟩
              clear c2 c3_ c4_ c5_ cb
              have HF3 := Lib.hid (HF2.out.below hb3)
              have K3 := Lib.hid ((hb3.cell (World.block_lt_of_cell? _ _ K2.out)).trans K2.out)
              have HW3 := Lib.hid (HW2.out.trans (hb3.mono HW2.out.size))
              clear hb3
              have c2 := cell_blk HF3.out.blk 2 _ rfl
              have c3_ := cell_blk HF3.out.blk 3 _ rfl
              have c4_ := cell_blk HF3.out.blk 4 _ rfl
              have c5_ := cell_blk HF3.out.blk 5 _ rfl
              have cb := K3.out
              cases b7 with
              | false =>
                obtain rfl : false = R := by simpa using hR
                clear hR
                go_wp2_with fail
                go_ret
                exact ⟨rfl, HW3.out⟩
              | true =>
                go_wp2_with fail
                refine (hhL _ HF3.out).mono ?_; rintro e W4 ⟨rfl, hb4⟩
                clear c2 c3_ c4_ c5_ cb
                have HF4 := Lib.hid (HF3.out.below hb4)
                have K4 := Lib.hid ((hb4.cell (World.block_lt_of_cell? _ _ K3.out)).trans K3.out)
                have HW4 := Lib.hid (HW3.out.trans (hb4.mono HW3.out.size))
                clear hb4
                have c2 := cell_blk HF4.out.blk 2 _ rfl
                have c3_ := cell_blk HF4.out.blk 3 _ rfl
                have c4_ := cell_blk HF4.out.blk 4 _ rfl
                have c5_ := cell_blk HF4.out.blk 5 _ rfl
                have cb := K4.out
                cases b8 with
                | false =>
                  go_wp2_with fail
                  refine (haL _ HF4.out).mono ?_; rintro e W5 ⟨rfl, hb5⟩
                  clear c2 c3_ c4_ c5_ cb
                  have HF5 := Lib.hid (HF4.out.below hb5)
                  have K5 := Lib.hid ((hb5.cell (World.block_lt_of_cell? _ _ K4.out)).trans K4.out)
                  have HW5 := Lib.hid (HW4.out.trans (hb5.mono HW4.out.size))
                  clear hb5
                  have c2 := cell_blk HF5.out.blk 2 _ rfl
                  have c3_ := cell_blk HF5.out.blk 3 _ rfl
                  have c4_ := cell_blk HF5.out.blk 4 _ rfl
                  have c5_ := cell_blk HF5.out.blk 5 _ rfl
                  have cb := K5.out
                  cases b9 with
                  | false =>
                    obtain rfl : false = R := by simpa using hR
                    clear hR
                    go_wp2_with fail
                    go_ret
                    exact ⟨rfl, HW5.out⟩
                  | true =>
                    go_wp2_with fail
                    refine (hhK _ HF5.out).mono ?_; rintro e W6 ⟨rfl, hb6⟩
                    clear c2 c3_ c4_ c5_ cb
                    have HF6 := Lib.hid (HF5.out.below hb6)
                    have K6 := Lib.hid ((hb6.cell (World.block_lt_of_cell? _ _ K5.out)).trans K5.out)
                    have HW6 := Lib.hid (HW5.out.trans (hb6.mono HW5.out.size))
                    clear hb6
                    have c2 := cell_blk HF6.out.blk 2 _ rfl
                    have c3_ := cell_blk HF6.out.blk 3 _ rfl
                    have c4_ := cell_blk HF6.out.blk 4 _ rfl
                    have c5_ := cell_blk HF6.out.blk 5 _ rfl
                    have cb := K6.out
                    cases b10 with
                    | false =>
                      go_wp2_with fail
                      refine (haK _ HF6.out).mono ?_; rintro e W7 ⟨rfl, hb7⟩
                      clear c2 c3_ c4_ c5_ cb
                      have HF7 := Lib.hid (HF6.out.below hb7)
                      have K7 := Lib.hid ((hb7.cell (World.block_lt_of_cell? _ _ K6.out)).trans K6.out)
                      have HW7 := Lib.hid (HW6.out.trans (hb7.mono HW6.out.size))
                      clear hb7
                      obtain rfl : b11 = R := by simpa using hR
                      clear hR
                      go_wp2_with fail
                      go_ret
                      exact ⟨rfl, HW7.out⟩
                    | true =>
                      obtain rfl : false = R := by simpa using hR
                      clear hR
                      go_wp2_with fail
                      go_ret
                      exact ⟨rfl, HW6.out⟩
                | true =>
                  obtain rfl : false = R := by simpa using hR
                  clear hR
                  go_wp2_with fail
                  go_ret
                  exact ⟨rfl, HW4.out⟩
            | true =>
              obtain rfl : false = R := by simpa using hR
              clear hR
              go_wp2_with fail
              go_ret
              exact ⟨rfl, HW2.out⟩
    | true =>
      obtain rfl : false = R := by simpa using hR
      clear hR
      go_wp2_with fail
      go_ret
      exact ⟨rfl, HW1.out⟩
/-- As the printed callers ask it. -/
def font_Valid.f (a0_0 : ByteArray) (_ : Bool) (a0_2 : Int) (l0_3 : List S31) (l0_4 : List S86) (l0_5 : List S76) : Option Bool := if l0_3.length ≤ 1000000000 ∧ l0_4.length ≤ 1000000000 ∧ l0_5.length ≤ 1000000000 then some (validV a0_0 a0_2 l0_3 l0_4 l0_5) else none
theorem font_Valid.calls (a0_0 : ByteArray) (a0_1 : Bool) (a0_2 : Int) (A0_3 : Option Addr) (c0_3 : Nat) (l0_3 : List S31) (A0_4 : Option Addr) (c0_4 : Nat) (l0_4 : List S86) (A0_5 : Option Addr) (c0_5 : Nat) (l0_5 : List S76) (r : Bool) (w : World) (hr0_3 : Kd.C k31 w A0_3 l0_3.length l0_3) (hc0_3 : l0_3.length ≤ c0_3) (hr0_4 : Kd.C k86 w A0_4 l0_4.length l0_4) (hc0_4 : l0_4.length ≤ c0_4) (hr0_5 : Kd.C k76 w A0_5 l0_5.length l0_5) (hc0_5 : l0_5.length ≤ c0_5) (hG : GW w) (h : font_Valid.f a0_0 a0_1 a0_2 l0_3 l0_4 l0_5 = some r) :
    Calls Tryz.prog 17 #[.agg #[.string a0_0, .bool a0_1, .int .i64 a0_2, .slice A0_3 l0_3.length c0_3, .slice A0_4 l0_4.length c0_4, .slice A0_5 l0_5.length c0_5]] w fun e w' => e = .returned (.bool r) ∧ Below w.heap.size w w' := by
  unfold font_Valid.f at h
  split at h
  · rename_i hl
    obtain rfl := Option.some.inj h
    exact valid_any a0_0 a0_1 a0_2 A0_3 c0_3 l0_3 A0_4 c0_4 l0_4 A0_5 c0_5 l0_5 hc0_3 hc0_4 hc0_5 hl.1 hl.2.1 hl.2.2 w hr0_3 hr0_4 hr0_5 hG
  · cases h
end Go.Proofs.YtaifemkokfoadaaGreatDoor

namespace Go.Proofs.YtaifemkokfoadaaGreatDoor
open Go.RowKit Go.Proofs.YtaifemkokfoadaaGreatDoorW.PrintWords Go.Proofs.YtaifemkokfoadaaGreatDoorW.PrintMore Go.Proofs.YtaifemkokfoadaaGreatDoor.PX
set_option linter.unusedSimpArgs false
set_option linter.unusedVariables false
theorem bsLess (a b : ByteArray) : Op.bytesLess a.toList b.toList = true ↔ a.toList < b.toList := by rw [Go.Proofs.bytesLess_eq]; exact decide_eq_true_iff
theorem cmpB_neg {a b : ByteArray} : cmpB a b < 0 ↔ a.toList < b.toList := by
  rw [← bsLess]
  unfold cmpB
  by_cases h1 : Op.bytesLess a.toList b.toList = true
  · simp [h1]
  · by_cases h2 : Op.bytesLess b.toList a.toList = true <;> simp [h1, h2]
theorem toList_inj' {a b : ByteArray} : a.toList = b.toList ↔ a = b := by
  constructor
  · intro h
    rw [Lib.toList_data, Lib.toList_data] at h
    exact ByteArray.ext (Array.toList_inj.1 h)
  · rintro rfl
    rfl
theorem cmpB_self (a : ByteArray) : cmpB a a = 0 := by
  unfold cmpB
  have h : ¬ Op.bytesLess a.toList a.toList = true := by rw [bsLess]; exact List.lt_irrefl _
  rw [if_neg h, if_neg h]
theorem cmpB_zero {a b : ByteArray} : cmpB a b = 0 ↔ a = b := by
  constructor
  · intro h
    unfold cmpB at h
    by_cases h1 : Op.bytesLess a.toList b.toList = true
    · rw [if_pos h1] at h; cases h
    · rw [if_neg h1] at h
      by_cases h2 : Op.bytesLess b.toList a.toList = true
      · rw [if_pos h2] at h; cases h
      · rw [bsLess] at h1 h2
        exact toList_inj'.1 (List.le_antisymm (List.not_lt.1 h2) (List.not_lt.1 h1))
  · rintro rfl
    exact cmpB_self a
theorem rdG0 (l : List S31) (i : Nat) (h : i < l.length) : rd_T31 l (i : Int) = l[i] := by simp [rd_T31, List.getD_eq_getElem?_getD, h]
/-- Names ascend. -/
def Asc (l : List S31) : Prop := ∀ (i j : Nat) (hi : i < l.length) (hj : j < l.length), i < j → l[i].f0.toList < l[j].f0.toList
theorem asc_of {l : List S31} (h : ascV (fun i j => cmpG (rd_T31 l (i : Int)) (rd_T31 l (j : Int))) l.length = true) : Asc l := by
  have h1 : ∀ (i : Nat) (hi : i + 1 < l.length), l[i].f0.toList < l[i + 1].f0.toList := by
    intro i hi
    have h2 := List.all_eq_true.1 h i (List.mem_range.2 (by omega))
    rw [decide_eq_true_iff] at h2
    have h2 : cmpG (rd_T31 l (i : Int)) (rd_T31 l ((i + 1 : Nat) : Int)) < 0 := h2
    rw [rdG0 l i (by omega), rdG0 l (i + 1) hi] at h2
    exact cmpB_neg.1 h2
  have h3 : ∀ (d i : Nat) (hi : i + d + 1 < l.length), l[i].f0.toList < l[i + d + 1].f0.toList := by
    intro d
    induction d with
    | zero => intro i hi; exact h1 i hi
    | succ d ih => intro i hi; exact List.lt_trans (ih i (by omega)) (h1 (i + d + 1) hi)
  intro i j hi hj hij
  have h4 := h3 (j - i - 1) i (by omega)
  have e : i + (j - i - 1) + 1 = j := by omega
  simpa only [e] using h4
/-- What the search's loop comes to. -/
theorem bsL_spec (l : List S31) (n : ByteArray) (ha : Asc l) (i j : Nat) (hij : i ≤ j) (hj : j ≤ l.length) (h1 : ∀ (m : Nat) (hm : m < l.length), m < i → l[m].f0.toList < n.toList) (h2 : ∀ (m : Nat) (hm : m < l.length), j ≤ m → ¬ l[m].f0.toList < n.toList) :
    (∀ (m : Nat) (hm : m < l.length), m < bsL l n i j → l[m].f0.toList < n.toList) ∧ (∀ (m : Nat) (hm : m < l.length), bsL l n i j ≤ m → ¬ l[m].f0.toList < n.toList) := by
  fun_induction bsL l n i j with
  | case1 i j hlt hc ih =>
    have hm : (i + j) / 2 < l.length := by omega
    rw [rdG0 l _ hm, cmpB_neg] at hc
    refine ih (by omega) hj (fun m hml hmi => ?_) h2
    by_cases he : m = (i + j) / 2
    · subst he; exact hc
    · exact List.lt_trans (ha m _ hml hm (by omega)) hc
  | case2 i j hlt hc ih =>
    have hm : (i + j) / 2 < l.length := by omega
    rw [rdG0 l _ hm, cmpB_neg] at hc
    refine ih (by omega) (by omega) h1 (fun m hml hmi hlt' => ?_)
    by_cases he : m = (i + j) / 2
    · subst he; exact hc hlt'
    · exact hc (List.lt_trans (ha _ m hm hml (by omega)) hlt')
  | case3 i j hlt =>
    obtain rfl : i = j := by omega
    exact ⟨h1, h2⟩
theorem find_at (l : List S31) (ha : Asc l) (m : Nat) (hm : m < l.length) : findV l l[m].f0 = ((m : Int), true) := by
  obtain ⟨h1, h2⟩ := bsL_spec l l[m].f0 ha 0 l.length (Nat.zero_le _) (Nat.le_refl _) (fun m _ h => absurd h (Nat.not_lt_zero _)) (fun m hm h => absurd hm (by omega))
  have e : bsL l l[m].f0 0 l.length = m := by
    rcases Nat.lt_trichotomy (bsL l l[m].f0 0 l.length) m with h | h | h
    · exact absurd (ha _ m (by omega) hm h) (h2 _ (by omega) (Nat.le_refl _))
    · exact h
    · exact absurd (h1 m hm h) (List.lt_irrefl _)
  unfold findV
  simp only [e, decide_eq_true hm, Bool.true_and, rdG0 l m hm]
  rw [cmpB_self]
  rfl
theorem find_no (l : List S31) (n : ByteArray) (h : ∀ x ∈ l, x.f0 ≠ n) : (findV l n).2 = false := by
  unfold findV
  simp only
  by_cases hi : bsL l n 0 l.length < l.length
  · rw [rdG0 l _ hi]
    have : ¬ cmpB l[bsL l n 0 l.length].f0 n = 0 := fun e => h _ (List.getElem_mem hi) (cmpB_zero.1 e)
    rw [decide_eq_false this, Bool.and_false]
  · rw [decide_eq_false hi, Bool.false_and]
/-- The search finds just what is there. -/
theorem find_has (l : List S31) (ha : Asc l) (n : ByteArray) : (findV l n).2 = l.any fun x => decide (x.f0 = n) := by
  by_cases h : ∃ x ∈ l, x.f0 = n
  · obtain ⟨x, hx, rfl⟩ := h
    obtain ⟨m, hm, rfl⟩ := List.getElem_of_mem hx
    rw [find_at l ha m hm]
    exact (List.any_eq_true.2 ⟨_, hx, by simp⟩).symm
  · rw [find_no l n (fun x hx e => h ⟨x, hx, e⟩)]
    refine (List.any_eq_false.2 fun x hx => ?_).symm
    simpa using fun e => h ⟨x, hx, e⟩
end Go.Proofs.YtaifemkokfoadaaGreatDoor

namespace Go.Proofs.YtaifemkokfoadaaGreatDoor
open Go.RowKit Go.Proofs.YtaifemkokfoadaaGreatDoorW.PrintWords Go.Proofs.YtaifemkokfoadaaGreatDoorW.PrintLast Go.Proofs.YtaifemkokfoadaaGreatDoorW.PrintMore
section
variable {P : Program} {ops : Array Oper} {Q : Exit → Act → World → Prop} {md : Region.Mode} {S : World → Prop} {ds : List Nat} {T : Bool × List (List Nat × List Nat)}
theorem puS (i : Nat) (N : Option Tmp) {oi : Oper} {v : Value} {fuel : Nat} {l : Array Bool} {a a' : Act} {w : World} (HT : Aside0 (rtab md ops = T)) (h : wpAnyLast P md ops Q S ds fuel (l.setIfInBounds i true) a' w)
    (hi : ops[i]? = some oi := by exact rfl) (hN : oi.dst = N := by exact rfl) (hc : anyT T l.toList (l.setIfInBounds i true).toList i = true := by kernel_rfl) (hQ : ∀ c a w, Q (.panic c) (a.put oi.dst v) w → Q (.panic c) a w := by exact fun _ _ _ h => h)
    (hg : Region.wanted oi (yielded ops a.tmps) = true := by rfl) (hy : ∀ w, (execOp a.eval oi).run P w = .ok (.value v) w := by intro w'; go_simp; with_reducible rfl) (ha : a.put N v = a' := by simp only [Act.put, List.setIfInBounds_toArray, List.set_cons_zero, List.set_cons_succ, i64_w, i32_w]; rfl) :
    wpAnyLast P md ops Q S ds (fuel + 1) l a w := pure_ _ hi hN (any_of HT.out hc) hQ (Or.inl ⟨hg, hy⟩) ha h
theorem taS {B : List Nat} (i : Nat) (N : Option Tmp) {oi : Oper} {v : Value} {fuel : Nat} {l : Array Bool} {a a' : Act} {w : World} (HT : Aside0 (rtab md ops = T)) (HW : Aside0 (waitsOk T.2 B = true)) (hS : S w) (h : wpAnyLast P md ops Q S ds fuel (l.setIfInBounds i true) a' w)
    (hi : ops[i]? = some oi := by exact rfl) (hN : oi.dst = N := by exact rfl) (hc : takeW T B ds l.toList (l.setIfInBounds i true).toList i = true := by kernel_rfl) (hQ : ∀ c a w, Q (.panic c) (a.put oi.dst v) w → Q (.panic c) a w := by exact fun _ _ _ h => h)
    (hg : Region.wanted oi (yielded ops a.tmps) = true := by rfl) (hy : ∀ w, S w → (execOp a.eval oi).run P w = .ok (.value v) w := by intro w' hs_; go_simp; with_reducible rfl) (ha : a.put N v = a' := by simp only [Act.put, List.setIfInBounds_toArray, List.set_cons_zero, List.set_cons_succ, i64_w, i32_w]; rfl) :
    wpAnyLast P md ops Q S ds (fuel + 1) l a w := take_ _ hi hN (take_ofW HT.out HW.out hc) hQ (Or.inl ⟨hg, hy⟩) hS ha h
theorem noS (N : Option Tmp) {v : Value} {fuel : Nat} {l : Array Bool} {a a' : Act} {w : World} (h : wpAnyLast P md ops Q S ds fuel l a' w) (ha : a.put N v = a' := by simp only [Act.put, List.setIfInBounds_toArray, List.set_cons_zero, List.set_cons_succ, i64_w, i32_w]; rfl) : wpAnyLast P md ops Q S ds fuel l (a.put N v) w := norm_ ha h
theorem vaS {oi : Oper} {N : Option Tmp} {a : Act} {w w1 : World} {v : Value} {K : Act → World → Prop} (h : K (a.put N v) w1) (hw : Region.wanted oi (yielded ops a.tmps) = true := by rfl) (hN : oi.dst = N := by exact rfl) (hrun : (execOp a.eval oi).run P w = .ok (.value v) w1 := by go_simp <;> (constructor <;> rfl)) :
    if Region.wanted oi (yielded ops a.tmps) = true then Oper.wp P oi a w K Q else K (a.put N undef) w := value_ hw hN hrun h
theorem onS (i : Nat) (N : Option Tmp) {oi : Oper} {fuel : Nat} {l : Array Bool} {a : Act} {w : World} (HT : Aside0 (rtab md ops = T))
    (h : ∀ K : Act → World → Prop, Shut (∀ a' w', S w' → (S w' → wpAnyLast P md ops Q S ds fuel (l.setIfInBounds i true) a' w') → K a' w') → if Region.wanted oi (yielded ops a.tmps) = true then Oper.wp P oi a w K Q else K (a.put N undef) w)
    (hi : ops[i]? = some oi := by exact rfl) (hN : oi.dst = N := by exact rfl) (hc : (readyT T.2 l.toList == [i] && l.toList.set i true == (l.setIfInBounds i true).toList) = true := by kernel_rfl) (hd : i ∉ ds := by decide) :
    wpAnyLast P md ops Q S ds (fuel + 1) l a w := one_ _ hi hN (one_of HT.out hc) hd h
end
end Go.Proofs.YtaifemkokfoadaaGreatDoor

namespace Go.Proofs.YtaifemkokfoadaaGreatDoor
open Go.RowKit Go.Proofs.YtaifemkokfoadaaGreatDoorW.PrintWords Go.Proofs.YtaifemkokfoadaaGreatDoorW.PrintLast Go.Proofs.YtaifemkokfoadaaGreatDoorW.PrintMore Go.Proofs.YtaifemkokfoadaaGreatDoor.PX
set_option linter.unusedSimpArgs false
set_option linter.unusedVariables false
abbrev boxZ : Array Value := #[.string (⟨#[]⟩ : ByteArray), .bool false, .int .i64 0, .slice none 0 0, .slice none 0 0, .slice none 0 0]
/-- The argument's box, the result's, the copy's; the copy's rows. -/
structure XS {α β γ : Type} (dA : Kd α) (eA : TypeId) (dB : Kd β) (eB : TypeId) (dC : Kd γ) (eC : TypeId) (tF tX : TypeId) (w : World) (gf gr gx : Nat) (CF : Array Value) (a : ByteArray) (b : Bool) (c : Int) (v3 v4 v5 : Value) (m3 : List α) (m4 : List β) (m5 : List γ) (W : World) : Prop where
  bf : W.heap[gf]? = some (.cells CF tF (0, 0))
  br : W.heap[gr]? = some (.cells boxZ tX (0, 0))
  bx : W.heap[gx]? = some (.cells #[.string a, .bool b, .int .i64 c, v3, v4, v5] tX (0, 0))
  r3 : dA.R eA W w.heap.size (fun _ => True) v3 m3
  r4 : dB.R eB W w.heap.size (fun _ => True) v4 m4
  r5 : dC.R eC W w.heap.size (fun _ => True) v5 m5
  hb : Below w.heap.size w W
  nf : gf ≠ gx
  nr : gr ≠ gx
  ge : w.heap.size ≤ gx
section
variable {α β γ : Type} {dA : Kd α} {eA : TypeId} {dB : Kd β} {eB : TypeId} {dC : Kd γ} {eC tF tX : TypeId} {w : World} {gf gr gx : Nat} {CF : Array Value} {a : ByteArray} {b : Bool} {c : Int} {v3 v4 v5 : Value} {m3 : List α} {m4 : List β} {m5 : List γ} {W : World}
theorem XS.mv {W' : World} (h : XS dA eA dB eB dC eC tF tX w gf gr gx CF a b c v3 v4 v5 m3 m4 m5 W) (k : Below W.heap.size W W') : XS dA eA dB eB dC eC tF tX w gf gr gx CF a b c v3 v4 v5 m3 m4 m5 W' :=
  ⟨blk_below h.bf k, blk_below h.br k, blk_below h.bx k, Kd.R_below h.r3 k, Kd.R_below h.r4 k, Kd.R_below h.r5 k, h.hb.trans (k.mono h.hb.size), h.nf, h.nr, h.ge⟩
theorem XS.put3 {W1 : World} {v : Value} {m : List α} (h : XS dA eA dB eB dC eC tF tX w gf gr gx CF a b c v3 v4 v5 m3 m4 m5 W) (hg : W.grownBy W1 v3.ownBlock) (ho : dA.R eA W1 w.heap.size (fun _ => True) v m) (hb : Below w.heap.size w W1)
    (t1 : eA ≠ tF) (t2 : ∀ q, q ∈ eA :: dA.E → q ≠ tX) (t3 : ∀ q, q ∈ eB :: dB.E → q ≠ eA) (t4 : ∀ q, q ∈ eC :: dC.E → q ≠ eA) (t5 : ∀ q, q ∈ eB :: dB.E → q ≠ tX) (t6 : ∀ q, q ∈ eC :: dC.E → q ≠ tX) :
    XS dA eA dB eB dC eC tF tX w gf gr gx CF a b c v v4 v5 m m4 m5 (W1.setCell ⟨gx, 3, none⟩ v) := by
  have tX' : eA ≠ tX := t2 _ List.mem_cons_self
  have b1 := blk_grown h.bx hg (Kd.R_ne h.r3 h.bx tX')
  exact ⟨blk_far (blk_grown h.bf hg (Kd.R_ne h.r3 h.bf t1)) h.nf _, blk_far (blk_grown h.br hg (Kd.R_ne h.r3 h.br tX')) h.nr _, blk_put b1 3 _ rfl, Kd.R_set ho b1 t2 3 _, Kd.R_set (Kd.R_over' h.r4 (Kd.R_typed h.r3) t3 hg) b1 t5 3 _, Kd.R_set (Kd.R_over' h.r5 (Kd.R_typed h.r3) t4 hg) b1 t6 3 _, hb.setCell h.ge _, h.nf, h.nr, h.ge⟩
theorem XS.put4 {W1 : World} {v : Value} {m : List β} (h : XS dA eA dB eB dC eC tF tX w gf gr gx CF a b c v3 v4 v5 m3 m4 m5 W) (hg : W.grownBy W1 v4.ownBlock) (ho : dB.R eB W1 w.heap.size (fun _ => True) v m) (hb : Below w.heap.size w W1)
    (t1 : eB ≠ tF) (t2 : ∀ q, q ∈ eB :: dB.E → q ≠ tX) (t3 : ∀ q, q ∈ eA :: dA.E → q ≠ eB) (t4 : ∀ q, q ∈ eC :: dC.E → q ≠ eB) (t5 : ∀ q, q ∈ eA :: dA.E → q ≠ tX) (t6 : ∀ q, q ∈ eC :: dC.E → q ≠ tX) :
    XS dA eA dB eB dC eC tF tX w gf gr gx CF a b c v3 v v5 m3 m m5 (W1.setCell ⟨gx, 4, none⟩ v) := by
  have tX' : eB ≠ tX := t2 _ List.mem_cons_self
  have b1 := blk_grown h.bx hg (Kd.R_ne h.r4 h.bx tX')
  exact ⟨blk_far (blk_grown h.bf hg (Kd.R_ne h.r4 h.bf t1)) h.nf _, blk_far (blk_grown h.br hg (Kd.R_ne h.r4 h.br tX')) h.nr _, blk_put b1 4 _ rfl, Kd.R_set (Kd.R_over' h.r3 (Kd.R_typed h.r4) t3 hg) b1 t5 4 _, Kd.R_set ho b1 t2 4 _, Kd.R_set (Kd.R_over' h.r5 (Kd.R_typed h.r4) t4 hg) b1 t6 4 _, hb.setCell h.ge _, h.nf, h.nr, h.ge⟩
theorem XS.put5 {W1 : World} {v : Value} {m : List γ} (h : XS dA eA dB eB dC eC tF tX w gf gr gx CF a b c v3 v4 v5 m3 m4 m5 W) (hg : W.grownBy W1 v5.ownBlock) (ho : dC.R eC W1 w.heap.size (fun _ => True) v m) (hb : Below w.heap.size w W1)
    (t1 : eC ≠ tF) (t2 : ∀ q, q ∈ eC :: dC.E → q ≠ tX) (t3 : ∀ q, q ∈ eA :: dA.E → q ≠ eC) (t4 : ∀ q, q ∈ eB :: dB.E → q ≠ eC) (t5 : ∀ q, q ∈ eA :: dA.E → q ≠ tX) (t6 : ∀ q, q ∈ eB :: dB.E → q ≠ tX) :
    XS dA eA dB eB dC eC tF tX w gf gr gx CF a b c v3 v4 v m3 m4 m (W1.setCell ⟨gx, 5, none⟩ v) := by
  have tX' : eC ≠ tX := t2 _ List.mem_cons_self
  have b1 := blk_grown h.bx hg (Kd.R_ne h.r5 h.bx tX')
  exact ⟨blk_far (blk_grown h.bf hg (Kd.R_ne h.r5 h.bf t1)) h.nf _, blk_far (blk_grown h.br hg (Kd.R_ne h.r5 h.br tX')) h.nr _, blk_put b1 5 _ rfl, Kd.R_set (Kd.R_over' h.r3 (Kd.R_typed h.r5) t3 hg) b1 t5 5 _, Kd.R_set (Kd.R_over' h.r4 (Kd.R_typed h.r5) t4 hg) b1 t6 5 _, Kd.R_set ho b1 t2 5 _, hb.setCell h.ge _, h.nf, h.nr, h.ge⟩
end
/-- Six cells written. -/
abbrev six (W : World) (g : Nat) (u0 u1 u2 u3 u4 u5 : Value) : World := (((((W.setCell ⟨g, 0, none⟩ u0).setCell ⟨g, 1, none⟩ u1).setCell ⟨g, 2, none⟩ u2).setCell ⟨g, 3, none⟩ u3).setCell ⟨g, 4, none⟩ u4).setCell ⟨g, 5, none⟩ u5
theorem six_blk {W : World} {g t : Nat} (h : W.heap[g]? = some (.cells boxZ t (0, 0))) (u0 u1 u2 u3 u4 u5 : Value) : (six W g u0 u1 u2 u3 u4 u5).heap[g]? = some (.cells #[u0, u1, u2, u3, u4, u5] t (0, 0)) :=
  blk_put (blk_put (blk_put (blk_put (blk_put (blk_put (cs' := #[u0, .bool false, .int .i64 0, .slice none 0 0, .slice none 0 0, .slice none 0 0]) h 0 _ rfl) (cs' := #[u0, u1, .int .i64 0, .slice none 0 0, .slice none 0 0, .slice none 0 0]) 1 _ rfl)
    (cs' := #[u0, u1, u2, .slice none 0 0, .slice none 0 0, .slice none 0 0]) 2 _ rfl) (cs' := #[u0, u1, u2, u3, .slice none 0 0, .slice none 0 0]) 3 _ rfl) (cs' := #[u0, u1, u2, u3, u4, .slice none 0 0]) 4 _ rfl) 5 _ rfl
theorem six_R {α : Type} {d : Kd α} {e t g : Nat} {W : World} {B : Nat} {cs : Array Value} {v : Value} {xs : List α} (h : d.R e W B (fun _ => True) v xs) (hb : W.heap[g]? = some (.cells cs t (0, 0))) (ht : ∀ q, q ∈ e :: d.E → q ≠ t) (u0 u1 u2 u3 u4 u5 : Value) :
    d.R e (six W g u0 u1 u2 u3 u4 u5) B (fun _ => True) v xs :=
  Kd.R_mono (Kd.R_far (p := ⟨g, 5, none⟩) (Kd.R_far (p := ⟨g, 4, none⟩) (Kd.R_far (p := ⟨g, 3, none⟩) (Kd.R_far (p := ⟨g, 2, none⟩) (Kd.R_far (p := ⟨g, 1, none⟩) (Kd.R_far (p := ⟨g, 0, none⟩) (Kd.R_types h hb ht) (fun _ hk => hk.2) u0) (fun _ hk => hk.2) u1) (fun _ hk => hk.2) u2) (fun _ hk => hk.2) u3) (fun _ hk => hk.2) u4) (fun _ hk => hk.2) u5) (fun _ _ => trivial)
theorem six_below {W0 W : World} {B g : Nat} (h : Below B W0 W) (hg : B ≤ g) (u0 u1 u2 u3 u4 u5 : Value) : Below B W0 (six W g u0 u1 u2 u3 u4 u5) :=
  (((((h.setCell hg _).setCell hg _).setCell hg _).setCell hg _).setCell hg _).setCell hg _
theorem take_snoc {α β : Type} (f : α → β) (l : List α) (i : Nat) (x : α) (h : l[i]? = some x) : (l.take (i + 1)).map f = (l.take i).map f ++ [f x] := by rw [List.take_add_one, h]; simp
end Go.Proofs.YtaifemkokfoadaaGreatDoor
