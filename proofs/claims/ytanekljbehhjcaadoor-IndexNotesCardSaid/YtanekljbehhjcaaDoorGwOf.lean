/-
  From what a row lists to the tables that the contracts ask (GW); an argument that is a slice of notes. No condition.
-/
import Derived.Test.YtanekljbehhjcaaDoorGw
import Derived.Test.YtanekljbehhjcaaDoorFrame
import Derived.Test.YtanekljbehhjcaaDoorOpenRows
import Derived.Test.YtanekljbehhjcaaDoorLawNotes
import Derived.Lib.LaidU8
import Derived.Shelf.Vars
namespace Go.Proofs.YtanekljbehhjcaaDoor
open Go.RowKit Go.ChangeShapes Go.WideShapes Go.Proofs.YtanekljbehhjcaaDoorW.PrintWords Go.Proofs.YtanekljbehhjcaaDoor.PX

theorem iface_of_laid {P : Program} {w : World} {l : List (String × DataW Unit)} {n nm : String} {d : DataW Unit} {g : Nat} {t : TypeId} {ms : Array (String × TypeId)} (h : laidMet P l w) (hm : (n, .iface nm d) ∈ l)
    (hg : P.globalNamed n = some g) (ht : (P.globals[g]?).map (·.type) = some t) (hu : P.underlying t = some (.interface ms)) : ∃ tp p, w.var? P n = some #[.iface tp p] := by
  obtain ⟨g', t', cs, fuel, p, e1, e2, e3, e4⟩ := Lib.laidMet.reads h hm
  obtain rfl : g' = g := Option.some.inj (e1.symm.trans hg)
  obtain rfl : t' = t := Option.some.inj (e2.symm.trans ht)
  cases fuel with
  | zero => simp [DataW.trod] at e4
  | succ k =>
    unfold DataW.trod at e4
    rw [hu] at e4
    obtain ⟨cl⟩ := cs
    rw [e3]
    match cl, e4 with
    | [], e4 => simp at e4
    | [v], e4 =>
      cases v <;> simp at e4
      exact ⟨_, _, rfl⟩
    | _ :: _ :: _, e4 => simp at e4
theorem gw_of {W : World} {l : List (String × DataW Unit)} {ds : DataW Unit} {dr : DataW Unit} {n1 n2 : String} (h : laidMet Tryd.prog l W) (hsh : W.ShapedOpen Tryd.prog) (h1 : ("internal/strconv.uint64pow10", Lib.tabData .u64 Lib.pow10Tab) ∈ l) (h2 : ("strconv.ErrSyntax", .iface n1 ds) ∈ l) (h3 : ("strconv.ErrRange", .iface n2 dr) ∈ l) : GW W := by
  have htab : Lib.TabIs Tryd.prog W "internal/strconv.uint64pow10" .u64 Lib.pow10Tab := tabIs_of_laid (g := 3) (t := 132) (e := 100) (n := 20) (by kernel_rfl) (by kernel_rfl) Tryd.underlying132 Tryd.underlying100 (by kernel_rfl) (by kernel_rfl) h h1
  refine ⟨htab, iface_of_laid (g := 1) h h2 (by kernel_rfl) (t := 50) (by kernel_rfl) Tryd.underlying50, iface_of_laid (g := 2) h h3 (by kernel_rfl) (t := 50) (by kernel_rfl) Tryd.underlying50,
    cell_of_shapedOpen_int (t := 3) (zero := #[.int .i64 0]) hsh (of_decide_eq_true (by kernel_rfl)) (by kernel_rfl) rfl (by kernel_rfl) (by kernel_rfl) Tryd.underlying3, ?_⟩
  obtain ⟨o, _, h4, _⟩ := hsh.2 8 (of_decide_eq_true (by kernel_rfl)) (of_decide_eq_true (by kernel_rfl))
  rcases Nat.lt_or_ge 8 W.heap.size with h5 | h5
  · exact h5
  · rw [Array.getElem?_eq_none h5] at h4; cases h4
instance : Inhabited S28 := ⟨⟨0, 0, ⟨#[]⟩⟩⟩
set_option maxRecDepth 100000 in
theorem dec28 {W : World} {sp : Nat → Bool} {held : Bool} {H : Type} {enc : TypeId × Value → H} (n : Nat) (cs : List Value) (x : DataW H × List MemPlace) (h : DataW.trod enc Tryd.prog W 0 sp held n 28 cs = some x) :
    ∃ y : S28, Kd.K k28 W y cs ∧ (∃ a b, x.1 = .agg [a, b, .lit (.string y.f2.data.toList)]) := by
  obtain ⟨xs, k, hk, hxy, hcl, hxl, hf⟩ := DataW.trod_struct Tryd.underlying28 h
  have c28 : Tryd.prog.cellsOf 28 = 3 := by kernel_rfl
  have c3 : Tryd.prog.cellsOf 3 = 1 := by kernel_rfl
  have c9 : Tryd.prog.cellsOf 9 = 1 := by kernel_rfl
  rw [c28] at hcl
  match xs, hxl, cs, hcl with
  | [y0, y1, y2], _, [v0, v1, v2], _ =>
    have g0 := hf 0 _ rfl
    have g1 := hf 1 _ rfl
    have g2 := hf 2 _ rfl
    simp [c3, c9] at g0 g1 g2
    obtain ⟨n0, e0, _⟩ := DataW.trod_int Tryd.underlying3 g0
    obtain ⟨n1, e1, _⟩ := DataW.trod_int Tryd.underlying3 g1
    obtain ⟨s2, e2, f2, _⟩ := DataW.trod_string Tryd.underlying9 g2
    cases e0; cases e1; cases e2
    refine ⟨⟨n0, n1, s2⟩, k28_mk W ⟨n0, n1, s2⟩, y0.1, y1.1, ?_⟩
    rw [hxy, f2]
    rfl
theorem decI64 {W : World} {sp : Nat → Bool} {held : Bool} {H : Type} {enc : TypeId × Value → H} (n : Nat) (cs : List Value) (x : DataW H × List MemPlace) (h : DataW.trod enc Tryd.prog W 0 sp held n 3 cs = some x) :
    ∃ y : Int, Kd.K (Kd.int .i64) W y cs ∧ (Lit.int .i64 y).wf = true := by
  obtain ⟨n0, e0, _, hw⟩ := DataW.trod_int Tryd.underlying3 h
  exact ⟨n0, e0, hw⟩
theorem sized28 {H : Type} {ts : List TypeId} {ds : List (DataW H)} (h : (DataW.weightsEach Tryd.prog ts ds).all (· ≤ reachBytes) = true) {j : Nat} {elems spare : List (DataW H)} (ht : ts[j]? = some 22) (hd : ds[j]? = some (.slice elems spare)) {y : S28} {D : DataW H} (hD : D ∈ elems) (hg : ∃ a b, D = .agg [a, b, .lit (.string y.f2.data.toList)]) : y.f2.size ≤ 140737488355328 := by
  obtain ⟨a, b, rfl⟩ := hg
  have := sized_elem h ht hd Tryd.underlying22 hD (n := y.f2.size) (by
    simp only [DataW.weights, Tryd.underlying28]
    simp only [DataW.weightsEach, DataW.weights, List.map_cons, List.map_nil, List.mem_append, List.mem_cons]
    exact .inr (.inr (.inl (.inl (Array.length_toList).symm))))
  exact Nat.le_trans this (by decide)
end Go.Proofs.YtanekljbehhjcaaDoor
