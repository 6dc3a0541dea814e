/-
  What the listed variables hold, carried over calls; strconv.Itoa over it. No condition.
-/
import Derived.Test.YtanekljbehhjcaaDoorShelf
import Derived.Test.YtanekljbehhjcaaDoorEv
import Derived.WalkKit
import Derived.WalkSmall
namespace Go.Proofs.YtanekljbehhjcaaDoor
open Go.RowKit

/-- The library's variables that the contracts read. -/
structure GW (w : World) : Prop where
  tab : Lib.TabIs Tryd.prog w "internal/strconv.uint64pow10" .u64 Lib.pow10Tab
  synt : ∃ tp p, w.var? Tryd.prog "strconv.ErrSyntax" = some #[.iface tp p]
  rng : ∃ tp p, w.var? Tryd.prog "strconv.ErrRange" = some #[.iface tp p]
  mx : ∃ m, w.cell? ⟨0, 0, none⟩ = some (.int .i64 m)
  inside : 8 < w.heap.size
theorem GW.under {w w' : World} (h : GW w) (hb : Below w.heap.size w w') : GW w' := by
  obtain ⟨t1, p1, e1⟩ := h.synt
  obtain ⟨t2, p2, e2⟩ := h.rng
  obtain ⟨m, e3⟩ := h.mx
  have hi := h.inside
  exact ⟨var?_below hb (by kernel_rfl) (by omega : 3 < w.heap.size) h.tab, ⟨t1, p1, var?_below hb (by kernel_rfl) (by omega : 1 < w.heap.size) e1⟩, ⟨t2, p2, var?_below hb (by kernel_rfl) (by omega : 2 < w.heap.size) e2⟩,
    ⟨m, (hb.cell (p := ⟨0, 0, none⟩) (by show 0 < w.heap.size; omega)).trans e3⟩, Nat.lt_of_lt_of_le hi hb.size⟩
theorem growBelow (w : World) (k : Nat) (os : Array Obj) : Below w.heap.size w (Sort.grow (w.drewN k) os) := by
  refine ⟨rfl, rfl, rfl, by simp [Sort.grow, World.drewN], fun i hi => ?_⟩
  show ((w.drewN k).heap ++ os)[i]? = _
  rw [Array.getElem?_append_left (by simpa [World.drewN] using hi)]
  rfl
theorem itoa_any (n : Int) (w : World) (h0 : -9223372036854775808 ≤ n) (h1 : n ≤ 9223372036854775807) (ht : GW w) :
    Calls Tryd.prog 17 #[.int .i64 n] w fun e w' => e = .returned (.string (bar (Lib.itoa n))) ∧ Below w.heap.size w w' :=
  (Tryd.strconv_Itoa n h0 h1 w ht.tab).mono fun e w' ⟨h1, k, os, h2⟩ => ⟨h1, by rw [h2]; exact growBelow w k os⟩
theorem belowThen {B : Nat} {w w1 w2 : World} (h : Below B w w1) (k : Below w1.heap.size w1 w2) (hB : B ≤ w1.heap.size := by first | assumption | exact Below.size (by assumption) | omega) : Below B w w2 :=
  h.trans (k.mono hB)
end Go.Proofs.YtanekljbehhjcaaDoor
