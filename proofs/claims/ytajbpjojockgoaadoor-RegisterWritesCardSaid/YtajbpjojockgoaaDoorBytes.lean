/-
  '[]byte(s)', its cells written one by one, 'string(b)': small laws. No condition.
-/
import Derived.Test.YtajbpjojockgoaaDoorDigits
import Derived.Laws.IdiomStrings
namespace Go.Proofs.YtajbpjojockgoaaDoor
open Go.RowKit

/-- The block g begins with the bytes l, none of them frozen. -/
def BytesAt (w : World) (g : Nat) (l : List UInt8) : Prop :=
  ∃ (cs : Array Value) (lo hi : Nat), w.heap[g]? = some (.cells cs 5 (lo, hi)) ∧ l.length ≤ lo ∧ ∀ (j : Nat) (h : j < l.length), cs[j]? = some (.int .u8 (l[j].toNat : Int))
theorem BytesAt.cell {w : World} {g : Nat} {l : List UInt8} (h : BytesAt w g l) (j : Nat) (hj : j < l.length) : w.cell? ⟨g, j, none⟩ = some (.int .u8 (l[j].toNat : Int)) := by
  obtain ⟨cs, lo, hi, hg, _, hc⟩ := h
  rw [cell_of_row w g j _ 5 (lo, hi) hg]; exact hc j hj
theorem BytesAt.free {w : World} {g : Nat} {l : List UInt8} (h : BytesAt w g l) (j : Nat) (hj : j < l.length) : w.frozen? ⟨g, j, none⟩ = false := by
  obtain ⟨cs, lo, hi, hg, hlo, hc⟩ := h
  simp [World.frozen?, hg]; omega
theorem BytesAt.inside {w : World} {g : Nat} {l : List UInt8} (h : BytesAt w g l) : g < w.heap.size := by
  obtain ⟨cs, lo, hi, hg, _, _⟩ := h
  exact (Array.getElem?_eq_some_iff.1 hg).1
theorem BytesAt.same {w w' : World} {g : Nat} {l : List UInt8} (h : BytesAt w g l) (he : w'.heap[g]? = w.heap[g]?) : BytesAt w' g l := by
  obtain ⟨cs, lo, hi, hg, hlo, hc⟩ := h
  exact ⟨cs, lo, hi, he.trans hg, hlo, hc⟩
theorem BytesAt.under {w w' : World} {g B : Nat} {l : List UInt8} (h : BytesAt w g l) (hb : Below B w w') (hg : g < B) : BytesAt w' g l := h.same (hb.block g hg)
theorem BytesAt.later {w w' : World} {g : Nat} {l : List UInt8} (h : BytesAt w g l) (hb : Below w.heap.size w w') : BytesAt w' g l := h.under hb h.inside
theorem BytesAt.past {w : World} {g : Nat} {l : List UInt8} (h : BytesAt w g l) (o : Obj) : BytesAt (w.alloc o) g l := h.same (Below.heap_alloc w o g h.inside)
theorem BytesAt.drawn {w : World} {g : Nat} {l : List UInt8} (h : BytesAt w g l) : BytesAt w.drew g l := h
theorem BytesAt.drawnN {w : World} {g : Nat} {l : List UInt8} (h : BytesAt w g l) : ∀ n, BytesAt (w.drewN n) g l
  | 0 => h
  | n + 1 => (h.drawnN n).drawn
theorem BytesAt.apart {w : World} {g : Nat} {l : List UInt8} (h : BytesAt w g l) {p : Addr} (hp : g ≠ p.block) (u : Value) : BytesAt (w.setCell p u) g l := h.same (Below.heap_setCell w p u g hp)
theorem BytesAt.stored {w : World} {g : Nat} {l : List UInt8} (h : BytesAt w g l) (i : Nat) (b : UInt8) : BytesAt (w.setCell ⟨g, i, none⟩ (.int .u8 (b.toNat : Int))) g (l.set i b) := by
  obtain ⟨cs, lo, hi, hg, hlo, hc⟩ := h
  refine ⟨cs.set! i (.int .u8 (b.toNat : Int)), lo, hi, by simp [World.setCell, Array.getElem?_modify, hg], by simpa using hlo, fun j hj => ?_⟩
  simp only [List.length_set] at hj
  rw [Array.set!_eq_setIfInBounds, Array.getElem?_setIfInBounds]
  have h1 := hc j hj
  have hs : j < cs.size := (Array.getElem?_eq_some_iff.1 h1).1
  by_cases e : i = j
  · subst e; simp [hs]
  · rw [if_neg e, h1, List.getElem_set_ne e]
theorem BytesAt.back {w : World} {g : Nat} {l : List UInt8} (h : BytesAt w g l) (cap : Nat) :
    (convert 38 9 (.slice (some ⟨g, 0, none⟩) l.length cap)).run Tryd.prog w = .ok (.string (bar l)) w :=
  run_convert_bytes_back (P := Tryd.prog) w 38 9 5 ⟨g, 0, none⟩ cap l Tryd.underlying38 Tryd.underlying5 Tryd.underlying9
    (fun j hj => by rw [show Addr.add ⟨g, 0, none⟩ j = ⟨g, j, none⟩ from by rw [Addr.add_lit, Nat.zero_add]]; exact h.cell j hj)
theorem bytes_of (s : ByteArray) (w : World) : (convert 9 38 (.string s)).run Tryd.prog w = .ok (.slice (some ⟨w.heap.size, 0, none⟩) s.size (grownCap w s.size 0 5))
      (w.drew.alloc (.cells (bytesRow s (grownCap w s.size 0 5)) 5 ((bytesRow s (grownCap w s.size 0 5)).size, (bytesRow s (grownCap w s.size 0 5)).size + 1))) :=
  run_bytes_of_string (P := Tryd.prog) w 9 38 5 s Tryd.underlying9 Tryd.underlying38 Tryd.underlying5
theorem bytes_fresh (s : ByteArray) (w : World) (cap : Nat) : BytesAt (w.alloc (.cells (bytesRow s cap) 5 ((bytesRow s cap).size, (bytesRow s cap).size + 1))) w.heap.size s.data.toList := by
  refine ⟨_, _, _, heap_alloc_new w _, ?_, fun j hj => ?_⟩
  · unfold bytesRow
    rw [Array.size_append, Array.size_map]
    have : s.data.toList.length = s.data.size := Array.length_toList
    omega
  · exact bytesRow_at s cap j (by simpa using hj)

/-- The first j bytes as f turns them, the rest as it was. -/
def mixL (f : UInt8 → UInt8) (j : Nat) (l : List UInt8) : List UInt8 := (l.take j).map f ++ l.drop j
theorem mixL_zero (f : UInt8 → UInt8) (l : List UInt8) : mixL f 0 l = l := by simp [mixL]
theorem mixL_all (f : UInt8 → UInt8) (l : List UInt8) : mixL f l.length l = l.map f := by simp [mixL]
theorem mixL_len (f : UInt8 → UInt8) (j : Nat) (l : List UInt8) : (mixL f j l).length = l.length := by simp [mixL]; omega
theorem mixL_at (f : UInt8 → UInt8) (j : Nat) (l : List UInt8) (h : j < l.length) : (mixL f j l)[j]'(by rw [mixL_len]; exact h) = l[j] := by
  have e : (mixL f j l)[j]? = l[j]? := by
    unfold mixL
    rw [List.getElem?_append_right (by simp; omega), List.getElem?_drop]
    congr 1; simp; omega
  rw [List.getElem?_eq_getElem (by rw [mixL_len]; exact h), List.getElem?_eq_getElem h] at e
  exact Option.some.inj e
theorem mixL_set (f : UInt8 → UInt8) (j : Nat) (l : List UInt8) (h : j < l.length) : (mixL f j l).set j (f l[j]) = mixL f (j + 1) l := by
  unfold mixL
  have hl : ((l.take j).map f).length = j := by simp; omega
  rw [List.set_append_right _ _ (by omega), hl, Nat.sub_self, List.drop_eq_getElem_cons h, List.set_cons_zero, List.take_add_one, List.getElem?_eq_getElem h, List.map_append]
  simp only [Option.toList_some, List.map_cons, List.map_nil, List.append_assoc, List.cons_append, List.nil_append]
theorem mixL_keep (f : UInt8 → UInt8) (j : Nat) (l : List UInt8) (h : j < l.length) (hf : f l[j] = l[j]) : mixL f (j + 1) l = mixL f j l := by
  rw [← mixL_set f j l h, hf]
  have := mixL_at f j l h
  apply List.ext_getElem?
  intro i
  rw [List.getElem?_set]
  split
  · rename_i e; subst e
    rw [if_pos (by rw [mixL_len]; exact h), ← this, List.getElem?_eq_getElem]
  · rfl
end Go.Proofs.YtajbpjojockgoaaDoor
