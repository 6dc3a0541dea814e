/-
  AN ARGUMENT THAT IS A SLICE, OPENED AS A ROW OF ELEMENTS ('Kd'), its elements' data beside it. No condition.
-/
import Derived.Test.YtanekljbehhjcaaDoorWWords
import Derived.Deep.Slices
import Derived.ChangeArms
import Derived.ChangeSlices
import Derived.SizedLaws
import Derived.WideShapes
namespace Go.Proofs.YtanekljbehhjcaaDoor
open Go.ChangeShapes Go.WideShapes Go.RowKit Go.Deep Go.Proofs.YtanekljbehhjcaaDoorW.PrintWords

section
variable {H : Type} {enc : TypeId × Value → H} {P : Program} {w : World} {sp : Nat → Bool} {held : Bool} {α : Type}
theorem open_rows [Inhabited α] (d : Kd α) {t e : TypeId} (Good : α → DataW H → Prop) {r : Reach} {b0 : Nat} {v : Value} {d0 : DataW H} {ps : List MemPlace} (ht : P.underlying t = some (.slice e)) (hc : P.cellsOf e = d.sz)
    (dec : ∀ n cs x, DataW.trod enc P w 0 sp held n e cs = some x → ∃ y : α, d.K w y cs ∧ Good y x.1)
    (hval : Value.okWide P w r b0 t v) (h : DataW.Trod enc P w 0 sp held t v d0 ps) :
    ∃ A c l, v = .slice A l.length c ∧ l.length ≤ c ∧ Kd.C d w A l.length l ∧ (l = [] ∨ ∃ elems spare, d0 = .slice elems spare ∧ elems.length = l.length ∧ ∀ x ∈ l, ∃ D ∈ elems, Good x D) := by
  obtain ⟨a0, len0, cap0, rfl⟩ := okWide_slice ht hval
  obtain ⟨fuel, hf⟩ := h
  rcases open_slice ht hf with ⟨hcs, _⟩ | ⟨a, len, cap, m, n, D, Pl, hcs, _, hl, hm, hmm, hx, hel⟩
  · simp [Value.cells] at hcs
    obtain ⟨rfl, rfl, rfl⟩ := hcs
    exact ⟨none, 0, [], rfl, Nat.le_refl _, ⟨rfl, by simp, fun h => by simp at h⟩, .inl rfl⟩
  · simp [Value.cells] at hcs
    obtain ⟨rfl, rfl, rfl⟩ := hcs
    have hlm : len0 ≤ m := by rw [hmm]; split <;> omega
    obtain ⟨F, hF⟩ := choose_lt (α := α) (p := fun i y => ∃ cs', w.cells? 0 (a.add (i * d.sz)) d.sz = some cs' ∧ d.K w y cs' ∧ Good y (D i)) (n := m) (fun i hi => by
      obtain ⟨cs', h1, h2⟩ := hel i hi
      rw [hc] at h1
      obtain ⟨y, hy, hg⟩ := dec _ _ _ h2
      exact ⟨y, cs', h1, hy, hg⟩)
    refine ⟨some a, cap0, (List.range len0).map F, by simp, by simpa using hl, ⟨rfl, ?_, fun _ => ⟨a, rfl, fun j p hj => ?_⟩⟩, .inr ⟨_, _, (Prod.mk.inj hx).1, by simp, fun x hx => ?_⟩⟩
    · have : maxLen = 9223372036854775807 := rfl
      simp; omega
    · have hj2 : j < len0 := by
        rcases Nat.lt_or_ge j len0 with h1 | h1
        · exact h1
        · rw [List.getElem?_eq_none (by simpa using h1)] at hj; cases hj
      rw [List.getElem?_map, List.getElem?_range hj2] at hj
      cases hj
      obtain ⟨cs', h1, h2, _⟩ := hF j (by omega)
      obtain ⟨_, h3, h4⟩ := World.cells?_some h1
      refine ⟨cs', h3, h2, fun i u hu => ?_⟩
      have hi : i < d.sz := by
        rw [← h3]
        rcases Nat.lt_or_ge i cs'.length with h1 | h1
        · exact h1
        · rw [List.getElem?_eq_none h1] at hu; cases hu
      have := h4 i hi
      rw [Go.Deep.add_add] at this
      rw [this, hu]
    · obtain ⟨i, hi, rfl⟩ := List.mem_map.1 hx
      have hi2 := List.mem_range.1 hi
      obtain ⟨_, _, _, hg⟩ := hF i (by omega)
      exact ⟨D i, List.mem_map.2 ⟨i, hi, rfl⟩, hg⟩
end
theorem weightsAll_mem {H : Type} {P : Program} {e : TypeId} : ∀ {elems : List (DataW H)} {D : DataW H}, D ∈ elems → ∀ n ∈ D.weights P e, n ∈ DataW.weightsAll P e elems
  | d0 :: r, D, h, n, hn => by
    simp only [DataW.weightsAll, List.mem_append]
    rcases List.mem_cons.1 h with rfl | h
    · exact .inl hn
    · exact .inr (weightsAll_mem h n hn)
/-- What an element of a slice that is an argument weighs is bounded. -/
theorem sized_elem {H : Type} {P : Program} {ts : List TypeId} {ds : List (DataW H)} (h : (DataW.weightsEach P ts ds).all (· ≤ reachBytes) = true) {j : Nat} {t e : TypeId} {elems spare : List (DataW H)} (ht : ts[j]? = some t) (hd : ds[j]? = some (.slice elems spare)) (hu : P.underlying t = some (.slice e)) {D : DataW H} (hD : D ∈ elems) {n : Nat} (hn : n ∈ D.weights P e) : n ≤ reachBytes := by
  have := List.all_eq_true.1 h _ (DataW.weights_mem_each ht hd n (by
    simp only [DataW.weights, hu, List.mem_cons, List.mem_append]
    exact .inr (.inl (weightsAll_mem hD n hn))))
  simpa using this
end Go.Proofs.YtanekljbehhjcaaDoor
