/-
  slices.Compact(slices.Sorted(slices.Values(l))): what the slice then holds. No condition.
-/
import Derived.Test.YtanekljbehhjcaaDoorIter
import Derived.Test.YtanekljbehhjcaaDoorSortL
import Derived.Deep.RegionWith
namespace Go.Proofs.YtanekljbehhjcaaDoor
open Go.RowKit Go.Shelf Go.Sort Go.Proofs.YtanekljbehhjcaaDoorW.PrintWords

theorem appendSeq_calls (Bs n₀ : Nat) (sv : Value) (zs : List Int) (hreach : zs.length * 8 ≤ 140737488351232) (w : World)
    (hBs : Bs < w.heap.size) (hn₀ : n₀ ≤ w.heap.size) (hc : w.cell? ⟨Bs, 0, none⟩ = some sv) (hI : IntsAt n₀ w sv zs) :
    Calls Tryd.prog 54 #[.slice none 0 0, .func (.func 40) #[] #[.pointer (some ⟨Bs, 0, none⟩)]] w fun e W' => ∃ v, e = .returned v ∧ W'.ownsRow w.heap.size 3 1 v zs.length (zs.map (Value.int .i64)) ∧ (v = .slice none 0 0 ↔ zs = []) ∧ Below w.heap.size w W' :=
  (callsIn_wide (n := 6)).1 (appendSeq_in Fence.wide 6 trivial trivial rfl (by omega) Bs n₀ sv zs hreach w hBs hn₀ hc hI)
set_option maxRecDepth 100000 in
theorem collect_calls (Bs n₀ : Nat) (sv : Value) (zs : List Int) (hreach : zs.length * 8 ≤ 140737488351232) (w : World)
    (hBs : Bs < w.heap.size) (hn₀ : n₀ ≤ w.heap.size) (hc : w.cell? ⟨Bs, 0, none⟩ = some sv) (hI : IntsAt n₀ w sv zs) :
    Calls Tryd.prog 38 #[.func (.func 40) #[] #[.pointer (some ⟨Bs, 0, none⟩)]] w fun e W' => ∃ v, e = .returned v ∧ W'.ownsRow w.heap.size 3 1 v zs.length (zs.map (Value.int .i64)) ∧ (v = .slice none 0 0 ↔ zs = []) ∧ Below w.heap.size w W' := by
  have h := appendSeq_calls Bs n₀ sv zs hreach w hBs hn₀ hc hI
  clear hc hI
  go_enter Tryd.func38, Tryd.ntmps38
  go_wp2_with fail
  refine h.mono ?_; rintro e W1 ⟨v, rfl, h1, h2, h3⟩
  have H1 := Lib.hid h1
  have H2 := Lib.hid h2
  clear h1 h2
  go_wp2_with fail
  go_ret
  exact ⟨v, rfl, H1.out, H2.out, h3⟩
/-- Sorted. -/
def srt (l : List Int) : List Int := l.mergeSort fun x y => decide (x ≤ y)
theorem srt_len (l : List Int) : (srt l).length = l.length := List.length_mergeSort l
set_option maxRecDepth 100000 in
set_option maxHeartbeats 1000000 in
theorem sorted_calls (Bs n₀ : Nat) (sv : Value) (zs : List Int) (hreach : zs.length * 8 ≤ 140737488351232) (w : World)
    (hBs : Bs < w.heap.size) (hn₀ : n₀ ≤ w.heap.size) (hc : w.cell? ⟨Bs, 0, none⟩ = some sv) (hI : IntsAt n₀ w sv zs) :
    Calls Tryd.prog 23 #[.func (.func 40) #[] #[.pointer (some ⟨Bs, 0, none⟩)]] w fun e W' => ∃ v, e = .returned v ∧
      ((v = .slice none 0 0 ∧ zs = []) ∨ ∃ g cap cur, v = .slice (some ⟨g, 0, none⟩) zs.length cap ∧ w.heap.size ≤ g ∧ W'.heap[g]? = some (.cells cur 3 (0, 0)) ∧ zs.length ≤ cap ∧ cap ≤ maxLen ∧ cur.size = cap * 1 ∧ cur.toList.take zs.length = (srt zs).map (Value.int .i64)) ∧ Below w.heap.size w W' := by
  have h := collect_calls Bs n₀ sv zs hreach w hBs hn₀ hc hI
  clear hc hI
  have key : ∀ W1 v, W1.ownsRow w.heap.size 3 1 v zs.length (zs.map (Value.int .i64)) → Below w.heap.size w W1 →
      Calls Tryd.prog 39 #[v] W1 fun e W' => e = .returned (.tuple #[]) ∧ ((v = .slice none 0 0 ∧ zs = []) ∨ ∃ g cap cur, v = .slice (some ⟨g, 0, none⟩) zs.length cap ∧ w.heap.size ≤ g ∧ W'.heap[g]? = some (.cells cur 3 (0, 0)) ∧ zs.length ≤ cap ∧ cap ≤ maxLen ∧ cur.size = cap * 1 ∧ cur.toList.take zs.length = (srt zs).map (Value.int .i64)) ∧ Below w.heap.size w W' := by
    intro W1 v hrow hb
    rcases hrow.2 with ⟨rfl, hz⟩ | ⟨gb, cap, cur, rfl, hbase, hgb, r1, r2, r3, r4⟩
    · have hss : zs = [] := List.eq_nil_of_length_eq_zero hz
      exact (Tryd.slices_Sort_int_none none 0 W1).mono fun e W' ⟨h1, h2⟩ => ⟨h1, .inl ⟨rfl, hss⟩, by rw [h2]; exact hb⟩
    · have hH : Holds encZ W1 gb 0 zs.toArray := holds_of_block_i hgb (by simpa using r4)
      have hgl : gb < W1.heap.size := (Array.getElem?_eq_some_iff.1 hgb).1
      refine (Tryd.slices_Sort_int gb 0 cap zs W1 hH hgl (by omega)).mono fun e W' ⟨h1, nn, os, h2⟩ => ⟨h1, .inr ?_, ?_⟩
      · have ho := ownsRow_sorted_i (w := W1) (n := nn) (os := os) (ss := zs) (ts := srt zs) (srt_len zs) hbase hgb r1 r2 r3
        rw [show (srt zs).toArray = (zs.mergeSort fun x y => decide (x ≤ y)).toArray from rfl] at ho
        have h2' : W' = grow (putRow encZ (Sort.ahead W1 nn) gb 0 (zs.mergeSort fun x y => decide (x ≤ y)).toArray) os := h2
        rw [← h2'] at ho
        rcases ho.2 with ⟨ev, _⟩ | ⟨g2, cap2, cur2, ev, q1, q2, q3, q4, q5, q6⟩
        · cases ev
        · cases ev
          exact ⟨_, _, cur2, rfl, q1, q2, q3, q4, q5, by simpa using q6⟩
      · have h2' : W' = grow (putRow encZ (Sort.ahead W1 nn) gb 0 (zs.mergeSort fun x y => decide (x ≤ y)).toArray) os := h2
        rw [h2']
        exact hb.grown (grownBy_sorted_i _) hb.size (fun j hj => by cases hj; exact hbase)
  go_enter Tryd.func23, Tryd.ntmps23
  go_wp2_with fail
  refine h.mono ?_; rintro e W1 ⟨v, rfl, h1, h2, h3⟩
  have hk := key W1 v h1 h3
  clear key h1 h2 h
  go_wp2_with fail
  refine hk.mono ?_; rintro e W2 ⟨rfl, h4, h5⟩
  have H4 := Lib.hid h4
  clear h4
  go_wp2_with fail
  go_ret
  exact ⟨v, rfl, H4.out, h5⟩
/-- The slice value holds the numbers. -/
def Holdz (W : World) (v : Value) (zs : List Int) : Prop :=
  ∃ A c, v = .slice A zs.length c ∧ zs.length ≤ c ∧ (0 < zs.length → ∃ g, A = some ⟨g, 0, none⟩ ∧ g < W.heap.size) ∧ ∀ g, A = some ⟨g, 0, none⟩ → ∀ j (h : j < zs.length), W.cell? ⟨g, j, none⟩ = some (.int .i64 zs[j])
theorem Holdz.later {W W' : World} {v : Value} {zs : List Int} (h : Holdz W v zs) (hb : Below W.heap.size W W') : Holdz W' v zs := by
  obtain ⟨A, c, rfl, h0, h1, h2⟩ := h
  refine ⟨A, c, rfl, h0, fun hp => ?_, fun g e j hj => ?_⟩
  · obtain ⟨g, e, hg⟩ := h1 hp
    exact ⟨g, e, Nat.lt_of_lt_of_le hg hb.size⟩
  · obtain ⟨g', e', hg⟩ := h1 (by omega)
    have : g = g' := by rw [e] at e'; injection e' with e'; injection e'
    subst this
    exact (hb.cell (p := ⟨g, j, none⟩) hg).trans (h2 g e j hj)
theorem compact_calls (w0 W1 : World) (v : Value) (zs : List Int) (hz : zs.length ≤ 1000000000) (hb : Below w0.heap.size w0 W1)
    (h : (v = .slice none 0 0 ∧ zs = []) ∨ ∃ g cap cur, v = .slice (some ⟨g, 0, none⟩) zs.length cap ∧ w0.heap.size ≤ g ∧ W1.heap[g]? = some (.cells cur 3 (0, 0)) ∧ zs.length ≤ cap ∧ cap ≤ maxLen ∧ cur.size = cap * 1 ∧ cur.toList.take zs.length = (srt zs).map (Value.int .i64)) :
    Calls Tryd.prog 22 #[v] W1 fun e W' => ∃ v', e = .returned v' ∧ Holdz W' v' (sortD zs) ∧ Below w0.heap.size w0 W' := by
  rcases h with ⟨rfl, rfl⟩ | ⟨g, cap, cur, rfl, hbase, hgb, r1, r2, r3, r4⟩
  · exact (Tryd.slices_Compact_int_empty none 0 W1).mono fun e W' ⟨h1, h2⟩ => ⟨_, h1, ⟨none, 0, rfl, Nat.le_refl _, fun h => absurd h (by simp [sortD]), fun g e => (by simp at e)⟩, by rw [h2]; exact hb⟩
  · have hH : Holds encZ W1 g 0 (srt zs).toArray := holds_of_block_i hgb (by rw [srt_len]; exact r4)
    have hgl : g < W1.heap.size := (Array.getElem?_eq_some_iff.1 hgb).1
    have hc := Tryd.slices_Compact_int g 0 cap (srt zs) W1 hH (by rw [srt_len]; omega) (by rw [srt_len]; exact r1)
    rw [srt_len] at hc
    refine hc.mono fun e W' ⟨h1, q, h2⟩ => ?_
    have hlen : (Lib.compact (srt zs)).length ≤ zs.length := by
      rw [show Lib.compact (srt zs) = sortD zs from compact_sorted zs]; exact sortD_len zs
    have h2' : W' = putRow encZ (Sort.ahead W1 q) g 0 (Lib.compact (srt zs) ++ List.replicate (zs.length - (Lib.compact (srt zs)).length) 0).toArray := by rw [h2]
    have hsz : (Lib.compact (srt zs) ++ List.replicate (zs.length - (Lib.compact (srt zs)).length) 0).length = zs.length := by
      rw [List.length_append, List.length_replicate]; omega
    have ho := ownsRow_sorted_i (w := W1) (n := q) (os := #[]) (ss := zs) hsz hbase hgb r1 r2 r3
    rw [grow_empty, ← h2'] at ho
    have hgr := grownBy_sorted_i (w := W1) (g := g) (n := q) (os := #[]) (Lib.compact (srt zs) ++ List.replicate (zs.length - (Lib.compact (srt zs)).length) 0).toArray
    rw [grow_empty, ← h2'] at hgr
    have hb' : Below w0.heap.size w0 W' := hb.grown hgr hb.size (fun j hj => by cases hj; exact hbase)
    rw [show Lib.compact (srt zs) = sortD zs from compact_sorted zs] at h1 ho hlen
    refine ⟨_, h1, ⟨_, _, rfl, by omega, fun hp => ⟨g, rfl, Nat.lt_of_lt_of_le hgl hgr.size⟩, fun g' e j hj => ?_⟩, hb'⟩
    cases e
    have := ho.cells (g := g) rfl j (.int .i64 (sortD zs)[j]) (by rw [List.map_append, List.getElem?_append_left (by simpa using hj), List.getElem?_map, List.getElem?_eq_getElem hj]; rfl)
    rwa [Addr.add_lit, Nat.zero_add] at this
end Go.Proofs.YtanekljbehhjcaaDoor
