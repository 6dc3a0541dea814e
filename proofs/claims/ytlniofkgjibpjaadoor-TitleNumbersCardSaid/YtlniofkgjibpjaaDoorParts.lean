/-
  title.Parts returns what the reference's Parts returns, at titles of at most 100000 bytes; the example of the laws holds.
-/
import Derived.Test.YtlniofkgjibpjaaDoorRefParts
import Derived.Test.YtlniofkgjibpjaaDoorEq
import Derived.Laws.CopyOwn
import Derived.Deep.RegionLaw
namespace Go.Proofs.YtlniofkgjibpjaaDoor
open Go.RowKit

theorem Tryd.size9 : (Tryd.prog.info? 9).map (·.size) = some 1 := by kernel_rfl
/-- The pieces that SplitN gives at 4. -/
def splitP (s sep : ByteArray) : List ByteArray := Lib.splitB sep 0 (min 4 (s.size + 1) - 1) s
theorem splitN4 (s sep : ByteArray) (m : Int) (w : World) (hs : s.size ≤ 100000) (hm : w.cell? ⟨0, 0, none⟩ = some (.int .i64 m)) (h1 : 1 ≤ sep.size) :
    Calls Tryd.prog 21 #[.string s, .string sep, .int .i64 4] w fun e w' =>
      e = .returned (.slice (some ⟨w.heap.size, 0, none⟩) (splitP s sep).length (min 4 (s.size + 1))) ∧ w.alloc (.cells (Lib.cellsOf (splitP s sep) (min 4 (s.size + 1))) 9) = w' :=
  (Tryd.strings_SplitN s sep 4 m w (by omega) hm h1 (by omega) (by omega)).mono fun e w' ⟨h1, h2⟩ => ⟨h1, h2.symm⟩
theorem splitP_pos (s sep : ByteArray) : 0 < (splitP s sep).length := by
  unfold splitP
  cases (min 4 (s.size + 1) - 1) with
  | zero => simp [Lib.splitB]
  | succ k => unfold Lib.splitB; split <;> simp
theorem splitP_le (s sep : ByteArray) : (splitP s sep).length ≤ min 4 (s.size + 1) := by
  have := Lib.splitB_length_le sep 0 (min 4 (s.size + 1) - 1) s
  unfold splitP; omega

theorem splice3s (L : List ByteArray) : splice [Value.string ⟨#[]⟩, .string ⟨#[]⟩, .string ⟨#[]⟩] 0 ((L.take 3).map Value.string) = [.string (L.getD 0 ⟨#[]⟩), .string (L.getD 1 ⟨#[]⟩), .string (L.getD 2 ⟨#[]⟩)] := by
  rcases L with _ | ⟨a, _ | ⟨b, _ | ⟨c, L⟩⟩⟩ <;> rfl

theorem cutL_index (c : UInt8) : ∀ l : List UInt8, (Lib.indexByte l c = -1 ∧ cutL c l = [l]) ∨ ∃ i : Nat, Lib.indexByte l c = i ∧ i < l.length ∧ cutL c l = l.take i :: cutL c (l.drop (i + 1))
  | [] => .inl ⟨rfl, rfl⟩
  | b :: l => by
    by_cases h : b = c
    · subst h
      exact .inr ⟨0, by simp [Lib.indexByte], by simp, by simp [cutL_hit]⟩
    · have hb : (b == c) = false := by simpa using h
      rcases cutL_index c l with ⟨h1, h2⟩ | ⟨i, h1, h2, h3⟩
      · exact .inl ⟨by simp [Lib.indexByte, hb, h1], by rw [cutL_miss _ _ _ h, h2]; rfl⟩
      · refine .inr ⟨i + 1, ?_, by simp; omega, by rw [cutL_miss _ _ _ h, h3]; rfl⟩
        have hn : ((i : Int) == -1) = false := by rw [beq_eq_false_iff_ne]; omega
        simp [Lib.indexByte, hb, h1, hn]
theorem splitK_take (c : UInt8) : ∀ (k : Nat) (l : List UInt8) (j : Nat), (j ≤ k ∨ l.length ≤ k) → (Lib.splitK [c] 0 k l).take j = (cutL c l).take j
  | 0, l, j, h => by
    rcases h with h | h
    · obtain rfl : j = 0 := by omega
      simp
    · obtain rfl : l = [] := List.eq_nil_of_length_eq_zero (by omega)
      rfl
  | k + 1, l, 0, h => by simp
  | k + 1, l, j + 1, h => by
    unfold Lib.splitK
    rw [Lib.index_one]
    rcases cutL_index c l with ⟨h1, h2⟩ | ⟨i, h1, h2, h3⟩
    · rw [h1, h2]; rfl
    · have hn : ((i : Int) == -1) = false := by rw [beq_eq_false_iff_ne]; omega
      rw [h1, hn, h3]
      simp only [Bool.false_eq_true, if_false, Int.toNat_natCast, Nat.add_zero, List.length_cons, List.length_nil, Nat.zero_add, List.take_succ_cons]
      rw [splitK_take c k (l.drop (i + 1)) j (by rcases h with h | h; · exact .inl (by omega)
                                                 · exact .inr (by simp; omega))]
theorem strV_getD (L : List ByteArray) (i : Nat) : Value.string (L.getD i ⟨#[]⟩) = strV ((L.map (·.data.toList)).getD i []) := by
  unfold strV
  congr 1
  simp only [List.getD, List.getElem?_map]
  cases L[i]? <;> rfl
theorem p3_split' (c : UInt8) (l : List UInt8) (L : List ByteArray) (h : L.map (·.data.toList) = Lib.splitK [c] 0 (min 4 (l.length + 1) - 1) l) :
    Value.agg #[.string (L.getD 0 ⟨#[]⟩), .string (L.getD 1 ⟨#[]⟩), .string (L.getD 2 ⟨#[]⟩)] = p3 (cutL c l) := by
  rw [strV_getD, strV_getD, strV_getD, h]
  show p3 _ = _
  rw [← p3_take, splitK_take c _ l 3 (by omega), p3_take]
/-- The plain law: SplitN's pieces, cut off at four, begin as all pieces do. -/
theorem p3_split (s : ByteArray) (h0 : 0 < s.size) (L : List ByteArray) (hL : splitP (s.extract 1 s.size) (s.extract 0 1) = L) :
    Ending.returned (.tuple #[.agg #[.string (L.getD 0 ⟨#[]⟩), .string (L.getD 1 ⟨#[]⟩), .string (L.getD 2 ⟨#[]⟩)], .int .i64 0]) = .returned (.tuple #[p3 (cutL s[0] (s.data.toList.drop 1)), .int .i64 0]) := by
  have e1 : (s.extract 1 s.size).data.toList = s.data.toList.drop 1 := by rw [Lib.extract_data, List.take_of_length_le (by simp)]
  have e2 : (s.extract 0 1).data.toList = [s[0]] := by
    rw [Lib.extract_data]
    have := List.drop_eq_getElem_cons (l := s.data.toList) (i := 0) (by simpa using h0)
    rw [this]; rfl
  have h := p3_split' s[0] (s.data.toList.drop 1) L (by
    rw [← hL]; unfold splitP; rw [Lib.splitB_data, e1, e2]
    congr 3
    simp)
  rw [h]

set_option maxRecDepth 100000 in
set_option maxHeartbeats 1000000 in
theorem parts_ok (s : ByteArray) (m : Int) (w : World) (hm : w.cell? ⟨0, 0, none⟩ = some (.int .i64 m)) (hs : s.size ≤ 2000) (h0 : 0 < s.size) (ht : textB s.data.toList = true) :
    Calls Tryd.prog 10 #[.string s] w (fun e w' => e = .returned (.tuple #[p3 (cutL s[0] (s.data.toList.drop 1)), .int .i64 0]) ∧ Below w.heap.size w w') := by
  have hne := isEmpty_pos s h0
  have hw0 : 0 < w.heap.size := World.block_lt_of_cell? _ _ hm
  have h1 : (1 : Int) ≤ (s.size : Int) := by omega
  go_enter Tryd.func10, Tryd.ntmps10
  go_wp2_with (go_at_call 20; refine (fits_any _ _ (by omega)).mono ?_; rintro e w' ⟨rfl, rfl⟩)
  have hext : (s.extract 1 s.size).size = s.size - 1 := by simp
  have hsep : (s.extract 0 1).size = 1 := by simp; omega
  generalize hA : (Obj.cells #[Value.string ⟨#[]⟩, .string ⟨#[]⟩, .string ⟨#[]⟩] 23) = A at *
  have HA := Lib.hid hA
  clear hA
  have hm3 : ((w.alloc A).alloc A).cell? ⟨0, 0, none⟩ = some (.int .i64 m) := by rw [World.cell?_alloc_past _ _ _ (by simp), World.cell?_alloc_past _ _ _ hw0]; exact hm
  have B1 : BlockIs ((w.alloc A).alloc A) (w.heap.size + 1) 23 [.string ⟨#[]⟩, .string ⟨#[]⟩, .string ⟨#[]⟩] := by
    rw [← HA.out]
    have h := BlockIs.fresh (w.alloc (.cells #[.string ⟨#[]⟩, .string ⟨#[]⟩, .string ⟨#[]⟩] 23)) 23 [.string ⟨#[]⟩, .string ⟨#[]⟩, .string ⟨#[]⟩]
    simpa using h
  have hext2 : (s.extract 1 s.size).data.toList = s.data.toList.drop 1 := by rw [Lib.extract_data, List.take_of_length_le (by simp)]
  have hp := splitP_pos (s.extract 1 s.size) (s.extract 0 1)
  have hl := splitP_le (s.extract 1 s.size) (s.extract 0 1)
  generalize hLL : splitP (s.extract 1 s.size) (s.extract 0 1) = L at hp hl
  have HL := Lib.hid hLL
  clear hLL
  have hN : min 4 ((s.extract 1 s.size).size + 1) ≤ 4 := Nat.min_le_left _ _
  generalize hNN : min 4 ((s.extract 1 s.size).size + 1) = N at hN hl
  have HN := Lib.hid hNN
  clear hNN
  have c := fun W h => splitN4 (s.extract 1 s.size) (s.extract 0 1) m W (by omega) h (by omega)
  rw [HL.out, HN.out] at c
  have C := Lib.hid c
  clear c
  have cb : BlockIs (((w.alloc A).alloc A).alloc (.cells (Lib.cellsOf L N) 9)) (w.heap.size + 1) 23 [.string ⟨#[]⟩, .string ⟨#[]⟩, .string ⟨#[]⟩] := B1.past _
  have CB := Lib.hid cb
  have hsrc : ∀ (j : Nat) v, ((L.take 3).map Value.string)[j]? = some v → (((w.alloc A).alloc A).alloc (.cells (Lib.cellsOf L N) 9)).cell? (Addr.add ⟨w.heap.size + 1 + 1, 0, none⟩ j) = some v := by
    intro j v hj
    rw [Addr.add_lit, Nat.zero_add]
    have e := heap_alloc_new ((w.alloc A).alloc A) (.cells (Lib.cellsOf L N) 9)
    simp only [World.size_alloc] at e
    rw [cell_of_row _ _ j _ 9 (0, 0) e]
    unfold Lib.cellsOf
    rw [List.getElem?_toArray, List.getElem?_append_left]
    · rw [List.map_take] at hj
      rw [List.getElem?_take] at hj
      split at hj
      · exact hj
      · cases hj
    · have := (List.getElem?_eq_some_iff.1 hj).1
      simp at this ⊢; omega
  have HS := Lib.hid hsrc
  have hb3 : Below (w.heap.size + 1) ((w.alloc A).alloc A) (((w.alloc A).alloc A).alloc (.cells (Lib.cellsOf L N) 9)) := (Below.refl _ _).alloc (by simp) _
  have b0 : BlockIs ((w.alloc A).alloc A) w.heap.size 23 [.string ⟨#[]⟩, .string ⟨#[]⟩, .string ⟨#[]⟩] := by rw [← HA.out]; exact (BlockIs.fresh w 23 [.string ⟨#[]⟩, .string ⟨#[]⟩, .string ⟨#[]⟩]).past _
  have B0 := Lib.hid b0
  clear hsrc cb B1 b0
  have hsp := splice3s L
  obtain ⟨x0, hx0⟩ : ∃ x, L.getD 0 ⟨#[]⟩ = x := ⟨_, rfl⟩
  obtain ⟨x1, hx1⟩ : ∃ x, L.getD 1 ⟨#[]⟩ = x := ⟨_, rfl⟩
  obtain ⟨x2, hx2⟩ : ∃ x, L.getD 2 ⟨#[]⟩ = x := ⟨_, rfl⟩
  rw [hx0, hx1, hx2] at hsp
  have HSP := Lib.hid hsp
  have HX := Lib.hid (And.intro hx0 (And.intro hx1 hx2))
  clear hsp hx0 hx1 hx2
  go_region_law (first | ((refine step_copy_splice rfl (.tmp 12) (.tmp 17) 41 41 rfl 9 Tryd.underlying41 Tryd.size9 (some ⟨w.heap.size + 1, 0, none⟩) (some ⟨w.heap.size + 1 + 1, 0, none⟩) 3 3 L.length N rfl rfl (w.heap.size + 1) 0 [.string ⟨#[]⟩, .string ⟨#[]⟩, .string ⟨#[]⟩] 23 (by exact CB.out) ((L.take 3).map Value.string) (by simp [Nat.min_comm]) (fun _ => ⟨rfl, _, rfl, HS.out⟩) (by simp; omega) (by intro v hv; obtain ⟨q, _, rfl⟩ := List.mem_map.1 hv; rfl) (w.heap.size + 1) ((w.alloc A).alloc A) hb3.drew (Nat.le_refl _) ?_; intro w4 hg4 hb4)) | (go_simp; go_at_call 21; refine (C.out _ (by exact hm3)).mono ?_; rintro e w' ⟨rfl, rfl⟩))
  all_goals
    have b4 : BlockIs w4 (w.heap.size + 1) 23 _ := hg4.out
    rw [HSP.out] at b4
    have q0 := b4.cellAt 0 _ rfl
    have q1 := b4.cellAt 1 _ rfl
    have q2 := b4.cellAt 2 _ rfl
    have b5 := B0.out.under hb4 (by omega)
    have m0 := b5.cellAt 0 _ rfl
    have m1 := b5.cellAt 1 _ rfl
    have m2 := b5.cellAt 2 _ rfl
    have fz : ∀ j, w4.frozen? ⟨w.heap.size, j, none⟩ = false := fun j => b5.free j
    have B5 := Lib.hid b5
    have hB : Below w.heap.size w w4 := (by go_grown : Below w.heap.size w ((w.alloc A).alloc A)).trans (hb4.mono (by omega))
    clear hg4 hb4 b4 b5
    go_wp2
    refine bodyPost_ret (v := .tuple #[.agg #[.string x0, .string x1, .string x2], .int .i64 0]) ?_ rfl ⟨?_, by go_grown⟩
    · have B := ((B5.out.stored 0 (.string x0)).stored 1 (.string x1)).stored 2 (.string x2)
      have r0 := B.cellAt 0 _ rfl
      have r1 := B.cellAt 1 _ rfl
      have r2 := B.cellAt 2 _ rfl
      simp [results, Tryd.results10, go_sem, r0, r1, r2]
    · rw [← HX.out.1, ← HX.out.2.1, ← HX.out.2.2, p3_split s h0 L HL.out]

set_option maxRecDepth 100000 in
set_option maxHeartbeats 1000000 in
theorem parts_no (s : ByteArray) (w : World) (hs : s.size ≤ 100000) (ht : textB s.data.toList = false) :
    Calls Tryd.prog 10 #[.string s] w (fun e w' => e = .returned (.tuple #[p3 [], .int .i64 1]) ∧ Below w.heap.size w w') := by
  go_enter Tryd.func10, Tryd.ntmps10
  go_wp2_with (go_at_call 20; refine (fits_any _ _ hs).mono ?_; rintro e w' ⟨rfl, rfl⟩)
  go_returns
  exact ⟨rfl, by go_grown⟩
set_option maxRecDepth 100000 in
set_option maxHeartbeats 1000000 in
theorem parts_empty (s : ByteArray) (w : World) (hs : s.size = 0) (ht : textB s.data.toList = true) :
    Calls Tryd.prog 10 #[.string s] w (fun e w' => e = .returned (.tuple #[p3 [], .int .i64 4]) ∧ Below w.heap.size w w') := by
  have hne := isEmpty_zero s hs
  have HS := Lib.hid hs
  clear hs
  go_enter Tryd.func10, Tryd.ntmps10
  go_wp2_with (go_at_call 20; refine (fits_any _ _ (by have := HS.out; omega)).mono ?_; rintro e w' ⟨rfl, rfl⟩)
  go_returns
  exact ⟨rfl, by go_grown⟩
theorem parts_any (s : ByteArray) (m : Int) (w : World) (hm : w.cell? ⟨0, 0, none⟩ = some (.int .i64 m)) (hs : s.size ≤ 100000) :
    Calls Tryd.prog 10 #[.string s] w (fun e w' => e = .returned (.tuple #[(partsV s.data.toList).1, .int .i64 (partsV s.data.toList).2]) ∧ Below w.heap.size w w') := by
  cases ht : textB s.data.toList with
  | false =>
    refine (parts_no s w hs ht).mono fun e w' h => ?_
    unfold partsV; rw [if_pos ht]; exact h
  | true =>
    by_cases h0 : 0 < s.size
    · refine (parts_ok s m w hm (textB_size ht) h0 ht).mono fun e w' h => ?_
      have e1 : s.data.toList = s[0] :: s.data.toList.drop 1 := by
        have := List.drop_eq_getElem_cons (l := s.data.toList) (i := 0) (by simpa using h0)
        show s.data.toList = s.data[0] :: s.data.toList.drop 1
        simpa using this
      unfold partsV; rw [if_neg (by simp [ht])]
      rw [e1]
      exact h
    · refine (parts_empty s w (by omega) ht).mono fun e w' h => ?_
      have h1 : s.data.toList.length = s.size := by simp
      have e1 : s.data.toList = [] := List.eq_nil_of_length_eq_zero (by omega)
      unfold partsV; rw [if_neg (by simp [ht])]
      rw [e1]
      exact h

theorem sane_parts : partsV [39, 97, 39, 37, 39, 98, 39] = (.agg #[.string ⟨#[97]⟩, .string ⟨#[37]⟩, .string ⟨#[98]⟩], 0) := by
  rfl
set_option maxRecDepth 100000 in
set_option maxHeartbeats 1000000 in
theorem sane_any (m : Int) (w : World) (hm : w.cell? ⟨0, 0, none⟩ = some (.int .i64 m)) :
    Calls Tryd.prog 9 #[] w (fun e w' => e = .returned (.bool true) ∧ Below w.heap.size w w') := by
  have c := parts_any ⟨#[39, 97, 39, 37, 39, 98, 39]⟩ m w hm (by decide)
  rw [show (ByteArray.mk #[39, 97, 39, 37, 39, 98, 39]).data.toList = [39, 97, 39, 37, 39, 98, 39] from rfl, sane_parts] at c
  have C := Lib.hid c
  clear c
  have he := run_eq3s
  go_enter Tryd.func9, Tryd.ntmps9
  go_wp2_with (go_at_call 10; refine C.out.mono ?_; rintro e w1 ⟨rfl, hb⟩)
  have hsz := hb.size
  go_ret
  exact ⟨rfl, by go_grown⟩
end Go.Proofs.YtlniofkgjibpjaaDoor
