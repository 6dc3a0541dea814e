/-
  The reference's Parts returns the first three pieces between the title's first byte, or refuses; titles of at most 100000 bytes.
-/
import Derived.Test.YtlniofkgjibpjaaDoorCut
namespace Go.Proofs.YtlniofkgjibpjaaDoor
open Go.RowKit

/-- A text that can be a line. -/
def textB (l : List UInt8) : Bool := decide (l.length ≤ 2000) && !l.contains 10
theorem contains_take_succ (l : List UInt8) (k : Nat) (h : k < l.length) (h0 : (l.take k).contains 10 = false) (h1 : l[k] ≠ 10) : (l.take (k + 1)).contains 10 = false := by
  rw [List.take_succ_eq_append_getElem h, List.contains_eq_mem]
  rw [List.contains_eq_mem] at h0
  simp only [decide_eq_false_iff_not, List.mem_append, List.mem_singleton, not_or] at *
  exact ⟨h0, fun e => h1 e.symm⟩
theorem contains_at (l : List UInt8) (k : Nat) (h : k < l.length) (h1 : l[k] = 10) : l.contains 10 = true := by
  simp; rw [← h1]; exact List.getElem_mem h

set_option maxRecDepth 100000 in
set_option maxHeartbeats 1000000 in
theorem isText_any (s : ByteArray) (w : World) (hs : s.size ≤ 100000) :
    Calls Tryd.prog 22 #[.string s] w (fun e w' => e = .returned (.bool (textB s.data.toList)) ∧ w = w') := by
  go_enter Tryd.func22, Tryd.ntmps22
  go_wp2
  go_loop [3] (fun k => ∃ n : Nat, k = .int .i64 n ∧ n ≤ s.size ∧ (s.data.toList.take n).contains 10 = false) (fun k => s.size - (intOf k).toNat)
  case atStart => exact ⟨0, rfl, Nat.zero_le _, by simp⟩
  case round =>
    obtain ⟨n, rfl, hn, hno⟩ := hrel
    have HN := Lib.hid hno
    clear hno
    by_cases hlt : n < s.size
    · by_cases hc : s[n] = 10
      · have ht : ((s[n].toNat : Int) == 10) = true := by rw [hc]; rfl
        have hf : textB s.data.toList = false := by
          unfold textB; rw [contains_at s.data.toList n (by simpa using hlt) hc]; simp
        have HF := Lib.hid hf
        clear hf hc
        go_wp2
        go_ret
        exact ⟨by rw [HF.out]; rfl, rfl⟩
      · have ht : ((s[n].toNat : Int) == 10) = false := by
          rw [beq_eq_false_iff_ne]; intro e; exact hc (UInt8.toNat_inj.1 (by simpa using Int.ofNat.inj e))
        have HC := Lib.hid hc
        clear hc
        go_wp2
        go_round
        case rel => exact ⟨n + 1, by go_num, by omega, contains_take_succ _ _ (by simpa using hlt) HN.out HC.out⟩
        case measure => simp [intOf]; omega
    · have hf : textB s.data.toList = decide (s.size ≤ 2000) := by
        have e := HN.out
        rw [List.take_of_length_le (by simp; omega)] at e
        unfold textB; rw [e]; simp
      have HF := Lib.hid hf
      clear hf
      go_wp2
      go_ret
      exact ⟨by rw [HF.out]; simp; omega, rfl⟩

set_option maxRecDepth 100000 in
set_option maxHeartbeats 1000000 in
theorem fits_any (s : ByteArray) (w : World) (hs : s.size ≤ 100000) :
    Calls Tryd.prog 20 #[.string s] w (fun e w' => e = .returned (.bool (textB s.data.toList)) ∧ w = w') := by
  have hf : textB s.data.toList = (decide (s.size ≤ 2000) && !decide (0 ≤ Lib.indexByte s.data.toList 10)) := by
    unfold textB; rw [Lib.contains_iff_indexByte]; simp
  have HF := Lib.hid hf
  clear hf
  by_cases hl : s.size ≤ 2000
  · go_enter Tryd.func20, Tryd.ntmps20
    go_wp2_with (go_at_call 26; refine (Tryd.strings_Contains_one s 10 _).mono ?_; rintro e w' ⟨rfl, rfl⟩)
    go_ret
    exact ⟨by rw [HF.out]; simp [hl], rfl⟩
  · go_enter Tryd.func20, Tryd.ntmps20
    go_wp2
    go_ret
    exact ⟨by rw [HF.out]; simp [hl], rfl⟩

def p3 (L : List (List UInt8)) : Value := .agg #[strV (L.getD 0 []), strV (L.getD 1 []), strV (L.getD 2 [])]
theorem p3_take (L : List (List UInt8)) : p3 (L.take 3) = p3 L := by
  rcases L with _ | ⟨a, _ | ⟨b, _ | ⟨c, L⟩⟩⟩ <;> rfl
/-- What Parts answers: the first three pieces, and the error's number. -/
def partsV (l : List UInt8) : Value × Int :=
  if textB l = false then (p3 [], 1) else
  match l with
  | [] => (p3 [], 4)
  | c :: l => (p3 (cutL c l), 0)


set_option maxRecDepth 100000 in
set_option maxHeartbeats 1000000 in
theorem refParts_ok (s : ByteArray) (w : World) (hs : s.size ≤ 2000) (h0 : 0 < s.size) (ht : textB s.data.toList = true) :
    Calls Tryd.prog 11 #[.string s] w (fun e w' => e = .returned (.tuple #[p3 (cutL s[0] (s.data.toList.drop 1)), .int .i64 0]) ∧ Below w.heap.size w w') := by
  have hne := isEmpty_pos s h0
  go_enter Tryd.func11, Tryd.ntmps11
  go_wp2_with (go_at_call 22; refine (isText_any _ _ (by omega)).mono ?_; rintro e w' ⟨rfl, rfl⟩)
  go_region_with (go_at_call 23; refine (cut_any (s.extract 1 s.size) s[0] _ (by simp; omega)).mono ?_; rintro e w1 ⟨v, rfl, hown, hbel⟩)
  all_goals
    go_wp2_with fail
    have hL : (s.extract 1 s.size).data.toList = s.data.toList.drop 1 := by rw [Lib.extract_data, List.take_of_length_le (by simp)]
    rw [hL] at hown
    clear hL
    simp only [World.size_drew, World.size_alloc] at hown hbel
    have hpos : 0 < (cutL s[0] (s.data.toList.drop 1)).length := List.length_pos_iff.2 (cutL_ne _ _)
    generalize hLL : cutL s[0] (s.data.toList.drop 1) = L at hown hpos
    have HL := Lib.hid hLL
    clear hLL
    obtain ⟨g, cap, rfl, hg, hcell⟩ := own_cells hown hpos
    have b1 := ((BlockIs.fresh (w.alloc (.cells #[.string ⟨#[]⟩, .string ⟨#[]⟩, .string ⟨#[]⟩] 23)) 23 [.string ⟨#[]⟩, .string ⟨#[]⟩, .string ⟨#[]⟩]).drawn).under hbel (by simp)
    simp only [World.size_alloc] at b1
    have b0 : BlockIs w1 w.heap.size 23 [.string ⟨#[]⟩, .string ⟨#[]⟩, .string ⟨#[]⟩] := (((BlockIs.fresh w _ _).past _).drawn).under hbel (by omega)
    have q0 := b1.cellAt 0 _ rfl
    have q1 := b1.cellAt 1 _ rfl
    have q2 := b1.cellAt 2 _ rfl
    have m0 := b0.cellAt 0 _ rfl
    have m1 := b0.cellAt 1 _ rfl
    have m2 := b0.cellAt 2 _ rfl
    have f0 : ∀ j, w1.frozen? ⟨w.heap.size + 1, j, none⟩ = false := fun j => b1.free j
    have f1 : ∀ j, w1.frozen? ⟨w.heap.size, j, none⟩ = false := fun j => b0.free j
    have hB : Below w.heap.size w w1 := (by go_grown : Below w.heap.size w _).trans (hbel.mono (by omega))
    have hg' : w.heap.size + 1 < g := by omega
    have hsz := hbel.size
    simp only [World.size_drew, World.size_alloc] at hsz
    have B0 := Lib.hid b0
    clear hbel hown b0 b1 hg
    match L, hpos with
    | [x], _ =>
      have k0 : w1.cell? ⟨g, 0, none⟩ = some (.string ⟨x.toArray⟩) := hcell 0 _ rfl
      clear hcell
      go_rounds 4
      go_wp2
      refine bodyPost_ret (v := .tuple #[.agg #[(.string ⟨x.toArray⟩), (.string ⟨#[]⟩), (.string ⟨#[]⟩)], .int .i64 0]) ?_ rfl ⟨by rw [HL.out]; rfl, by go_grown⟩
      have B := ((((B0.out.apart (p := ⟨w.heap.size + 1, 0, none⟩) (by simp) (.string ⟨x.toArray⟩)).stored 0 (.string ⟨x.toArray⟩)).stored 1 (.string ⟨#[]⟩)).stored 2 (.string ⟨#[]⟩))
      have r0 := B.cellAt 0 _ rfl
      have r1 := B.cellAt 1 _ rfl
      have r2 := B.cellAt 2 _ rfl
      simp [results, Tryd.results11, go_sem, r0, r1, r2]
    | [x, y], _ =>
      have k0 : w1.cell? ⟨g, 0, none⟩ = some (.string ⟨x.toArray⟩) := hcell 0 _ rfl
      have k1 : w1.cell? ⟨g, 1, none⟩ = some (.string ⟨y.toArray⟩) := hcell 1 _ rfl
      clear hcell
      go_rounds 4
      go_wp2
      refine bodyPost_ret (v := .tuple #[.agg #[(.string ⟨x.toArray⟩), (.string ⟨y.toArray⟩), (.string ⟨#[]⟩)], .int .i64 0]) ?_ rfl ⟨by rw [HL.out]; rfl, by go_grown⟩
      have B := (((((B0.out.apart (p := ⟨w.heap.size + 1, 0, none⟩) (by simp) (.string ⟨x.toArray⟩)).apart (p := ⟨w.heap.size + 1, 1, none⟩) (by simp) (.string ⟨y.toArray⟩)).stored 0 (.string ⟨x.toArray⟩)).stored 1 (.string ⟨y.toArray⟩)).stored 2 (.string ⟨#[]⟩))
      have r0 := B.cellAt 0 _ rfl
      have r1 := B.cellAt 1 _ rfl
      have r2 := B.cellAt 2 _ rfl
      simp [results, Tryd.results11, go_sem, r0, r1, r2]
    | x :: y :: z :: L, _ =>
      have k0 : w1.cell? ⟨g, 0, none⟩ = some (.string ⟨x.toArray⟩) := hcell 0 _ rfl
      have k1 : w1.cell? ⟨g, 1, none⟩ = some (.string ⟨y.toArray⟩) := hcell 1 _ rfl
      have k2 : w1.cell? ⟨g, 2, none⟩ = some (.string ⟨z.toArray⟩) := hcell 2 _ rfl
      clear hcell
      go_rounds 4
      go_wp2
      refine bodyPost_ret (v := .tuple #[.agg #[(.string ⟨x.toArray⟩), (.string ⟨y.toArray⟩), (.string ⟨z.toArray⟩)], .int .i64 0]) ?_ rfl ⟨by rw [HL.out]; rfl, by go_grown⟩
      have B := ((((((B0.out.apart (p := ⟨w.heap.size + 1, 0, none⟩) (by simp) (.string ⟨x.toArray⟩)).apart (p := ⟨w.heap.size + 1, 1, none⟩) (by simp) (.string ⟨y.toArray⟩)).apart (p := ⟨w.heap.size + 1, 2, none⟩) (by simp) (.string ⟨z.toArray⟩)).stored 0 (.string ⟨x.toArray⟩)).stored 1 (.string ⟨y.toArray⟩)).stored 2 (.string ⟨z.toArray⟩))
      have r0 := B.cellAt 0 _ rfl
      have r1 := B.cellAt 1 _ rfl
      have r2 := B.cellAt 2 _ rfl
      simp [results, Tryd.results11, go_sem, r0, r1, r2]

set_option maxRecDepth 100000 in
set_option maxHeartbeats 1000000 in
theorem refParts_no (s : ByteArray) (w : World) (hs : s.size ≤ 100000) (ht : textB s.data.toList = false) :
    Calls Tryd.prog 11 #[.string s] w (fun e w' => e = .returned (.tuple #[p3 [], .int .i64 1]) ∧ Below w.heap.size w w') := by
  go_enter Tryd.func11, Tryd.ntmps11
  go_wp2_with (go_at_call 22; refine (isText_any _ _ hs).mono ?_; rintro e w' ⟨rfl, rfl⟩)
  go_returns
  exact ⟨rfl, by go_grown⟩
set_option maxRecDepth 100000 in
set_option maxHeartbeats 1000000 in
theorem refParts_empty (s : ByteArray) (w : World) (hs : s.size = 0) (ht : textB s.data.toList = true) :
    Calls Tryd.prog 11 #[.string s] w (fun e w' => e = .returned (.tuple #[p3 [], .int .i64 4]) ∧ Below w.heap.size w w') := by
  have hne := isEmpty_zero s hs
  have HS := Lib.hid hs
  clear hs
  go_enter Tryd.func11, Tryd.ntmps11
  go_wp2_with (go_at_call 22; refine (isText_any _ _ (by have := HS.out; omega)).mono ?_; rintro e w' ⟨rfl, rfl⟩)
  go_returns
  exact ⟨rfl, by go_grown⟩

theorem textB_size {s : ByteArray} (h : textB s.data.toList = true) : s.size ≤ 2000 := by
  unfold textB at h
  simp at h
  exact h.1
theorem refParts_any (s : ByteArray) (w : World) (hs : s.size ≤ 100000) :
    Calls Tryd.prog 11 #[.string s] w (fun e w' => e = .returned (.tuple #[(partsV s.data.toList).1, .int .i64 (partsV s.data.toList).2]) ∧ Below w.heap.size w w') := by
  cases ht : textB s.data.toList with
  | false =>
    refine (refParts_no s w hs ht).mono fun e w' h => ?_
    unfold partsV; rw [if_pos ht]; exact h
  | true =>
    by_cases h0 : 0 < s.size
    · refine (refParts_ok s w (textB_size ht) h0 ht).mono fun e w' h => ?_
      have e1 : s.data.toList = s[0] :: s.data.toList.drop 1 := by
        have := List.drop_eq_getElem_cons (l := s.data.toList) (i := 0) (by simpa using h0)
        show s.data.toList = s.data[0] :: s.data.toList.drop 1
        simpa using this
      unfold partsV; rw [if_neg (by simp [ht])]
      rw [e1]
      exact h
    · refine (refParts_empty s w (by omega) ht).mono fun e w' h => ?_
      have h1 : s.data.toList.length = s.size := by simp
      have e1 : s.data.toList = [] := List.eq_nil_of_length_eq_zero (by omega)
      unfold partsV; rw [if_neg (by simp [ht])]
      rw [e1]
      exact h
end Go.Proofs.YtlniofkgjibpjaaDoor
