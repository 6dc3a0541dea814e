/-
  frisketref02: fits, letters, IsForm, digit.
-/
import Derived.Test.YtajbpjojockgoaaDoorWriteForm
namespace Go.Proofs.YtajbpjojockgoaaDoor
open Go.RowKit

set_option maxRecDepth 100000 in
theorem fits_any (n : Int) (w : World) :
    Calls Tryd.prog 15 #[.int .i64 n] w fun e w' => e = .returned (.bool (fitsB n)) ∧ w = w' := by
  unfold fitsB
  by_cases h1 : -1000000000 ≤ n
  · by_cases h2 : n ≤ 1000000000
    · rw [show decide (-1000000000 ≤ n ∧ n ≤ 1000000000) = true from by simp [h1, h2]]
      go_enter Tryd.func15, Tryd.ntmps15
      go_wp2
      go_ret
      exact ⟨rfl, rfl⟩
    · rw [show decide (-1000000000 ≤ n ∧ n ≤ 1000000000) = false from by simp [h2]]
      go_enter Tryd.func15, Tryd.ntmps15
      go_wp2
      go_ret
      exact ⟨rfl, rfl⟩
  · rw [show decide (-1000000000 ≤ n ∧ n ≤ 1000000000) = false from by simp [h1]]
    go_enter Tryd.func15, Tryd.ntmps15
    go_wp2
    go_ret
    exact ⟨rfl, rfl⟩

theorem byteL (n : Nat) : (97 : UInt8) + UInt8.ofNat n = UInt8.ofNat (97 + n) := by simp
set_option maxRecDepth 100000 in
set_option maxHeartbeats 1000000 in
theorem refLetters_any (N : Nat) (w : World) (hN : N ≤ 1000000000) :
    Calls Tryd.prog 18 #[.int .i64 N] w fun e w' => e = .returned (.string (bar (letL N))) ∧ Below w.heap.size w w' := by
  have cv := one_byte
  go_enter Tryd.func18, Tryd.ntmps18
  go_wp2
  go_loopw [0, 3] (fun v t wr => ∃ (n : Nat) (s : List UInt8), v = .int .i64 n ∧ t = .string (bar s) ∧ LetInv N n s ∧ Below w.heap.size w wr) (fun v _ _ => (intOf v).toNat)
  case atStart => exact ⟨N, [], rfl, rfl, ⟨by simp, by simp, Nat.le_refl _⟩, by go_grown⟩
  case round =>
    obtain ⟨n, s, rfl, rfl, hinv, hbel⟩ := hrel
    have hle := hinv.2.2
    have hsl : (bar s).size ≤ 60 := by rw [bar_size]; exact hinv.2.1
    have HI := Lib.hid hinv
    clear hinv
    have hz := hbel.size
    by_cases hlt : 0 < n
    · have h1 : (0 : Int) ≤ ((n : Int) - 1) % 26 ∧ ((n : Int) - 1) % 26 < 26 := by omega
      obtain ⟨h1, h2⟩ := h1
      go_wp2
      go_roundw
      case rel =>
        have h := HI.out
        refine ⟨(n - 1) / 26, UInt8.ofNat (97 + (n - 1) % 26) :: s, ?_, ?_, ⟨?_, ?_, by omega⟩, by go_grown⟩
        · congr 1; omega
        · rw [← byteL, ← byte_app]
        · rw [h.1, letL_pos n hlt]; simp
        · have h2 : (letL n ++ s).length ≤ 30 := by rw [← h.1]; exact letL_len 30 N (by omega)
          rw [letL_pos n hlt] at h2
          simp at h2 ⊢; omega
      case measure => simp [intOf]; omega
    · go_wp2
      go_ret
      have h := HI.out.1
      rw [show n = 0 by omega, letL_zero] at h
      exact ⟨by rw [h]; rfl, by go_grown⟩

def isDig (b : UInt8) : Bool := decide (48 ≤ b.toNat ∧ b.toNat ≤ 57)
theorem take_at (s : ByteArray) (j : Nat) (h : j < s.size) (p : UInt8 → Bool) (h1 : (s.data.toList.take j).all p = true) (h2 : p s[j] = true) : (s.data.toList.take (j + 1)).all p = true := by
  have hg : s.data.toList[j]? = some s[j] := by
    rw [List.getElem?_eq_getElem (by rw [← Lib.size_eq]; exact h)]
    rfl
  rw [List.take_add_one, hg, List.all_append, h1]
  simp [h2]
theorem not_at (s : ByteArray) (j : Nat) (h : j < s.size) (p : UInt8 → Bool) (h2 : p s[j] = false) : s.data.toList.all p = false := by
  cases ha : s.data.toList.all p with
  | false => rfl
  | true =>
    have := List.all_eq_true.1 ha s[j] (by
      have hm : s.data.toList[j]'(by rw [← Lib.size_eq]; exact h) ∈ s.data.toList := List.getElem_mem _
      exact hm)
    rw [h2] at this; exact absurd this (by decide)
set_option maxRecDepth 100000 in
set_option maxHeartbeats 2000000 in
theorem isForm_four (s : ByteArray) (w : World) (h : s.toList = [105] ∨ s.toList = [73] ∨ s.toList = [97] ∨ s.toList = [65]) :
    Calls Tryd.prog 14 #[.string s] w fun e w' => e = .returned (.bool true) ∧ Below w.heap.size w w' := by
  rcases h with h | h | h | h
  all_goals
    go_enter Tryd.func14, Tryd.ntmps14
    go_wp2
    go_ret
    exact ⟨rfl, by go_grown⟩
set_option maxRecDepth 100000 in
set_option maxHeartbeats 2000000 in
theorem isForm_rest (s : ByteArray) (w : World) (hs : s.size ≤ 1000000000) (k1 : (s.toList == [105]) = false) (k2 : (s.toList == [73]) = false) (k3 : (s.toList == [97]) = false) (k4 : (s.toList == [65]) = false) :
    Calls Tryd.prog 14 #[.string s] w fun e w' => e = .returned (.bool (decide (1 ≤ s.size ∧ s.size ≤ 9 ∧ s.data.toList.all isDig = true))) ∧ Below w.heap.size w w' := by
  obtain ⟨v, hv⟩ : ∃ v, v = decide (1 ≤ s.size ∧ s.size ≤ 9 ∧ s.data.toList.all isDig = true) := ⟨_, rfl⟩
  rw [← hv]
  have HV := Lib.hid hv
  clear hv
  go_enter Tryd.func14, Tryd.ntmps14
  go_wp2
  go_loopw [3] (fun i wr => ∃ j : Nat, i = .int .i64 j ∧ j ≤ s.size ∧ (s.data.toList.take j).all isDig = true ∧ wr = w) (fun i _ => s.size - (intOf i).toNat)
  case atStart => exact ⟨0, rfl, by omega, rfl, rfl⟩
  case round =>
    obtain ⟨j, rfl, hj, hall, rfl⟩ := hrel
    have HA := Lib.hid hall
    clear hall
    by_cases hlt : j < s.size
    · by_cases h1 : 48 ≤ s[j].toNat
      · by_cases h2 : s[j].toNat ≤ 57
        · have HD := Lib.hid (show isDig s[j] = true from decide_eq_true ⟨h1, h2⟩)
          go_wp2
          go_roundw
          case rel => exact ⟨j + 1, by go_num, by omega, take_at s j hlt isDig HA.out HD.out, trivial⟩
          case measure => simp [intOf]; omega
        · have HD := Lib.hid (show isDig s[j] = false from decide_eq_false (fun h => h2 h.2))
          go_wp2
          go_ret
          exact ⟨by rw [show v = false from by rw [HV.out, not_at s j hlt isDig HD.out]; simp]; rfl, by go_grown⟩
      · have HD := Lib.hid (show isDig s[j] = false from decide_eq_false (fun h => h1 h.1))
        go_wp2
        go_ret
        exact ⟨by rw [show v = false from by rw [HV.out, not_at s j hlt isDig HD.out]; simp]; rfl, by go_grown⟩
    · have ht : s.data.toList.all isDig = true := by
        have := HA.out
        rwa [List.take_of_length_le (by rw [← Lib.size_eq]; omega)] at this
      have HT := Lib.hid ht
      clear ht
      by_cases g1 : 1 ≤ s.size
      · by_cases g2 : s.size ≤ 9
        · go_wp2
          go_ret
          exact ⟨by rw [show v = true from by rw [HV.out, HT.out]; simp [g1, g2]]; simp; omega, by go_grown⟩
        · go_wp2
          go_ret
          exact ⟨by rw [show v = false from by rw [HV.out, HT.out]; simp [g2]]; simp; omega, by go_grown⟩
      · go_wp2
        go_ret
        exact ⟨by rw [show v = false from by rw [HV.out, HT.out]; simp [g1]]; rfl, by go_grown⟩
theorem isForm_any (f : List UInt8) (w : World) (hf : f.length ≤ 1000000000) :
    Calls Tryd.prog 14 #[.string (bar f)] w fun e w' => e = .returned (.bool (formOK f)) ∧ Below w.heap.size w w' := by
  by_cases h4 : f = [105] ∨ f = [73] ∨ f = [97] ∨ f = [65]
  · rw [show formOK f = true from by unfold formOK; rcases h4 with rfl | rfl | rfl | rfl <;> simp]
    refine isForm_four _ w ?_
    rw [toList_bar]; exact h4
  · simp only [not_or] at h4
    obtain ⟨k1, k2, k3, k4⟩ := h4
    have e : ∀ l : List UInt8, f ≠ l → ((bar f).toList == l) = false := fun l h => by rw [toList_bar]; simpa using h
    have h := isForm_rest (bar f) w (by rw [bar_size]; omega) (e _ k1) (e _ k2) (e _ k3) (e _ k4)
    rw [bar_size, bar_data] at h
    unfold formOK
    simp only [k1, k2, k3, k4, false_or]
    exact h
end Go.Proofs.YtajbpjojockgoaaDoor
