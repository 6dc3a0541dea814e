/-
  register.format, held, Write: what they compute.
-/
import Derived.Test.YtajbpjojockgoaaGreatDoorText
import Derived.Shelf.Strings.SlTrimAscii
namespace Go.Proofs.YtajbpjojockgoaaGreatDoor
open Go.RowKit

def digs : List UInt8 := [48, 49, 50, 51, 52, 53, 54, 55, 56, 57]
theorem digs_has (b : UInt8) : digs.contains b = decide (48 ≤ b.toNat ∧ b.toNat ≤ 57) := by
  revert b
  have h : ∀ n < 256, digs.contains (UInt8.ofNat n) = decide (48 ≤ n ∧ n ≤ 57) := by decide +kernel
  intro b
  have := h b.toNat b.toNat_lt
  rwa [UInt8.ofNat_toNat] at this
theorem dropWhile_nil {α : Type} (p : α → Bool) (l : List α) : (l.dropWhile p).isEmpty = l.all p := by
  induction l with
  | nil => rfl
  | cons a r ih =>
    rw [List.dropWhile_cons, List.all_cons]
    split
    · rename_i h; rw [ih, h]; rfl
    · rename_i h; simp [h]
theorem dropWhile_all_not {α : Type} (p : α → Bool) (l : List α) (h : (l.dropWhile p).all p = true) : l.all p = true := by
  induction l with
  | nil => rfl
  | cons a r ih =>
    rw [List.dropWhile_cons] at h
    split at h
    · rename_i hp; rw [List.all_cons, hp, ih h]; rfl
    · exact h
theorem trimS_nil (l cs : List UInt8) : (Lib.trimS l cs).isEmpty = l.all (cs.contains ·) := by
  unfold Lib.trimS Lib.trimLeftS
  rw [dropWhile_nil]
  unfold Lib.trimRightS
  rw [List.all_reverse]
  cases h : (List.dropWhile (fun x => cs.contains x) l.reverse).all (fun x => cs.contains x) with
  | true =>
    have := dropWhile_all_not _ _ h
    rw [List.all_reverse] at this
    exact this.symm
  | false =>
    cases h2 : l.all (fun x => cs.contains x) with
    | false => rfl
    | true =>
      have h3 : (List.dropWhile (fun x => cs.contains x) l.reverse).isEmpty = true := by rw [dropWhile_nil, List.all_reverse]; exact h2
      rw [List.isEmpty_iff.1 h3] at h
      exact absurd h (by simp)
theorem trim_any (f : List UInt8) (w : World) (hf : f.length ≤ 1000) :
    Calls Tryz.prog 48 #[.string (bar f), .string ⟨#[48, 49, 50, 51, 52, 53, 54, 55, 56, 57]⟩] w fun e w' => e = .returned (.string (bar (Lib.trimS f digs))) ∧ Below w.heap.size w w' :=
  Any.strings_Trim_laid Tryz.lays160 (by kernel_rfl) (bar f) ⟨#[48, 49, 50, 51, 52, 53, 54, 55, 56, 57]⟩ w (by rw [bar_size]; omega) (by decide) (ascii_of_all (by decide))

set_option maxRecDepth 100000 in
set_option maxHeartbeats 2000000 in
theorem format_four (s : ByteArray) (w : World) (h : s.toList = [105] ∨ s.toList = [73] ∨ s.toList = [97] ∨ s.toList = [65]) :
    Calls Tryz.prog 31 #[.string s] w fun e w' => e = .returned (.bool true) ∧ Below w.heap.size w w' := by
  rcases h with h | h | h | h
  all_goals
    go_enter Tryz.func31, Tryz.ntmps31
    go_wp2
    go_ret
    exact ⟨rfl, by go_grown⟩
set_option maxRecDepth 100000 in
set_option maxHeartbeats 2000000 in
theorem format_long (s : ByteArray) (w : World) (k1 : (s.toList == [105]) = false) (k2 : (s.toList == [73]) = false) (k3 : (s.toList == [97]) = false) (k4 : (s.toList == [65]) = false) (h : s.size < 1 ∨ (1 ≤ s.size ∧ 9 < s.size)) :
    Calls Tryz.prog 31 #[.string s] w fun e w' => e = .returned (.bool false) ∧ Below w.heap.size w w' := by
  rcases h with h | ⟨h, h'⟩
  all_goals
    go_enter Tryz.func31, Tryz.ntmps31
    go_wp2
    go_ret
    exact ⟨rfl, by go_grown⟩
set_option maxRecDepth 100000 in
set_option maxHeartbeats 2000000 in
theorem format_trim (s r : ByteArray) (v : Bool) (w : World) (k1 : (s.toList == [105]) = false) (k2 : (s.toList == [73]) = false) (k3 : (s.toList == [97]) = false) (k4 : (s.toList == [65]) = false) (h : 1 ≤ s.size) (h' : s.size ≤ 9)
    (hr : (r.toList == []) = v)
    (hT : Calls Tryz.prog 48 #[.string s, .string ⟨#[48, 49, 50, 51, 52, 53, 54, 55, 56, 57]⟩] w fun e w' => e = .returned (.string r) ∧ Below w.heap.size w w') :
    Calls Tryz.prog 31 #[.string s] w fun e w' => e = .returned (.bool v) ∧ Below w.heap.size w w' := by
  cases v
  all_goals
    go_enter Tryz.func31, Tryz.ntmps31
    go_wp2_with (go_at_call 48; refine hT.mono ?_; rintro e w1 ⟨rfl, hb⟩)
    go_ret
    exact ⟨rfl, hb⟩
theorem format_any (f : List UInt8) (w : World) (hf : f.length ≤ 1000000000) :
    Calls Tryz.prog 31 #[.string (bar f)] w fun e w' => e = .returned (.bool (formOK f)) ∧ Below w.heap.size w w' := by
  by_cases h4 : f = [105] ∨ f = [73] ∨ f = [97] ∨ f = [65]
  · rw [show formOK f = true from by unfold formOK; rcases h4 with rfl | rfl | rfl | rfl <;> simp]
    refine format_four _ w ?_
    rw [toList_bar]; exact h4
  · simp only [not_or] at h4
    obtain ⟨k1, k2, k3, k4⟩ := h4
    have e : ∀ l : List UInt8, f ≠ l → ((bar f).toList == l) = false := fun l h => by rw [toList_bar]; simpa using h
    by_cases hl : 1 ≤ f.length ∧ f.length ≤ 9
    · refine format_trim (bar f) (bar (Lib.trimS f digs)) _ w (e _ k1) (e _ k2) (e _ k3) (e _ k4) (by rw [bar_size]; omega) (by rw [bar_size]; omega) ?_ (trim_any f w (by omega))
      rw [toList_bar]
      have h := trimS_nil f digs
      have h2 : (Lib.trimS f digs == []) = (Lib.trimS f digs).isEmpty := by cases Lib.trimS f digs <;> rfl
      rw [h2, h]
      unfold formOK
      have h3 : f.all (fun b => digs.contains b) = f.all (fun b => decide (48 ≤ b.toNat ∧ b.toNat ≤ 57)) := by congr 1; funext b; exact digs_has b
      rw [h3]
      simp only [k1, k2, k3, k4, hl.1, hl.2, false_or, true_and]
      rw [Bool.eq_iff_iff]
      simp
    · rw [show formOK f = false from by
        unfold formOK
        simp only [k1, k2, k3, k4, false_or]
        simp only [decide_eq_false_iff_not]
        exact fun h => hl ⟨h.1, h.2.1⟩]
      exact format_long (bar f) w (e _ k1) (e _ k2) (e _ k3) (e _ k4) (by rw [bar_size]; omega)

def fitsB (n : Int) : Bool := decide (-1000000000 ≤ n ∧ n ≤ 1000000000)
set_option maxRecDepth 100000 in
theorem held_any (n : Int) (w : World) :
    Calls Tryz.prog 26 #[.int .i64 n] w fun e w' => e = .returned (.bool (fitsB n)) ∧ w = w' := by
  unfold fitsB
  by_cases h1 : -1000000000 ≤ n
  · by_cases h2 : n ≤ 1000000000
    · rw [show decide (-1000000000 ≤ n ∧ n ≤ 1000000000) = true from by simp [h1, h2]]
      go_enter Tryz.func26, Tryz.ntmps26
      go_wp2
      go_ret
      exact ⟨rfl, rfl⟩
    · rw [show decide (-1000000000 ≤ n ∧ n ≤ 1000000000) = false from by simp [h2]]
      go_enter Tryz.func26, Tryz.ntmps26
      go_wp2
      go_ret
      exact ⟨rfl, rfl⟩
  · rw [show decide (-1000000000 ≤ n ∧ n ≤ 1000000000) = false from by simp [h1]]
    go_enter Tryz.func26, Tryz.ntmps26
    go_wp2
    go_ret
    exact ⟨rfl, rfl⟩
/-- What Write gives: text and error. -/
def wrOut (n : Int) (f : List UInt8) : List UInt8 × Int := if formOK f then (if fitsB n then (textL n f, 0) else ([], 5)) else ([], 4)
theorem formOK_len {f : List UInt8} (h : formOK f = true) : f.length ≤ 9 := by
  unfold formOK at h
  have h := of_decide_eq_true h
  rcases h with rfl | rfl | rfl | rfl | ⟨_, h, _⟩
  all_goals first | exact h | decide
set_option maxRecDepth 100000 in
set_option maxHeartbeats 2000000 in
theorem write_any (n : Int) (f : List UInt8) (w : World) (hf : f.length ≤ 1000000000) (ht : Tabs w) :
    Calls Tryz.prog 36 #[.int .i64 n, .string (bar f)] w fun e w' => e = .returned (.tuple #[.string (bar (wrOut n f).1), .int .i64 (wrOut n f).2]) ∧ Below w.heap.size w w' := by
  have hF := format_any f w hf
  cases hfo : formOK f with
  | false =>
    rw [hfo] at hF
    rw [show wrOut n f = ([], 4) from by unfold wrOut; rw [hfo]; rfl]
    clear hfo
    go_enter Tryz.func36, Tryz.ntmps36
    go_wp2_with fail
    refine hF.mono ?_; rintro e w1 ⟨rfl, hb⟩
    go_wp2_with fail
    go_ret2
    exact ⟨rfl, hb⟩
  | true =>
    rw [hfo] at hF
    have hH := held_any n
    cases hfi : fitsB n with
    | false =>
      rw [hfi] at hH
      rw [show wrOut n f = ([], 5) from by unfold wrOut; rw [hfo, hfi]; rfl]
      clear hfo hfi
      go_enter Tryz.func36, Tryz.ntmps36
      go_wp2_with fail
      refine hF.mono ?_; rintro e w1 ⟨rfl, hb⟩
      go_wp2_with fail
      refine (hH _).mono ?_; rintro e w2 ⟨rfl, rfl⟩
      go_wp2_with fail
      go_ret2
      exact ⟨rfl, hb⟩
    | true =>
      rw [hfi] at hH
      rw [show wrOut n f = (textL n f, 0) from by unfold wrOut; rw [hfo, hfi]; rfl]
      have hl := formOK_len hfo
      have h := of_decide_eq_true hfi
      have hT : ∀ w', Below w.heap.size w w' → Calls Tryz.prog 45 #[.int .i64 n, .string (bar f)] w' fun e w'' => e = .returned (.string (bar (textL n f))) ∧ Below w'.heap.size w' w'' :=
        fun w' hb => text_any n w' h.1 h.2 (ht.under hb) f hl
      clear hfo hfi
      go_enter Tryz.func36, Tryz.ntmps36
      go_wp2_with fail
      refine hF.mono ?_; rintro e w1 ⟨rfl, hb⟩
      go_wp2_with fail
      refine (hH _).mono ?_; rintro e w2 ⟨rfl, rfl⟩
      go_wp2_with fail
      refine (hT _ hb).mono ?_; rintro e w3 ⟨rfl, hb3⟩
      go_wp2_with fail
      go_ret2
      exact ⟨rfl, belowThen hb hb3⟩
end Go.Proofs.YtajbpjojockgoaaGreatDoor
