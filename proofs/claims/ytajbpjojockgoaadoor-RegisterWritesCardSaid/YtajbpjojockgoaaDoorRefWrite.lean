/-
  frisketref02.Write answers as register.Write.
-/
import Derived.Test.YtajbpjojockgoaaDoorRefWriteA
namespace Go.Proofs.YtajbpjojockgoaaDoor
open Go.RowKit

theorem dec_up (n : Nat) : Lib.toUpperA (Lib.decDigits n) = Lib.decDigits n := by
  unfold Lib.toUpperA
  have h : ∀ l : List UInt8, (∀ b ∈ l, 48 ≤ b.toNat ∧ b.toNat ≤ 57) → l.map Lib.upperB = l := by
    intro l hl
    induction l with
    | nil => rfl
    | cons a r ih => rw [List.map_cons, ih (fun b hb => hl b (List.mem_cons_of_mem _ hb)), upper_miss a (.inl (by have := hl a List.mem_cons_self; omega))]
  exact h _ (dec_ascii n)
theorem dec_zero : Lib.decDigits 0 = [48] := by decide +kernel
theorem refWrite_pos (N : Nat) (f : List UInt8) (w : World) (hN : N ≤ 1000000000) (hf : formOK f = true) :
    Calls Tryd.prog 8 #[.int .i64 N, .string (bar f)] w fun e w' => e = .returned (.tuple #[.string (bar (textP N f)), .int .i64 0]) ∧ Below w.heap.size w w' := by
  have hfl := formOK_len hf
  have hF : ∀ w, _ := fun w => isForm_any f w (by omega)
  rw [hf] at hF
  have hH : ∀ w, _ := fun w => fits_any (N : Int) w
  rw [show fitsB (N : Int) = true from decide_eq_true (by omega)] at hH
  have hD : ∀ w, _ := fun w => digits_any N w (by omega)
  have hL : ∀ w, _ := fun w => refLetters_any N w hN
  have hZ : ∀ w, _ := fun w => digits_any 0 w (by omega)
  have hGz : ∀ w, _ := fun w => great_any [48] w (by decide)
  have hGd : ∀ w, _ := fun w => great_any (Lib.decDigits N) w (by have := dec_len N (by omega); omega)
  rw [dec_up] at hGd
  have hGl : ∀ w, _ := fun w => great_any (letL N) w (by have := letL_len 30 N (by omega); omega)
  unfold textP
  by_cases h1 : f = [105]
  · subst h1
    rw [if_neg (by decide)]
    unfold textB
    rw [if_pos rfl]
    by_cases hz : N = 0
    · subst hz; rw [if_neg (by omega), dec_zero]
      exact rw_105_zero w _ hF hH hZ
    · by_cases hs : N < 40000
      · rw [if_pos ⟨by omega, hs⟩]
        exact rw_105_small N w _ _ (by omega) (by omega) (by omega) hF hH hD (fun w => refRoman_any N w hs)
      · rw [if_neg (by omega)]
        exact rw_105_big N w _ (by omega) (by omega) (by omega) hF hH hD
  by_cases h2 : f = [73]
  · subst h2
    rw [if_pos (.inl rfl)]
    unfold textB
    rw [if_pos (by decide)]
    by_cases hz : N = 0
    · subst hz; rw [if_neg (by omega), dec_zero]
      exact rw_73_zero w _ _ hF hH hZ hGz
    · by_cases hs : N < 40000
      · rw [if_pos ⟨by omega, hs⟩]
        exact rw_73_small N w _ _ _ (by omega) (by omega) (by omega) hF hH hD (fun w => refRoman_any N w hs) (fun w => great_any (romL N) w (by have := romL_len N hs; omega))
      · rw [if_neg (by omega), dec_up]
        exact rw_73_big N w _ _ (by omega) (by omega) (by omega) hF hH hD hGd
  by_cases h3 : f = [97]
  · subst h3
    rw [if_neg (by decide)]
    unfold textB
    rw [if_neg (by decide), if_pos rfl]
    by_cases hz : N = 0
    · subst hz; rw [if_neg (by omega), dec_zero]
      exact rw_97_zero w _ hF hH hZ
    · rw [if_pos (by omega)]
      exact rw_97_pos N w _ _ (by omega) (by omega) hF hH hD hL
  by_cases h4 : f = [65]
  · subst h4
    rw [if_pos (.inr rfl)]
    unfold textB
    rw [if_neg (by decide), if_pos (by decide)]
    by_cases hz : N = 0
    · subst hz; rw [if_neg (by omega), dec_zero]
      exact rw_65_zero w _ _ hF hH hZ hGz
    · rw [if_pos (by omega)]
      exact rw_65_pos N w _ _ _ (by omega) (by omega) hF hH hD hL hGl
  rw [if_neg (by simp [h2, h4])]
  unfold textB
  rw [if_neg h1, if_neg h3]
  unfold formOK at hf
  simp only [h1, h2, h3, h4, false_or] at hf
  obtain ⟨g0, g9, hall⟩ := of_decide_eq_true hf
  have e : ∀ l : List UInt8, f ≠ l → ((bar f).toList == l) = false := fun l h => by rw [toList_bar]; simpa using h
  have hb0 : 0 < (bar f).size := by rw [bar_size]; omega
  have hdig : 48 ≤ (bar f)[0].toNat ∧ (bar f)[0].toNat ≤ 57 := by
    have hm : (bar f)[0] ∈ f := by
      have : (bar f)[0] = f[0]'(by omega) := rfl
      rw [this]; exact List.getElem_mem _
    have := List.all_eq_true.1 hall _ hm
    exact of_decide_eq_true this
  have h := rw_digits N w (bar f) (Lib.decDigits N) (e _ h2) (e _ h4) hb0 (by rw [bar_size]; omega) hdig.1 hdig.2 (by rw [dec_front]; simp) (dec_len N (by omega)) (by omega) (by omega) hF hH hD
  rw [bar_size] at h
  exact h
theorem refWrite_any (n : Int) (f : List UInt8) (w : World) (hf : f.length ≤ 1000000000) :
    Calls Tryd.prog 8 #[.int .i64 n, .string (bar f)] w fun e w' => e = .returned (.tuple #[.string (bar (wrOut n f).1), .int .i64 (wrOut n f).2]) ∧ Below w.heap.size w w' := by
  have hF : ∀ w, _ := fun w => isForm_any f w hf
  have hH : ∀ w, _ := fun w => fits_any n w
  unfold wrOut
  cases hfo : formOK f with
  | false => rw [hfo] at hF; exact rw_bad n w (bar f) hF
  | true =>
    rw [hfo] at hF
    cases hfi : fitsB n with
    | false => rw [hfi] at hH; exact rw_far n w (bar f) hF hH
    | true =>
      rw [hfi] at hH
      have hb := of_decide_eq_true hfi
      show Calls Tryd.prog 8 _ w fun e w' => e = .returned (.tuple #[.string (bar (textL n f)), .int .i64 0]) ∧ _
      unfold textL
      by_cases hn : n < 0
      · rw [if_pos hn]
        have hT : ∀ w, _ := fun w => refWrite_pos n.natAbs f w (by omega) hfo
        rw [show ((n.natAbs : Nat) : Int) = -n by omega] at hT
        exact rw_neg n w (bar f) _ _ hn hb.1 (by have := textP_len n.natAbs f (by omega) (formOK_len hfo); rw [bar_size]; omega) hF hH hT
      · rw [if_neg hn]
        have h := refWrite_pos n.natAbs f w (by omega) hfo
        rwa [show ((n.natAbs : Nat) : Int) = n by omega] at h
end Go.Proofs.YtajbpjojockgoaaDoor
