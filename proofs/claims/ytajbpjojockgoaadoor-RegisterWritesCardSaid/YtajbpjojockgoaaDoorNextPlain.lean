/-
  Each number's letters come next in the order of lengths and letters.
-/
import Derived.Test.YtajbpjojockgoaaDoorLetPlain
import Derived.WalkKit
namespace Go.Proofs.YtajbpjojockgoaaDoor
open Go.RowKit

theorem less_same (p x y : List UInt8) : Op.bytesLess (p ++ x) (p ++ y) = Op.bytesLess x y := by
  induction p with
  | nil => rfl
  | cons a r ih =>
    show (decide (a < a) || (a == a && Op.bytesLess (r ++ x) (r ++ y))) = _
    rw [ih]; simp
theorem less_app (a b x y : List UInt8) (hl : a.length = b.length) (h : Op.bytesLess a b = true) : Op.bytesLess (a ++ x) (b ++ y) = true := by
  induction a generalizing b with
  | nil =>
    cases b with
    | nil => exact absurd h (by decide)
    | cons c t => simp at hl
  | cons c r ih =>
    cases b with
    | nil => simp at hl
    | cons d t =>
      have h' : (decide (c < d) || (c == d && Op.bytesLess r t)) = true := h
      show (decide (c < d) || (c == d && Op.bytesLess (r ++ x) (t ++ y))) = true
      simp only [Bool.or_eq_true, Bool.and_eq_true] at h' ⊢
      rcases h' with h' | ⟨h1, h2⟩
      · exact .inl h'
      · exact .inr ⟨h1, ih t (by simpa using hl) h2⟩
theorem less_turn (a b : List UInt8) (h : Op.bytesLess a b = true) : Op.bytesLess b a = false ∧ (b == a) = false := by
  induction a generalizing b with
  | nil =>
    cases b with
    | nil => exact absurd h (by decide)
    | cons c t => exact ⟨rfl, rfl⟩
  | cons c r ih =>
    cases b with
    | nil => exact absurd h (by unfold Op.bytesLess; decide)
    | cons d t =>
      have h' : (decide (c < d) || (c == d && Op.bytesLess r t)) = true := h
      show (decide (d < c) || (d == c && Op.bytesLess t r)) = false ∧ (d :: t == c :: r) = false
      simp only [Bool.or_eq_true, Bool.and_eq_true, decide_eq_true_eq] at h'
      rcases h' with h' | ⟨h1, h2⟩
      · have n1 : ¬ d < c := fun h => absurd (UInt8.lt_trans h h') (UInt8.lt_irrefl _)
        have n2 : d ≠ c := fun h => by rw [h] at h'; exact absurd h' (UInt8.lt_irrefl _)
        simp [n1, n2]
      · have h3 := ih t h2
        have e : c = d := by simpa using h1
        subst e
        have n1 : ¬ c < c := UInt8.lt_irrefl _
        refine ⟨by simp [n1, h3.1], ?_⟩
        have := h3.2
        simpa using this
theorem letL_next (n : Nat) : 1 ≤ n → (letL n).length < (letL (n + 1)).length ∨ ((letL n).length = (letL (n + 1)).length ∧ Op.bytesLess (letL n) (letL (n + 1)) = true) := by
  induction n using Nat.strongRecOn with
  | _ n ih =>
    intro h1
    rw [letL_pos n (by omega), letL_pos (n + 1) (by omega)]
    by_cases hr : (n - 1) % 26 < 25
    · rw [show (n + 1 - 1) / 26 = (n - 1) / 26 by omega, show (n + 1 - 1) % 26 = (n - 1) % 26 + 1 by omega]
      refine .inr ⟨by simp, ?_⟩
      rw [less_same]
      show (decide (UInt8.ofNat (97 + (n - 1) % 26) < UInt8.ofNat (97 + ((n - 1) % 26 + 1))) || _) = true
      rw [Bool.or_eq_true]
      refine .inl (decide_eq_true ?_)
      show (UInt8.ofNat (97 + (n - 1) % 26)).toNat < (UInt8.ofNat (97 + ((n - 1) % 26 + 1))).toNat
      rw [UInt8.toNat_ofNat', UInt8.toNat_ofNat']
      omega
    · rw [show (n + 1 - 1) / 26 = (n - 1) / 26 + 1 by omega, show (n + 1 - 1) % 26 = 0 by omega]
      by_cases hq : (n - 1) / 26 = 0
      · rw [hq, letL_zero]
        refine .inl ?_
        rw [letL_pos (0 + 1) (by omega)]
        simp
      · rcases ih ((n - 1) / 26) (by omega) (by omega) with h | ⟨h2, h3⟩
        · refine .inl ?_
          simp only [List.length_append, List.length_cons, List.length_nil]
          omega
        · refine .inr ⟨by simp [h2], less_app _ _ _ _ h2 h3⟩
end Go.Proofs.YtajbpjojockgoaaDoor
