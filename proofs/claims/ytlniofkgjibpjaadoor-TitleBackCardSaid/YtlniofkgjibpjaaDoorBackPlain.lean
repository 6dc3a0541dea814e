/-
  The parts of what Write writes are the parts. No condition beyond 'nothing was refused'.
-/
import Derived.Test.YtlniofkgjibpjaaDoorCutLen
namespace Go.Proofs.YtlniofkgjibpjaaDoor
open Go.RowKit
theorem cutL_piece (q : UInt8) (a l : List UInt8) (h : hasB q a = false) : cutL q (a ++ q :: l) = a :: cutL q l := by
  induction a with
  | nil => simp [cutL_hit]
  | cons b a ih =>
    have hb : b ≠ q := by rintro rfl; simp [hasB] at h
    have ha : hasB q a = false := by simp [hasB] at h ⊢; exact h.2
    rw [List.cons_append, cutL_miss _ _ _ hb, ih ha]; rfl
/-- The plain law: the parts of what Write writes are the parts. -/
theorem parts_of_write (x y z : List UInt8) (hok : (writeV x y z).2 = 0) : partsV (writeV x y z).1 = (.agg #[.string (bar x), .string (bar y), .string (bar z)], 0) := by
  unfold writeV at hok ⊢
  split at hok
  · simp at hok
  · rename_i hT
    have hT' : textB ((x ++ y ++ z) ++ [49, 50, 51, 52]) = true := by simpa using hT
    rw [if_neg hT]
    cases hf : ([39, 34, 47, 124, 126] : List UInt8).find? (fun q => !hasB q (x ++ y ++ z)) with
    | none => rw [hf] at hok; simp at hok
    | some q =>
      have hq := List.find?_some hf
      have hm := List.mem_of_find?_eq_some hf
      have hq' : hasB q (x ++ y ++ z) = false := by simpa using hq
      rw [hasB_app, hasB_app, Bool.or_eq_false_iff, Bool.or_eq_false_iff] at hq'
      obtain ⟨⟨hx, hy⟩, hz⟩ := hq'
      have hq10 : q ≠ 10 := by rintro rfl; revert hm; decide
      have ht : textB (q :: (joinQ q x y z ++ [q])) = true := by
        unfold textB joinQ at *
        simp at hT' ⊢
        obtain ⟨h1, h2, h3, h4⟩ := hT'
        exact ⟨by omega, fun e => hq10 e.symm, h2, fun e => hq10 e.symm, h3, fun e => hq10 e.symm, h4, fun e => hq10 e.symm⟩
      have hc : cutL q (joinQ q x y z ++ [q]) = [x, y, z, []] := by
        unfold joinQ
        rw [show x ++ (q :: (y ++ (q :: z))) ++ [q] = x ++ q :: (y ++ q :: (z ++ q :: [])) by simp]
        rw [cutL_piece q x _ hx, cutL_piece q y _ hy, cutL_piece q z _ hz]; rfl
      show partsV (q :: (joinQ q x y z ++ [q])) = _
      unfold partsV
      rw [if_neg (by rw [ht]; simp)]
      show (p3 (cutL q (joinQ q x y z ++ [q])), (0 : Int)) = _
      rw [hc]; rfl
end Go.Proofs.YtlniofkgjibpjaaDoor
