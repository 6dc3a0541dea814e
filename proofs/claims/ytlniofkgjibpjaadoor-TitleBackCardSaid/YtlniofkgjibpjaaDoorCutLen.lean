/-
  How many pieces a text has; texts of at most 3000 bytes.
-/
import Derived.Test.YtlniofkgjibpjaaDoorWrite
import Derived.Deep.RegionHeld3
namespace Go.Proofs.YtlniofkgjibpjaaDoor
open Go.RowKit

theorem cutL_free (q : UInt8) (l : List UInt8) (h : hasB q l = false) : cutL q l = [l] := by
  unfold hasB at h
  rw [Lib.contains_iff_indexByte] at h
  have hge := Lib.indexByte_ge l q
  rcases cutL_index q l with ⟨_, h2⟩ | ⟨i, h1, _, _⟩
  · exact h2
  · rw [h1] at h; simp at h
theorem cutL_has (q : UInt8) (l : List UInt8) (h : hasB q l = true) : 2 ≤ (cutL q l).length := by
  unfold hasB at h
  rw [Lib.contains_iff_indexByte] at h
  rcases cutL_index q l with ⟨h1, _⟩ | ⟨i, _, _, h3⟩
  · rw [h1] at h; simp at h
  · rw [h3]
    have := List.length_pos_iff.2 (cutL_ne q (l.drop (i + 1)))
    simp; omega
theorem cutL_pos (q : UInt8) (l : List UInt8) : 1 ≤ (cutL q l).length := List.length_pos_iff.2 (cutL_ne q l)
theorem hasB_app (q : UInt8) (a b : List UInt8) : hasB q (a ++ b) = (hasB q a || hasB q b) := by simp [hasB]
theorem cut_sum (q : UInt8) (x y z : List UInt8) : (((cutL q x).length + (cutL q y).length : Int) + (cutL q z).length == 3) = !hasB q (x ++ y ++ z) := by
  rw [hasB_app, hasB_app]
  have h1 := cutL_pos q x
  have h2 := cutL_pos q y
  have h3 := cutL_pos q z
  cases ha : hasB q x with
  | true => have := cutL_has q x ha; simp; omega
  | false =>
    rw [cutL_free q x ha]
    cases hb : hasB q y with
    | true => have := cutL_has q y hb; simp; omega
    | false =>
      rw [cutL_free q y hb]
      cases hc : hasB q z with
      | true => have := cutL_has q z hc; simp; omega
      | false => rw [cutL_free q z hc]; simp
theorem cutLen (l : List UInt8) (q : UInt8) (w : World) (hl : l.length ≤ 3000) :
    Calls Tryd.prog 23 #[.string (bar l), .int .u8 q.toNat] w fun e w' => ∃ (g cap : Nat), e = .returned (.slice (some ⟨g, 0, none⟩) (cutL q l).length cap) ∧ Below w.heap.size w w' := by
  refine (cut_any (bar l) q w (by rw [bar_size]; omega)).mono fun e w' ⟨v, he, ho, hb⟩ => ?_
  obtain ⟨g, cap, hv, _, _⟩ := own_cells ho (cutL_pos q l)
  exact ⟨g, cap, by rw [he, hv]; rfl, hb⟩
def LenPost (q : UInt8) (l : List UInt8) (w : World) (e : Ending) (w' : World) : Prop := ∃ (g cap : Nat), e = .returned (.slice (some ⟨g, 0, none⟩) (cutL q l).length cap) ∧ Below w.heap.size w w'
theorem cut39 (l : List UInt8) (w : World) (hl : l.length ≤ 3000) : Calls Tryd.prog 23 #[.string (bar l), .int .u8 39] w (LenPost 39 l w) := cutLen l 39 w hl
theorem cut34 (l : List UInt8) (w : World) (hl : l.length ≤ 3000) : Calls Tryd.prog 23 #[.string (bar l), .int .u8 34] w (LenPost 34 l w) := cutLen l 34 w hl
theorem cut47 (l : List UInt8) (w : World) (hl : l.length ≤ 3000) : Calls Tryd.prog 23 #[.string (bar l), .int .u8 47] w (LenPost 47 l w) := cutLen l 47 w hl
theorem cut124 (l : List UInt8) (w : World) (hl : l.length ≤ 3000) : Calls Tryd.prog 23 #[.string (bar l), .int .u8 124] w (LenPost 124 l w) := cutLen l 124 w hl
theorem cut126 (l : List UInt8) (w : World) (hl : l.length ≤ 3000) : Calls Tryd.prog 23 #[.string (bar l), .int .u8 126] w (LenPost 126 l w) := cutLen l 126 w hl
theorem textB_app (a b : List UInt8) : textB (a ++ b) = (decide (a.length + b.length ≤ 2000) && !a.contains 10 && !b.contains 10) := by
  unfold textB; simp [Bool.and_assoc]
/-- The reference looks at each part alone, and at the sum. -/
theorem text_parts (x y z : List UInt8) : textB ((x ++ y ++ z) ++ [49, 50, 51, 52]) = (textB x && (textB y && (textB z && decide (4 + x.length + y.length + z.length ≤ 2000)))) := by
  rw [Bool.eq_iff_iff]
  unfold textB
  simp
  constructor
  · rintro ⟨h1, h2, h3, h4⟩
    exact ⟨⟨by omega, h2⟩, ⟨by omega, h3⟩, ⟨by omega, h4⟩, by omega⟩
  · rintro ⟨⟨_, h2⟩, ⟨_, h3⟩, ⟨_, h4⟩, h5⟩
    exact ⟨by omega, h2, h3, h4⟩
end Go.Proofs.YtlniofkgjibpjaaDoor
