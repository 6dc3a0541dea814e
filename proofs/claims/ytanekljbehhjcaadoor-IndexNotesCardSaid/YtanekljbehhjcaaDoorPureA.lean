/-
  The reference's Digits, Signed and Cut in plain words. No condition.
-/
import Derived.Test.YtanekljbehhjcaaDoorEv
import Derived.Test.YtanekljbehhjcaaDoorPXx2
import Derived.Test.YtanekljbehhjcaaDoorPXx9
import Derived.Test.YtanekljbehhjcaaDoorPXx8
namespace Go.Proofs.YtanekljbehhjcaaDoor
open Go.RowKit Go.Proofs.YtanekljbehhjcaaDoorW.PrintWords Go.Proofs.YtanekljbehhjcaaDoor.PX

/-- What is still to be written in front, at n. -/
def frontD (n : Nat) : List UInt8 := if n < 10 then [] else Lib.decDigits (n / 10)
theorem dec_front (n : Nat) : Lib.decDigits n = frontD n ++ [UInt8.ofNat (48 + n % 10)] := by
  rw [Lib.decDigits]
  unfold frontD
  split
  · rw [show n % 10 = n by omega]; rfl
  · rfl
theorem frontD_big (n : Nat) (h : 9 < n) : frontD n = Lib.decDigits (n / 10) := by unfold frontD; rw [if_neg (by omega)]
theorem frontD_small (n : Nat) (h : n ≤ 9) : frontD n = [] := by unfold frontD; rw [if_pos (by omega)]
theorem tdiv10 (n : Nat) : Int.tdiv (n : Int) 10 = ((n / 10 : Nat) : Int) := by
  rw [Int.tdiv_eq_ediv_of_nonneg (by omega)]; rfl
theorem tmod10 (n : Nat) : Int.tmod (n : Int) 10 = ((n % 10 : Nat) : Int) := by
  rw [Int.tmod_eq_emod_of_nonneg (by omega)]; rfl
theorem byteD (n : Nat) : (wrap64 (48 + Int.tmod (n : Int) 10)) % 256 = ((48 + n % 10 : Nat) : Int) := by
  rw [tmod10, w64 (by omega) (by omega)]; omega
theorem digits_l (m : Nat) : ∀ (n : Nat) (s : List UInt8), n < 10 ^ m → n ≤ 9223372036854775807 → s.length + m ≤ 1000 →
    Ev (fun k => frisketref01_Digits.l0 k (n : Int) (bar s)) (bar (frontD n ++ s)) := by
  induction m with
  | zero =>
    intro n s h _ hs
    refine Ev.step (fun k => by rw [frisketref01_Digits.l0]) ?_
    refine evNeg (by omega) ?_
    rw [frontD_small n (by omega)]
    exact Ev.now _
  | succ m ih =>
    intro n s h hn hs
    refine Ev.step (fun k => by rw [frisketref01_Digits.l0]) ?_
    by_cases h9 : n ≤ 9
    · refine evNeg (by omega) ?_
      rw [frontD_small n h9]
      exact Ev.now _
    · have e : wrap64 (Int.tdiv (n : Int) 10) = ((n / 10 : Nat) : Int) := by rw [tdiv10, w64 (by omega) (by omega)]
      rw [e, byteD]
      refine evPos (by omega) (evLet (evPos ?_ ?_))
      · rw [strOf_one, bar_size, bar_size]; simp only [List.length_cons, List.length_nil]; omega
      · rw [strOf_one, bar_app, frontD_big n (by omega), dec_front (n / 10), List.append_assoc]
        refine ih (n / 10) _ (by rw [Nat.pow_succ] at h; omega) (by omega) ?_
        simp only [List.length_append, List.length_cons, List.length_nil]; omega
theorem digits_ev (n : Nat) (h : n ≤ 9223372036854775807) : Ev (fun k => frisketref01_Digits.f k (n : Int)) (bar (Lib.decDigits n)) := by
  unfold frisketref01_Digits.f
  rw [byteD, strOf_one, dec_front n]
  exact digits_l 19 n _ (by omega) h (by simp)

theorem tmodneg (n : Nat) : Int.tmod (-(n : Int)) 10 = -((n % 10 : Nat) : Int) := by
  rw [Int.neg_tmod, tmod10]
theorem tdivneg (n : Nat) : Int.tdiv (-(n : Int)) 10 = -((n / 10 : Nat) : Int) := by
  rw [Int.neg_tdiv, tdiv10]
theorem byteN (n : Nat) : (wrap64 (48 - Int.tmod (-(n : Int)) 10)) % 256 = ((48 + n % 10 : Nat) : Int) := by
  rw [tmodneg, w64 (by omega) (by omega)]; omega
theorem signed_l (m : Nat) : ∀ (n : Nat) (s : List UInt8), n < 10 ^ m → n ≤ 9223372036854775808 → s.length + m ≤ 1000 → (n = 0 → s ≠ []) →
    Ev (fun k => frisketref07_Signed.l0 k (-(n : Int)) (bar s)) (bar (45 :: (if n = 0 then s else Lib.decDigits n ++ s))) := by
  induction m with
  | zero =>
    intro n s h _ hs _
    obtain rfl : n = 0 := by omega
    refine Ev.step (fun k => by rw [frisketref07_Signed.l0]) ?_
    refine evNeg (by omega) (evPos (by rw [bar_size]; omega) ?_)
    exact evOf (congrArg some (bar_app [45] s))
  | succ m ih =>
    intro n s h hn hs h0
    refine Ev.step (fun k => by rw [frisketref07_Signed.l0]) ?_
    by_cases h9 : n = 0
    · subst h9
      refine evNeg (by omega) (evPos (by rw [bar_size]; omega) ?_)
      exact evOf (congrArg some (bar_app [45] s))
    · have e : wrap64 (Int.tdiv (-(n : Int)) 10) = -((n / 10 : Nat) : Int) := by rw [tdivneg, w64 (by omega) (by omega)]
      rw [e, byteN]
      refine evPos (by omega) (evLet (evPos ?_ ?_))
      · rw [strOf_one, bar_size, bar_size]; simp only [List.length_cons, List.length_nil]; omega
      · rw [strOf_one, bar_app, if_neg h9]
        refine evEq ?_ (ih (n / 10) _ (by rw [Nat.pow_succ] at h; omega) (by omega) ?_ ?_)
        · congr 2
          rw [dec_front n]
          by_cases hz : n / 10 = 0
          · rw [if_pos hz, frontD_small n (by omega)]; rfl
          · rw [if_neg hz, frontD_big n (by omega), List.append_assoc]; rfl
        · simp only [List.length_append, List.length_cons, List.length_nil]; omega
        · intro _ h; cases h
theorem signed_ev (n : Int) (h0 : -9223372036854775808 ≤ n) (h1 : n ≤ 9223372036854775807) : Ev (fun k => frisketref07_Signed.f k n) (bar (Lib.itoa n)) := by
  unfold frisketref07_Signed.f Lib.itoa
  by_cases hn : n < 0
  · refine evNeg (by omega) ?_
    rw [if_pos hn]
    have e : n = -(n.natAbs : Int) := by omega
    refine evEq ?_ (Ev.congr (fun k => ?_) (signed_l 19 n.natAbs [] (by omega) (by omega) (by simp) (by omega)))
    · rw [if_neg (by omega), List.append_nil]
    · rw [← e]; rfl
  · refine evPos (by omega) ?_
    rw [if_neg hn]
    have e : n = (n.toNat : Int) := by omega
    refine Ev.bind (a := bar (Lib.decDigits n.toNat)) (Ev.congr (fun k => ?_) (digits_ev n.toNat (by omega))) (Ev.now _)
    rw [← e]
end Go.Proofs.YtanekljbehhjcaaDoor
