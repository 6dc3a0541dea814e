/-
  A run's entries, the reference's way: it comes to just the program's. No condition.
-/
import Derived.Test.YtanekljbehhjcaaDoorNotes
import Derived.Test.YtanekljbehhjcaaDoorPureA
import Derived.Test.YtanekljbehhjcaaDoorPXx3
namespace Go.Proofs.YtanekljbehhjcaaDoor
open Go.RowKit Go.Proofs.YtanekljbehhjcaaDoorW.PrintWords Go.Proofs.YtanekljbehhjcaaDoorW.PrintMore Go.Proofs.YtanekljbehhjcaaDoor.PX

def shiftI (x : Int) (i : Nat) : Int := if x = -1 then -1 else (i : Int) + x
theorem index_l (l : List UInt8) (c : UInt8) (hl : l.length ≤ 9000000000000000000) : ∀ (d i : Nat), i + d = l.length →
    Ev (fun k => frisketref27_index.l0 k (bar l) (c.toNat : Int) (i : Int)) (shiftI (Lib.indexByte (l.drop i) c) i) := by
  intro d
  induction d with
  | zero =>
    intro i h
    refine Ev.step (fun k => by rw [frisketref27_index.l0]) ?_
    refine evNeg (by rw [bar_size]; omega) ?_
    rw [List.drop_eq_nil_of_le (by omega)]
    exact Ev.now _
  | succ d ih =>
    intro i h
    have hi : i < l.length := by omega
    refine Ev.step (fun k => by rw [frisketref27_index.l0]) ?_
    refine evPos (by rw [bar_size]; omega) (evPos (by omega) ?_)
    rw [bt_bar' l i hi, List.drop_eq_getElem_cons hi]
    have hcons : Lib.indexByte (l[i] :: l.drop (i + 1)) c = if l[i] == c then 0 else if Lib.indexByte (l.drop (i + 1)) c == -1 then -1 else Lib.indexByte (l.drop (i + 1)) c + 1 := rfl
    by_cases e : l[i] = c
    · refine evPos (by rw [e]) ?_
      rw [hcons, if_pos (by simpa using e)]
      exact evEq (by unfold shiftI; simp) (Ev.now (i : Int))
    · refine evNeg (fun h => e (UInt8.toNat_inj.1 (by omega))) ?_
      rw [hcons, if_neg (by simpa using e), w64 (by omega) (by omega), show ((i : Int) + 1) = ((i + 1 : Nat) : Int) from rfl]
      have h1 := ih (i + 1) (by omega)
      have h2 := Lib.indexByte_ge (l.drop (i + 1)) c
      refine evEq ?_ h1
      by_cases h3 : Lib.indexByte (l.drop (i + 1)) c = -1
      · rw [h3]; rfl
      · rw [if_neg (by simpa using h3)]
        unfold shiftI
        rw [if_neg h3, if_neg (by omega)]; omega
theorem index_ev (l : List UInt8) (c : UInt8) (hl : l.length ≤ 9000000000000000000) : Ev (fun k => frisketref27_index.f k (bar l) (c.toNat : Int)) (Lib.indexByte l c) := by
  unfold frisketref27_index.f
  refine evEq ?_ (index_l l c hl l.length 0 (by omega))
  rw [List.drop_zero]
  unfold shiftI
  by_cases h : Lib.indexByte l c = -1
  · rw [if_pos h, h]
  · rw [if_neg h]; omega

/-! ### decimal digits read -/
theorem dec_digit (m : Nat) : ∀ c ∈ Lib.decDigits m, 48 ≤ c.toNat ∧ c.toNat ≤ 57 := by
  induction m using Nat.strongRecOn with
  | _ m ih =>
    intro c hc
    rw [Lib.decDigits] at hc
    split at hc
    · rw [List.mem_singleton.1 hc]; simp; omega
    · rcases List.mem_append.1 hc with hc | hc
      · exact ih (m / 10) (by omega) c hc
      · rw [List.mem_singleton.1 hc]; simp; omega
theorem parse_app (l r : List UInt8) : ∀ acc, Lib.parseUint10 acc (l ++ r) = match Lib.parseUint10 acc l with | .ok u => Lib.parseUint10 u r | e => e := by
  induction l with
  | nil => intro acc; rfl
  | cons c l ih =>
    intro acc
    rw [List.cons_append]
    simp only [Lib.parseUint10]
    split
    · split
      · rfl
      · split
        · rfl
        · exact ih _
    · rfl
theorem parse_dec (m : Nat) (h : m ≤ 1000000000000) : Lib.parseUint10 0 (Lib.decDigits m) = .ok m := by
  induction m using Nat.strongRecOn with
  | _ m ih =>
    rw [Lib.decDigits]
    split
    · rename_i h1
      have e : (UInt8.ofNat (48 + m)).toNat = 48 + m := by simp; omega
      simp only [Lib.parseUint10, e]
      rw [if_pos (by omega), if_neg (by omega), if_neg (by omega)]
      congr 1; omega
    · rename_i h1
      have e : (UInt8.ofNat (48 + m % 10)).toNat = 48 + m % 10 := by simp; omega
      rw [parse_app, ih (m / 10) (by omega) (by omega)]
      simp only [Lib.parseUint10, e]
      rw [if_pos (by omega), if_neg (by omega), if_neg (by omega)]
      congr 1; omega
theorem atoi_dec (m : Nat) (h : m ≤ 1000000000000) : Lib.atoiAll (Lib.decDigits m) = .ok (m : Int) := by
  have h1 := dec_digit m
  have h2 := parse_dec m h
  have h3 : Lib.decDigits m ≠ [] := by rw [dec_front]; simp
  cases hl : Lib.decDigits m with
  | nil => exact absurd hl h3
  | cons c r =>
    rw [hl] at h1 h2
    have hc := h1 c List.mem_cons_self
    simp only [Lib.atoiAll]
    rw [if_neg (by omega)]
    have h4 : Lib.parseMag (c :: r) = .ok m := by unfold Lib.parseMag; rw [if_neg (by simp)]; exact h2
    rw [h4]
    simp only
    rw [if_neg (by omega), if_neg (by omega), if_neg (by omega)]
theorem page_good (p : List UInt8) (m : Nat) (hm : m ≤ 1000000) (h : p = Lib.decDigits m) : atoiB p = true ∧ atoiN p = m ∧ Lib.itoa (m : Int) = p := by
  subst h
  have := atoi_dec m (by omega)
  unfold atoiB atoiN
  rw [this]
  refine ⟨rfl, rfl, ?_⟩
  unfold Lib.itoa; rw [if_neg (by omega)]; rfl
theorem page_back (p : List UInt8) (h1 : Lib.itoa (atoiN p) = p) (h2 : 0 ≤ atoiN p) : p = Lib.decDigits (atoiN p).toNat := by
  have : Lib.itoa (atoiN p) = Lib.decDigits (atoiN p).toNat := by unfold Lib.itoa; rw [if_neg (by omega)]
  exact h1.symm.trans this

/-! ### the reference's digits -/
def refStep (s : Int × Bool) (b : UInt8) : Int × Bool := (mn (s.1 * 10 + ((b.toNat : Int) - 48) % 256) 1000000000, s.2 && (decide (48 ≤ (b.toNat : Int)) && decide ((b.toNat : Int) ≤ 57)))
theorem refStep_range (s : Int × Bool) (b : UInt8) (h : 0 ≤ s.1) : 0 ≤ (refStep s b).1 ∧ (refStep s b).1 ≤ 1000000000 := by
  unfold refStep mn
  simp only
  have := b.toNat_lt
  split <;> omega
theorem fold_dec (m : Nat) (h : m ≤ 1000000000) : (Lib.decDigits m).foldl refStep (0, true) = ((m : Int), true) := by
  induction m using Nat.strongRecOn with
  | _ m ih =>
    rw [Lib.decDigits]
    split
    · have e : (UInt8.ofNat (48 + m)).toNat = 48 + m := by simp; omega
      simp only [List.foldl_cons, List.foldl_nil, refStep, e, mn]
      rw [if_neg (by omega)]
      refine Prod.ext (by simp only; omega) ?_
      simp; omega
    · have e : (UInt8.ofNat (48 + m % 10)).toNat = 48 + m % 10 := by simp; omega
      rw [List.foldl_append, ih (m / 10) (by omega) (by omega)]
      simp only [List.foldl_cons, List.foldl_nil, refStep, e, mn]
      rw [if_neg (by omega)]
      refine Prod.ext (by simp only; omega) ?_
      simp; omega
end Go.Proofs.YtanekljbehhjcaaDoor
