/-
  The reference's roman (greedy): what it computes.
-/
import Derived.Test.YtlniofkgjibpjaaDoorLetPlain
namespace Go.Proofs.YtlniofkgjibpjaaDoor.Reg
open Go.RowKit

def RomInv (N i n : Nat) (s : List UInt8) : Prop := s ++ greedy (romTab.drop i) n = romL N ∧ n ≤ N
theorem RomInv.step {N i n : Nat} {s : List UInt8} (h : RomInv N i n s) {v : Nat} {t : List UInt8} (ht : romTab[i]? = some (v, t)) (hv : 0 < v) (hn : v ≤ n) : RomInv N i (n - v) (s ++ t) := by
  refine ⟨?_, by have := h.2; omega⟩
  rw [← h.1]
  have hd : romTab.drop i = (v, t) :: romTab.drop (i + 1) := by
    obtain ⟨hl, e⟩ := List.getElem?_eq_some_iff.1 ht
    rw [List.drop_eq_getElem_cons hl, e]
  rw [hd]
  show s ++ t ++ ((List.replicate ((n - v) / v) t).flatten ++ greedy _ ((n - v) % v)) = s ++ ((List.replicate (n / v) t).flatten ++ greedy _ (n % v))
  rw [show n / v = (n - v) / v + 1 from by rw [← Nat.div_eq_sub_div hv hn], List.replicate_succ, List.flatten_cons, show (n - v) % v = n % v from (Nat.mod_eq_sub_mod hn).symm]
  simp
theorem RomInv.next {N i n : Nat} {s : List UInt8} (h : RomInv N i n s) {v : Nat} {t : List UInt8} (ht : romTab[i]? = some (v, t)) (hn : n < v) : RomInv N (i + 1) n s := by
  refine ⟨?_, h.2⟩
  rw [← h.1]
  have hd : romTab.drop i = (v, t) :: romTab.drop (i + 1) := by
    obtain ⟨hl, e⟩ := List.getElem?_eq_some_iff.1 ht
    rw [List.drop_eq_getElem_cons hl, e]
  rw [hd]
  show _ = s ++ ((List.replicate (n / v) t).flatten ++ greedy _ (n % v))
  rw [Nat.div_eq_of_lt hn, Nat.mod_eq_of_lt hn]
  rfl
theorem RomInv.len {N i n : Nat} {s : List UInt8} (h : RomInv N i n s) (hN : N < 40000) : s.length ≤ 60 := by
  have h1 := romL_len3 N hN
  rw [← h.1] at h1
  simp at h1; omega
theorem RomInv.first (N : Nat) : RomInv N 0 N [] := ⟨greedy_eq N, Nat.le_refl _⟩
theorem RomInv.last {N n : Nat} {s : List UInt8} (h : RomInv N 13 n s) : s = romL N := by
  have h1 := h.1
  rw [show romTab.drop 13 = [] from rfl] at h1
  simpa [greedy] using h1
def romVals : List Value := romTab.map fun x => .int .i64 x.1
def romTexts : List Value := romTab.map fun x => .string (bar x.2)
theorem romTab_at (i : Nat) (h : i < 13) : ∃ v t, romTab[i]? = some (v, t) ∧ 0 < v ∧ v ≤ 1000 ∧ t.length ≤ 2 := by
  have h2 : ∀ i < 13, (romTab[i]?.map fun x => decide (0 < x.1 ∧ x.1 ≤ 1000 ∧ x.2.length ≤ 2)) = some true := by decide +kernel
  have h3 := h2 i h
  cases hr : romTab[i]? with
  | none => rw [hr] at h3; exact absurd h3 (by simp)
  | some x =>
    rw [hr] at h3
    have h4 := of_decide_eq_true (Option.some.inj h3)
    exact ⟨x.1, x.2, rfl, h4.1, h4.2.1, h4.2.2⟩
theorem rom_cells (w : World) : ∃ W, W = (w.alloc (.cells romVals.toArray 3)).alloc (.cells romTexts.toArray 9) ∧ BlockIs W w.heap.size 3 romVals ∧ BlockIs W (w.heap.size + 1) 9 romTexts ∧ Below w.heap.size w W := by
  refine ⟨_, rfl, (BlockIs.fresh w _ _).past _, ?_, ((Below.refl _ _).alloc (Nat.le_refl _) _).alloc (by simp) _⟩
  have h := BlockIs.fresh (w.alloc (.cells romVals.toArray 3)) 9 romTexts
  rwa [show (w.alloc (.cells romVals.toArray 3)).heap.size = w.heap.size + 1 from by simp] at h
end Go.Proofs.YtlniofkgjibpjaaDoor.Reg
