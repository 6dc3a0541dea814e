/-
  The reference's roman (greedy): what it computes.
-/
import Derived.Test.YtajbpjojockgoaaDoorLetPlain
namespace Go.Proofs.YtajbpjojockgoaaDoor
open Go.RowKit

def RomInv (N i n : Nat) (s : List UInt8) : Prop := s ++ greedy (romTab.drop i) n = romL N ∧ n ≤ N
theorem RomInv.step {N i n : Nat} {s : List UInt8} (h : RomInv N i n s) {v : Nat} {t : List UInt8} (ht : romTab[i]? = some (v, t)) (hv : 0 < v) (hn : v ≤ n) : RomInv N i (n - v) (s ++ t) := by
  refine ⟨?_, by have := h.2; omega⟩
  rw [← h.1]
  have hd : romTab.drop i = (v, t) :: romTab.drop (i + 1) := by
    obtain ⟨hl, e⟩ := List.getElem?_eq_some_iff.1 ht
    rw [List.drop_eq_getElem_cons hl, e]
  rw [hd]
  show s ++ t ++ ((List.replicate ((n - v) / v) t).flatten ++ greedy _ ((n - v) % v)) = s ++ ((List.replicate (n / v) t).flatten ++ greedy _ (n % v))
  rw [show n / v = (n - v) / v + 1 from by rw [← Nat.div_eq_sub_div hv hn], List.replicate_succ, List.flatten_cons, show (n - v) % v = n % v from (Nat.mod_eq_sub_mod hn).symm]
  simp
theorem RomInv.next {N i n : Nat} {s : List UInt8} (h : RomInv N i n s) {v : Nat} {t : List UInt8} (ht : romTab[i]? = some (v, t)) (hn : n < v) : RomInv N (i + 1) n s := by
  refine ⟨?_, h.2⟩
  rw [← h.1]
  have hd : romTab.drop i = (v, t) :: romTab.drop (i + 1) := by
    obtain ⟨hl, e⟩ := List.getElem?_eq_some_iff.1 ht
    rw [List.drop_eq_getElem_cons hl, e]
  rw [hd]
  show _ = s ++ ((List.replicate (n / v) t).flatten ++ greedy _ (n % v))
  rw [Nat.div_eq_of_lt hn, Nat.mod_eq_of_lt hn]
  rfl
theorem RomInv.len {N i n : Nat} {s : List UInt8} (h : RomInv N i n s) (hN : N < 40000) : s.length ≤ 60 := by
  have h1 := romL_len3 N hN
  rw [← h.1] at h1
  simp at h1; omega
theorem RomInv.first (N : Nat) : RomInv N 0 N [] := ⟨greedy_eq N, Nat.le_refl _⟩
theorem RomInv.last {N n : Nat} {s : List UInt8} (h : RomInv N 13 n s) : s = romL N := by
  have h1 := h.1
  rw [show romTab.drop 13 = [] from rfl] at h1
  simpa [greedy] using h1
def romVals : List Value := romTab.map fun x => .int .i64 x.1
def romTexts : List Value := romTab.map fun x => .string (bar x.2)
theorem romTab_at (i : Nat) (h : i < 13) : ∃ v t, romTab[i]? = some (v, t) ∧ 0 < v ∧ v ≤ 1000 ∧ t.length ≤ 2 := by
  have h2 : ∀ i < 13, (romTab[i]?.map fun x => decide (0 < x.1 ∧ x.1 ≤ 1000 ∧ x.2.length ≤ 2)) = some true := by decide +kernel
  have h3 := h2 i h
  cases hr : romTab[i]? with
  | none => rw [hr] at h3; exact absurd h3 (by simp)
  | some x =>
    rw [hr] at h3
    have h4 := of_decide_eq_true (Option.some.inj h3)
    exact ⟨x.1, x.2, rfl, h4.1, h4.2.1, h4.2.2⟩
theorem rom_cells (w : World) : ∃ W, W = (w.alloc (.cells romVals.toArray 3)).alloc (.cells romTexts.toArray 9) ∧ BlockIs W w.heap.size 3 romVals ∧ BlockIs W (w.heap.size + 1) 9 romTexts ∧ Below w.heap.size w W := by
  refine ⟨_, rfl, (BlockIs.fresh w _ _).past _, ?_, ((Below.refl _ _).alloc (Nat.le_refl _) _).alloc (by simp) _⟩
  have h := BlockIs.fresh (w.alloc (.cells romVals.toArray 3)) 9 romTexts
  rwa [show (w.alloc (.cells romVals.toArray 3)).heap.size = w.heap.size + 1 from by simp] at h
set_option maxRecDepth 100000 in
set_option maxHeartbeats 2000000 in
theorem refRoman_any (N : Nat) (w : World) (hN : N < 40000) :
    Calls Tryd.prog 17 #[.int .i64 N] w fun e w' => e = .returned (.string (bar (romL N))) ∧ Below w.heap.size w w' := by
  obtain ⟨W, hW, hb1, hb2, hbel⟩ := rom_cells w
  go_enter Tryd.func17, Tryd.ntmps17
  go_wp2_with fail
  go_loopw [0, 5, 6] (fun a s i wr => ∃ (j n : Nat) (l : List UInt8), a = .int .i64 n ∧ s = .string (bar l) ∧ i = .int .i64 j ∧ j ≤ 13 ∧ RomInv N j n l ∧ wr = W) (fun _ _ i _ => 13 - (intOf i).toNat)
  case atStart => exact ⟨0, N, [], rfl, rfl, rfl, by omega, .first N, by rw [hW]; rfl⟩
  case round =>
    clear hW
    obtain ⟨j, n, l, rfl, rfl, rfl, hj, hinv, rfl⟩ := hrel
    have HI := Lib.hid hinv
    clear hinv
    by_cases hlt : j < 13
    · obtain ⟨v, t, htab, hv0, hv1, ht2⟩ := romTab_at j hlt
      have c1 : wr.cell? ⟨w.heap.size, j, none⟩ = some (.int .i64 v) := hb1.cellAt j _ (by unfold romVals; rw [List.getElem?_map, htab]; rfl)
      have c2 : wr.cell? ⟨w.heap.size + 1, j, none⟩ = some (.string (bar t)) := hb2.cellAt j _ (by unfold romTexts; rw [List.getElem?_map, htab]; rfl)
      have HT := Lib.hid htab
      clear htab
      have htz : (bar t).size ≤ 2 := by rw [bar_size]; exact ht2
      go_wp2
      have HW : ∃ W, W = wr := ⟨wr, rfl⟩
      obtain ⟨W, hW⟩ := HW
      go_loopw [0, 5] (fun a s x => ∃ (n : Nat) (l : List UInt8), a = .int .i64 n ∧ s = .string (bar l) ∧ RomInv N j n l ∧ x = W) (fun a _ _ => (intOf a).toNat)
      case atStart => exact ⟨n, l, rfl, rfl, HI.out, hW.symm⟩
      case round =>
        clear HI
        subst hW
        obtain ⟨n, l, rfl, rfl, hinv, rfl⟩ := hrel
        have hls : (bar l).size ≤ 60 := by rw [bar_size]; exact hinv.len hN
        have hnN := hinv.2
        have HI := Lib.hid hinv
        clear hinv
        by_cases hge : v ≤ n
        · go_wp2
          go_roundw
          case rel => exact ⟨n - v, l ++ t, by congr 1; omega, by rw [bar_app], HI.out.step HT.out hv0 hge, trivial⟩
          case measure => simp [intOf]; omega
        · go_wp2
          go_roundw
          case rel => exact ⟨j + 1, n, l, rfl, rfl, by go_num, by omega, HI.out.next HT.out (by omega), trivial⟩
          case measure => simp [intOf]; omega
    · go_wp2
      go_ret
      obtain rfl : j = 13 := by omega
      rw [HI.out.last]
      exact ⟨rfl, hbel⟩
end Go.Proofs.YtajbpjojockgoaaDoor
