/-
  Small lemmas for the contracts of this seat: numbers, owned rows. No condition.
-/
import Derived.Test.YtajbpjojockgoaaGreatDoorChecked
import Derived.Test.YtajbpjojockgoaaGreatDoorShelf
import Derived.WalkKit
import Derived.Handy
import Derived.PlainAid
import Derived.ProofKit
import Derived.WalkSpells
import Derived.WalkLawsBesides
import Derived.Deep.QuietTactic
import Derived.BigQuiet
import Derived.Outline
import Derived.ArgAppend
import Derived.Deep.RegionWith
import Derived.Lib.Hide
namespace Go.Proofs.YtajbpjojockgoaaGreatDoor
open Go.RowKit

theorem tdiv2_neg (a : Int) (h : a.tmod 2 < 0) : a.tdiv 2 - 1 = a / 2 := by
  rw [Int.tmod_eq_emod] at h
  rw [Int.tdiv_eq_ediv]
  have hs : Int.sign 2 = 1 := rfl
  rw [hs]
  split at h <;> split <;> simp_all <;> omega
theorem tdiv2_pos (a : Int) (h : 0 ≤ a.tmod 2) : a.tdiv 2 = a / 2 := by
  rw [Int.tmod_eq_emod] at h
  rw [Int.tdiv_eq_ediv]
  split at h <;> split <;> simp_all <;> omega
theorem i64_and1 (n : Int) : bits .and .i64 n 1 = n % 2 := by
  have h1 : (BitVec.ofInt 64 1).toNat = 2 ^ 1 - 1 := by decide
  have key : (BitVec.ofInt 64 n &&& BitVec.ofInt 64 1).toNat = (n % ((2 ^ 64 : Nat) : Int)).toNat % 2 ^ 1 := by
    rw [BitVec.toNat_and, BitVec.toNat_ofInt, h1, Nat.and_two_pow_sub_one_eq_mod]
  show IntKind.i64.wrap ((BitVec.ofInt 64 n &&& BitVec.ofInt 64 1).toNat : Nat) = n % 2
  rw [key, IntKind.wrap_i64]
  omega
theorem half_exact (n : Int) (h0 : -100000000 ≤ n) (h1 : n ≤ 100000000) : wrap64 ((wrap64 (n - bits BinOp.and IntKind.i64 n 1)).tdiv 2) = n / 2 := by
  rw [i64_and1]
  have e : wrap64 (n - n % 2) = 2 * (n / 2) := by unfold wrap64; omega
  rw [e, Int.mul_tdiv_cancel_left _ (by decide)]
  unfold wrap64; omega
theorem ret_int {k : IntKind} {a b : Int} (h : a = b) : Ending.returned (.int k a) = .returned (.int k b) := by rw [h]

theorem own_cells {w : World} {base : Nat} {e : TypeId} {size : Nat} {v : Value} {n : Nat} {xs : List Value} (h : w.ownsRow base e size v n xs) (hn : 0 < n) :
    ∃ g cap, v = .slice (some ⟨g, 0, none⟩) n cap ∧ base ≤ g ∧ ∀ j u, xs[j]? = some u → w.cell? ⟨g, j, none⟩ = some u := by
  rcases h.2 with ⟨_, hz⟩ | ⟨g, cap, cur, rfl, hb, hg, _⟩
  · omega
  · exact ⟨g, cap, rfl, hb, fun j u hj => by have := h.cells (g := g) rfl j u hj; rwa [Addr.add_lit, Nat.zero_add] at this⟩

theorem Tryz.info3 : (Tryz.prog.info? 3).map (fun i => (i.zero, i.size, i.bytes)) = some (some (.int .i64 0), 1, 8) := by kernel_rfl


/-- Block g holds just these cells, none of them frozen. -/
def BlockIs (w : World) (g : Nat) (t : TypeId) (cs : List Value) : Prop := w.heap[g]? = some (.cells cs.toArray t (0, 0))
theorem BlockIs.cellAt {w : World} {g : Nat} {t : TypeId} {cs : List Value} (h : BlockIs w g t cs) (i : Nat) (v : Value) (hv : cs[i]? = some v) : w.cell? ⟨g, i, none⟩ = some v := by
  rw [cell_of_row w g i _ t (0, 0) h]; simpa using hv
theorem BlockIs.free {w : World} {g : Nat} {t : TypeId} {cs : List Value} (h : BlockIs w g t cs) (i : Nat) : w.frozen? ⟨g, i, none⟩ = false := by
  unfold BlockIs at h
  simp [World.frozen?, h]
theorem BlockIs.under {w w' : World} {g B : Nat} {t : TypeId} {cs : List Value} (h : BlockIs w g t cs) (hb : Below B w w') (hg : g < B) : BlockIs w' g t cs := (hb.block g hg).trans h
theorem BlockIs.fresh (w : World) (t : TypeId) (cs : List Value) : BlockIs (w.alloc (.cells cs.toArray t)) w.heap.size t cs := heap_alloc_new w _
theorem BlockIs.inside {w : World} {g : Nat} {t : TypeId} {cs : List Value} (h : BlockIs w g t cs) : g < w.heap.size := (Array.getElem?_eq_some_iff.1 h).1
theorem BlockIs.past {w : World} {g : Nat} {t : TypeId} {cs : List Value} (h : BlockIs w g t cs) (o : Obj) : BlockIs (w.alloc o) g t cs := (Below.heap_alloc w o g h.inside).trans h
theorem BlockIs.drawn {w : World} {g : Nat} {t : TypeId} {cs : List Value} (h : BlockIs w g t cs) : BlockIs w.drew g t cs := h
theorem BlockIs.stored {w : World} {g : Nat} {t : TypeId} {cs : List Value} (h : BlockIs w g t cs) (i : Nat) (u : Value) : BlockIs (w.setCell ⟨g, i, none⟩ u) g t (cs.set i u) := by
  unfold BlockIs at h ⊢
  simp [World.setCell, Array.getElem?_modify, h]
theorem BlockIs.apart {w : World} {g : Nat} {t : TypeId} {cs : List Value} (h : BlockIs w g t cs) {p : Addr} (hp : g ≠ p.block) (u : Value) : BlockIs (w.setCell p u) g t cs := (Below.heap_setCell w p u g hp).trans h
theorem BlockIs.grown {w w' : World} {g : Nat} {t : TypeId} {cs : List Value} {row : Option Nat} (h : BlockIs w g t cs) (hb : w.grownBy w' row) (hg : some g ≠ row) : BlockIs w' g t cs := (hb.block g h.inside hg).trans h
theorem isEmpty_pos (s : ByteArray) (h : 0 < s.size) : s.toList.isEmpty = false := by
  rw [Lib.toList_data]
  have h1 : s.data.toList.length = s.size := by simp
  cases h2 : s.data.toList with
  | nil => rw [h2] at h1; simp at h1; omega
  | cons a l => rfl
theorem isEmpty_zero (s : ByteArray) (h : s.size = 0) : s.toList.isEmpty = true := by
  rw [Lib.toList_data]
  have h1 : s.data.toList.length = s.size := by simp
  cases h2 : s.data.toList with
  | nil => rfl
  | cons a l => rw [h2, h] at h1; simp at h1
end Go.Proofs.YtajbpjojockgoaaGreatDoor
