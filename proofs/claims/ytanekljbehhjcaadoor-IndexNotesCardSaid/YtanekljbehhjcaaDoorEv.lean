/-
  Rounds: small laws for the printed functions. No condition.
-/
import Derived.Test.YtanekljbehhjcaaDoorWWords
import Derived.Laws.BytesArg
import Derived.Lib.ItoaNum
import Derived.Lib.Strings
import Derived.IntWalk
namespace Go.Proofs.YtanekljbehhjcaaDoor
open Go.RowKit Go.Proofs.YtanekljbehhjcaaDoorW.PrintWords

theorem w64 {x : Int} (a : -9223372036854775808 ≤ x) (b : x ≤ 9223372036854775807) : wrap64 x = x := IntWalk.wrap64_in x ⟨a, b⟩
theorem evPos {α : Type} {c : Prop} [Decidable c] {a b : Nat → Option α} {r : α} (h : c) (k : Ev a r) : Ev (fun n => if c then a n else b n) r := by
  simp only [if_pos h]; exact k
theorem evNeg {α : Type} {c : Prop} [Decidable c] {a b : Nat → Option α} {r : α} (h : ¬ c) (k : Ev b r) : Ev (fun n => if c then a n else b n) r := by
  simp only [if_neg h]; exact k
theorem evLet {α β : Type} {x : α} {f : Nat → α → Option β} {r : β} (k : Ev (fun n => f n x) r) : Ev (fun n => (some x).bind (f n)) r := k
theorem evUse {α β : Type} {x : Option α} {y : α} {f : Nat → α → Option β} {r : β} (h : x = some y) (k : Ev (fun n => f n y) r) : Ev (fun n => x.bind (f n)) r := by
  subst h; exact k
theorem evOf {α : Type} {x : Option α} {r : α} (h : x = some r) : Ev (fun _ => x) r := by subst h; exact Ev.now r
theorem evEq {α : Type} {g : Nat → Option α} {r r' : α} (h : r = r') (k : Ev g r) : Ev g r' := h ▸ k

def bar (l : List UInt8) : ByteArray := ⟨l.toArray⟩
theorem bar_data (l : List UInt8) : (bar l).data.toList = l := rfl
theorem bar_size (l : List UInt8) : (bar l).size = l.length := by simp [bar, ByteArray.size]
theorem bar_of (s : ByteArray) : bar s.data.toList = s := by
  apply ByteArray.ext; apply Array.toList_inj.1; rfl
theorem bar_app (a b : List UInt8) : bar a ++ bar b = bar (a ++ b) := by
  apply ByteArray.ext; apply Array.toList_inj.1
  rw [ByteArray.data_append]; simp [bar]
theorem bar_toList (l : List UInt8) : (bar l).toList = l := by rw [Lib.toList_data]; rfl
theorem bar_inj {a b : List UInt8} (h : bar a = bar b) : a = b := by rw [← bar_data a, h, bar_data]
theorem bar_nil : (⟨#[]⟩ : ByteArray) = bar [] := rfl
theorem bar_extract (l : List UInt8) (a b : Nat) : (bar l).extract a b = bar ((l.take b).drop a) := by
  apply ByteArray.ext; apply Array.toList_inj.1
  rw [ByteArray.data_extract]
  simp [bar, List.drop_take]
theorem bt_bar (l : List UInt8) (i : Int) (h : i.toNat < l.length) : bt (bar l) i = (l[i.toNat].toNat : Int) := by
  unfold bt
  rw [dif_pos (by rw [bar_size]; exact h)]
  rfl
theorem bar_rec (s : ByteArray) : ∃ l, s = bar l := ⟨s.data.toList, (bar_of s).symm⟩
theorem bt_bar' (l : List UInt8) (i : Nat) (h : i < l.length) : bt (bar l) (i : Int) = (l[i].toNat : Int) := bt_bar l i (by simpa using h)
theorem strOf_one (n : Int) : strOfNums [n] = bar [UInt8.ofNat n.toNat] := rfl
theorem rd_nat (l : List Int) (i : Nat) : rd l (i : Int) = l.getD i 0 := rfl
theorem rdOf_nat {α : Type} (d : α) (l : List α) (i : Nat) : rdOf d l (i : Int) = l.getD i d := rfl
end Go.Proofs.YtanekljbehhjcaaDoor
