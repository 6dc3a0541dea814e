/-
  frisketref02.Digits and frisketref07.Signed write a number in decimal, as strconv.Itoa does: every int (Digits: from 0 on).
-/
import Derived.Test.YtajbpjojockgoaaGreatDoorBase
import Derived.Laws.BytesArg
import Derived.Lib.ItoaNum
namespace Go.Proofs.YtajbpjojockgoaaGreatDoor
open Go.RowKit

def bar (l : List UInt8) : ByteArray := ⟨l.toArray⟩
theorem bar_data (l : List UInt8) : (bar l).data.toList = l := rfl
theorem bar_size (l : List UInt8) : (bar l).size = l.length := by simp [bar, ByteArray.size]
theorem bar_of (s : ByteArray) : bar s.data.toList = s := by
  apply ByteArray.ext; apply Array.toList_inj.1; rfl
theorem bar_app (a b : List UInt8) : bar a ++ bar b = bar (a ++ b) := by
  apply ByteArray.ext; apply Array.toList_inj.1
  rw [ByteArray.data_append]; simp [bar]
theorem byte_app (c : UInt8) (b : List UInt8) : ByteArray.mk #[c] ++ bar b = bar (c :: b) := bar_app [c] b
theorem one_byte (n : Int) (W : World) : (convert 72 9 (.slice (some ⟨W.heap.size, 0, none⟩) 1 1)).run Tryz.prog (W.alloc (.cells #[.int .u8 n] 5)) = .ok (.string ⟨#[UInt8.ofNat n.toNat]⟩) (W.alloc (.cells #[.int .u8 n] 5)) :=
  run_convert_bytes_arg (P := Tryz.prog) _ 72 5 Tryz.underlying72 Tryz.underlying5 W.heap.size 0 1 1 [n] rfl (fun i hi => by
    obtain rfl : i = 0 := by omega
    exact (BlockIs.fresh W 5 [.int .u8 n]).cellAt 0 _ rfl) 9 Tryz.underlying9

/-- What is still to be written in front, at n. -/
def frontD (n : Nat) : List UInt8 := if n < 10 then [] else Lib.decDigits (n / 10)
theorem dec_front (n : Nat) : Lib.decDigits n = frontD n ++ [UInt8.ofNat (48 + n % 10)] := by
  rw [Lib.decDigits]
  unfold frontD
  split
  · rw [show n % 10 = n by omega]; rfl
  · rfl
theorem frontD_big (n : Nat) (h : 9 < n) : frontD n = Lib.decDigits (n / 10) := by unfold frontD; rw [if_neg (by omega)]
theorem frontD_small (n : Nat) (h : n ≤ 9) : frontD n = [] := by unfold frontD; rw [if_pos (by omega)]
theorem dec_len (n : Nat) (h : n < 10 ^ 20) : (Lib.decDigits n).length ≤ 20 := by
  rw [Lib.decDigits_length]
  have hh : ∀ (k n : Nat), n < 10 ^ (k + 1) → Lib.nDigits n ≤ k + 1 := by
    intro k
    induction k with
    | zero => intro n h; rw [Lib.nDigits_small (by simpa using h)]; omega
    | succ k ih =>
      intro n h
      rw [Lib.nDigits]
      split
      · omega
      · exact Nat.succ_le_succ (ih (n / 10) (by rw [Nat.pow_succ] at h; omega))
  exact hh 19 n h
def DigInv (N n : Nat) (s : List UInt8) : Prop := Lib.decDigits N = Lib.decDigits n ++ s ∧ s.length ≤ 30 ∧ n ≤ N
theorem byteS (n : Nat) : (48 : UInt8) + UInt8.ofNat n = UInt8.ofNat (48 + n) := by simp

set_option maxRecDepth 100000 in
set_option maxHeartbeats 1000000 in
theorem digits_any (N : Nat) (w : World) (hN : N ≤ 9223372036854775807) :
    Calls Tryz.prog 29 #[.int .i64 N] w fun e w' => e = .returned (.string (bar (Lib.decDigits N))) ∧ Below w.heap.size w w' := by
  have cv := one_byte
  go_enter Tryz.func29, Tryz.ntmps29
  go_wp2
  go_loopw [0, 3] (fun v t wr => ∃ (n : Nat) (s : List UInt8), v = .int .i64 n ∧ t = .string (bar s) ∧ DigInv N n s ∧ Below w.heap.size w wr) (fun v _ _ => (intOf v).toNat)
  case atStart =>
    exact ⟨N, [], rfl, rfl, ⟨by simp, by simp, Nat.le_refl _⟩, by go_grown⟩
  case round =>
    obtain ⟨n, s, rfl, rfl, hinv, hbel⟩ := hrel
    have hle := hinv.2.2
    have hsl : (bar s).size ≤ 30 := by rw [bar_size]; exact hinv.2.1
    have HI := Lib.hid hinv
    clear hinv
    have hz := hbel.size
    by_cases hlt : 9 < n
    · have hc1 : (0 : Int) ≤ (n : Int) % 10 ∧ (n : Int) % 10 ≤ 9 := by omega
      obtain ⟨hc1, hc2⟩ := hc1
      go_wp2
      go_roundw
      case rel =>
        have h := HI.out
        have e1 : (n : Int) / 10 = ((n / 10 : Nat) : Int) := by omega
        refine ⟨n / 10, UInt8.ofNat (48 + n % 10) :: s, by rw [e1], ?_, ⟨?_, ?_, by omega⟩, by go_grown⟩
        · rw [byteS, byte_app]
        · rw [h.1, dec_front n, frontD_big n hlt]; simp
        · have h2 : (Lib.decDigits n ++ s).length ≤ 20 := by rw [← h.1]; exact dec_len N (by omega)
          rw [dec_front, frontD_big n hlt] at h2
          have h3 : 0 < (Lib.decDigits (n / 10)).length := by rw [dec_front]; simp
          simp at h2 ⊢; omega
      case measure => simp [intOf]; omega
    · go_wp2
      go_ret
      have h := HI.out.1
      rw [dec_front n, frontD_small n (by omega), show n % 10 = n by omega] at h
      exact ⟨by rw [h]; show Ending.returned (Value.string (ByteArray.mk #[48 + UInt8.ofNat n] ++ bar s)) = _; rw [byteS, byte_app]; rfl, by go_grown⟩
end Go.Proofs.YtajbpjojockgoaaGreatDoor
