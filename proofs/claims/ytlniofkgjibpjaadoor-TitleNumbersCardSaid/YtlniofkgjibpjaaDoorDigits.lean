/-
  frisketref01.Digits and frisketref07.Signed write a number in decimal, as strconv.Itoa does: every int (Digits: from 0 on).
-/
import Derived.Test.YtlniofkgjibpjaaDoorBase
import Derived.Laws.BytesArg
import Derived.Lib.ItoaNum
namespace Go.Proofs.YtlniofkgjibpjaaDoor
open Go.RowKit

def bar (l : List UInt8) : ByteArray := ⟨l.toArray⟩
theorem bar_data (l : List UInt8) : (bar l).data.toList = l := rfl
theorem bar_size (l : List UInt8) : (bar l).size = l.length := by simp [bar, ByteArray.size]
theorem bar_of (s : ByteArray) : bar s.data.toList = s := by
  apply ByteArray.ext; apply Array.toList_inj.1; rfl
theorem bar_app (a b : List UInt8) : bar a ++ bar b = bar (a ++ b) := by
  apply ByteArray.ext; apply Array.toList_inj.1
  rw [ByteArray.data_append]; simp [bar]
theorem byte_app (c : UInt8) (b : List UInt8) : ByteArray.mk #[c] ++ bar b = bar (c :: b) := bar_app [c] b
theorem one_byte (n : Int) (W : World) : (convert 47 9 (.slice (some ⟨W.heap.size, 0, none⟩) 1 1)).run Tryd.prog (W.alloc (.cells #[.int .u8 n] 5)) = .ok (.string ⟨#[UInt8.ofNat n.toNat]⟩) (W.alloc (.cells #[.int .u8 n] 5)) :=
  run_convert_bytes_arg (P := Tryd.prog) _ 47 5 Tryd.underlying47 Tryd.underlying5 W.heap.size 0 1 1 [n] rfl (fun i hi => by
    obtain rfl : i = 0 := by omega
    exact (BlockIs.fresh W 5 [.int .u8 n]).cellAt 0 _ rfl) 9 Tryd.underlying9

/-- What is still to be written in front, at n. -/
def frontD (n : Nat) : List UInt8 := if n < 10 then [] else Lib.decDigits (n / 10)
theorem dec_front (n : Nat) : Lib.decDigits n = frontD n ++ [UInt8.ofNat (48 + n % 10)] := by
  rw [Lib.decDigits]
  unfold frontD
  split
  · rw [show n % 10 = n by omega]; rfl
  · rfl
theorem frontD_big (n : Nat) (h : 9 < n) : frontD n = Lib.decDigits (n / 10) := by unfold frontD; rw [if_neg (by omega)]
theorem frontD_small (n : Nat) (h : n ≤ 9) : frontD n = [] := by unfold frontD; rw [if_pos (by omega)]
theorem dec_len (n : Nat) (h : n < 10 ^ 20) : (Lib.decDigits n).length ≤ 20 := by
  rw [Lib.decDigits_length]
  have hh : ∀ (k n : Nat), n < 10 ^ (k + 1) → Lib.nDigits n ≤ k + 1 := by
    intro k
    induction k with
    | zero => intro n h; rw [Lib.nDigits_small (by simpa using h)]; omega
    | succ k ih =>
      intro n h
      rw [Lib.nDigits]
      split
      · omega
      · exact Nat.succ_le_succ (ih (n / 10) (by rw [Nat.pow_succ] at h; omega))
  exact hh 19 n h
def DigInv (N n : Nat) (s : List UInt8) : Prop := Lib.decDigits N = frontD n ++ s ∧ s.length ≤ 30 ∧ n ≤ N
theorem byteS (n : Nat) : (48 : UInt8) + UInt8.ofNat n = UInt8.ofNat (48 + n) := by simp

set_option maxRecDepth 100000 in
set_option maxHeartbeats 1000000 in
theorem digits_any (N : Nat) (w : World) (hN : N ≤ 9223372036854775807) :
    Calls Tryd.prog 38 #[.int .i64 N] w fun e w' => e = .returned (.string (bar (Lib.decDigits N))) ∧ Below w.heap.size w w' := by
  have cv := one_byte
  have hb10 : (0 : Int) ≤ (N : Int) % 10 ∧ (N : Int) % 10 ≤ 9 := by omega
  obtain ⟨hb1, hb2⟩ := hb10
  go_enter Tryd.func38, Tryd.ntmps38
  go_wp2
  go_loopw [0, 3] (fun v t wr => ∃ (n : Nat) (s : List UInt8), v = .int .i64 n ∧ t = .string (bar s) ∧ DigInv N n s ∧ Below w.heap.size w wr) (fun v _ _ => (intOf v).toNat)
  case atStart =>
    refine ⟨N, [UInt8.ofNat (48 + N % 10)], rfl, ?_, ⟨dec_front N, by simp, Nat.le_refl _⟩, by go_grown⟩
    rfl
  case round =>
    obtain ⟨n, s, rfl, rfl, hinv, hbel⟩ := hrel
    have hle := hinv.2.2
    have hsl : (bar s).size ≤ 30 := by rw [bar_size]; exact hinv.2.1
    have HI := Lib.hid hinv
    clear hinv
    have hz := hbel.size
    by_cases hlt : 9 < n
    · have hc1 : (0 : Int) ≤ (n : Int) / 10 % 10 ∧ (n : Int) / 10 % 10 ≤ 9 := by omega
      obtain ⟨hc1, hc2⟩ := hc1
      go_wp2
      go_roundw
      case rel =>
        have h := HI.out
        have e1 : (n : Int) / 10 = ((n / 10 : Nat) : Int) := by omega
        refine ⟨n / 10, UInt8.ofNat (48 + n / 10 % 10) :: s, by rw [e1], ?_, ⟨?_, ?_, by omega⟩, by go_grown⟩
        · rw [byteS, byte_app]
        · rw [h.1, frontD_big n hlt, dec_front (n / 10)]; simp
        · have h2 : (frontD n ++ s).length ≤ 20 := by rw [← h.1]; exact dec_len N (by omega)
          rw [frontD_big n hlt] at h2
          have h3 : 0 < (Lib.decDigits (n / 10)).length := by rw [dec_front]; simp
          simp at h2 ⊢; omega
      case measure => simp [intOf]; omega
    · go_wp2
      go_ret
      exact ⟨by rw [HI.out.1, frontD_small n (by omega)]; rfl, hbel⟩

def NegInv (M m : Nat) (s : List UInt8) : Prop := (m = 0 ∧ s = Lib.decDigits M ∧ 0 < M) ∨ (0 < m ∧ Lib.decDigits M = Lib.decDigits m ++ s)
theorem neg_len {M m : Nat} {s : List UInt8} (h : NegInv M m s) (hM : M < 10 ^ 20) : s.length ≤ 20 := by
  have h1 := dec_len M hM
  rcases h with ⟨_, rfl, _⟩ | ⟨_, h⟩
  · exact h1
  · rw [h] at h1; simp at h1; omega
theorem neg_step {M m : Nat} {s : List UInt8} (h : NegInv M m s) (hm : 0 < m) : NegInv M (m / 10) (UInt8.ofNat (48 + m % 10) :: s) := by
  rcases h with ⟨h, _⟩ | ⟨_, h⟩
  · omega
  · rw [dec_front m] at h
    by_cases h9 : 9 < m
    · rw [frontD_big m h9] at h
      exact .inr ⟨by omega, by rw [h]; simp⟩
    · rw [frontD_small m (by omega)] at h
      refine .inl ⟨by omega, by rw [h]; simp, ?_⟩
      rcases Nat.eq_zero_or_pos M with h0 | h0
      · subst h0
        exfalso
        have := congrArg (fun l : List UInt8 => l.head?) h
        rw [Lib.decDigits_one (by omega)] at this
        simp at this
        have h2 := congrArg UInt8.toNat this
        simp at h2
        omega
      · exact h0
theorem tmod_neg (m : Nat) : (-(m : Int)).tmod 10 = -((m : Int) % 10) := by
  rw [Int.neg_tmod, Int.tmod_eq_emod_of_nonneg (by omega)]
theorem tdiv_neg (m : Nat) : (-(m : Int)).tdiv 10 = -((m / 10 : Nat) : Int) := by
  rw [Int.neg_tdiv, Int.tdiv_eq_ediv_of_nonneg (by omega)]; omega

set_option maxRecDepth 100000 in
set_option maxHeartbeats 1000000 in
theorem signed_pos (N : Nat) (w : World) (hN : N ≤ 9223372036854775807) :
    Calls Tryd.prog 31 #[.int .i64 N] w fun e w' => e = .returned (.string (bar (Lib.decDigits N))) ∧ Below w.heap.size w w' := by
  go_enter Tryd.func31, Tryd.ntmps31
  go_wp2_with (go_at_call 38; refine (digits_any N _ hN).mono ?_; rintro e w1 ⟨rfl, hb⟩)
  go_ret
  exact ⟨rfl, hb⟩
set_option maxRecDepth 100000 in
set_option maxHeartbeats 1000000 in
theorem signed_neg (M : Nat) (w : World) (h0 : 0 < M) (hM : M ≤ 9223372036854775808) :
    Calls Tryd.prog 31 #[.int .i64 (-(M : Int))] w fun e w' => e = .returned (.string (bar (45 :: Lib.decDigits M))) ∧ Below w.heap.size w w' := by
  have cv := one_byte
  have hneg : ¬ (0 : Int) ≤ -(M : Int) := by omega
  go_enter Tryd.func31, Tryd.ntmps31
  go_wp2
  go_loopw [0, 3] (fun v t wr => ∃ (m : Nat) (s : List UInt8), v = .int .i64 (-(m : Int)) ∧ t = .string (bar s) ∧ m ≤ M ∧ NegInv M m s ∧ Below w.heap.size w wr) (fun v _ _ => (-(intOf v)).toNat)
  case atStart => exact ⟨M, [], rfl, rfl, Nat.le_refl _, .inr ⟨h0, by simp⟩, Below.refl _ _⟩
  case round =>
    obtain ⟨m, s, rfl, rfl, hmM, hinv, hbel⟩ := hrel
    have hsl : (bar s).size ≤ 20 := by rw [bar_size]; exact neg_len hinv (by omega)
    have HI := Lib.hid hinv
    clear hinv
    have hz := hbel.size
    by_cases hlt : 0 < m
    · have t1 := tmod_neg m
      have t2 := tdiv_neg m
      have hc1 : (0 : Int) ≤ (m : Int) % 10 ∧ (m : Int) % 10 ≤ 9 := by omega
      obtain ⟨hc1, hc2⟩ := hc1
      have ht : -(m : Int) < 0 := by omega
      go_wp2
      go_roundw
      case rel =>
        refine ⟨m / 10, UInt8.ofNat (48 + m % 10) :: s, rfl, ?_, by omega, neg_step HI.out hlt, by go_grown⟩
        rw [byteS, byte_app]
      case measure => simp [intOf]; omega
    · obtain rfl : m = 0 := by omega
      go_wp2
      go_ret
      refine ⟨?_, hbel⟩
      rcases HI.out with ⟨_, h, _⟩ | ⟨h, _⟩
      · rw [h]; show _ = Ending.returned (.string (bar ([45] ++ Lib.decDigits M))); rw [← bar_app]; rfl
      · omega
theorem signed_any (n : Int) (w : World) (h1 : -9223372036854775808 ≤ n) (h2 : n ≤ 9223372036854775807) :
    Calls Tryd.prog 31 #[.int .i64 n] w fun e w' => e = .returned (.string (bar (Lib.itoa n))) ∧ Below w.heap.size w w' := by
  unfold Lib.itoa
  by_cases h : n < 0
  · rw [if_pos h]
    have e : n = -((n.natAbs : Nat) : Int) := by omega
    have c := signed_neg n.natAbs w (by omega) (by omega)
    rw [← e] at c
    exact c
  · rw [if_neg h]
    have e : n = ((n.toNat : Nat) : Int) := by omega
    have c := signed_pos n.toNat w (by omega)
    rw [← e] at c
    exact c
theorem itoa_len (n : Int) (h1 : -9223372036854775808 ≤ n) (h2 : n ≤ 9223372036854775807) : (Lib.itoa n).length ≤ 21 := by
  unfold Lib.itoa
  split
  · have := dec_len n.natAbs (by omega); simp; omega
  · have := dec_len n.toNat (by omega); omega
end Go.Proofs.YtlniofkgjibpjaaDoor
