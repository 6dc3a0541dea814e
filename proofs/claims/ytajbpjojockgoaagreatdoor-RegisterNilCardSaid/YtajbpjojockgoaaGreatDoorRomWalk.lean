/-
  register.letters, register.roman: what they compute.
-/
import Derived.Test.YtajbpjojockgoaaGreatDoorLetPlain
import Derived.Deep.RegionLaw
namespace Go.Proofs.YtajbpjojockgoaaGreatDoor
open Go.RowKit

theorem rune_byte (n : Nat) (h : n < 128) : Utf8.encode (n : Int) = bar [UInt8.ofNat n] := by
  have hv : Utf8.valid (n : Int) = true := by unfold Utf8.valid; simp; omega
  unfold Utf8.encode
  simp [hv, h, bar]
theorem rune_let (n : Nat) (h : 0 < n) : Utf8.encode (97 + ((n : Int) - 1) % 26) = bar [UInt8.ofNat (97 + (n - 1) % 26)] := by
  rw [← rune_byte _ (by omega)]; congr 1; omega

def LetInv (N n : Nat) (s : List UInt8) : Prop := letL N = letL n ++ s ∧ s.length ≤ 60 ∧ n ≤ N
set_option maxRecDepth 100000 in
set_option maxHeartbeats 1000000 in
theorem letters_any (N : Nat) (w : World) (hN : N ≤ 1000000000) :
    Calls Tryz.prog 66 #[.int .i64 N] w fun e w' => e = .returned (.string (bar (letL N))) ∧ Below w.heap.size w w' := by
  go_enter Tryz.func66, Tryz.ntmps66
  go_wp2
  go_loopw [0, 3] (fun v t wr => ∃ (n : Nat) (s : List UInt8), v = .int .i64 n ∧ t = .string (bar s) ∧ LetInv N n s ∧ Below w.heap.size w wr) (fun v _ _ => (intOf v).toNat)
  case atStart => exact ⟨N, [], rfl, rfl, ⟨by simp, by simp, Nat.le_refl _⟩, by go_grown⟩
  case round =>
    obtain ⟨n, s, rfl, rfl, hinv, hbel⟩ := hrel
    have hle := hinv.2.2
    have hsl : (bar s).size ≤ 60 := by rw [bar_size]; exact hinv.2.1
    have HI := Lib.hid hinv
    clear hinv
    by_cases hlt : 0 < n
    · have h1 : (0 : Int) ≤ ((n : Int) - 1) % 26 ∧ ((n : Int) - 1) % 26 < 26 := by omega
      obtain ⟨h1, h2⟩ := h1
      have hr := rune_let n hlt
      obtain ⟨c, hc⟩ : ∃ c, c = UInt8.ofNat (97 + (n - 1) % 26) := ⟨_, rfl⟩
      rw [← hc] at hr
      have hr1 : (bar [c]).size = 1 := bar_size _
      have HC := Lib.hid hc
      clear hc
      go_wp2
      go_roundw
      case rel =>
        have h := HI.out
        refine ⟨(n - 1) / 26, c :: s, ?_, ?_, ⟨?_, ?_, by omega⟩, by go_grown⟩
        · congr 1; omega
        · rw [bar_app]; rfl
        · rw [h.1, letL_pos n hlt, ← HC.out]; simp
        · have h2 : (letL n ++ s).length ≤ 30 := by rw [← h.1]; exact letL_len 30 N (by omega)
          rw [letL_pos n hlt] at h2
          simp at h2 ⊢; omega
      case measure => simp [intOf]; omega
    · go_wp2
      go_ret
      have h := HI.out.1
      rw [show n = 0 by omega, letL_zero] at h
      exact ⟨by rw [h]; rfl, by go_grown⟩
end Go.Proofs.YtajbpjojockgoaaGreatDoor
