/-
  register.roman: what it computes.
-/
import Derived.Test.YtajbpjojockgoaaGreatDoorRomWalk
namespace Go.Proofs.YtajbpjojockgoaaGreatDoor
open Go.RowKit

theorem repeat_one (b : UInt8) (d : Nat) : Lib.repeatL [b] d = List.replicate d b := by
  induction d with
  | zero => rfl
  | succ k ih => rw [Lib.repeatL, ih]; rfl
theorem repeat_any (b : UInt8) (d : Nat) (w : World) (h : d ≤ 1000000) :
    Calls Tryz.prog 67 #[.string (bar [b]), .int .i64 d] w fun e w' => e = .returned (.string (bar (List.replicate d b))) ∧ Below w.heap.size w w' := by
  refine (Tryz.strings_Repeat (bar [b]) d w (by omega) (by rw [bar_size]; simp; omega)).mono ?_
  rintro e w1 ⟨rfl, hb⟩
  exact ⟨by rw [bar_data, repeat_one]; rfl, hb⟩
/-- What is written before round i. -/
def romPre (n : Nat) : Nat → List UInt8
  | 0 => romM n
  | 1 => romM n ++ romC n
  | 2 => romM n ++ romC n ++ romX n
  | _ => romL n
def romPow : Nat → Int
  | 0 => 100
  | 1 => 10
  | 2 => 1
  | _ => 0
theorem romPre_len (n i : Nat) (h : n < 40000) : (romPre n i).length ≤ 60 := by
  have h1 := romL_len n h
  unfold romL romR at h1
  simp at h1
  unfold romPre
  split
  · omega
  · simp; omega
  · simp; omega
  · have := romL_len n h; omega

theorem belowN {B : Nat} {w w' : World} (h : Below B w w') : ∀ n, Below B w (w'.drewN n)
  | 0 => h
  | n + 1 => (belowN h n).drew
theorem belowThen {w w' w'' : World} (h : Below w.heap.size w w') (h' : Below w'.heap.size w' w'') : Below w.heap.size w w'' := h.trans (h'.mono h.size)
theorem small_at (i j : Nat) : (ByteArray.mk #[109, 100, 99, 108, 120, 118, 105]).extract i j = bar (([109, 100, 99, 108, 120, 118, 105] : List UInt8).extract i j) := by
  apply ByteArray.ext; apply Array.toList_inj.1
  simp [bar]
theorem dig_nine (a b c : UInt8) : dig a b c 9 = [a, c] := rfl
theorem dig_four (a b c : UInt8) : dig a b c 4 = [a, b] := rfl
theorem dig_mid (a b c : UInt8) (d : Nat) (h : 5 ≤ d) (h9 : d < 9) : dig a b c d = b :: List.replicate (d - 5) a := by unfold dig; rw [if_neg (by omega), if_pos h]
theorem dig_low (a b c : UInt8) (d : Nat) (h : d < 4) : dig a b c d = List.replicate d a := by unfold dig; rw [if_neg (by omega), if_neg (by omega), if_neg (by omega)]

set_option maxRecDepth 100000 in
set_option maxHeartbeats 2000000 in
theorem roman_any (N : Nat) (w : World) (hN : N < 40000) :
    Calls Tryz.prog 65 #[.int .i64 N] w fun e w' => e = .returned (.string (bar (romL N))) ∧ Below w.heap.size w w' := by
  have hrep : ∀ (b : UInt8) (d : Nat) (w : World) (h : d ≤ 1000000), Calls Tryz.prog 67 #[.string ⟨#[b]⟩, .int .i64 d] w fun e w' => e = .returned (.string (bar (List.replicate d b))) ∧ Below w.heap.size w w' := repeat_any
  have e0 := Lib.hid (show (N : Int) / 1000 = ((N / 1000 : Nat) : Int) by omega)
  go_enter Tryz.func65, Tryz.ntmps65
  go_wp2_with (go_at_call 67; rw [e0.out]; refine (hrep _ (N / 1000) _ (by omega)).mono ?_; rintro e w1 ⟨rfl, hb⟩)
  go_loopw [3, 4, 5] (fun s p q wr => ∃ i, i ≤ 3 ∧ s = .string (bar (romPre N i)) ∧ p = .int .i64 ((2 * i : Nat) : Int) ∧ q = .int .i64 (romPow i) ∧ Below w.heap.size w wr) (fun _ _ q _ => (intOf q).toNat)
  case atStart => exact ⟨0, by omega, rfl, rfl, rfl, by go_grown⟩
  case round =>
    obtain ⟨i, hi, rfl, rfl, rfl, hbel⟩ := hrel
    have hsl : (bar (romPre N i)).size ≤ 60 := by rw [bar_size]; exact romPre_len N i hN
    obtain rfl | rfl | rfl | rfl : i = 0 ∨ i = 1 ∨ i = 2 ∨ i = 3 := by omega
    · have x1 : (ByteArray.mk #[109, 100, 99, 108, 120, 118, 105]).extract 2 3 = bar [99] := small_at _ _
      have x2 : (ByteArray.mk #[109, 100, 99, 108, 120, 118, 105]).extract 1 2 = bar [100] := small_at _ _
      have x3 : (ByteArray.mk #[109, 100, 99, 108, 120, 118, 105]).extract 0 1 = bar [109] := small_at _ _
      have z1 : (bar [99]).size = 1 := bar_size _
      have z2 : (bar [100]).size = 1 := bar_size _
      have z3 : (bar [109]).size = 1 := bar_size _
      simp only [romPow]
      go_wp2
      go_quiet (fail)
      clear x1 x2 x3
      obtain ⟨d, hd, hd9, hdn⟩ : ∃ d : Nat, (N : Int) / 100 % 10 = (d : Int) ∧ d ≤ 9 ∧ d = N / 100 % 10 := ⟨N / 100 % 10, by omega, by omega, rfl⟩
      have HD := Lib.hid hdn
      clear hdn
      have hpre : ∀ l, dig 99 100 109 d = l → romPre N 1 = romPre N 0 ++ l := by
        intro l hl
        rw [← hl, HD.out]
        rfl
      have e5 := Lib.hid (show 5 ≤ d → (d : Int) - 5 = ((d - 5 : Nat) : Int) by omega)
      obtain h | ⟨h, h'⟩ | h | h : d = 9 ∨ (5 ≤ d ∧ d < 9) ∨ d = 4 ∨ d < 4 := by omega
      · subst h
        have y1 : (bar [99] ++ bar [109]).size = 2 := by rw [bar_app, bar_size]; rfl
        go_wp2
        go_roundw
        case rel => exact ⟨1, by omega, by rw [hpre _ (dig_nine _ _ _), ← bar_app]; rfl, rfl, rfl, belowN hbel nq⟩
        case measure => simp [intOf]
      · have y1 : (bar [100] ++ bar (List.replicate (d - 5) 99)).size ≤ 5 := by rw [bar_app, bar_size]; simp; omega
        have y2 : (bar (List.replicate (d - 5) 99)).size ≤ 5 := by rw [bar_size]; simp; omega
        go_wp2_with (go_at_call 67; rw [e5.out h]; refine (repeat_any _ (d - 5) _ (by omega)).mono ?_; rintro e w1 ⟨rfl, hb⟩)
        go_roundw
        case rel => exact ⟨1, by omega, by rw [hpre _ (dig_mid _ _ _ d h h'), ← bar_app, bar_app [_] (List.replicate _ _)]; rfl, rfl, rfl, belowThen (belowN hbel nq) hb⟩
        case measure => simp [intOf]
      · subst h
        have y1 : (bar [99] ++ bar [100]).size = 2 := by rw [bar_app, bar_size]; rfl
        go_wp2
        go_roundw
        case rel => exact ⟨1, by omega, by rw [hpre _ (dig_four _ _ _), ← bar_app]; rfl, rfl, rfl, belowN hbel nq⟩
        case measure => simp [intOf]
      · have y2 : (bar (List.replicate d 99)).size ≤ 5 := by rw [bar_size]; simp; omega
        go_wp2_with (go_at_call 67; refine (repeat_any _ d _ (by omega)).mono ?_; rintro e w1 ⟨rfl, hb⟩)
        go_roundw
        case rel => exact ⟨1, by omega, by rw [hpre _ (dig_low _ _ _ d h), ← bar_app], rfl, rfl, belowThen (belowN hbel nq) hb⟩
        case measure => simp [intOf]
    · have x1 : (ByteArray.mk #[109, 100, 99, 108, 120, 118, 105]).extract 4 5 = bar [120] := small_at _ _
      have x2 : (ByteArray.mk #[109, 100, 99, 108, 120, 118, 105]).extract 3 4 = bar [108] := small_at _ _
      have x3 : (ByteArray.mk #[109, 100, 99, 108, 120, 118, 105]).extract 2 3 = bar [99] := small_at _ _
      have z1 : (bar [120]).size = 1 := bar_size _
      have z2 : (bar [108]).size = 1 := bar_size _
      have z3 : (bar [99]).size = 1 := bar_size _
      simp only [romPow]
      go_wp2
      go_quiet (fail)
      clear x1 x2 x3
      obtain ⟨d, hd, hd9, hdn⟩ : ∃ d : Nat, (N : Int) / 10 % 10 = (d : Int) ∧ d ≤ 9 ∧ d = N / 10 % 10 := ⟨N / 10 % 10, by omega, by omega, rfl⟩
      have HD := Lib.hid hdn
      clear hdn
      have hpre : ∀ l, dig 120 108 99 d = l → romPre N 2 = romPre N 1 ++ l := by
        intro l hl
        rw [← hl, HD.out]
        rfl
      have e5 := Lib.hid (show 5 ≤ d → (d : Int) - 5 = ((d - 5 : Nat) : Int) by omega)
      obtain h | ⟨h, h'⟩ | h | h : d = 9 ∨ (5 ≤ d ∧ d < 9) ∨ d = 4 ∨ d < 4 := by omega
      · subst h
        have y1 : (bar [120] ++ bar [99]).size = 2 := by rw [bar_app, bar_size]; rfl
        go_wp2
        go_roundw
        case rel => exact ⟨2, by omega, by rw [hpre _ (dig_nine _ _ _), ← bar_app]; rfl, rfl, rfl, belowN hbel nq⟩
        case measure => simp [intOf]
      · have y1 : (bar [108] ++ bar (List.replicate (d - 5) 120)).size ≤ 5 := by rw [bar_app, bar_size]; simp; omega
        have y2 : (bar (List.replicate (d - 5) 120)).size ≤ 5 := by rw [bar_size]; simp; omega
        go_wp2_with (go_at_call 67; rw [e5.out h]; refine (repeat_any _ (d - 5) _ (by omega)).mono ?_; rintro e w1 ⟨rfl, hb⟩)
        go_roundw
        case rel => exact ⟨2, by omega, by rw [hpre _ (dig_mid _ _ _ d h h'), ← bar_app, bar_app [_] (List.replicate _ _)]; rfl, rfl, rfl, belowThen (belowN hbel nq) hb⟩
        case measure => simp [intOf]
      · subst h
        have y1 : (bar [120] ++ bar [108]).size = 2 := by rw [bar_app, bar_size]; rfl
        go_wp2
        go_roundw
        case rel => exact ⟨2, by omega, by rw [hpre _ (dig_four _ _ _), ← bar_app]; rfl, rfl, rfl, belowN hbel nq⟩
        case measure => simp [intOf]
      · have y2 : (bar (List.replicate d 120)).size ≤ 5 := by rw [bar_size]; simp; omega
        go_wp2_with (go_at_call 67; refine (repeat_any _ d _ (by omega)).mono ?_; rintro e w1 ⟨rfl, hb⟩)
        go_roundw
        case rel => exact ⟨2, by omega, by rw [hpre _ (dig_low _ _ _ d h), ← bar_app], rfl, rfl, belowThen (belowN hbel nq) hb⟩
        case measure => simp [intOf]
    · have x1 : (ByteArray.mk #[109, 100, 99, 108, 120, 118, 105]).extract 6 7 = bar [105] := small_at _ _
      have x2 : (ByteArray.mk #[109, 100, 99, 108, 120, 118, 105]).extract 5 6 = bar [118] := small_at _ _
      have x3 : (ByteArray.mk #[109, 100, 99, 108, 120, 118, 105]).extract 4 5 = bar [120] := small_at _ _
      have z1 : (bar [105]).size = 1 := bar_size _
      have z2 : (bar [118]).size = 1 := bar_size _
      have z3 : (bar [120]).size = 1 := bar_size _
      simp only [romPow]
      go_wp2
      go_quiet (fail)
      clear x1 x2 x3
      obtain ⟨d, hd, hd9, hdn⟩ : ∃ d : Nat, (N : Int) % 10 = (d : Int) ∧ d ≤ 9 ∧ d = N % 10 := ⟨N % 10, by omega, by omega, rfl⟩
      have HD := Lib.hid hdn
      clear hdn
      have hpre : ∀ l, dig 105 118 120 d = l → romPre N 3 = romPre N 2 ++ l := by
        intro l hl
        rw [← hl, HD.out]
        show romM N ++ (romC N ++ (romX N ++ romI N)) = romM N ++ romC N ++ romX N ++ romI N
        simp
      have e5 := Lib.hid (show 5 ≤ d → (d : Int) - 5 = ((d - 5 : Nat) : Int) by omega)
      obtain h | ⟨h, h'⟩ | h | h : d = 9 ∨ (5 ≤ d ∧ d < 9) ∨ d = 4 ∨ d < 4 := by omega
      · subst h
        have y1 : (bar [105] ++ bar [120]).size = 2 := by rw [bar_app, bar_size]; rfl
        go_wp2
        go_roundw
        case rel => exact ⟨3, by omega, by rw [hpre _ (dig_nine _ _ _), ← bar_app]; rfl, rfl, rfl, belowN hbel nq⟩
        case measure => simp [intOf]
      · have y1 : (bar [118] ++ bar (List.replicate (d - 5) 105)).size ≤ 5 := by rw [bar_app, bar_size]; simp; omega
        have y2 : (bar (List.replicate (d - 5) 105)).size ≤ 5 := by rw [bar_size]; simp; omega
        go_wp2_with (go_at_call 67; rw [e5.out h]; refine (repeat_any _ (d - 5) _ (by omega)).mono ?_; rintro e w1 ⟨rfl, hb⟩)
        go_roundw
        case rel => exact ⟨3, by omega, by rw [hpre _ (dig_mid _ _ _ d h h'), ← bar_app, bar_app [_] (List.replicate _ _)]; rfl, rfl, rfl, belowThen (belowN hbel nq) hb⟩
        case measure => simp [intOf]
      · subst h
        have y1 : (bar [105] ++ bar [118]).size = 2 := by rw [bar_app, bar_size]; rfl
        go_wp2
        go_roundw
        case rel => exact ⟨3, by omega, by rw [hpre _ (dig_four _ _ _), ← bar_app]; rfl, rfl, rfl, belowN hbel nq⟩
        case measure => simp [intOf]
      · have y2 : (bar (List.replicate d 105)).size ≤ 5 := by rw [bar_size]; simp; omega
        go_wp2_with (go_at_call 67; refine (repeat_any _ d _ (by omega)).mono ?_; rintro e w1 ⟨rfl, hb⟩)
        go_roundw
        case rel => exact ⟨3, by omega, by rw [hpre _ (dig_low _ _ _ d h), ← bar_app], rfl, rfl, belowThen (belowN hbel nq) hb⟩
        case measure => simp [intOf]
    · simp only [romPow]
      go_wp2
      go_ret
      exact ⟨rfl, by go_grown⟩
end Go.Proofs.YtajbpjojockgoaaGreatDoor
