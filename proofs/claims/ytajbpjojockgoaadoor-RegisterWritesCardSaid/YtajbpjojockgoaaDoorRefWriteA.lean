/-
  frisketref02.Write: what it computes: the same as register.Write.
-/
import Derived.Test.YtajbpjojockgoaaDoorRefDigit
import Derived.Test.YtajbpjojockgoaaDoorRefRoman
namespace Go.Proofs.YtajbpjojockgoaaDoor
open Go.RowKit

def strLen (v : Value) : Nat := match v with | .string b => b.size | _ => 0
set_option maxRecDepth 100000 in
set_option maxHeartbeats 2000000 in
theorem rw_105_zero (w : World) (d : ByteArray) 
    (hF : ∀ w, Calls Tryd.prog 14 #[.string ⟨#[105]⟩] w fun e w' => e = .returned (.bool true) ∧ Below w.heap.size w w')
    (hH : ∀ w, Calls Tryd.prog 15 #[.int .i64 0] w fun e w' => e = .returned (.bool true) ∧ w = w')
    (hD : ∀ w, Calls Tryd.prog 16 #[.int .i64 0] w fun e w' => e = .returned (.string d) ∧ Below w.heap.size w w') :
    Calls Tryd.prog 8 #[.int .i64 0, .string ⟨#[105]⟩] w fun e w' => e = .returned (.tuple #[.string ⟨#[48]⟩, .int .i64 0]) ∧ Below w.heap.size w w' := by
  have g0 : (ByteArray.mk #[105])[0]'(by decide) = 105 := rfl
  go_enter Tryd.func8, Tryd.ntmps8
  go_wp2_with fail
  refine (hF _).mono ?_; rintro e w1 ⟨rfl, hb⟩
  go_wp2_with fail
  refine (hH _).mono ?_; rintro e w2 ⟨rfl, rfl⟩
  go_wp2_with fail
  refine (hD _).mono ?_; rintro e w2 ⟨rfl, hb2⟩
  have hb := belowThen hb hb2
  go_wp2_with fail
  go_ret2
  exact ⟨rfl, hb⟩
set_option maxRecDepth 100000 in
set_option maxHeartbeats 2000000 in
theorem rw_105_small (M : Int) (w : World) (d r : ByteArray) (hM : M ≤ 1000000000) (h0 : 0 < M) (h1 : M ≤ 39999)
    (hF : ∀ w, Calls Tryd.prog 14 #[.string ⟨#[105]⟩] w fun e w' => e = .returned (.bool true) ∧ Below w.heap.size w w')
    (hH : ∀ w, Calls Tryd.prog 15 #[.int .i64 M] w fun e w' => e = .returned (.bool true) ∧ w = w')
    (hD : ∀ w, Calls Tryd.prog 16 #[.int .i64 M] w fun e w' => e = .returned (.string d) ∧ Below w.heap.size w w')
    (hR : ∀ w, Calls Tryd.prog 17 #[.int .i64 M] w fun e w' => e = .returned (.string r) ∧ Below w.heap.size w w') :
    Calls Tryd.prog 8 #[.int .i64 M, .string ⟨#[105]⟩] w fun e w' => e = .returned (.tuple #[.string r, .int .i64 0]) ∧ Below w.heap.size w w' := by
  have g0 : (ByteArray.mk #[105])[0]'(by decide) = 105 := rfl
  go_enter Tryd.func8, Tryd.ntmps8
  go_wp2_with fail
  refine (hF _).mono ?_; rintro e w1 ⟨rfl, hb⟩
  go_wp2_with fail
  refine (hH _).mono ?_; rintro e w2 ⟨rfl, rfl⟩
  go_wp2_with fail
  refine (hD _).mono ?_; rintro e w2 ⟨rfl, hb2⟩
  have hb := belowThen hb hb2
  go_wp2_with fail
  refine (hR _).mono ?_; rintro e w3 ⟨rfl, hb3⟩
  have hb := belowThen hb hb3
  go_wp2_with fail
  go_ret2
  exact ⟨rfl, hb⟩
set_option maxRecDepth 100000 in
set_option maxHeartbeats 2000000 in
theorem rw_105_big (M : Int) (w : World) (d : ByteArray) (hM : M ≤ 1000000000) (h0 : 0 < M) (h1 : ¬ M ≤ 39999)
    (hF : ∀ w, Calls Tryd.prog 14 #[.string ⟨#[105]⟩] w fun e w' => e = .returned (.bool true) ∧ Below w.heap.size w w')
    (hH : ∀ w, Calls Tryd.prog 15 #[.int .i64 M] w fun e w' => e = .returned (.bool true) ∧ w = w')
    (hD : ∀ w, Calls Tryd.prog 16 #[.int .i64 M] w fun e w' => e = .returned (.string d) ∧ Below w.heap.size w w') :
    Calls Tryd.prog 8 #[.int .i64 M, .string ⟨#[105]⟩] w fun e w' => e = .returned (.tuple #[.string d, .int .i64 0]) ∧ Below w.heap.size w w' := by
  have g0 : (ByteArray.mk #[105])[0]'(by decide) = 105 := rfl
  go_enter Tryd.func8, Tryd.ntmps8
  go_wp2_with fail
  refine (hF _).mono ?_; rintro e w1 ⟨rfl, hb⟩
  go_wp2_with fail
  refine (hH _).mono ?_; rintro e w2 ⟨rfl, rfl⟩
  go_wp2_with fail
  refine (hD _).mono ?_; rintro e w2 ⟨rfl, hb2⟩
  have hb := belowThen hb hb2
  go_wp2_with fail
  go_ret2
  exact ⟨rfl, hb⟩
set_option maxRecDepth 100000 in
set_option maxHeartbeats 2000000 in
theorem rw_73_zero (w : World) (d u : ByteArray) 
    (hF : ∀ w, Calls Tryd.prog 14 #[.string ⟨#[73]⟩] w fun e w' => e = .returned (.bool true) ∧ Below w.heap.size w w')
    (hH : ∀ w, Calls Tryd.prog 15 #[.int .i64 0] w fun e w' => e = .returned (.bool true) ∧ w = w')
    (hD : ∀ w, Calls Tryd.prog 16 #[.int .i64 0] w fun e w' => e = .returned (.string d) ∧ Below w.heap.size w w')
    (hG : ∀ w, Calls Tryd.prog 19 #[.string ⟨#[48]⟩] w fun e w' => e = .returned (.string u) ∧ Below w.heap.size w w') :
    Calls Tryd.prog 8 #[.int .i64 0, .string ⟨#[73]⟩] w fun e w' => e = .returned (.tuple #[.string u, .int .i64 0]) ∧ Below w.heap.size w w' := by
  have g0 : (ByteArray.mk #[73])[0]'(by decide) = 73 := rfl
  go_enter Tryd.func8, Tryd.ntmps8
  go_wp2_with fail
  refine (hF _).mono ?_; rintro e w1 ⟨rfl, hb⟩
  go_wp2_with fail
  refine (hH _).mono ?_; rintro e w2 ⟨rfl, rfl⟩
  go_wp2_with fail
  refine (hD _).mono ?_; rintro e w2 ⟨rfl, hb2⟩
  have hb := belowThen hb hb2
  go_wp2_with fail
  refine (hG _).mono ?_; rintro e w4 ⟨rfl, hb4⟩
  have hb := belowThen hb hb4
  go_wp2_with fail
  go_ret2
  exact ⟨rfl, hb⟩
set_option maxRecDepth 100000 in
set_option maxHeartbeats 2000000 in
theorem rw_73_small (M : Int) (w : World) (d r u : ByteArray) (hM : M ≤ 1000000000) (h0 : 0 < M) (h1 : M ≤ 39999)
    (hF : ∀ w, Calls Tryd.prog 14 #[.string ⟨#[73]⟩] w fun e w' => e = .returned (.bool true) ∧ Below w.heap.size w w')
    (hH : ∀ w, Calls Tryd.prog 15 #[.int .i64 M] w fun e w' => e = .returned (.bool true) ∧ w = w')
    (hD : ∀ w, Calls Tryd.prog 16 #[.int .i64 M] w fun e w' => e = .returned (.string d) ∧ Below w.heap.size w w')
    (hR : ∀ w, Calls Tryd.prog 17 #[.int .i64 M] w fun e w' => e = .returned (.string r) ∧ Below w.heap.size w w')
    (hG : ∀ w, Calls Tryd.prog 19 #[.string r] w fun e w' => e = .returned (.string u) ∧ Below w.heap.size w w') :
    Calls Tryd.prog 8 #[.int .i64 M, .string ⟨#[73]⟩] w fun e w' => e = .returned (.tuple #[.string u, .int .i64 0]) ∧ Below w.heap.size w w' := by
  have g0 : (ByteArray.mk #[73])[0]'(by decide) = 73 := rfl
  go_enter Tryd.func8, Tryd.ntmps8
  go_wp2_with fail
  refine (hF _).mono ?_; rintro e w1 ⟨rfl, hb⟩
  go_wp2_with fail
  refine (hH _).mono ?_; rintro e w2 ⟨rfl, rfl⟩
  go_wp2_with fail
  refine (hD _).mono ?_; rintro e w2 ⟨rfl, hb2⟩
  have hb := belowThen hb hb2
  go_wp2_with fail
  refine (hR _).mono ?_; rintro e w3 ⟨rfl, hb3⟩
  have hb := belowThen hb hb3
  go_wp2_with fail
  refine (hG _).mono ?_; rintro e w4 ⟨rfl, hb4⟩
  have hb := belowThen hb hb4
  go_wp2_with fail
  go_ret2
  exact ⟨rfl, hb⟩
set_option maxRecDepth 100000 in
set_option maxHeartbeats 2000000 in
theorem rw_73_big (M : Int) (w : World) (d u : ByteArray) (hM : M ≤ 1000000000) (h0 : 0 < M) (h1 : ¬ M ≤ 39999)
    (hF : ∀ w, Calls Tryd.prog 14 #[.string ⟨#[73]⟩] w fun e w' => e = .returned (.bool true) ∧ Below w.heap.size w w')
    (hH : ∀ w, Calls Tryd.prog 15 #[.int .i64 M] w fun e w' => e = .returned (.bool true) ∧ w = w')
    (hD : ∀ w, Calls Tryd.prog 16 #[.int .i64 M] w fun e w' => e = .returned (.string d) ∧ Below w.heap.size w w')
    (hG : ∀ w, Calls Tryd.prog 19 #[.string d] w fun e w' => e = .returned (.string u) ∧ Below w.heap.size w w') :
    Calls Tryd.prog 8 #[.int .i64 M, .string ⟨#[73]⟩] w fun e w' => e = .returned (.tuple #[.string u, .int .i64 0]) ∧ Below w.heap.size w w' := by
  have g0 : (ByteArray.mk #[73])[0]'(by decide) = 73 := rfl
  go_enter Tryd.func8, Tryd.ntmps8
  go_wp2_with fail
  refine (hF _).mono ?_; rintro e w1 ⟨rfl, hb⟩
  go_wp2_with fail
  refine (hH _).mono ?_; rintro e w2 ⟨rfl, rfl⟩
  go_wp2_with fail
  refine (hD _).mono ?_; rintro e w2 ⟨rfl, hb2⟩
  have hb := belowThen hb hb2
  go_wp2_with fail
  refine (hG _).mono ?_; rintro e w4 ⟨rfl, hb4⟩
  have hb := belowThen hb hb4
  go_wp2_with fail
  go_ret2
  exact ⟨rfl, hb⟩
set_option maxRecDepth 100000 in
set_option maxHeartbeats 2000000 in
theorem rw_97_zero (w : World) (d : ByteArray) 
    (hF : ∀ w, Calls Tryd.prog 14 #[.string ⟨#[97]⟩] w fun e w' => e = .returned (.bool true) ∧ Below w.heap.size w w')
    (hH : ∀ w, Calls Tryd.prog 15 #[.int .i64 0] w fun e w' => e = .returned (.bool true) ∧ w = w')
    (hD : ∀ w, Calls Tryd.prog 16 #[.int .i64 0] w fun e w' => e = .returned (.string d) ∧ Below w.heap.size w w') :
    Calls Tryd.prog 8 #[.int .i64 0, .string ⟨#[97]⟩] w fun e w' => e = .returned (.tuple #[.string ⟨#[48]⟩, .int .i64 0]) ∧ Below w.heap.size w w' := by
  have g0 : (ByteArray.mk #[97])[0]'(by decide) = 97 := rfl
  go_enter Tryd.func8, Tryd.ntmps8
  go_wp2_with fail
  refine (hF _).mono ?_; rintro e w1 ⟨rfl, hb⟩
  go_wp2_with fail
  refine (hH _).mono ?_; rintro e w2 ⟨rfl, rfl⟩
  go_wp2_with fail
  refine (hD _).mono ?_; rintro e w2 ⟨rfl, hb2⟩
  have hb := belowThen hb hb2
  go_wp2_with fail
  go_ret2
  exact ⟨rfl, hb⟩
set_option maxRecDepth 100000 in
set_option maxHeartbeats 2000000 in
theorem rw_97_pos (M : Int) (w : World) (d r : ByteArray) (hM : M ≤ 1000000000) (h0 : 0 < M)
    (hF : ∀ w, Calls Tryd.prog 14 #[.string ⟨#[97]⟩] w fun e w' => e = .returned (.bool true) ∧ Below w.heap.size w w')
    (hH : ∀ w, Calls Tryd.prog 15 #[.int .i64 M] w fun e w' => e = .returned (.bool true) ∧ w = w')
    (hD : ∀ w, Calls Tryd.prog 16 #[.int .i64 M] w fun e w' => e = .returned (.string d) ∧ Below w.heap.size w w')
    (hR : ∀ w, Calls Tryd.prog 18 #[.int .i64 M] w fun e w' => e = .returned (.string r) ∧ Below w.heap.size w w') :
    Calls Tryd.prog 8 #[.int .i64 M, .string ⟨#[97]⟩] w fun e w' => e = .returned (.tuple #[.string r, .int .i64 0]) ∧ Below w.heap.size w w' := by
  have g0 : (ByteArray.mk #[97])[0]'(by decide) = 97 := rfl
  go_enter Tryd.func8, Tryd.ntmps8
  go_wp2_with fail
  refine (hF _).mono ?_; rintro e w1 ⟨rfl, hb⟩
  go_wp2_with fail
  refine (hH _).mono ?_; rintro e w2 ⟨rfl, rfl⟩
  go_wp2_with fail
  refine (hD _).mono ?_; rintro e w2 ⟨rfl, hb2⟩
  have hb := belowThen hb hb2
  go_wp2_with fail
  refine (hR _).mono ?_; rintro e w3 ⟨rfl, hb3⟩
  have hb := belowThen hb hb3
  go_wp2_with fail
  go_ret2
  exact ⟨rfl, hb⟩
set_option maxRecDepth 100000 in
set_option maxHeartbeats 2000000 in
theorem rw_65_zero (w : World) (d u : ByteArray) 
    (hF : ∀ w, Calls Tryd.prog 14 #[.string ⟨#[65]⟩] w fun e w' => e = .returned (.bool true) ∧ Below w.heap.size w w')
    (hH : ∀ w, Calls Tryd.prog 15 #[.int .i64 0] w fun e w' => e = .returned (.bool true) ∧ w = w')
    (hD : ∀ w, Calls Tryd.prog 16 #[.int .i64 0] w fun e w' => e = .returned (.string d) ∧ Below w.heap.size w w')
    (hG : ∀ w, Calls Tryd.prog 19 #[.string ⟨#[48]⟩] w fun e w' => e = .returned (.string u) ∧ Below w.heap.size w w') :
    Calls Tryd.prog 8 #[.int .i64 0, .string ⟨#[65]⟩] w fun e w' => e = .returned (.tuple #[.string u, .int .i64 0]) ∧ Below w.heap.size w w' := by
  have g0 : (ByteArray.mk #[65])[0]'(by decide) = 65 := rfl
  go_enter Tryd.func8, Tryd.ntmps8
  go_wp2_with fail
  refine (hF _).mono ?_; rintro e w1 ⟨rfl, hb⟩
  go_wp2_with fail
  refine (hH _).mono ?_; rintro e w2 ⟨rfl, rfl⟩
  go_wp2_with fail
  refine (hD _).mono ?_; rintro e w2 ⟨rfl, hb2⟩
  have hb := belowThen hb hb2
  go_wp2_with fail
  refine (hG _).mono ?_; rintro e w4 ⟨rfl, hb4⟩
  have hb := belowThen hb hb4
  go_wp2_with fail
  go_ret2
  exact ⟨rfl, hb⟩
set_option maxRecDepth 100000 in
set_option maxHeartbeats 2000000 in
theorem rw_65_pos (M : Int) (w : World) (d r u : ByteArray) (hM : M ≤ 1000000000) (h0 : 0 < M)
    (hF : ∀ w, Calls Tryd.prog 14 #[.string ⟨#[65]⟩] w fun e w' => e = .returned (.bool true) ∧ Below w.heap.size w w')
    (hH : ∀ w, Calls Tryd.prog 15 #[.int .i64 M] w fun e w' => e = .returned (.bool true) ∧ w = w')
    (hD : ∀ w, Calls Tryd.prog 16 #[.int .i64 M] w fun e w' => e = .returned (.string d) ∧ Below w.heap.size w w')
    (hR : ∀ w, Calls Tryd.prog 18 #[.int .i64 M] w fun e w' => e = .returned (.string r) ∧ Below w.heap.size w w')
    (hG : ∀ w, Calls Tryd.prog 19 #[.string r] w fun e w' => e = .returned (.string u) ∧ Below w.heap.size w w') :
    Calls Tryd.prog 8 #[.int .i64 M, .string ⟨#[65]⟩] w fun e w' => e = .returned (.tuple #[.string u, .int .i64 0]) ∧ Below w.heap.size w w' := by
  have g0 : (ByteArray.mk #[65])[0]'(by decide) = 65 := rfl
  go_enter Tryd.func8, Tryd.ntmps8
  go_wp2_with fail
  refine (hF _).mono ?_; rintro e w1 ⟨rfl, hb⟩
  go_wp2_with fail
  refine (hH _).mono ?_; rintro e w2 ⟨rfl, rfl⟩
  go_wp2_with fail
  refine (hD _).mono ?_; rintro e w2 ⟨rfl, hb2⟩
  have hb := belowThen hb hb2
  go_wp2_with fail
  refine (hR _).mono ?_; rintro e w3 ⟨rfl, hb3⟩
  have hb := belowThen hb hb3
  go_wp2_with fail
  refine (hG _).mono ?_; rintro e w4 ⟨rfl, hb4⟩
  have hb := belowThen hb hb4
  go_wp2_with fail
  go_ret2
  exact ⟨rfl, hb⟩
set_option maxRecDepth 100000 in
set_option maxHeartbeats 2000000 in
theorem rw_digits (M : Int) (w : World) (s : ByteArray) (d : List UInt8) (k2 : (s.toList == [73]) = false) (k4 : (s.toList == [65]) = false) (hs1 : 1 ≤ s.size) (hs9 : s.size ≤ 9) (g1 : 48 ≤ s[0].toNat) (g2 : s[0].toNat ≤ 57) (hd1 : 1 ≤ d.length) (hd2 : d.length ≤ 20) (h0 : 0 ≤ M) (h1 : M ≤ 1000000000)
    (hF : ∀ w, Calls Tryd.prog 14 #[.string s] w fun e w' => e = .returned (.bool true) ∧ Below w.heap.size w w')
    (hH : ∀ w, Calls Tryd.prog 15 #[.int .i64 M] w fun e w' => e = .returned (.bool true) ∧ w = w')
    (hD : ∀ w, Calls Tryd.prog 16 #[.int .i64 M] w fun e w' => e = .returned (.string (bar d)) ∧ Below w.heap.size w w') :
    Calls Tryd.prog 8 #[.int .i64 M, .string s] w fun e w' => e = .returned (.tuple #[.string (bar (List.replicate (s.size - d.length) 48 ++ d)), .int .i64 0]) ∧ Below w.heap.size w w' := by
  have q1 : decide ((48 : Int) ≤ (s[0].toNat : Int)) = true := by simp; omega
  have q2 : decide ((s[0].toNat : Int) ≤ 57) = true := by simp; omega
  clear g1 g2
  go_enter Tryd.func8, Tryd.ntmps8
  go_wp2_with fail
  refine (hF _).mono ?_; rintro e w1 ⟨rfl, hb⟩
  go_wp2_with fail
  refine (hH _).mono ?_; rintro e w2 ⟨rfl, rfl⟩
  go_wp2_with fail
  refine (hD _).mono ?_; rintro e w2 ⟨rfl, hb2⟩
  have hb := belowThen hb hb2
  go_wp2_with fail
  obtain ⟨W, hW⟩ : ∃ W, W = w2 := ⟨_, rfl⟩
  go_loopw [8] (fun v wr => ∃ k : Nat, v = .string (bar (List.replicate k 48 ++ d)) ∧ k ≤ s.size - d.length ∧ wr = W) (fun v _ => s.size - strLen v)
  case atStart => exact ⟨0, rfl, by omega, hW.symm⟩
  case round =>
    subst hW
    obtain ⟨k, rfl, hk, rfl⟩ := hrel
    have hsz : (bar (List.replicate k 48 ++ d)).size = k + d.length := by rw [bar_size]; simp
    by_cases hl : 1 < s.size
    · by_cases h2 : k + d.length < s.size
      · go_wp2
        go_roundw
        case rel => exact ⟨k + 1, rfl, by omega, trivial⟩
        case measure =>
          show s.size - (bar (48 :: (List.replicate k 48 ++ d))).size < s.size - (bar (List.replicate k 48 ++ d)).size
          rw [bar_size, bar_size]; simp; omega
      · go_wp2_with fail
        go_ret2
        exact ⟨by rw [show s.size - d.length = k by omega]; rfl, hb⟩
    · go_wp2_with fail
      go_ret2
      exact ⟨by rw [show s.size - d.length = k by omega]; rfl, hb⟩
set_option maxRecDepth 100000 in
set_option maxHeartbeats 2000000 in
theorem rw_neg (M : Int) (w : World) (s r : ByteArray) (v : Value) (h0 : M < 0) (h1 : -1000000000 ≤ M) (hr : r.size ≤ 100)
    (hF : ∀ w, Calls Tryd.prog 14 #[.string s] w fun e w' => e = .returned (.bool true) ∧ Below w.heap.size w w')
    (hH : ∀ w, Calls Tryd.prog 15 #[.int .i64 M] w fun e w' => e = .returned (.bool true) ∧ w = w')
    (hT : ∀ w, Calls Tryd.prog 8 #[.int .i64 (-M), .string s] w fun e w' => e = .returned (.tuple #[.string r, v]) ∧ Below w.heap.size w w') :
    Calls Tryd.prog 8 #[.int .i64 M, .string s] w fun e w' => e = .returned (.tuple #[.string (⟨#[45]⟩ ++ r), .int .i64 0]) ∧ Below w.heap.size w w' := by
  go_enter Tryd.func8, Tryd.ntmps8
  go_wp2_with fail
  refine (hF _).mono ?_; rintro e w1 ⟨rfl, hb⟩
  go_wp2_with fail
  refine (hH _).mono ?_; rintro e w2 ⟨rfl, rfl⟩
  go_wp2_with fail
  refine (hT _).mono ?_; rintro e w3 ⟨rfl, hb3⟩
  have hb := belowThen hb hb3
  go_wp2_with fail
  go_ret2
  exact ⟨rfl, hb⟩
set_option maxRecDepth 100000 in
set_option maxHeartbeats 2000000 in
theorem rw_bad (M : Int) (w : World) (s : ByteArray)
    (hF : ∀ w, Calls Tryd.prog 14 #[.string s] w fun e w' => e = .returned (.bool false) ∧ Below w.heap.size w w') :
    Calls Tryd.prog 8 #[.int .i64 M, .string s] w fun e w' => e = .returned (.tuple #[.string (bar []), .int .i64 4]) ∧ Below w.heap.size w w' := by
  go_enter Tryd.func8, Tryd.ntmps8
  go_wp2_with fail
  refine (hF _).mono ?_; rintro e w1 ⟨rfl, hb⟩
  go_wp2_with fail
  go_ret2
  exact ⟨rfl, hb⟩
set_option maxRecDepth 100000 in
set_option maxHeartbeats 2000000 in
theorem rw_far (M : Int) (w : World) (s : ByteArray)
    (hF : ∀ w, Calls Tryd.prog 14 #[.string s] w fun e w' => e = .returned (.bool true) ∧ Below w.heap.size w w')
    (hH : ∀ w, Calls Tryd.prog 15 #[.int .i64 M] w fun e w' => e = .returned (.bool false) ∧ w = w') :
    Calls Tryd.prog 8 #[.int .i64 M, .string s] w fun e w' => e = .returned (.tuple #[.string (bar []), .int .i64 5]) ∧ Below w.heap.size w w' := by
  go_enter Tryd.func8, Tryd.ntmps8
  go_wp2_with fail
  refine (hF _).mono ?_; rintro e w1 ⟨rfl, hb⟩
  go_wp2_with fail
  refine (hH _).mono ?_; rintro e w2 ⟨rfl, rfl⟩
  go_wp2_with fail
  go_ret2
  exact ⟨rfl, hb⟩
end Go.Proofs.YtajbpjojockgoaaDoor
