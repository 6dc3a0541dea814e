/-
  frisketref02.digit: what it computes.
-/
import Derived.Test.YtajbpjojockgoaaDoorRefGreat
namespace Go.Proofs.YtajbpjojockgoaaDoor
open Go.RowKit

set_option maxRecDepth 100000 in
set_option maxHeartbeats 4000000 in
theorem digit_any (b : UInt8) (w : World) :
    Calls Tryd.prog 22 #[.int .u8 (b.toNat : Int)] w fun e w' => e = .returned (.int .i64 (worth b)) ∧ Below w.heap.size w w' := by
  obtain ⟨x, hx⟩ : ∃ x : Nat, x = worth b := ⟨_, rfl⟩
  obtain ⟨n, hn⟩ : ∃ n : Nat, n = b.toNat := ⟨_, rfl⟩
  rw [← hx, ← hn]
  have hw : ∀ k, n = k → k < 256 → worth b = worth (UInt8.ofNat k) := fun k h _ => by rw [← h, hn, UInt8.ofNat_toNat]
  have h0 : n ≠ 105 → n ≠ 118 → n ≠ 120 → n ≠ 108 → n ≠ 99 → n ≠ 100 → n ≠ 109 → worth b = 0 := fun h1 h2 h3 h4 h5 h6 h7 => by
    have e : ∀ c : UInt8, n ≠ c.toNat → b ≠ c := fun c h hb => h (by rw [hn, hb])
    unfold worth
    rw [if_neg (e 109 h7), if_neg (e 100 h6), if_neg (e 99 h5), if_neg (e 108 h4), if_neg (e 120 h3), if_neg (e 118 h2), if_neg (e 105 h1)]
  have HX := Lib.hid hx
  clear hx hn
  have hb1 := BlockIs.fresh w 3 [.int .i64 1, .int .i64 5, .int .i64 10, .int .i64 50, .int .i64 100, .int .i64 500, .int .i64 1000]
  have c0 := hb1.cellAt 0 _ rfl
  have c1 := hb1.cellAt 1 _ rfl
  have c2 := hb1.cellAt 2 _ rfl
  have c3 := hb1.cellAt 3 _ rfl
  have c4 := hb1.cellAt 4 _ rfl
  have c5 := hb1.cellAt 5 _ rfl
  have c6 := hb1.cellAt 6 _ rfl
  clear hb1
  have g0 : (ByteArray.mk #[105, 118, 120, 108, 99, 100, 109])[0]'(by decide) = 105 := rfl
  have g1 : (ByteArray.mk #[105, 118, 120, 108, 99, 100, 109])[1]'(by decide) = 118 := rfl
  have g2 : (ByteArray.mk #[105, 118, 120, 108, 99, 100, 109])[2]'(by decide) = 120 := rfl
  have g3 : (ByteArray.mk #[105, 118, 120, 108, 99, 100, 109])[3]'(by decide) = 108 := rfl
  have g4 : (ByteArray.mk #[105, 118, 120, 108, 99, 100, 109])[4]'(by decide) = 99 := rfl
  have g5 : (ByteArray.mk #[105, 118, 120, 108, 99, 100, 109])[5]'(by decide) = 100 := rfl
  have g6 : (ByteArray.mk #[105, 118, 120, 108, 99, 100, 109])[6]'(by decide) = 109 := rfl
  have HW := Lib.hid hw
  have H0 := Lib.hid h0
  clear hw h0
  go_enter Tryd.func22, Tryd.ntmps22
  go_wp2
  refine wp_loop_rounds 8 ?_
  rw [rounds_succ]
  by_cases h1 : n = 105
  · subst h1
    go_wp2
    go_ret
    exact ⟨by rw [HX.out, HW.out 105 rfl (by decide)]; rfl, by go_grown⟩
  have e1 : (((105 : Int)) == (n : Int)) = false := by simp; omega
  go_wp2
  rw [rounds_succ]
  by_cases h2 : n = 118
  · subst h2
    go_wp2
    go_ret
    exact ⟨by rw [HX.out, HW.out 118 rfl (by decide)]; rfl, by go_grown⟩
  have e2 : (((118 : Int)) == (n : Int)) = false := by simp; omega
  go_wp2
  rw [rounds_succ]
  by_cases h3 : n = 120
  · subst h3
    go_wp2
    go_ret
    exact ⟨by rw [HX.out, HW.out 120 rfl (by decide)]; rfl, by go_grown⟩
  have e3 : (((120 : Int)) == (n : Int)) = false := by simp; omega
  go_wp2
  rw [rounds_succ]
  by_cases h4 : n = 108
  · subst h4
    go_wp2
    go_ret
    exact ⟨by rw [HX.out, HW.out 108 rfl (by decide)]; rfl, by go_grown⟩
  have e4 : (((108 : Int)) == (n : Int)) = false := by simp; omega
  go_wp2
  rw [rounds_succ]
  by_cases h5 : n = 99
  · subst h5
    go_wp2
    go_ret
    exact ⟨by rw [HX.out, HW.out 99 rfl (by decide)]; rfl, by go_grown⟩
  have e5 : (((99 : Int)) == (n : Int)) = false := by simp; omega
  go_wp2
  rw [rounds_succ]
  by_cases h6 : n = 100
  · subst h6
    go_wp2
    go_ret
    exact ⟨by rw [HX.out, HW.out 100 rfl (by decide)]; rfl, by go_grown⟩
  have e6 : (((100 : Int)) == (n : Int)) = false := by simp; omega
  go_wp2
  rw [rounds_succ]
  by_cases h7 : n = 109
  · subst h7
    go_wp2
    go_ret
    exact ⟨by rw [HX.out, HW.out 109 rfl (by decide)]; rfl, by go_grown⟩
  have e7 : (((109 : Int)) == (n : Int)) = false := by simp; omega
  go_wp2
  rw [rounds_succ]
  go_wp2
  go_ret
  exact ⟨by rw [HX.out, H0.out h1 h2 h3 h4 h5 h6 h7]; rfl, by go_grown⟩
end Go.Proofs.YtajbpjojockgoaaDoor
