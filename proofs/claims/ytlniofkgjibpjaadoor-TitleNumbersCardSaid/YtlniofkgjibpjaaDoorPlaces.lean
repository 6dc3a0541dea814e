/-
  title.Places and the reference's Places return the same three places, or refuse, at any widths. No condition.
-/
import Derived.Test.YtlniofkgjibpjaaDoorBase
namespace Go.Proofs.YtlniofkgjibpjaaDoor
open Go.RowKit

set_option maxHeartbeats 400000 in
theorem floor_any (a : Int) (w : World) (h0 : -100000000 ≤ a) (h1 : a ≤ 100000000) :
    Calls Tryd.prog 24 #[.int .i64 a, .int .i64 2] w fun e w' => e = .returned (.int .i64 (a / 2)) ∧ w = w' := by
  go_enter Tryd.func24, Tryd.ntmps24
  go_wp2
  · go_ret
    exact ⟨ret_int (by have := tdiv2_neg a ‹_›; unfold wrap64; omega), rfl⟩
  · go_ret
    exact ⟨ret_int (tdiv2_pos a ‹_›), rfl⟩

set_option maxHeartbeats 400000 in
set_option maxRecDepth 100000 in
theorem refPlaces_any (a b c n : Int) (w : World) (ha : 0 ≤ a) (ha' : a ≤ 10000000) (hb : 0 ≤ b) (hb' : b ≤ 10000000) (hc : 0 ≤ c) (hc' : c ≤ 10000000) (hn : 0 ≤ n) (hn' : n ≤ 10000000) :
    Calls Tryd.prog 13 #[.agg #[.int .i64 a, .int .i64 b, .int .i64 c], .int .i64 n] w fun e w' => e = .returned (.tuple #[.agg #[.int .i64 0, .int .i64 ((n - b) / 2), .int .i64 (n - c)], .int .i64 0]) ∧ Below w.heap.size w w' := by
  go_enter Tryd.func13, Tryd.ntmps13
  go_wp2
  go_rounds 4
  go_wp2
  have e1 : IntKind.i64.wrap (n - b) = n - b := IntWalk.i64_in _ (by omega)
  have e2 : IntKind.i64.wrap (n - c) = n - c := IntWalk.i64_in _ (by omega)
  go_region_with (go_at_call 24; refine (floor_any _ _ (by omega) (by omega)).mono ?_; rintro e w' ⟨rfl, rfl⟩)
  all_goals
    go_wp2
    go_returns
    exact ⟨rfl, by go_grown⟩


set_option maxRecDepth 100000 in
set_option maxHeartbeats 400000 in
theorem refPlaces_no (a b c n : Int) (w : World) (h : ¬ (0 ≤ a ∧ a ≤ 10000000 ∧ 0 ≤ b ∧ b ≤ 10000000 ∧ 0 ≤ c ∧ c ≤ 10000000 ∧ 0 ≤ n ∧ n ≤ 10000000)) :
    Calls Tryd.prog 13 #[.agg #[.int .i64 a, .int .i64 b, .int .i64 c], .int .i64 n] w fun e w' => e = .returned (.tuple #[.agg #[.int .i64 0, .int .i64 0, .int .i64 0], .int .i64 1]) ∧ Below w.heap.size w w' := by
  have H := Lib.hid h
  clear h
  by_cases h0 : n < 0
  · go_enter Tryd.func13, Tryd.ntmps13
    go_wp2
    go_rounds 4
    go_wp2
    go_returns
    exact ⟨rfl, by go_grown⟩
  · by_cases h1 : 0 ≤ a ∧ a ≤ 10000000 ∧ 0 ≤ b ∧ b ≤ 10000000 ∧ 0 ≤ c ∧ c ≤ 10000000 ∧ n ≤ 10000000
    · exact absurd (⟨h1.1, h1.2.1, h1.2.2.1, h1.2.2.2.1, h1.2.2.2.2.1, h1.2.2.2.2.2.1, by omega, h1.2.2.2.2.2.2⟩) H.out
    · rcases Int.lt_or_le 10000000 c with h2 | h2
      · skip
        have H1 := Lib.hid h1
        clear h1
        go_enter Tryd.func13, Tryd.ntmps13
        go_wp2
        go_rounds 4
        all_goals (try go_wp2)
        all_goals (try (go_returns; exact ⟨rfl, by go_grown⟩))
        exfalso
        have hx : (!decide (c ≤ 10000000)) = false := by assumption
        simp at hx
        omega
      · skip
        have H1 := Lib.hid h1
        clear h1
        go_enter Tryd.func13, Tryd.ntmps13
        go_wp2
        go_rounds 4
        all_goals (try go_wp2)
        all_goals (try (go_returns; exact ⟨rfl, by go_grown⟩))
        exfalso
        apply H1.out; refine ⟨?_, ?_, ?_, ?_, ?_, ?_, ?_⟩ <;> omega

set_option maxRecDepth 100000 in
set_option maxHeartbeats 400000 in
theorem places_any (a b c n : Int) (w : World)  (ha : 0 ≤ a) (ha' : a ≤ 10000000) (hb : 0 ≤ b) (hb' : b ≤ 10000000) (hc : 0 ≤ c) (hc' : c ≤ 10000000) (hn : 0 ≤ n) (hn' : n ≤ 10000000) :
    Calls Tryd.prog 12 #[.agg #[.int .i64 a, .int .i64 b, .int .i64 c], .int .i64 n] w fun e w' => e = .returned (.tuple #[.agg #[.int .i64 0, .int .i64 ((n - b) / 2), .int .i64 (n - c)], .int .i64 0]) ∧ Below w.heap.size w w' := by
  obtain ⟨i0, hi, hz0, hz1, hz2⟩ := info_parts Tryd.info3
  go_enter Tryd.func12, Tryd.ntmps12
  go_wp2_with (at_builtin; refine wpList_append_grows _ rfl (.tmp 9) (.tmp 11) 36 rfl 3 i0 (.int .i64 0) 1 8 Tryd.underlying36 hi hz0 hz1 hz2 rfl (by decide) (some ⟨w.heap.size, 0, none⟩) 3 3 [.int .i64 a, .int .i64 b, .int .i64 c] rfl (fun h => by cases h) rfl ?olds ⟨w.heap.size + 2, 0, none⟩ 1 1 [.int .i64 n] rfl rfl ?c1 ?c2 (by omega) (by unfold maxLen; omega) (by omega) ?grow)
  case olds =>
    intro b1 hb1 j u hj
    obtain rfl := Option.some.inj hb1
    rcases j with _ | _ | _ | j <;> simp at hj <;> subst hj <;> simp only [Addr.add_lit] <;> go_cell
  case c1 => intro j u hj; rcases j with _ | j <;> simp at hj; subst hj; simp only [Addr.add_lit]; go_cell
  case c2 => intro u hu; simp at hu; subst hu; rfl
  case grow =>
    intro v' w2 hown hgrow
    obtain ⟨g, cap, rfl, hg, hcell⟩ := own_cells hown (by omega)
    have k0 := hcell 0 _ rfl
    have k1 := hcell 1 _ rfl
    have k2 := hcell 2 _ rfl
    have k3 := hcell 3 _ rfl
    have hb : Below (w.heap.size + 3) _ w2 := (Below.refl _ _).grown hgrow (by simp) (fun k h => by cases h)
    have m1 : w2.cell? ⟨w.heap.size, 1, none⟩ = some (.int .i64 b) := by rw [hb.cell (by simp <;> omega)] <;> go_cell
    have m2 : w2.cell? ⟨w.heap.size, 2, none⟩ = some (.int .i64 c) := by rw [hb.cell (by simp <;> omega)] <;> go_cell
    have q0 : w2.cell? ⟨w.heap.size + 1, 0, none⟩ = some (.int .i64 0) := by rw [hb.cell (by simp)] <;> go_cell
    have q1 : w2.cell? ⟨w.heap.size + 1, 1, none⟩ = some (.int .i64 0) := by rw [hb.cell (by simp)] <;> go_cell
    have q2 : w2.cell? ⟨w.heap.size + 1, 2, none⟩ = some (.int .i64 0) := by rw [hb.cell (by simp)] <;> go_cell
    have f0 : w2.frozen? ⟨w.heap.size + 1, 0, none⟩ = false := by rw [hb.frozen (by simp), World.frozen?_alloc_past _ _ _ (by simp)]; simp
    have f1 : w2.frozen? ⟨w.heap.size + 1, 1, none⟩ = false := by rw [hb.frozen (by simp), World.frozen?_alloc_past _ _ _ (by simp)]; simp
    have f2 : w2.frozen? ⟨w.heap.size + 1, 2, none⟩ = false := by rw [hb.frozen (by simp), World.frozen?_alloc_past _ _ _ (by simp)]; simp
    have hB : Below w.heap.size w w2 := (by go_grown : Below w.heap.size w _).trans (hb.mono (by omega))
    have hsz := hb.size
    simp only [World.size_alloc] at hsz
    have hg' : w.heap.size + 1 < g := by omega
    clear hb hown hgrow hcell hg
    go_wp2
    go_rounds 5
    go_wp2
    rw [half_exact (n - b) (by omega) (by omega)]
    have r0 : (((w2.setCell ⟨w.heap.size + 1, 0, none⟩ (.int .i64 0)).setCell ⟨w.heap.size + 1, 1, none⟩ (.int .i64 ((n - b) / 2))).setCell ⟨w.heap.size + 1, 2, none⟩ (.int .i64 (n - c))).cell? ⟨w.heap.size + 1, 0, none⟩ = some (.int .i64 0) := by go_cell
    have r1 : (((w2.setCell ⟨w.heap.size + 1, 0, none⟩ (.int .i64 0)).setCell ⟨w.heap.size + 1, 1, none⟩ (.int .i64 ((n - b) / 2))).setCell ⟨w.heap.size + 1, 2, none⟩ (.int .i64 (n - c))).cell? ⟨w.heap.size + 1, 1, none⟩ = some (.int .i64 ((n - b) / 2)) := by go_cell
    have r2 : (((w2.setCell ⟨w.heap.size + 1, 0, none⟩ (.int .i64 0)).setCell ⟨w.heap.size + 1, 1, none⟩ (.int .i64 ((n - b) / 2))).setCell ⟨w.heap.size + 1, 2, none⟩ (.int .i64 (n - c))).cell? ⟨w.heap.size + 1, 2, none⟩ = some (.int .i64 (n - c)) := by go_cell
    refine bodyPost_ret (v := .tuple #[.agg #[.int .i64 0, .int .i64 ((n - b) / 2), .int .i64 (n - c)], .int .i64 0]) (by simp [results, Tryd.results12, go_sem, r0, r1, r2]) rfl ⟨rfl, by go_grown⟩

set_option maxRecDepth 100000 in
set_option maxHeartbeats 400000 in
theorem places_no (a b c n : Int) (w : World)  (h : ¬ (0 ≤ a ∧ a ≤ 10000000 ∧ 0 ≤ b ∧ b ≤ 10000000 ∧ 0 ≤ c ∧ c ≤ 10000000 ∧ 0 ≤ n ∧ n ≤ 10000000)) :
    Calls Tryd.prog 12 #[.agg #[.int .i64 a, .int .i64 b, .int .i64 c], .int .i64 n] w fun e w' => e = .returned (.tuple #[.agg #[.int .i64 0, .int .i64 0, .int .i64 0], .int .i64 1]) ∧ Below w.heap.size w w' := by
  obtain ⟨i0, hi, hz0, hz1, hz2⟩ := info_parts Tryd.info3
  have H := Lib.hid h
  clear h
  go_enter Tryd.func12, Tryd.ntmps12
  go_wp2_with (at_builtin; refine wpList_append_grows _ rfl (.tmp 9) (.tmp 11) 36 rfl 3 i0 (.int .i64 0) 1 8 Tryd.underlying36 hi hz0 hz1 hz2 rfl (by decide) (some ⟨w.heap.size, 0, none⟩) 3 3 [.int .i64 a, .int .i64 b, .int .i64 c] rfl (fun h => by cases h) rfl ?olds ⟨w.heap.size + 2, 0, none⟩ 1 1 [.int .i64 n] rfl rfl ?c1 ?c2 (by omega) (by unfold maxLen; omega) (by omega) ?grow)
  case olds =>
    intro b1 hb1 j u hj
    obtain rfl := Option.some.inj hb1
    rcases j with _ | _ | _ | j <;> simp at hj <;> subst hj <;> simp only [Addr.add_lit] <;> go_cell
  case c1 => intro j u hj; rcases j with _ | j <;> simp at hj; subst hj; simp only [Addr.add_lit]; go_cell
  case c2 => intro u hu; simp at hu; subst hu; rfl
  case grow =>
    intro v' w2 hown hgrow
    obtain ⟨g, cap, rfl, hg, hcell⟩ := own_cells hown (by omega)
    have k0 := hcell 0 _ rfl
    have k1 := hcell 1 _ rfl
    have k2 := hcell 2 _ rfl
    have k3 := hcell 3 _ rfl
    have hb : Below (w.heap.size + 3) _ w2 := (Below.refl _ _).grown hgrow (by simp) (fun k h => by cases h)
    have m1 : w2.cell? ⟨w.heap.size, 1, none⟩ = some (.int .i64 b) := by rw [hb.cell (by simp <;> omega)] <;> go_cell
    have m2 : w2.cell? ⟨w.heap.size, 2, none⟩ = some (.int .i64 c) := by rw [hb.cell (by simp <;> omega)] <;> go_cell
    have q0 : w2.cell? ⟨w.heap.size + 1, 0, none⟩ = some (.int .i64 0) := by rw [hb.cell (by simp)] <;> go_cell
    have q1 : w2.cell? ⟨w.heap.size + 1, 1, none⟩ = some (.int .i64 0) := by rw [hb.cell (by simp)] <;> go_cell
    have q2 : w2.cell? ⟨w.heap.size + 1, 2, none⟩ = some (.int .i64 0) := by rw [hb.cell (by simp)] <;> go_cell
    have f0 : w2.frozen? ⟨w.heap.size + 1, 0, none⟩ = false := by rw [hb.frozen (by simp), World.frozen?_alloc_past _ _ _ (by simp)]; simp
    have f1 : w2.frozen? ⟨w.heap.size + 1, 1, none⟩ = false := by rw [hb.frozen (by simp), World.frozen?_alloc_past _ _ _ (by simp)]; simp
    have f2 : w2.frozen? ⟨w.heap.size + 1, 2, none⟩ = false := by rw [hb.frozen (by simp), World.frozen?_alloc_past _ _ _ (by simp)]; simp
    have hB : Below w.heap.size w w2 := (by go_grown : Below w.heap.size w _).trans (hb.mono (by omega))
    have hsz := hb.size
    simp only [World.size_alloc] at hsz
    have hg' : w.heap.size + 1 < g := by omega
    clear hb hown hgrow hcell hg
    have r0 : (((w2.setCell ⟨w.heap.size + 1, 0, none⟩ (.int .i64 0)).setCell ⟨w.heap.size + 1, 1, none⟩ (.int .i64 0)).setCell ⟨w.heap.size + 1, 2, none⟩ (.int .i64 0)).cell? ⟨w.heap.size + 1, 0, none⟩ = some (.int .i64 0) := by go_cell
    have r1 : (((w2.setCell ⟨w.heap.size + 1, 0, none⟩ (.int .i64 0)).setCell ⟨w.heap.size + 1, 1, none⟩ (.int .i64 0)).setCell ⟨w.heap.size + 1, 2, none⟩ (.int .i64 0)).cell? ⟨w.heap.size + 1, 1, none⟩ = some (.int .i64 0) := by go_cell
    have r2 : (((w2.setCell ⟨w.heap.size + 1, 0, none⟩ (.int .i64 0)).setCell ⟨w.heap.size + 1, 1, none⟩ (.int .i64 0)).setCell ⟨w.heap.size + 1, 2, none⟩ (.int .i64 0)).cell? ⟨w.heap.size + 1, 2, none⟩ = some (.int .i64 0) := by go_cell
    have R := Lib.hid (And.intro r0 (And.intro r1 r2))
    clear r0 r1 r2
    go_wp2
    go_rounds 5
    all_goals (try go_wp2)
    all_goals first | (exfalso; apply H.out; refine ⟨?_, ?_, ?_, ?_, ?_, ?_, ?_, ?_⟩ <;> omega) | (refine bodyPost_ret (v := .tuple #[.agg #[.int .i64 0, .int .i64 0, .int .i64 0], .int .i64 1]) ?_ rfl ⟨rfl, by go_grown⟩; (simp [results, Tryd.results12, go_sem, R.out.1, R.out.2.1, R.out.2.2]; done))
end Go.Proofs.YtlniofkgjibpjaaDoor
